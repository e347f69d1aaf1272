import Derived.Test.YtpnefldgohbepaaGreatPsG
namespace Go.Ps
set_option linter.unusedVariables false
variable {S S':Nat→Prop} {σ σ':Sg} {w w':World} {E:En} {G:Gh} {s:St} {a:Act} {C:cv} {R:Type} {r:R}
theorem tU (hC:C.OK) {t e n:Nat} {I:TI} {Q:TI} (hI:C.ti t=some I) (hsh:I.sh= .slice e) (hQ:C.ti e=some Q) {vals:Array (Nat×Value)} {vl:List (Nat×Value)} {us:List (List Value)} (hlist:vals.toList=vl) (hvl:vl.length=n) (hz1:1≤Q.size) (hz2:n*Q.size≤16777216)
  (h3:dZ (fun(q:Nat×Value) (u:List Value)=>q.2.cells.toList=u∧u.length=Q.ty.size) vl us) (h4:∀j (q:Nat×Value),vl[j]? =some q→q.1=0+j):
  ∃cells':Array Value,cells'.toList=us.flatten∧(Instr.buildSlice t n vals).run C.P w= .ok (.slice (some ⟨w.heap.size,0,none⟩) n n) (w.alloc (.cells cells' e)):=by
 obtain⟨_,⟨d,hu,_,hd,_⟩,_⟩:=hC.ti t I hI
 rw[hsh]at hd;simp only at hd;subst hd
 obtain⟨⟨i,z,hi,hs,_,hz,hsame,_⟩,_,hsz,_⟩:=hC.ti e Q hQ
 rw[hsz]at h3
 let cells0:Array Value:=(Array.range (n*Q.size)).map fun i=>(if n*Q.size=0 then #[]else z.cells)[i% (if n*Q.size=0 then(#[]:Array Value)else z.cells).size]!
 obtain⟨cells',hfill,hcl⟩:=tN (i:=0) (cells:=cells0) h3 h4 (by rw[Nat.zero_add,hvl];simp only[cells0,Array.size_map,Array.size_range])
 simp only[Nat.zero_mul,List.take_zero,List.nil_append]at hcl
 refine⟨cells',hcl, ?_⟩
 show(Instr.buildSlice t n vals).run C.P w= .ok (.slice (some ⟨w.heap.size,0,none⟩) n n) (w.alloc (.cells cells' e))
 simp only[Instr.buildSlice,Sem.run_bind,run_underlying hu,Result.andThen_ok,ci hi,hs]
 rw[ap (by omega)]
 by_cases h0:n*Q.size=0
 ·simp only[h0,if_true,pure_bind]
  have:cells0=(Array.range 0).map fun i=>(#[]:Array Value)[i% (#[]:Array Value).size]! :=by simp only[cells0,h0,if_true]
  rw[hlist,←this,hfill]
  simp[newRow]
 ·have hzero:(zeroValue e).run C.P w= .ok z w:=by simp[zeroValue,typeInfo,hi,hz]
  have:cells0=(Array.range (n*Q.size)).map fun i=>z.cells[i%z.cells.size]! :=by simp only[cells0,h0,if_false]
  simp only[h0,if_false,Sem.run_bind,hzero,Result.andThen_ok,pure_bind]
  rw[hlist,←this,hfill]
  simp[newRow]
theorem nR (hC:C.OK) (h:aY E G s a w) {t e n:Nat} {I:TI} {Q:TI} (hI:C.ti t=some I) (hsh:I.sh= .slice e) (hQ:C.ti e=some Q) {id:Nat} (hid:id%128<64) {ps:Array (Nat×Operand)} {xs:List Q.ty.den} {k:SV→List cj→List Nat→Option R} {rs:List Nat}
  (hxs:jC Q.ty s 0 (s.evs ps.toList)=some xs) (hn:ps.toList.length=n) (hz1:1≤Q.size) (hz2:n*Q.size≤16777216) (hm:s.mem id=none)
  (e':k (.v (.own id)) (C0 (bK (s.evs ps.toList))++[.set id (.rows e Q.ty .no xs)]) rs=some r):cV E a C.P (Instr.buildSlice t n (ps.map fun(i,x)=>(i,a.eval x))) w s k r:=by
 obtain⟨_,⟨d,hu,_,hd,_⟩,_⟩:=hC.ti t I hI
 rw[hsh]at hd;simp only at hd;subst hd
 obtain⟨⟨i,z,hi,hs,_,hz,hsame,_⟩,_,hsz,_⟩:=hC.ti e Q hQ
 have hev:=pJ h ps.toList
 have hlist:(ps.map fun(i,x)=>(i,a.eval x)).toList=ps.toList.map fun p=>(p.1,a.eval p.2):=by simp
 have hall:∀{qs:List (Nat×SV)} {vs:List (Nat×Value)},dZ (fun(p:Nat×SV) (q:Nat×Value)=>p.1=q.1∧aO G.S G.σ w p.2 q.2) qs vs→∀i∈a7 (bK qs),i%128≠127:=by
  intro qs
  induction qs with
  |nil=>intro vs _ i hi;simp[bK,a7]at hi
  |cons q qs ih=>
   intro vs hv i hi
   cases hv with
   | @cons _ v _ vs hq ht=>
    simp only[bK,a7,List.flatMap_append,List.mem_append]at hi
    rcases hi with hi|hi
    ·cases hc:q.2.cells with
     |none=>rw[hc]at hi;simp at hi
     |some c=>rw[hc]at hi;exact lc h (dz hq.2 hc) i hi
    ·exact ih ht i hi
 obtain⟨G',g1,g2,g3,_,_,hsim⟩:=h.frzs (a7 (bK (s.evs ps.toList))) (hall hev)
 obtain⟨hl,us,h1,h2,h3,h4⟩:=qu h g2 hev g3 hxs
 have hlen:(s.evs ps.toList).length=n:=by simp[St.evs,hn]
 have hvl:(ps.toList.map fun p=>(p.1,a.eval p.2)).length=n:=by simpa using hn
 have hxl:xs.length=n:=by rw[hl,hlen]
 obtain⟨cells',hcl,hrun⟩:=tU (w:=w) hC hI hsh hQ hlist hvl hz1 hz2 h3 h4
 have hnm:n≤16777216:=Nat.le_trans (Nat.le_mul_of_pos_right n hz1) hz2
 have hnew:=hsim.rows (e:=e) (lE hm) hid (xs:=xs) (by rw[hsz];exact hz1) h1 hcl (by rw[hxl];simp[maxLen];omega)
 rw[hxl]at hnew
 have key:∀{G2:Gh},aY E G2 ((s.upds ((a7 (bK (s.evs ps.toList))).map .frz)).upd (.set id (.rows e Q.ty .no xs))) a (w.alloc (.cells cells' e))→aY E G2 (s.upds (C0 (bK (s.evs ps.toList))++[.set id (.rows e Q.ty .no xs)])) a (w.alloc (.cells cells' e)):=fun hh=>by
  rw[bw];exact hh
 exact⟨_,_,_,rs,_,_,hrun,aO.v ij,key hnew,e'⟩
theorem aY.store (h:aY E G s a w) {id:Nat} {b0 b1:cF} {k o:Nat} {us:List Value} (hm:s.mem id=some b0) (hk:k∈G.β id) (hW:E.W.heap.size≤k∨∀j,j<us.length→E.M k (o+j))
  (hB:∀L,G.σ id=some L→lB G.S G.σ (w.setCells k o us) L b1 (G.β id)) (hbox:∀cs,b0= .box cs→∃cs',b1= .box cs'∧bJ cs'=bJ cs):aY E G (s.upd (.set id b1)) a (w.setCells k o us):=by
 obtain⟨L,hL,_⟩:=h.mem id _ hm
 refine h.change (gL _ _) (qI _ _) (cy.refl _) (fun _ x=>x) (fun q hq=>bX k us _ w q (fun e=>(h.off id k hk).1 (e▸hq))) (h.kept.put k o us hW) (fun i c hc=> ?_) (fun i hi=> ?_) h.apart h.nodup (fun i q hq=>by rw[fP];exact h.off i q hq) (fun q hq=> .inl hq) (fun i q hq=> ?_) (fun i L' _ hL'=> .inl hL') (by rw[fP];exact Nat.le_refl _)
 ·by_cases e:i=id
  ·subst e
   rw[br]at hc
   simp only[aa]at hc
   subst hc
   exact .inr ⟨L,hL,hB L hL⟩
  ·rw[aF _ _ e]at hc
   exact .inl ⟨hc,rfl,fun q hq=>bX k us _ w q fun x=>h.apart i id e q hq (x▸hk)⟩
 ·by_cases e:i=id
  ·subst e;rw[br]at hi;simp at hi
  ·rw[aF _ _ e]at hi;exact⟨hi,rfl,rfl⟩
 ·refine(h.mine i q hq).imp (fun x=>x) fun x=>x.imp (fun x=>x) fun⟨g1,cs,L',o',g2,g3,g4,g5⟩=> ?_
  by_cases e:i=id
  ·subst e
   rw[hm]at g2
   simp only[aa]at g2
   obtain⟨cs',h1,h2⟩:=hbox cs g2
   exact⟨g1,cs',L',o',by rw[br,h1],g3,g4,by rw[h2];exact g5⟩
  ·exact⟨g1,cs,L',o',by rw[aF _ _ e];exact g2,g3,g4,g5⟩
theorem wQ {T:TypeId} {z b n c off:Nat} {vs us:List Value} (h:w.ownsRow 0 T z (.slice (some ⟨b,0,none⟩) n c) n vs) (hle:off+us.length≤vs.length):
  (w.setCells b off us).ownsRow 0 T z (.slice (some ⟨b,0,none⟩) n c) n (vs.take off++(us++vs.drop (off+us.length))):=by
 obtain⟨hvl,h⟩:=h
 rcases h with⟨hh,_⟩|⟨g,cap,cur,hh,hg,hheap,hn,hm',hc,ht⟩
 ·simp at hh
 ·simp only[Value.slice.injEq,aa,Addr.mk.injEq,and_true,true_and]at hh
  obtain⟨rfl,rfl⟩:=hh
  have hcur:vs.length≤cur.size:=by rw[hvl,hc];exact Nat.mul_le_mul_right _ hn
  obtain⟨cur',h1,h2⟩:=eO b _ _ us off w cur hheap (by omega)
  refine⟨by simp;omega,.inr ⟨b,c,cur',rfl,Nat.zero_le _,h1,hn,hm', ?_, ?_⟩⟩
  ·have:cur'.toList.length=cur.toList.length:=by rw[h2];simp;omega
   simpa[hc]using this
  ·rw[h2,←hvl]
   have hcv:cur.toList.take vs.length=vs:=by rw[hvl];exact ht
   have ht1:cur.toList.take off=vs.take off:=by
    conv=>rhs;rw[←hcv]
    rw[List.take_take,Nat.min_eq_left (by omega)]
   have hd1:(cur.toList.drop (off+us.length)).take (vs.length-(off+us.length))=vs.drop (off+us.length):=by
    conv=>rhs;rw[←hcv]
    rw[List.drop_take]
   rw[ht1,List.take_append,List.take_of_length_le (by simp;omega)]
   congr 1
   rw[List.take_append,List.take_of_length_le (by simp;omega)]
   congr 1
   rw[←hd1]
   congr 1
   simp;omega
theorem wR {f:Fl} {T:TypeId} {z b n c off:Nat} {vs us:List Value} (h:lA w f T z (.slice (some ⟨b,0,none⟩) n c) n vs) (hle:off+us.length≤vs.length):
  lA (w.setCells b off us) f T z (.slice (some ⟨b,0,none⟩) n c) n (vs.take off++(us++vs.drop (off+us.length))):=by
 rcases h with h|⟨hf,hvl,g,cap,cur,fz,hh,hheap,hz,hn,hm',hc,ht⟩
 ·exact .inl (wQ h hle)
 ·simp only[Value.slice.injEq,aa,Addr.mk.injEq,and_true,true_and]at hh
  obtain⟨rfl,rfl⟩:=hh
  have hcur:vs.length≤cur.size:=by rw[hvl,hc];exact Nat.mul_le_mul_right _ hn
  obtain⟨cur',h1,h2⟩:=eO b _ _ us off w cur hheap (by omega)
  have hsz:cur'.size=cur.size:=by
   have:cur'.toList.length=cur.toList.length:=by rw[h2];simp;omega
   simpa using this
  refine .inr ⟨hf,by simp;omega,b,c,cur',fz,rfl,h1,by omega,hn,hm',by omega, ?_⟩
  rw[h2,←hvl]
  have hcv:cur.toList.take vs.length=vs:=by rw[hvl];exact ht
  have ht1:cur.toList.take off=vs.take off:=by
   conv=>rhs;rw[←hcv]
   rw[List.take_take,Nat.min_eq_left (by omega)]
  have hd1:(cur.toList.drop (off+us.length)).take (vs.length-(off+us.length))=vs.drop (off+us.length):=by
   conv=>rhs;rw[←hcv]
   rw[List.drop_take]
  rw[ht1,List.take_append,List.take_of_length_le (by simp;omega)]
  congr 1
  rw[List.take_append,List.take_of_length_le (by simp;omega)]
  congr 1
  rw[←hd1]
  congr 1
  simp;omega
theorem J0 {α:Type} (vs us:List α) (a z q:Nat) (h1:a+z≤vs.length) (h2:q+us.length≤z):
  vs.take a++((((vs.drop a).take z).take q++(us++((vs.drop a).take z).drop (q+us.length)))++vs.drop (a+z))=vs.take (a+q)++(us++vs.drop (a+q+us.length)):=by
 have:=lN vs us 0 a z q us.length vs.length h1 h2
 simp only[List.take_zero,List.drop_zero,List.nil_append,Nat.zero_add,List.take_length,List.drop_length,List.append_nil]at this
 exact this
theorem J1 (s:St) (p:PV):s.dat (s.dat p)=s.dat p:=by
 cases p<;>try rfl
 case own id=>
  have:s.dat (.own id)=match s.asList (.own id)with|some ⟨e,xs⟩=> .list e xs|none=> .undef:=rfl
  rw[this]
  cases s.asList (.own id)<;>rfl
 case fn f caps=>
  have:s.dat (.fn f caps)=bif caps.all (fun c=>match c with| .ref _=>false|_=>true)then .fn f caps else .undef:=rfl
  rw[this]
  cases hb:caps.all (fun c=>match c with| .ref _=>false|_=>true)
  ·rfl
  ·simp only[ae];rw[this,hb];rfl
theorem eu.lo_off (q:eu):q.lo≤q.off:=by cases q<;>simp[eu.lo,eu.off];omega
theorem eu.off_down {q:eu} {k:Nat} (h:k≤q.lo):(q.down k).off=q.off-k:=by cases q<;>simp only[eu.down,eu.off,eu.lo]at*;omega
theorem eu.ok_down {q:eu} {k:Nat} (h:q.ok):(q.down k).ok:=by cases q<;>exact h
theorem zp:∀(e:Ty) (f:Fl) (x y:e.den) (us vs:List Value) (B:List Nat) (q:eu) (n:Nat) (new:List PV),bm S w e f x us B→q.ok→iE e f x q n new=some y→ar S σ w new vs→vs.length=n→
  bm S w e f y (us.take q.off++(vs++us.drop (q.off+n))) B∧q.off+n≤us.length:=by
 have base:∀(e:Ty) (x y:e.den) (us vs:List Value) (B:List Nat) (q:eu) (n:Nat) (new:List PV),bm S w e .no x us B→q.ok→(match iC (fun p=>p) (inj e x) q n new with|some cs=>bn e cs|none=>none)=some y→ar S σ w new vs→vs.length=n→
   bm S w e .no y (us.take q.off++(vs++us.drop (q.off+n))) B∧q.off+n≤us.length:=by
  intro e x y us vs B q n new h hq he hn hl
  obtain⟨h1,h2⟩:=jw.1 h
  split at he
  ·rename_i cs hcs
   obtain⟨g1,g2⟩:=jB (cO (σ:=σ) _ _ _ h1) hq hcs hn (by rw[List.map_id'];exact hn) hl
   exact⟨jw.2 ⟨bT g1 he,h2⟩,g2⟩
  ·simp at he
 intro e
 induction e with
 |pair a b iha ihb=>
  intro f x y us vs B q n new h hq he hn hl
  cases f with
  |pair f g=>
   simp only[iE]at he
   obtain⟨u,v,B1,B2,rfl,rfl,h1,h2⟩:=h
   have hu:=bm.length _ _ _ _ _ h1
   rcases ah he with⟨hb,he⟩|⟨_,he⟩
   ·split at he
    ·rename_i y1 hy
     simp only[aa]at he
     subst he
     obtain⟨g1,g2⟩:=iha f _ _ _ _ _ _ _ _ h1 hq hy hn hl
     refine⟨⟨_,v,B1,B2, ?_,rfl,g1,h2⟩,by rw[List.length_append];omega⟩
     rw[List.take_append_of_le_length (by omega),List.drop_append_of_le_length (by omega)]
     simp only[bl]
    ·simp at he
   ·rcases ah he with⟨hb,he⟩|⟨_,he⟩
    ·have hb:=bC hb
     have hlo:=eu.lo_off q
     split at he
     ·rename_i y1 hy
      simp only[aa]at he
      subst he
      obtain⟨g1,g2⟩:=ihb g _ _ _ _ _ _ _ _ h2 (eu.ok_down hq) hy hn hl
      rw[eu.off_down hb]at g1 g2
      refine⟨⟨u,_,B1,B2, ?_,rfl,h1,g1⟩,by rw[List.length_append];omega⟩
      rw[List.take_append,List.take_of_length_le (by omega),List.drop_append,List.drop_eq_nil_of_le (as:=u) (by omega),List.nil_append,hu,bl,show q.off+n-a.size=q.off-a.size+n by omega]
     ·simp at he
    ·simp at he
  |no=>exact base (.pair a b) _ _ _ _ _ _ _ _ h hq he hn hl
  |own _ _=>simp[iE]at he
  |box=>simp[iE]at he
 |_=>
  intro f x y us vs B q n new h hq he hn hl
  cases f with
  |no=>exact base _ _ _ _ _ _ _ _ _ h hq he hn hl
  |_=>simp[iE]at he
theorem J2 (pre u post us:List Value) (q:Nat) (h:q+us.length≤u.length):(pre++(u++post)).take (pre.length+q)++(us++(pre++(u++post)).drop (pre.length+q+us.length))=pre++((u.take q++(us++u.drop (q+us.length)))++post):=by
 rw[List.take_append,List.take_of_length_le (by omega),Nat.add_sub_cancel_left,List.take_append_of_le_length (by omega),List.drop_append,List.drop_eq_nil_of_le (as:=pre) (by omega),List.nil_append,
  show pre.length+q+us.length-pre.length=q+us.length by omega,List.drop_append_of_le_length (by omega)]
 simp only[bl]
theorem mi (h:aY E G s a w) {id:Nat} {b0 b1:cF} {L:De} {b n c z off:Nat} {f:Fl} {T:TypeId} {pre u post new:List Value} (hm:s.mem id=some b0) (hb0:∀cs,b0≠ .box cs) (hL:G.σ id=some L) (hv:L.v= .slice (some ⟨b,0,none⟩) n c)
  (hr:lA w f T z L.v n (pre++(u++post))) (hβ:b∈G.β id) (hoff:off+new.length≤u.length)
  (hB:lA (w.setCells b (pre.length+off) new) f T z L.v n (pre++((u.take off++(new++u.drop (off+new.length)))++post))→Holds G.S w (w.setCells b (pre.length+off) new)→(∀q,q≠b→(w.setCells b (pre.length+off) new).heap[q]? =w.heap[q]?)→lB G.S G.σ (w.setCells b (pre.length+off) new) L b1 (G.β id)):
  w.there b (pre.length+off) new.length∧aY E G (s.upd (.set id b1)) a (w.setCells b (pre.length+off) new):=by
 rw[hv]at hr
 refine⟨qr hr (by simp only[List.length_append];omega),h.store hm (b1:=b1) hβ ?_ (fun L' hL'=> ?_) (fun cs h0=>absurd h0 (hb0 cs))⟩
 ·rcases h.mine id b hβ with x|x|⟨_,cs0,_,_,g1,_⟩
  ·exact .inl x
  ·exact .inr fun j _=>(h.all b x).2 _
  ·rw[hm]at g1;simp only[aa]at g1;exact absurd g1 (hb0 cs0)
 ·rw[hL]at hL';simp only[aa]at hL';subst hL'
  have:=wR (off:=pre.length+off) (us:=new) hr (by simp only[List.length_append];omega)
  rw[J2 _ _ _ _ _ hoff]at this
  exact hB (by rw[hv];exact this) (fun p hp=>bX b _ _ w p fun e=>(h.off id b hβ).1 (e▸hp)) (fun q hq=>bX b _ _ w q hq)
theorem qP:∀(u:List Value),(∀x∈u,x.oneCell'=true)→ar S σ w (List.replicate u.length .undef) u
 | [],_=>rfl
 |x::u,h=>⟨[x],u,rfl,⟨x,rfl,h x (by simp)⟩,qP u fun y hy=>h y (by simp[hy])⟩
theorem aY.shrink (h:aY E G s a w) {id:Nat} {b0 b:cF} {B:List Nat} (hm:s.mem id=some b0) (hb0:∀cs,b0≠ .box cs) (hB:∀k∈B,k∈G.β id) (hnd:B.Nodup) (hr:∀L,G.σ id=some L→lB G.S G.σ w L b B):aY E ⟨G.S,G.σ,aK G.β id B⟩ (s.upd (.set id b)) a w:=by
 obtain⟨L,hL,_⟩:=h.mem id _ hm
 refine h.change (gL _ _) (qI _ _) (cy.refl _) (fun _ x=>x) (fun _ _=>rfl) h.kept (fun i c hc=> ?_) (fun i hi=> ?_) (fun i k hik q hq=> ?_) (fun i=> ?_) (fun i k hk=> ?_) (fun q hq=> .inl hq) (fun i k hk=> ?_) (fun i L' hi hL'=> .inl hL') (Nat.le_refl _)
 ·by_cases e:i=id
  ·subst e
   rw[br]at hc
   simp only[aa]at hc
   subst hc
   exact .inr ⟨L,hL,by simpa[aK]using hr L hL⟩
  ·rw[aF _ _ e]at hc
   exact .inl ⟨hc,by simp[aK,e],fun _ _=>rfl⟩
 ·by_cases e:i=id
  ·subst e;rw[br]at hi;simp at hi
  ·rw[aF _ _ e]at hi
   exact⟨hi,rfl,by simp[aK,e]⟩
 ·by_cases e1:i=id
  ·have e2:k≠id:=fun x=>hik (e1.trans x.symm)
   simp only[aK,av e1]at hq
   simp only[aK,ap e2]
   exact h.apart id k (Ne.symm e2) q (hB q hq)
  ·simp only[aK,ap e1]at hq
   by_cases e2:k=id
   ·simp only[aK,av e2];exact fun x=>h.apart i id e1 q hq (hB q x)
   ·simp only[aK,ap e2];exact h.apart i k hik q hq
 ·by_cases e1:i=id
  ·simp only[aK,av e1];exact hnd
  ·simp only[aK,ap e1];exact h.nodup i
 ·by_cases e1:i=id
  ·simp only[aK,av e1]at hk;exact h.off id k (hB k hk)
  ·simp only[aK,ap e1]at hk;exact h.off i k hk
 ·by_cases e1:i=id
  ·subst e1
   simp only[aK,if_true]at hk
   rcases h.mine i k (hB k hk)with x|x|⟨_,cs0,_,_,g1,_⟩
   ·exact .inl x
   ·exact .inr (.inl x)
   ·rw[hm]at g1;simp only[aa]at g1;exact absurd g1 (hb0 cs0)
  ·simp only[aK,ap e1]at hk
   refine(h.mine i k hk).imp (fun x=>x) fun x=>x.imp (fun x=>x) fun⟨g1,cs,L',o,g2,g3⟩=>⟨g1,cs,L',o, ?_,g3⟩
   rw[aF _ _ e1];exact g2
theorem vm (hC:C.OK) (h:aY E G s a w) {t:TypeId} {p:PV} {x:SV} {va vx:Value} {k:List cj→List Nat→Option R} (hp:bd G.S G.σ w p [va]) (hx:aO G.S G.σ w x vx) (e:iF C s t p x k=some r):
  ∃G' us rs w',(Instr.storeAt t va vx).run C.P w= .ok () w'∧aY E G' (s.upds us) a w'∧k us rs=some r:=by
 unfold iF at e
 split at e
 ·rename_i I new hI hnew
  rcases ah e with⟨hw,e⟩|⟨_,e⟩
  ·have hw:=aM hw
   obtain⟨⟨i0,z,hi,hs,_⟩,_⟩:=hC.ti t I hI
   have hcells:=dz hx hnew
   have hlen:=ar.length hcells
   rw[hw]at hlen
   have hone:=ar.ones hcells
   split at e
   ·rename_i id q _
    split at e
    ·rename_i cs hm
     obtain⟨L,b,o,hL,hv,hq,hva⟩:=hp
     simp only[aC,and_true]at hva
     subst hva
     obtain⟨L',hL',b',o',vs,hv',hc,hr,ht,hβ⟩:=h.mem id _ hm
     rw[hL]at hL';simp only[aa]at hL';subst hL'
     rw[hv]at hv'
     simp only[Value.pointer.injEq,aa,Addr.mk.injEq,and_true]at hv'
     obtain⟨rfl,rfl⟩:=hv'
     have key:∀{cs'},ar G.S G.σ w cs' (vs.take q.off++(vx.cells.toList++vs.drop (q.off+I.size)))→q.off+I.size≤vs.length→k [.set id (.box cs')] []=some r→
       ∃G' us rs w',(Instr.storeAt t (.pointer (some ⟨b,o+q.off,none⟩)) vx).run C.P w= .ok () w'∧aY E G' (s.upds us) a w'∧k us rs=some r:=by
      intro cs' hput hle e
      have hl2:=hlen
      rw[Array.length_toList]at hl2
      have hwid:bJ cs'=bJ cs:=by rw[←ar.length hput,←ar.length hc];simp;omega
      have hst:aY E G (s.upd (.set id (.box cs'))) a (w.setCells b (o+q.off) vx.cells.toList)→_:=fun hh=>(⟨G,[.set id (.box cs')],[],_,dr hi (by rw[hs,hlen]) (fun j hj=>by
        have:=ht (q.off+j) (by omega)
        rwa [←Nat.add_assoc]at this) hone,hh,e⟩:∃G' us rs w',(Instr.storeAt t (.pointer (some ⟨b,o+q.off,none⟩)) vx).run C.P w= .ok () w'∧aY E G' (s.upds us) a w'∧k us rs=some r)
      refine hst (h.store hm (b1:= .box cs') (k:=b) (o:=o+q.off) (us:=vx.cells.toList) (by rw[hβ];simp) ?_ (fun L' hL'=> ?_) (fun cs0 h0=>⟨cs',rfl,by simp only[cF.box.injEq]at h0;rw[←h0];exact hwid⟩))
      ·rcases h.mine id b (by rw[hβ];simp)with x|x|⟨_,cs0,L0,o0,g1,g2,g3,g4⟩
       ·exact .inl x
       ·exact .inr fun j _=>(h.all b x).2 _
       ·right
        rw[hm]at g1
        simp only[aa,cF.box.injEq]at g1
        subst g1
        rw[hL]at g2;simp only[aa]at g2;subst g2
        rw[hv]at g3
        simp only[Value.pointer.injEq,aa,Addr.mk.injEq,and_true,true_and]at g3
        subst g3
        intro j hj
        have:=g4 (q.off+j) (by rw[←ar.length hc];omega)
        rwa [←Nat.add_assoc]at this
      ·rw[hL]at hL';simp only[aa]at hL';subst hL'
       refine⟨b,o,vs.take q.off++(vx.cells.toList++vs.drop (q.off+vx.cells.toList.length)),hv, ?_,wA hr ht (by omega), ?_,hβ⟩
       ·rw[hlen];exact ar.keep (fun _ x=>x) (fun q hq=>bX b _ _ w q fun e=>(h.off id b (by rw[hβ];simp)).1 (e▸hq)) (cy.refl _) hput
       ·have:(vs.take q.off++(vx.cells.toList++vs.drop (q.off+vx.cells.toList.length))).length=vs.length:=by simp;omega
        rw[this];exact CS ht _ _ _
     cases q with
     | «at»o1=>
      simp only at e
      split at e
      ·rename_i cs' hput
       have hle:=pL hput
       rw[←ar.length hc]at hle
       exact key (ar.put hc hput hcells hlen) hle e
      ·simp at e
     |arr o1 e1 m1 j1 q1=>
      simp only at e
      rcases ah e with⟨hemp,e⟩|⟨_,e⟩
      ·split at e
       ·rename_i cs' hput
        have hd:ar G.S G.σ w (new.map s.dat) vx.cells.toList:=dq h (fun _ x=>x) (fun i hi=>by
         have:a7 new=[]:=List.isEmpty_iff.1 hemp
         rw[this]at hi;simp at hi) hcells
        obtain⟨g1,g2⟩:=jB hc hq hput hcells hd hlen
        exact key g1 g2 e
       ·simp at e
      ·simp at e
    ·simp at e
   ·rename_i id i q _
    split at e
    ·rename_i T e' f xs hm
     rcases ah e with⟨hf,e⟩|⟨_,e⟩
     ·simp only[az,Bool.not_eq_true']at hf
      obtain⟨hf,hnot⟩:=hf
      split at e
      ·rename_i cs' hput
       split at e
       ·rename_i x' hproj
        have hnid:id∉a7 new:=fun hin=>by
         have:=List.any_eq_false.1 hnot id hin
         simp at this
        obtain⟨G',gσ,gS,gV,_,gβ,hsim⟩:=h.frzs (a7 new) (lc h hcells)
        have hmem:(s.upds ((a7 new).map .frz)).mem id=some (.rows T e' f xs):=by rw[fg hnid];exact hm
        obtain⟨L,b,n,c,hL,hv,h0,hlt,hq,hva⟩:=hp
        simp only[aC,and_true]at hva
        subst hva
        obtain⟨L',hL',hB,hz⟩:=hsim.mem id _ hmem
        rw[gσ,hL]at hL';simp only[aa]at hL';subst hL'
        obtain⟨hpos,v,vs,B2,e1,hβ2,ho,hrw⟩:=hB
        simp only[aC,and_true]at e1
        subst e1
        obtain⟨hrw',hB1⟩:=(gK hf).1 hrw
        clear hrw
        have hrw:=hrw'
        clear hrw'
        subst hB1
        rw[List.append_nil]at hβ2
        have hn:=gJ ho hv
        subst hn
        rw[hv]at ho hβ2
        have hi':i.toNat<xs.length:=by omega
        have hel:=ax.get (aJ.length e') hrw _ hi'
        have hin:i.toNat*e'.size+e'.size≤vs.length:=by
         rw[CX ho]
         have:i.toNat*e'.size+e'.size=(i.toNat+1)*e'.size:=by rw[Nat.add_mul,Nat.one_mul]
         rw[this];exact Nat.mul_le_mul_right _ hi'
        have hcur:ar G'.S G'.σ w (inj e' (rd xs i)) ((vs.drop (i.toNat*e'.size)).take e'.size):=by
         rw[rd,fR _ _ _ hi'];exact cO _ _ _ hel
        have hnewd:ar G'.S G'.σ w (new.map s.dat) vx.cells.toList:=dq h gS gV hcells
        have hdd:(new.map s.dat).map s.dat=new.map s.dat:=by
         rw[List.map_map];exact List.map_congr_left fun p _=>J1 s p
        obtain⟨hst,hle⟩:=jB hcur hq hput hnewd (by rw[hdd];exact hnewd) hlen
        have hfull:=bT hst hproj
        have hele:q.off+I.size≤e'.size:=by rw[List.length_take,List.length_drop]at hle;omega
        have hrow':=ax.set (aJ.length e') hrw i.toNat x' _ hi' hfull
        have hsp:=J0 vs vx.cells.toList (i.toNat*e'.size) e'.size q.off hin (by rw[hlen];exact hele)
        rw[hlen]at hsp
        rw[hsp]at hrow'
        have hbβ:b∈G'.β id:=by
         rw[hβ2];simp[aU]
        have hput2:=wR (off:=i.toNat*e'.size+q.off) (us:=vx.cells.toList) ho (by rw[hlen];omega)
        refine⟨G',_,_,_,dr hi (by rw[hs,hlen]) ?_ hone, ?_,e⟩
        ·rw[hz];exact qr ho (by rw[hlen];omega)
        ·rw[bw]
         rw[hz]
         refine hsim.store hmem (b1:= .rows T e' f (xs.set i.toNat x')) hbβ ?_ (fun L' hL'=> ?_) (fun cs h0=>by simp at h0)
         ·rcases hsim.mine id b hbβ with x|x|⟨_,cs0,L0,o0,g1,_⟩
          ·exact .inl x
          ·exact .inr fun j _=>(hsim.all b x).2 _
          ·rw[hmem]at g1;simp at g1
         ·rw[gσ,hL]at hL';simp only[aa]at hL';subst hL'
          have hold:Holds G'.S w (w.setCells b (i.toNat*e'.size+q.off) vx.cells.toList):=fun p hp=>bX b _ _ w p fun e=>(hsim.off id b hbβ).1 (e▸hp)
          refine⟨⟨hpos,_,_,[],rfl,by rw[hβ2,hv,List.append_nil], ?_,(gK hf).2 ⟨ax.imp (aJ.keep (fun _ x=>x) hold e') _ _ hrow',rfl⟩⟩,hz⟩
          rw[hv,List.length_set]
          rw[hlen]at hput2
          exact hput2
       ·simp at e
      ·simp at e
     ·split at e
      ·rename_i x' hst0
       rcases ah hst0 with⟨hemp,hst⟩|⟨_,hst⟩
       ·have hnil:a7 new=[]:=List.isEmpty_iff.1 hemp
        have hnewd:ar G.S G.σ w (new.map s.dat) vx.cells.toList:=dq h (fun _ x=>x) (fun i hi=>by rw[hnil]at hi;simp at hi) hcells
        obtain⟨L,b,n,c,hL,hv,h0,hlt,hq,hva⟩:=hp
        simp only[aC,and_true]at hva
        subst hva
        obtain⟨L',hL',hB,hz⟩:=h.mem id _ hm
        rw[hL]at hL';simp only[aa]at hL';subst hL'
        obtain⟨hpos,v,vs,B2,e1,hβ2,ho,hrw⟩:=hB
        simp only[aC,and_true]at e1
        subst e1
        have hn:=gJ ho hv
        subst hn
        have hi':i.toNat<xs.length:=by omega
        obtain⟨pre,u,post,C1,Cx,C2,rfl,rfl,hpl,k1,k2,k3⟩:=bh.split (fun x us B hh=>bm.length _ _ _ _ _ hh) hrw i.toNat hi'
        rw[rd,fR _ _ _ hi']at hst
        obtain⟨g1,g2⟩:=zp _ _ _ _ _ _ _ _ _ _ k2 hq hst hnewd hlen
        have hbl:aU L.v=some b:=by rw[hv];rfl
        have hnd:=h.nodup id
        rw[hβ2,hbl]at hnd
        have hne:∀k∈C1++(Cx++C2),k≠b:=fun k hk e=>(List.nodup_cons.1 hnd).1 (by rw[←e];exact hk)
        have hds:=mi h (b1:= .rows T e' f (xs.set i.toNat x')) (off:=q.off) (new:=vx.cells.toList) hm (fun _=>by simp) hL hv ho (by rw[hβ2,hbl];simp) (by rw[hlen];exact g2) fun r1 r2 r3=>by
         have kp:∀{e:Ty} {xs:List e.den} {us:List Value} {B:List Nat},(∀k∈B,k≠b)→bh (bm G.S w e f) xs us B→bh (bm G.S (w.setCells b (pre.length+q.off) vx.cells.toList) e f) xs us B:=fun{e xs us B} hB hr=>bh.imp (fun x us B1 hb=>bm.keep (fun _ x=>x) r2 _ _ _ _ _ fun k hk=>r3 k (hB k (hb k hk))) hr
         refine⟨⟨hpos,_,_,_,rfl,hβ2,by rw[List.length_set];exact r1, ?_⟩,hz⟩
         rw[hlen]
         exact bh.join hi' (kp (fun k hk=>hne k (by simp[hk])) k1) (bm.keep (fun _ x=>x) r2 _ _ _ _ _ (fun k hk=>r3 k (hne k (by simp[hk]))) g1) (kp (fun k hk=>hne k (by simp[hk])) k3)
        rw[hpl,←hz]at hds
        exact⟨G,[.set id (.rows T e' f (xs.set i.toNat x'))],_,_,dr hi (by rw[hs,hlen]) hds.1 hone,hds.2,e⟩
       ·simp at hst
      ·split at e
       ·rename_i q0
        rcases ah e with⟨hsz,e⟩|⟨_,e⟩
        ·have hsz:=aM hsz
         split at e
         ·obtain⟨L,b,n,c,hL,hv,h0,hlt,hq,hva⟩:=hp
          simp only[aC,and_true]at hva
          subst hva
          obtain⟨L',hL',hB,hz⟩:=h.mem id _ hm
          rw[hL]at hL';simp only[aa]at hL';subst hL'
          obtain⟨hpos,v,vs,B2,e1,hβ2,ho,hrw⟩:=hB
          simp only[aC,and_true]at e1
          subst e1
          have hn:=gJ ho hv
          subst hn
          have hi':i.toNat<xs.length:=by omega
          obtain⟨pre,u,post,C1,Cx,C2,rfl,rfl,hpl,k1,k2,k3⟩:=bh.split (fun x us B hh=>bm.length _ _ _ _ _ hh) hrw i.toNat hi'
          have hul:=bm.length _ _ _ _ _ k2
          have hbl:aU L.v=some b:=by rw[hv];rfl
          have hnd:=h.nodup id
          rw[hβ2,hbl]at hnd
          have hne:∀k∈C1++(Cx++C2),k≠b:=fun k hk e=>(List.nodup_cons.1 hnd).1 (by rw[←e];exact hk)
          simp only[Option.toList_some,List.cons_append,List.nil_append]at hnd
          obtain⟨n2,n3⟩:=List.nodup_cons.1 hnd
          obtain⟨m1,m2,m3⟩:=List.nodup_append.1 n3
          obtain⟨x1,x2,x3⟩:=List.nodup_append.1 m2
          have hlose:=h.shrink hm (fun _=>by simp) (b:= .opn T e' f xs i (List.replicate e'.size .undef)) (B:=b::(C1++C2)) (fun k hk=>by
            rw[hβ2,hbl]
            simp only[Option.toList_some,List.cons_append,List.nil_append,List.mem_cons,List.mem_append]at hk⊢
            rcases hk with hk|hk|hk
            ·exact .inl hk
            ·exact .inr (.inl hk)
            ·exact .inr (.inr (.inr hk))) (List.nodup_cons.2 ⟨fun hk=>n2 (by
            simp only[List.mem_append]at hk⊢
            rcases hk with hk|hk
            ·exact .inl hk
            ·exact .inr (.inr hk)),List.nodup_append.2 ⟨m1,x2,fun k hk k' hk'=>m3 k hk k' (by simp[hk'])⟩⟩) (fun L' hL'=>by
            rw[hL]at hL';simp only[aa]at hL';subst hL'
            refine⟨hpos,h0,hlt,hz,u,pre,post,C1,C2,ho,hpl,hul,k1, ?_,k3,by rw[hbl];rfl⟩
            have hone':∀x∈u,x.oneCell'=true:=aJ.one _ _ _ (bm.data (S':=fun _=>True) (fun _ _=>trivial) _ _ _ _ _ (fun _ _=>trivial) k2)
            rw[←hul]
            exact qP u hone')
          have hcl:=hlen
          rw[hsz]at hcl
          have hds:=mi hlose (b1:= .opn T e' f xs i new) (off:=0) (new:=vx.cells.toList) (br _ _ _) (fun _=>by simp) hL hv ho (by simp[aK]) (by omega) fun r1 r2 r3=>by
           have kp:∀{e:Ty} {xs:List e.den} {us:List Value} {B:List Nat},(∀k∈B,k≠b)→bh (bm G.S w e f) xs us B→bh (bm G.S (w.setCells b (pre.length+0) vx.cells.toList) e f) xs us B:=fun{e xs us B} hB hr=>bh.imp (fun x us B1 hb=>bm.keep (fun _ x=>x) r2 _ _ _ _ _ fun k hk=>r3 k (hB k (hb k hk))) hr
           have hu':(u.take 0++(vx.cells.toList++u.drop (0+vx.cells.toList.length)))=vx.cells.toList:=by
            rw[List.drop_eq_nil_of_le (by omega)];simp
           rw[hu']at r1
           exact⟨hpos,h0,hlt,hz,vx.cells.toList,pre,post,C1,C2,r1,hpl,hcl,kp (fun k hk=>hne k (by simp[hk])) k1,ar.keep (fun _ x=>x) r2 (cy.refl _) hcells,kp (fun k hk=>hne k (by simp[hk])) k3,by simp[aK,hbl]⟩
          have hmem2:(s.upd (.set id (.opn T e' f xs i (List.replicate e'.size .undef)))).upd (.set id (.opn T e' f xs i new))=s.upd (.set id (.opn T e' f xs i new)):=by
           simp only[St.upd,St.setM]
           congr 1
           funext t
           cases Nat.beq t id<;>rfl
          rw[hmem2,hpl,←hz]at hds
          exact⟨_,[.set id (.opn T e' f xs i new)],_,_,dr hi (by rw[hs,hlen]) hds.1 hone,hds.2,e⟩
         ·simp at e
        ·simp at e
       ·simp at e
    ·rename_i T e' f xs i' cs0 hm
     rcases ah e with⟨hii,e⟩|⟨_,e⟩
     ·have hii:=of_decide_eq_true hii
      subst hii
      obtain⟨L,b,n,c,hL,hv,h0,hlt,hq,hva⟩:=hp
      simp only[aC,and_true]at hva
      subst hva
      obtain⟨L',hL',hpos,g0,gl,hz,u,pre,post,B1,B2,ho,hpl,hul,k1,kc,k3,hβ2⟩:=h.mem id _ hm
      rw[hL]at hL';simp only[aa]at hL';subst hL'
      have hn:=gJ ho hv
      subst hn
      have hbl:aU L.v=some b:=by rw[hv];rfl
      have hnd:=h.nodup id
      rw[hβ2,hbl]at hnd
      have hne:∀k∈B1++B2,k≠b:=fun k hk e=>(List.nodup_cons.1 hnd).1 (by rw[←e];exact hk)
      have key:∀{cs'},ar G.S G.σ w cs' (u.take q.off++(vx.cells.toList++u.drop (q.off+I.size)))→q.off+I.size≤u.length→k [.set id (.opn T e' f xs i cs')] []=some r→
        ∃G' us rs w',(Instr.storeAt t (.pointer (some ⟨b,i.toNat*L.z+q.off,none⟩)) vx).run C.P w= .ok () w'∧aY E G' (s.upds us) a w'∧k us rs=some r:=by
       intro cs' hc hle e
       have hds:=mi h (b1:= .opn T e' f xs i cs') (off:=q.off) (new:=vx.cells.toList) hm (fun _=>by simp) hL hv ho (by rw[hβ2,hbl];simp) (by rw[hlen];exact hle) fun r1 r2 r3=>by
        have kp:∀{e:Ty} {xs:List e.den} {us:List Value} {B:List Nat},(∀k∈B,k≠b)→bh (bm G.S w e f) xs us B→bh (bm G.S (w.setCells b (pre.length+q.off) vx.cells.toList) e f) xs us B:=fun{e xs us B} hB hr=>bh.imp (fun x us B1 hb=>bm.keep (fun _ x=>x) r2 _ _ _ _ _ fun k hk=>r3 k (hB k (hb k hk))) hr
        rw[hlen]at r1
        refine⟨hpos,g0,gl,hz,_,pre,post,B1,B2,r1,hpl, ?_,kp (fun k hk=>hne k (by simp[hk])) k1,ar.keep (fun _ x=>x) r2 (cy.refl _) hc,kp (fun k hk=>hne k (by simp[hk])) k3,hβ2⟩
        simp only[List.length_append,List.length_take,List.length_drop];omega
       rw[hpl,←hz]at hds
       exact⟨G,[.set id (.opn T e' f xs i cs')],_,_,dr hi (by rw[hs,hlen]) hds.1 hone,hds.2,e⟩
      cases q with
      | «at»o1=>
       simp only at e
       split at e
       ·rename_i cs' hput
        have hle:=pL hput
        rw[←ar.length kc]at hle
        exact key (ar.put kc hput hcells hlen) hle e
       ·simp at e
      |arr o1 e1 m1 j1 q1=>
       simp only at e
       rcases ah e with⟨hemp,e⟩|⟨_,e⟩
       ·split at e
        ·rename_i cs' hput
         have hd:ar G.S G.σ w (new.map s.dat) vx.cells.toList:=dq h (fun _ x=>x) (fun i hi=>by
          have:a7 new=[]:=List.isEmpty_iff.1 hemp
          rw[this]at hi;simp at hi) hcells
         obtain⟨g1,g2⟩:=jB kc hq hput hcells hd hlen
         exact key g1 g2 e
        ·simp at e
       ·simp at e
     ·simp at e
    ·simp at e
   ·simp at e
  ·simp at e
 ·simp at e
theorem wS {T:TypeId} {z n m c:Nat} {g:Nat} {xs ys:List Value} (h:w.ownsRow 0 T z (.slice (some ⟨g,0,none⟩) n c) n xs) (h':w'.ownsRow 0 T z (.slice (some ⟨g,0,none⟩) m c) m ys):fb w w' g:=by
 intro o
 rcases h.2 with⟨hh,_⟩|⟨g1,cap,cur,hh,_,hg,_,_,hc,_⟩
 ·simp at hh
 rcases h'.2 with⟨hh',_⟩|⟨g2,cap',cur',hh',_,hg',_,_,hc',_⟩
 ·simp at hh'
 simp only[Value.slice.injEq,aa,Addr.mk.injEq,and_true,true_and]at hh hh'
 obtain⟨rfl,rfl⟩:=hh
 obtain⟨rfl,rfl⟩:=hh'
 have hsz:cur'.size=cur.size:=by rw[hc,hc']
 refine⟨?_, ?_⟩
 ·simp only[World.cell?,hg,hg',Option.isSome_none,Bool.false_eq_true,if_false]
  by_cases ho:o<cur.size
  ·rw[Array.getElem?_eq_getElem ho,Array.getElem?_eq_getElem (by omega)];rfl
  ·rw[Array.getElem?_eq_none (by omega),Array.getElem?_eq_none (by omega)]
 ·simp only[World.frozen?,hg,hg']
theorem fQ {P:Program} (w:World) {t ty e:TypeId} {i:TypeInfo} {z:Value} {size bytes:Nat} (ht:P.underlying t=some (.slice e)) (hi:P.info? e=some i) (hz:i.zero=some z)
  (hsize:i.size=size) (hby:i.bytes=bytes) (hzs:z.cells.size=size) (hsz:0<size) {v:Value} {n:Nat} {xs:List Value} (hown:w.ownsRow 0 e size v n xs)
  {p:Option Addr} {m c:Nat} {news:List Value} (hl:news.length=m*size) (hp:p=none→m=0∧c=0) (hnews:∀ad,p=some ad→∀j u,news[j]? =some u→w.cell? (ad.add j)=some u) (h1:∀u∈news,u.oneCell'=true)
  (h63:n+m≤maxLen) (hbytes:(n+m)*bytes≤140737488355328):
  ∃v' w',(Builtin.append_ #[t,t] ty #[v,.slice p m c]).run P w= .ok v' w'∧w'.ownsRow 0 e size v' (n+m) (xs++news)∧w.grownBy w' v.ownBlock∧(∀k,v'.ownBlock=some k→w.heap.size≤k∨v.ownBlock=some k)∧(∀k,v.ownBlock=some k→fb w w' k):=by
 cases p with
 |none=>
  obtain⟨rfl,rfl⟩:=hp rfl
  have hn:news=[]:=List.eq_nil_of_length_eq_zero (by simpa using hl)
  subst hn
  exact⟨v,w,run_append_owned_none w 0 t ty e i size ht hi v n xs hown,by simpa using hown,⟨rfl,rfl,rfl,Nat.le_refl _,fun _ _ _=>rfl⟩,fun k hk=> .inr hk,fun k _ o=>⟨rfl,rfl⟩⟩
 |some ad=>
  rcases hown.2 with⟨rfl,rfl⟩|⟨g,cap,cur,rfl,hrest⟩
  ·have hown':w.ownsRow w.heap.size e size (.slice none 0 0) 0 xs:=⟨hown.1,.inl ⟨rfl,rfl⟩⟩
   obtain⟨v',w',hr,ho,hg,_⟩:=run_append_own (P:=P) w w.heap.size t ty e i z size bytes ht hi hz hsize hby hzs hsz _ 0 xs hown' ad m c news hl (hnews ad rfl) h1 h63 hbytes (Nat.le_refl _)
   refine⟨v',w',hr,⟨ho.1,ho.2.imp (fun x=>x) fun⟨g,cap,cur,a1,a2,a3⟩=>⟨g,cap,cur,a1,Nat.zero_le _,a3⟩⟩,hg,fun k hk=> .inl (ho.lt k hk).1,fun k hk=>by simp[Value.ownBlock]at hk⟩
  ·by_cases hroom:n+m≤cap
   ·obtain⟨w',hr,ho,hg⟩:=run_append_fits (P:=P) w 0 t ty e i size ht hi hsize g n cap xs hown ad m c news hl (hnews ad rfl) h1 hroom
    exact⟨_,w',hr,ho,hg,fun k hk=> .inr hk,fun k hk=>by
     simp only[Value.ownBlock,aa]at hk
     subst hk
     exact wS hown ho⟩
   ·obtain⟨v',w',hr,ho,hg,_⟩:=run_append_own (P:=P) w 0 t ty e i z size bytes ht hi hz hsize hby hzs hsz _ n xs hown ad m c news hl (hnews ad rfl) h1 h63 hbytes (Nat.zero_le _)
    subst hsize
    subst hby
    have hr2:=run_append_grow (P:=P) w t ty e i z ht hi hz ⟨g,0,none⟩ n cap xs hown.1 (hown.cells (g:=g) rfl) ad m c news hl (hnews ad rfl) (by omega) (by simp only[maxLen]at h63;omega) (growslice_fits (by omega) hbytes)
    rw[hr]at hr2
    simp only[Result.ok.injEq]at hr2
    refine⟨v',w',hr,ho,hg,fun k hk=> .inl ?_,fun k hk o=> ?_⟩
    ·rw[hr2.1]at hk
     simp only[Value.ownBlock,aa]at hk
     omega
    ·simp only[Value.ownBlock,aa]at hk
     subst hk
     have hb:w'.heap[g]? =w.heap[g]? :=by
      rw[hr2.2]
      obtain⟨_,hh,_⟩:=hrest
      exact cx w.drew _ g (Array.getElem?_eq_some_iff.1 hh).1
     exact⟨by rw[World.cell?_of_block (a:=⟨g,o,none⟩) hb],World.frozen?_of_block (a:=⟨g,o,none⟩) hb⟩
theorem bG (v:Value) (h:∃p n c,v= .slice p n c):aU v=v.ownBlock:=by
 obtain⟨p,n,c,rfl⟩:=h
 cases p<;>rfl
theorem zq (h:aY E G s a w) {e:Ty} {y:PV} {vy:Value} {ys:List e.den} (hy:bd G.S G.σ w y [vy]) (e1:mn s e y=some ys):
  ∃G',G'.σ=G.σ∧aY E G' (s.upds (lP s y)) a w∧(∀i,(∃T t xs,s.mem i=some (.rows T t .no xs))→G'.β i=G.β i∧(s.upds (lP s y)).mem i=s.mem i)∧(∀i,s.mem i=none→(s.upds (lP s y)).mem i=none)∧
   ∃p m c news,vy= .slice p m c∧m=ys.length∧ax (aJ G'.S w e) ys news∧(p=none→m=0∧c=0)∧(∀ad,p=some ad→∀j u,news[j]? =some u→w.cell? (ad.add j)=some u):=by
 have list:∀{S':Nat→Prop} (zs:List e.den),aJ S' w (.list e) zs [vy]→∃p m c news,vy= .slice p m c∧m=zs.length∧ax (aJ S' w e) zs news∧(p=none→m=0∧c=0)∧(∀ad,p=some ad→∀j u,news[j]? =some u→w.cell? (ad.add j)=some u):=by
  rintro S' zs ⟨p,c,hv,hc,hh⟩
  simp only[aC,and_true]at hv
  rcases hh with⟨rfl,hp⟩|⟨b,o,us,rfl,hS,hr,hrows⟩
  ·exact⟨p,_,c,[],hv,rfl,rfl,fun hn=>⟨rfl,hp hn⟩,by simp⟩
  ·refine⟨_,_,c,us,hv,rfl,hrows,fun hn=>by simp at hn,fun ad had j u hu=> ?_⟩
   simp only[aa]at had
   subst had
   rw[Addr.add_mid];exact hr j u hu
 unfold mn at e1
 split at e1
 ·simp only[aa]at e1;subst e1
  have:vy= .slice none 0 0:=by simpa[bd]using hy
  exact⟨G,rfl,h,fun _ _=>⟨rfl,rfl⟩,fun _ h=>h,none,0,0,[],this,rfl,rfl,fun _=>⟨rfl,rfl⟩,by simp⟩
 ·rename_i hp
  split at e1
  ·rename_i e' xs hl
   split at e1
   ·rename_i hh _
    simp only[aa]at e1;subst e1
    subst hh
    cases y with
    |list e0 zs=>
     simp only[St.asList,aa,Sigma.mk.injEq]at hl
     obtain⟨rfl,hl⟩:=hl
     cases eq_of_heq hl
     exact⟨G,rfl,h,fun _ _=>⟨rfl,rfl⟩,fun _ h=>h,list _ hy⟩
    |own id=>
     have hT:=jt h hy hl
     have hid:=BE h hy
     obtain⟨L,p0,n0,c0,hL,hv,hvy⟩:=hy
     simp only[aC,and_true]at hvy
     simp only[lP]
     cases hm:s.mem id with
     |none=>simp[St.asList,hm]at hl
     |some b=>
      cases b with
      |rows T t f zs=>
       simp only
       cases hf:f.isNo with
       |true=>
        have hf:f= .no:=by cases f<;>first|rfl|simp[Fl.isNo]at hf
        subst hf
        refine⟨G,rfl,h,fun _ _=>⟨rfl,rfl⟩,fun _ h=>h, ?_⟩
        have hl2:t=e'∧HEq zs xs:=by simpa[St.asList,hm]using hl
        obtain⟨rfl,hl2⟩:=hl2
        cases eq_of_heq hl2
        obtain⟨L',hL',hB,_⟩:=h.mem id _ hm
        rw[hL]at hL';simp only[aa]at hL';subst hL'
        obtain⟨_,v,vs,B1,e1,_,ho,hrw⟩:=hB
        simp only[aC,and_true]at e1
        subst e1
        obtain⟨hrw,_⟩:=cJ.1 hrw
        rw[hvy]
        have ho:=mL (by simp) ho
        rcases ho.2 with⟨hh2,h0⟩|⟨g,cap,cur,hh2,hg⟩
        ·exact⟨none,0,0,vs,hh2,h0.symm,hrw,fun _=>⟨rfl,rfl⟩,by simp⟩
        ·rw[hh2]at ho
         refine⟨_,_,cap,vs,hh2,rfl,hrw,by simp,fun ad had j u hu=> ?_⟩
         simp only[aa]at had
         subst had
         rw[Addr.add_mid];exact fO ho j u hu
       |false=>
        obtain⟨S',h1,h2,h3,h4⟩:=h.frz id hid
        refine⟨⟨S',G.σ,fun i=>if i=id then[]else G.β i⟩,rfl,h4,fun i hi=> ?_,fun i hi=> ?_,list _ (aJ.keep (fun b hb=>hb.elim (h1 b) fun⟨i,hi,hb'⟩=>h2 b (by simp only[PV.owns,List.mem_singleton]at hi;subst hi;exact hb')) (fun _ _=>rfl) _ _ _ hT)⟩
        ·obtain⟨T2,t2,xs2,hi⟩:=hi
         have hne:i≠id:=fun e=>by
          subst e;rw[hm]at hi
          simp only[aa,cF.rows.injEq]at hi
          rw[hi.2.2.1]at hf;simp[Fl.isNo]at hf
         exact⟨by simp[hne],cu _ hne⟩
        ·have hne:i≠id:=fun e=>by subst e;rw[hm]at hi;simp at hi
         exact(cu _ hne).trans hi
      |frows t zs=>
       refine⟨G,rfl,h,fun _ _=>⟨rfl,rfl⟩,fun _ h=>h, ?_⟩
       have hl2:t=e'∧HEq zs xs:=by simpa[St.asList,hm]using hl
       obtain⟨rfl,hl2⟩:=hl2
       cases eq_of_heq hl2
       obtain⟨L',hL',_,ht,_⟩:=h.mem id _ hm
       rw[hL]at hL';simp only[aa]at hL';subst hL'
       rw[←hvy]at ht
       exact list _ ht
      |_=>simp[St.asList,hm]at hl
    |_=>simp[St.asList]at hl
   ·simp at e1
  ·simp at e1
theorem ku (hC:C.OK) (h:aY E G s a w) {id:Nat} (hm:s.mem id=none) (hid:id%128<64) {sl ty q:TypeId} {i:TypeInfo} {z:Value} {size bytes n:Nat} (hu:C.P.underlying sl=some (.slice q)) (hi:C.P.info? q=some i) (hz:i.zero=some z) (hs:i.size=size) (hby:i.bytes=bytes) (hzs:z.cells.size=size) (hpos:0<size)
  {v:Value} {xv:List Value} (hown:w.ownsRow 0 q size v n xv) (hk0:∀k,v.ownBlock=some k→¬G.S k∧k<w.heap.size∧(E.W.heap.size≤k∨E.O k)∧∀i,k∉G.β i)
  {vy:Value} {m:Nat} {news:List Value} (hyo:w.ownsRow 0 q size vy m news) (h1:∀u∈news,u.oneCell'=true) (h63:n+m≤maxLen) (hbytes:(n+m)*bytes≤140737488355328)
  {b:cF} {BB:List Nat} (hnd:BB.Nodup) (hBB:∀k∈BB,¬G.S k∧k<w.heap.size∧(E.W.heap.size≤k∨E.O k)∧(∀i,k∉G.β i)∧v.ownBlock≠some k)
  (hB:∀(w':World) (v':Value) (σ':Sg),w'.ownsRow 0 q size v' (n+m) (xv++news)→Holds G.S w w'→(∀k∈BB,w'.heap[k]? =w.heap[k]?)→cy G.σ σ'→lB G.S σ' w' ⟨v',size⟩ b ((aU v').toList++BB)):
  ∃v' w' G',(Builtin.append_ #[sl,sl] ty #[v,vy]).run C.P w= .ok v' w'∧bd (Gh.S G') (Gh.σ G') w' (.own id) [v']∧aY E G' (s.upd (.set id b)) a w':=by
 obtain⟨p,m',c,rfl,rfl,hp,hnews⟩:∃p m' c,vy= .slice p m' c∧m'=m∧(p=none→m'=0∧c=0)∧(∀ad,p=some ad→∀j u,news[j]? =some u→w.cell? (ad.add j)=some u):=by
  rcases hyo.2 with⟨hh,h0⟩|⟨g,cap,cur,hh,_⟩
  ·exact⟨none,0,0,hh,h0.symm,fun _=>⟨rfl,rfl⟩,by simp⟩
  ·rw[hh]at hyo
   refine⟨_,_,cap,hh,rfl,by simp,fun ad had j u hu=> ?_⟩
   simp only[aa]at had
   subst had
   rw[Addr.add_mid];exact fO hyo j u hu
 obtain⟨v',w',hr,ho,hg,hloc,hshape⟩:=fQ (P:=C.P) w (ty:=ty) hu hi hz hs hby hzs hpos hown hyo.1 hp hnews h1 h63 hbytes
 have hsl:∃p n c,v'= .slice p n c:=by
  rcases ho.2 with⟨hh,_⟩|⟨g,cap,cur,hh,_⟩<;>exact⟨_,_,_,hh⟩
 have hold:Holds G.S w w':=fun q hq=>hg.block q (h.old q hq) fun e=>(hk0 q e.symm).1 hq
 have hBw:∀k∈BB,w'.heap[k]? =w.heap[k]? :=fun k hk=>hg.block k (hBB k hk).2.1 fun e=>(hBB k hk).2.2.2.2 e.symm
 have hbv:∀k,aU v'=some k→w.heap.size≤k∨v.ownBlock=some k:=fun k hk=>hloc k (by rw[←bG v' hsl];exact hk)
 have hnew:=h.fresh2 hm hid b ⟨v',size⟩ ((aU v').toList++BB) v.ownBlock hg.os hg.tape hg.output hg.size (fun q hq hne=>hg.block q hq hne) (fun q hq=>by
   obtain⟨a1,a2,a3,a4⟩:=hk0 q hq
   exact⟨a1,a2,a3.imp (fun x=>x) fun x=>⟨x,hshape q hq⟩,a4⟩) (fun k hk=>by
   rcases List.mem_append.1 hk with hk|hk
   ·simp only[Option.mem_toList]at hk
    exact⟨.inl (hbv k hk),(ho.lt k (by rw[←bG v' hsl];exact hk)).2⟩
   ·obtain⟨a1,a2,a3,a4,_⟩:=hBB k hk
    exact⟨.inr ⟨a1,a3,a4⟩,Nat.lt_of_lt_of_le a2 hg.size⟩) (by
   refine List.nodup_append.2 ⟨by cases aU v'<;>simp,hnd,fun k hk k' hk' e=> ?_⟩
   subst e
   simp only[Option.mem_toList]at hk
   obtain⟨_,a2,_,_,a5⟩:=hBB k hk'
   rcases hbv k hk with x|x
   ·omega
   ·exact a5 x) (hB w' v' _ ho hold hBw (fe (h.dom id hm).1))
 refine⟨v',w',_,hr, ?_,hnew⟩
 obtain⟨p',n',c',rfl⟩:=hsl
 exact ij
theorem mO (h:aY E G s a w) {j:Nat} {T:TypeId} {e:Ty} {f:Fl} (hf:f.isBox=false) {vy:Value} (hy:bd G.S G.σ w (.own j) [vy]):
  (∀{ys:List e.den},s.mem j=some (.rows T e f ys)→∃vs B2,w.ownsRow 0 T e.size vy ys.length vs∧G.β j=(aU vy).toList++B2∧bh (bm G.S w e f) ys vs B2∧0<e.size)∧
  (∀{ys:List e.den} {i:Int} {cs:List PV},s.mem j=some (.opn T e f ys i cs)→∃u pre post B1 B2,w.ownsRow 0 T e.size vy ys.length (pre++(u++post))∧G.β j=(aU vy).toList++(B1++B2)∧pre.length=i.toNat*e.size∧u.length=e.size∧0≤i∧i< (ys.length:Int)∧bh (bm G.S w e f) (ys.take i.toNat) pre B1∧ar G.S G.σ w cs u∧bh (bm G.S w e f) (ys.drop (i.toNat+1)) post B2∧0<e.size):=by
 have hf':f≠ .box:=fun e=>by rw[e]at hf;simp[Fl.isBox]at hf
 obtain⟨L',_,_,_,hL',_,hv⟩:=hy
 simp only[aC,and_true]at hv
 subst hv
 refine⟨fun{ys} hm=> ?_,fun{ys i cs} hm=> ?_⟩
 ·obtain⟨L,hL,⟨hp,v,vs,B2,e1,hβ,ho,hrw⟩,_⟩:=h.mem j _ hm
  rw[hL]at hL';simp only[aa]at hL';subst hL'
  simp only[aC,and_true]at e1
  subst e1
  exact⟨vs,B2,mL hf' ho,hβ,hrw,hp⟩
 ·obtain⟨L,hL,hpos,g0,gl,hz,u,pre,post,B1,B2,ho,hpl,hul,k1,kc,k3,hβ2⟩:=h.mem j _ hm
  rw[hL]at hL';simp only[aa]at hL';subst hL'
  exact⟨u,pre,post,B1,B2,mL hf' ho,hβ2,hpl,hul,g0,gl,k1,kc,k3,hpos⟩
theorem i8 (h:aY E G s a w) {j:Nat} {b:cF} (hm:s.mem j=some b) (hb:∀cs,b≠ .box cs):∀k∈G.β j,¬G.S k∧k<w.heap.size∧(E.W.heap.size≤k∨E.O k):=fun k hk=>by
 refine⟨(h.off j k hk).1,(h.off j k hk).2, ?_⟩
 rcases h.mine j k hk with x|x|⟨_,cs0,_,_,g1,_⟩
 ·exact .inl x
 ·exact .inr x
 ·rw[hm]at g1;simp only[aa]at g1;exact absurd g1 (hb cs0)
theorem ml {e:Ty} {f:Fl}:∀{xs:List e.den} {vs:List Value} {B:List Nat},bh (bm S w e f) xs vs B→∀u∈vs,u.oneCell'=true:=by
 have el:∀(e:Ty) (f:Fl) (x:e.den) (us:List Value) (B:List Nat),bm S w e f x us B→∀u∈us,u.oneCell'=true:=fun e f x us B h=>aJ.one e x us (bm.data (S':=fun _=>True) (fun _ _=>trivial) _ _ _ _ _ (fun _ _=>trivial) h)
 intro xs vs B h
 exact ax.one (fun x vs hx=>hx) (bh.rows (Q':=fun x us=>∀u∈us,u.oneCell'=true) (fun x us B1 _ hx=>el _ _ _ _ _ hx) h)
theorem zr (hC:C.OK) (h:aY E G s a w) {id:Nat} (hid:id%128<64) (hm:s.mem id=none) {sl ty q:TypeId} {I Q:TI} (hI:C.ti sl=some I) (hsh:I.sh= .slice q) (hQ:C.ti q=some Q) (hz1:1≤Q.size) {x y:PV} {vx vy:Value} {m:Nat} {us:List cj} (hx:bd G.S G.σ w x [vx]) (hy:bd G.S G.σ w y [vy]) (e:pp s id q Q.ty x y=some (m,us)) (hb:aw m Q.bytes=true):
  ∃v' w' G',(Builtin.append_ #[sl,sl] ty #[vx,vy]).run C.P w= .ok v' w'∧bd (Gh.S G') (Gh.σ G') w' (.own id) [v']∧aY E G' (s.upds us) a w':=by
 obtain⟨_,⟨d,hu,_,hd,_⟩,_⟩:=hC.ti sl _ hI
 rw[hsh]at hd
 simp only at hd;subst hd
 obtain⟨⟨i,z,hi,hs,hby,hz,hsame,hzl⟩,_,hsz,_⟩:=hC.ti q Q hQ
 have hzs:z.cells.size=Q.ty.size:=by rw[hzl,hsz]
 have hpos:0<Q.ty.size:=by rw[hsz];exact hz1
 obtain⟨hb1,hb2⟩:=CT hb
 have nobox:∀{T:TypeId} {e:Ty} {f:Fl} {xs:List e.den} (cs:List PV),cF.rows T e f xs≠ .box cs:=fun _=>by simp
 have nobox2:∀{T:TypeId} {e:Ty} {f:Fl} {xs:List e.den} {i:Int} {c:List PV} (cs:List PV),cF.opn T e f xs i c≠ .box cs:=fun _=>by simp
 unfold pp at e
 split at e
 ·rename_i j
  split at e
  ·rename_i T f0 f ys ix cs hmj
   have e9:=ah e
   clear e
   rcases e9 with⟨hc,e⟩|⟨_,e⟩
   ·simp only[az,Bool.not_eq_true']at hc
    obtain⟨hT,hf⟩:=hc
    have hT:=aM hT
    subst hT
    split at e
    ·rename_i hh _
     subst hh
     obtain⟨u,pre,post,B1,B2,ho,hβ,hpl,hul,g0,gl,k1,kc,k3,_⟩:=(mO h (j:=j) (T:=T) (e:=Q.ty) (f:=f) hf hy).2 hmj
     have hfr:=i8 h hmj nobox2
     have hnd:=h.nodup j
     rw[hβ]at hnd hfr
     have hnd2:=(List.nodup_append.1 hnd).2.1
     have hone:∀x∈pre++(u++post),x.oneCell'=true:=fun x hx=>by
      rcases List.mem_append.1 hx with hx|hx
      ·exact ml k1 x hx
      ·rcases List.mem_append.1 hx with hx|hx
       ·exact ar.ones kc x hx
       ·exact ml k3 x hx
     have hidj:id≠j:=fun e=>by subst e;rw[hm]at hmj;simp at hmj
     split at e
     ·simp only[aa,ay]at e
      obtain⟨rfl,rfl⟩:=e
      have:vx= .slice none 0 0:=by simpa[bd]using hx
      subst this
      have hkill:=h.kill hmj
      obtain⟨v',w',G',r1,r2,r3⟩:=ku hC hkill (id:=id) (by rw[aF _ _ hidj];exact hm) hid (ty:=ty) hu hi hz (hs.trans hsz.symm) hby hzs hpos (World.ownsRow_nil w 0 T Q.ty.size) (fun k hk=>by simp[Value.ownBlock]at hk) ho hone (by simp only[maxLen];omega) (by rw[Nat.zero_add];exact hb1)
       (b:= .opn T Q.ty f (cc rfl ys) ix cs) (BB:=B1++B2) hnd2 (fun k hk=>by
        obtain⟨a1,a2,a3⟩:=hfr k (by simp only[List.mem_append]at hk⊢;exact .inr hk)
        refine⟨a1,a2,a3,fun i' hi'=> ?_,by simp[Value.ownBlock]⟩
        by_cases e1:i'=j
        ·simp[aK,e1]at hi'
        ·simp only[aK,ap e1]at hi'
         exact h.apart i' j e1 k hi' (by rw[hβ];simp only[List.mem_append]at hk⊢;exact .inr hk))
       (fun w' v' σ' hr hS hB hσ=>by
        rw[Nat.zero_add,List.nil_append]at hr
        exact⟨hpos,g0,gl,rfl,u,pre,post,B1,B2,.inl hr,hpl,hul,bh.imp (fun x us C hC'=>bm.keep (fun _ x=>x) hS _ _ _ _ _ fun k hk=>hB k (by simp[hC' k hk])) k1,ar.keep (fun _ x=>x) hS hσ kc,
         bh.imp (fun x us C hC'=>bm.keep (fun _ x=>x) hS _ _ _ _ _ fun k hk=>hB k (by simp[hC' k hk])) k3,rfl⟩)
      exact⟨v',w',G',r1,r2,r3⟩
     ·rename_i l
      split at e
      ·rename_i T' e' f' xs hml
       have e9:=ah e
       clear e
       rcases e9 with⟨hc,e⟩|⟨_,e⟩
       ·simp only[az,Bool.not_eq_true',aW]at hc
        obtain⟨⟨hT,hf'⟩,hlj⟩:=hc
        have hT:=aM hT
        have hlj:l≠j:=Nat.ne_of_beq_eq_false hlj
        subst hT hf'
        split at e
        ·rename_i hh _
         subst hh
         simp only[aa,ay]at e
         obtain⟨rfl,rfl⟩:=e
         obtain⟨xv,BX,hox,hβx,hrx,_⟩:=(mO h (j:=l) (T:=T') (e:=Q.ty) (f:=f') hf hx).1 hml
         have hfx:=i8 h hml nobox
         have hndx:=h.nodup l
         rw[hβx]at hndx hfx
         have hidl:id≠l:=fun e=>by subst e;rw[hm]at hml;simp at hml
         have hkl:=h.kill hml
         have hkill:=hkl.kill (j:=j) (b:= .opn T' Q.ty f' ys ix cs) (by rw[aF _ _ (Ne.symm hlj)];exact hmj)
         have hsl:∃p n c,vx= .slice p n c:=by obtain⟨_,_,_,_,_,hh,hv⟩:=hx;simp only[aC,and_true]at hv;exact⟨_,_,_,hv.trans hh⟩
         have hgone:∀i' k,k∈aK (aK G.β l []) j [] i'→i'≠l∧i'≠j∧k∈G.β i':=fun i' k hk=>by
          by_cases e1:i'=j
          ·simp[aK,e1]at hk
          ·by_cases e2:i'=l
           ·simp[aK,e2]at hk
           ·simp only[aK,ap e1,ap e2]at hk;exact⟨e2,e1,hk⟩
         have hxb:∀k,vx.ownBlock=some k→k∈(aU vx).toList:=fun k hk=>by rw[bG _ hsl,hk];simp
         obtain⟨v',w',G',r1,r2,r3⟩:=ku hC hkill (id:=id) (by rw[aF _ _ hidj,aF _ _ hidl];exact hm) hid (ty:=ty) hu hi hz (hs.trans hsz.symm) hby hzs hpos hox (fun k hk=>by
           obtain⟨a1,a2,a3⟩:=hfx k (by simp only[List.mem_append];exact .inl (hxb k hk))
           refine⟨a1,a2,a3,fun i' hi'=> ?_⟩
           obtain⟨e1,_,hi'⟩:=hgone i' k hi'
           exact h.apart i' l e1 k hi' (by rw[hβx];simp only[List.mem_append];exact .inl (hxb k hk))) ho hone (by simp only[maxLen];omega) hb1
          (b:= .opn T' Q.ty f' (cc rfl xs++cc rfl ys) ((xs.length:Int)+ix) cs) (BB:=(BX++B1)++B2) (by
           rw[bl]
           refine List.nodup_append.2 ⟨(List.nodup_append.1 hndx).2.1,hnd2,fun k hk k' hk' e=> ?_⟩
           subst e
           exact h.apart l j hlj k (by rw[hβx];simp[hk]) (by rw[hβ];simp only[List.mem_append]at hk'⊢;exact .inr hk')) (fun k hk=>by
           rw[bl]at hk
           rcases List.mem_append.1 hk with hk|hk
           ·obtain⟨a1,a2,a3⟩:=hfx k (by simp[hk])
            refine⟨a1,a2,a3,fun i' hi'=> ?_,fun e=>(List.nodup_append.1 hndx).2.2 k (hxb k e) k hk rfl⟩
            obtain⟨e1,_,hi'⟩:=hgone i' k hi'
            exact h.apart i' l e1 k hi' (by rw[hβx];simp[hk])
           ·obtain⟨a1,a2,a3⟩:=hfr k (by simp only[List.mem_append]at hk⊢;exact .inr hk)
            refine⟨a1,a2,a3,fun i' hi'=> ?_,fun e=>h.apart l j hlj k (by rw[hβx];simp only[List.mem_append];exact .inl (hxb k e)) (by rw[hβ];simp only[List.mem_append]at hk⊢;exact .inr hk)⟩
            obtain⟨_,e1,hi'⟩:=hgone i' k hi'
            exact h.apart i' j e1 k hi' (by rw[hβ];simp only[List.mem_append]at hk⊢;exact .inr hk))
          (fun w' v' σ' hr hS hB hσ=>by
           have hxl:=bh.rows (Q':=fun _ (us:List Value)=>us.length=Q.ty.size) (fun x us B1 _ hx=>bm.length _ _ _ _ _ hx) hrx
           have hxv:xv.length=xs.length*Q.ty.size:=hox.1
           have hn:((xs.length:Int)+ix).toNat=xs.length+ix.toNat:=by omega
           refine⟨hpos,by omega,by simp only[cc,List.length_append];omega,rfl,u,xv++pre,post,BX++B1,B2,.inl ?_, ?_,hul, ?_,ar.keep (fun _ x=>x) hS hσ kc, ?_,rfl⟩
           ·simp only[cc,List.length_append,bl]at hr⊢;exact hr
           ·rw[hn,List.length_append,hxv,hpl,Nat.add_mul]
           ·rw[hn]
            have:(cc rfl xs++cc rfl ys:List Q.ty.den).take (xs.length+ix.toNat)=xs++ys.take ix.toNat:=by simp only[cc,List.take_length_add_append]
            rw[this]
            exact(bh.imp (fun x us C hC'=>bm.keep (fun _ x=>x) hS _ _ _ _ _ fun k hk=>hB k (by simp[hC' k hk])) hrx).append (bh.imp (fun x us C hC'=>bm.keep (fun _ x=>x) hS _ _ _ _ _ fun k hk=>hB k (by simp[hC' k hk])) k1)
           ·rw[hn]
            have:(cc rfl xs++cc rfl ys:List Q.ty.den).drop (xs.length+ix.toNat+1)=ys.drop (ix.toNat+1):=by simp only[cc,Nat.add_assoc,List.drop_length_add_append]
            rw[this]
            exact bh.imp (fun x us C hC'=>bm.keep (fun _ x=>x) hS _ _ _ _ _ fun k hk=>hB k (by simp[hC' k hk])) k3)
         exact⟨v',w',G',r1,r2,r3⟩
        ·simp at e
       ·simp at e
      ·simp at e
     ·simp at e
    ·simp at e
   ·simp at e
  ·rename_i T f0 f ys hmj
   have e9:=ah e
   clear e
   rcases e9 with⟨hc,e⟩|⟨_,e⟩
   ·simp only[az,Bool.not_eq_true']at hc
    obtain⟨⟨hT,hf⟩,_⟩:=hc
    have hT:=aM hT
    subst hT
    split at e
    ·rename_i hh _
     subst hh
     obtain⟨yv,BY,ho,hβ,hry,_⟩:=(mO h (j:=j) (T:=T) (e:=Q.ty) (f:=f) hf hy).1 hmj
     have hfr:=i8 h hmj nobox
     have hnd:=h.nodup j
     rw[hβ]at hnd hfr
     have hnd2:=(List.nodup_append.1 hnd).2.1
     have hidj:id≠j:=fun e=>by subst e;rw[hm]at hmj;simp at hmj
     split at e
     ·rename_i l
      split at e
      ·rename_i T' e' f' xs hml
       have e9:=ah e
       clear e
       rcases e9 with⟨hc,e⟩|⟨_,e⟩
       ·simp only[az,Bool.not_eq_true',aW]at hc
        obtain⟨⟨hT,hf'⟩,hlj⟩:=hc
        have hT:=aM hT
        have hlj:l≠j:=Nat.ne_of_beq_eq_false hlj
        subst hT hf'
        split at e
        ·rename_i hh _
         subst hh
         simp only[aa,ay]at e
         obtain⟨rfl,rfl⟩:=e
         obtain⟨xv,BX,hox,hβx,hrx,_⟩:=(mO h (j:=l) (T:=T') (e:=Q.ty) (f:=f') hf hx).1 hml
         have hfx:=i8 h hml nobox
         have hndx:=h.nodup l
         rw[hβx]at hndx hfx
         have hidl:id≠l:=fun e=>by subst e;rw[hm]at hml;simp at hml
         have hkl:=h.kill hml
         have hkill:=hkl.kill (j:=j) (b:= .rows T' Q.ty f' ys) (by rw[aF _ _ (Ne.symm hlj)];exact hmj)
         have hsl:∃p n c,vx= .slice p n c:=by obtain⟨_,_,_,_,_,hh,hv⟩:=hx;simp only[aC,and_true]at hv;exact⟨_,_,_,hv.trans hh⟩
         have hgone:∀i' k,k∈aK (aK G.β l []) j [] i'→i'≠l∧i'≠j∧k∈G.β i':=fun i' k hk=>by
          by_cases e1:i'=j
          ·simp[aK,e1]at hk
          ·by_cases e2:i'=l
           ·simp[aK,e2]at hk
           ·simp only[aK,ap e1,ap e2]at hk;exact⟨e2,e1,hk⟩
         have hxb:∀k,vx.ownBlock=some k→k∈(aU vx).toList:=fun k hk=>by rw[bG _ hsl,hk];simp
         obtain⟨v',w',G',r1,r2,r3⟩:=ku hC hkill (id:=id) (by rw[aF _ _ hidj,aF _ _ hidl];exact hm) hid (ty:=ty) hu hi hz (hs.trans hsz.symm) hby hzs hpos hox (fun k hk=>by
           obtain⟨a1,a2,a3⟩:=hfx k (by simp only[List.mem_append];exact .inl (hxb k hk))
           refine⟨a1,a2,a3,fun i' hi'=> ?_⟩
           obtain⟨e1,_,hi'⟩:=hgone i' k hi'
           exact h.apart i' l e1 k hi' (by rw[hβx];simp only[List.mem_append];exact .inl (hxb k hk))) ho (ml hry) (by simp only[maxLen];omega) hb1
          (b:= .rows T' Q.ty f' (cc rfl xs++cc rfl ys)) (BB:=BX++BY) (by
           refine List.nodup_append.2 ⟨(List.nodup_append.1 hndx).2.1,hnd2,fun k hk k' hk' e=> ?_⟩
           subst e
           exact h.apart l j hlj k (by rw[hβx];simp[hk]) (by rw[hβ];simp[hk'])) (fun k hk=>by
           rcases List.mem_append.1 hk with hk|hk
           ·obtain⟨a1,a2,a3⟩:=hfx k (by simp[hk])
            refine⟨a1,a2,a3,fun i' hi'=> ?_,fun e=>(List.nodup_append.1 hndx).2.2 k (hxb k e) k hk rfl⟩
            obtain⟨e1,_,hi'⟩:=hgone i' k hi'
            exact h.apart i' l e1 k hi' (by rw[hβx];simp[hk])
           ·obtain⟨a1,a2,a3⟩:=hfr k (by simp[hk])
            refine⟨a1,a2,a3,fun i' hi'=> ?_,fun e=>h.apart l j hlj k (by rw[hβx];simp only[List.mem_append];exact .inl (hxb k e)) (by rw[hβ];simp[hk])⟩
            obtain⟨_,e1,hi'⟩:=hgone i' k hi'
            exact h.apart i' j e1 k hi' (by rw[hβ];simp[hk]))
          (fun w' v' σ' hr hS hB hσ=>by
           refine⟨⟨hpos,v',xv++yv,BX++BY,rfl,rfl,.inl ?_, ?_⟩,rfl⟩
           ·simp only[cc,List.length_append];exact hr
           ·exact(bh.imp (fun x us C hC'=>bm.keep (fun _ x=>x) hS _ _ _ _ _ fun k hk=>hB k (by simp[hC' k hk])) hrx).append (bh.imp (fun x us C hC'=>bm.keep (fun _ x=>x) hS _ _ _ _ _ fun k hk=>hB k (by simp[hC' k hk])) hry))
         exact⟨v',w',G',r1,r2,r3⟩
        ·simp at e
       ·simp at e
      ·simp at e
     ·simp at e
    ·simp at e
   ·simp at e
  ·simp at e
 ·simp at e
theorem sX (hC:C.OK) (h:aY E G s a w) {id:Nat} (hid:id%128<64) {sl ty:TypeId} {x y:PV} {vx vy:Value} {k:SV→List cj→List Nat→Option R} {rs:List Nat} (hx:bd G.S G.σ w x [vx]) (hy:bd G.S G.σ w y [vy]) (e:eJ C s id sl x y (fun p us=>k (.v p) us rs)=some r):
  cV E a C.P (Builtin.append_ #[sl,sl] ty #[vx,vy]) w s k r:=by
 unfold eJ at e
 split at e
 ·rename_i q _ _ _ _ _ hI
  split at e
  ·rename_i Q hQ
   rcases ah e with⟨hz1,e⟩|⟨_,e⟩
   ·have hz1:=bC hz1
    split at e
    ·rename_i m us had
     obtain⟨hm,e⟩:=bo e
     rcases ah e with⟨hb,e⟩|⟨_,e⟩
     ·obtain⟨v',w',G',r1,r2,r3⟩:=zr hC h hid hm (ty:=ty) hI rfl hQ hz1 hx hy had hb
      exact⟨.v (.own id),v',us,rs,G',w',r1,aO.v r2,r3,e⟩
     ·simp at e
    rename_i hno0
    clear hno0
    split at e
    ·rename_i ys hys
     obtain⟨_,⟨d,hu,_,hd,_⟩,_⟩:=hC.ti sl _ hI
     simp only at hd;subst hd
     obtain⟨⟨i,z,hi,hs,hby,hz,hsame,hzl⟩,_,hsz,_⟩:=hC.ti q Q hQ
     have hzs:z.cells.size=Q.ty.size:=by rw[hzl,hsz]
     obtain⟨G',gσ,hsim,hrw,hno,p,m,c,news,rfl,rfl,hrows,hp,hnews⟩:=zq h hy hys
     have hnl:news.length=ys.length*Q.ty.size:=ax.length (aJ.length Q.ty) hrows
     have hone:∀u∈news,u.oneCell'=true:=ax.one (aJ.one Q.ty) hrows
     have hpos:0<Q.ty.size:=by rw[hsz];exact hz1
     split at e
     ·obtain⟨hm,e⟩:=bo e
      rcases ah e with⟨hb,e⟩|⟨_,e⟩
      ·obtain⟨hb1,hb2⟩:=CT hb
       have:vx= .slice none 0 0:=by simpa[bd]using hx
       subst this
       have hown:=World.ownsRow_nil w 0 q Q.ty.size
       obtain⟨v',w',hr,ho,hg,hloc,_⟩:=fQ (P:=C.P) w (ty:=ty) hu hi hz (by rw[hs,hsz]) hby hzs hpos hown hnl hp hnews hone (by simp only[maxLen];omega) (by simpa using hb1)
       simp only[Nat.zero_add,List.nil_append]at ho
       have hsl:∃p n c,v'= .slice p n c:=by
        rcases ho.2 with⟨hh,_⟩|⟨g,cap,cur,hh,_⟩<;>exact⟨_,_,_,hh⟩
       have hgb:∀q,q<w.heap.size→w'.heap[q]? =w.heap[q]? :=fun q hq=>hg.block q hq (by simp[Value.ownBlock])
       have hnew:=hsim.fresh (hno id hm) hid (.rows q Q.ty .no ys) ⟨v',Q.ty.size⟩ (aU v').toList none hg.os hg.tape hg.output hg.size (fun q hq _=>hgb q hq) (fun q hq=>by simp at hq) (fun k hk=>by
        simp only[Option.mem_toList]at hk
        rw[bG v' hsl]at hk
        exact⟨(hloc k hk).imp (fun x=>x) (fun x=>by simp[Value.ownBlock]at x),(ho.lt k hk).2⟩) (by cases aU v'<;>simp)
        ⟨⟨hpos,_,news,[],rfl,by simp,.inl ho,cJ.2 ⟨ax.imp (aJ.keep (fun _ x=>x) (fun q hq=>hgb q (hsim.old q hq)) Q.ty) _ _ hrows,rfl⟩⟩,rfl⟩
       refine⟨.v (.own id),v',_,rs,_,w',hr, ?_,by rw[bw];exact hnew,e⟩
       obtain⟨p',n',c',rfl⟩:=hsl
       exact aO.v ij
      ·simp at e
     ·rename_i j _
      split at e
      ·rename_i T e' f xs hmj
       rcases ah e with⟨hT,e3⟩|⟨_,e3⟩
       ·simp only[az]at hT
        obtain⟨hT,hf⟩:=hT
        have hT:=aM hT
        have hf:f= .no:=by cases f<;>first|rfl|simp[Fl.isNo]at hf
        subst hT hf
        split at e3
        ·rename_i he _
         obtain⟨hm,e4⟩:=bo e3
         clear e3 e
         have e:=e4
         clear e4
         rcases ah e with⟨hb,e⟩|⟨_,e⟩
         ·obtain⟨hb1,hb2⟩:=CT hb
          subst he
          obtain⟨hβj,hmj'⟩:=hrw j ⟨_,_,_,hmj⟩
          rw[hmj]at hmj'
          obtain⟨L,hL,hB,hz'⟩:=hsim.mem j _ hmj'
          obtain⟨L',p1,n1,c1,hL',hv1,hvx⟩:=hx
          rw[gσ]at hL
          rw[hL]at hL';simp only[aa]at hL';subst hL'
          simp only[aC,and_true]at hvx
          subst hvx
          obtain⟨hpos',v0,us,B2,e1,hβ2,hown,hrx⟩:=hB
          simp only[aC,and_true]at e1
          subst e1
          obtain⟨hrx',hB1⟩:=cJ.1 hrx
          clear hrx
          have hrx:=hrx'
          clear hrx'
          subst hB1
          rw[List.append_nil]at hβ2
          have hsl0:∃p n c,L.v= .slice p n c:=⟨_,_,_,hv1⟩
          have hown:=mL (by simp) hown
          obtain⟨v',w',hr,ho,hg,hloc,hshape⟩:=fQ (P:=C.P) w (ty:=ty) hu hi hz (by rw[hs,hsz]) hby hzs hpos hown hnl hp hnews hone (by simp only[maxLen];omega) hb1
          have hsl:∃p n c,v'= .slice p n c:=by
           rcases ho.2 with⟨hh,_⟩|⟨g,cap,cur,hh,_⟩<;>exact⟨_,_,_,hh⟩
          have hidj:id≠j:=fun e=>by subst e;rw[hm]at hmj;simp at hmj
          have hkill:=hsim.kill hmj'
          have hjβ:∀q,L.v.ownBlock=some q→q∈G'.β j:=fun q hq=>by
           rw[←bG _ hsl0]at hq
           rw[hβ2,hq];simp
          have hk0:∀q,L.v.ownBlock=some q→¬G'.S q∧q<w.heap.size∧(E.W.heap.size≤q∨(E.O q∧fb w w' q))∧∀i,q∉aK G'.β j [] i:=by
           intro q hq
           have hin:=hjβ q hq
           obtain⟨h1,h2⟩:=hsim.off j q hin
           refine⟨h1,h2, ?_,fun i hi=> ?_⟩
           ·rcases hsim.mine j q hin with x|x|⟨_,cs0,L0,o0,g1,_⟩
            ·exact .inl x
            ·exact .inr ⟨x,hshape q hq⟩
            ·rw[hmj']at g1;simp at g1
           ·by_cases e:i=j
            ·simp[aK,e]at hi
            ·simp only[aK,ap e]at hi;exact hsim.apart i j e q hi hin
          have hold:Holds G'.S w w':=fun q hq=>hg.block q (hsim.old q hq) fun e=>(hk0 q e.symm).1 hq
          have hnew:=hkill.fresh (id:=id) (by rw[aF _ _ hidj];exact hno id hm) hid (.rows T Q.ty .no (cc rfl xs++ys)) ⟨v',Q.ty.size⟩ (aU v').toList L.v.ownBlock hg.os hg.tape hg.output hg.size (fun q hq hne=>hg.block q hq hne) hk0 (fun k hk=>by
           simp only[Option.mem_toList]at hk
           rw[bG v' hsl]at hk
           exact⟨hloc k hk,(ho.lt k hk).2⟩) (by cases aU v'<;>simp)
           ⟨⟨hpos,_,us++news,[],rfl,by simp,by
             have hlen:xs.length+ys.length=(cc rfl xs++ys).length:=by rw[List.length_append,jA]
             rw[hlen]at ho;exact .inl ho,cJ.2 ⟨ax.append (ax.imp (aJ.keep (fun _ x=>x) hold Q.ty) _ _ hrx) (ax.imp (aJ.keep (fun _ x=>x) hold Q.ty) _ _ hrows),rfl⟩⟩,rfl⟩
          refine⟨.v (.own id),v',_,rs,_,w',hr, ?_,by rw[bw];exact hnew,e⟩
          obtain⟨p',n',c',rfl⟩:=hsl
          exact aO.v ij
         ·simp at e
        ·simp at e3
       ·simp at e3
      ·simp at e
     ·simp at e
    ·simp at e
   ·simp at e
  ·simp at e
 ·simp at e
theorem vp (hC:C.OK) (h:aY E G s a w) {t:TypeId} (xo:Operand) {lo hi:Option Operand} {k:SV→List cj→List Nat→Option R} {rs:List Nat}
  (e:iG C s t (s.ev xo).pv (lo.map fun o=>(s.ev o).pv) (hi.map fun o=>(s.ev o).pv) (fun p us=>k (.v p) us rs)=some r):cV E a C.P (Instr.sliceAt t (a.eval xo) (lo.map a.eval) (hi.map a.eval) none) w s k r:=by
 have lift:∀{lo:Option Operand} {n d:Int},((lo=none∧n=d)∨∃kd,lo.map a.eval=some (.int kd n))→(lo.map a.eval=none∧n=d)∨∃kd,lo.map a.eval=some (.int kd n):=fun h=>h.imp (fun⟨x,y⟩=>⟨by rw[x];rfl,y⟩) (fun x=>x)
 have pvr:∀{p:PV},(s.ev xo).pv=p→p≠ .undef→bd G.S G.σ w p [a.eval xo]:=by
  intro p hp hne
  have hr:=dj h xo
  cases hs:s.ev xo with
  |v q=>rw[hs]at hr hp;simp only[SV.pv]at hp;subst hp;exact aO.of_v hr hne
  |agg _=>rw[hs]at hp;exact absurd hp.symm hne
  |tup _ _=>rw[hs]at hp;exact absurd hp.symm hne
 unfold iG at e
 split at e
 ·rename_i u hu
  rcases ah e with⟨ht,e⟩|⟨_,e⟩
  ·obtain⟨l,e,hl⟩:=gz h e
   obtain⟨hh,e,hhh⟩:=gz h e
   rcases ah e with⟨hb,e⟩|⟨_,e⟩
   ·obtain⟨h0,h1,h2⟩:=Lm hb
    have hv:=l9 (pvr hu (by simp))
    refine cV.ofPV h ⟨.str (u.extract l.toNat hh.toNat),.string (u.extract l.toNat hh.toNat), ?_,rfl,e⟩
    rw[hv]
    simp only[Instr.sliceAt,Instr.slice,Sem.run_bind,run_underlying (il hC ht),Result.andThen_ok]
    simp[i9 (P:=C.P) (w:=w) (b:=false) (lift hl) (lift hhh) h0 h1 h2 (Nat.le_refl _)]
   ·simp at e
  ·simp at e
 ·split at e
  ·rename_i e' xs hm
   rcases ah e with⟨ht,e⟩|⟨_,e⟩
   ·obtain⟨l,e,hl⟩:=gz h e
    obtain⟨hh,e,hhh⟩:=gz h e
    rcases ah e with⟨hb,e⟩|⟨_,e⟩
    ·obtain⟨h0,h1,h2⟩:=Lm hb
     obtain⟨q,i,hu,hi,hz⟩:=go hC ht
     have hr:=pvr rfl (fun hh=>by rw[hh]at hm;simp[St.asList]at hm)
     have hT:=jt h hr hm
     obtain⟨G',g1,g2,g3,g4,_,g6⟩:=h.frzs ((s.ev xo).pv.owns) (GP h hr)
     have hT':aJ G'.S w (.list e') xs [a.eval xo]:=aJ.keep (fun b hb=>hb.elim (g2 b) fun⟨i,hi,hb⟩=>g3 i hi b hb) (fun _ _=>rfl) _ _ _ hT
     have hxx:=hT'
     obtain⟨p,cap,hv',hc,_⟩:=hxx
     simp only[aC,and_true]at hv'
     rw[hv']at hT'⊢
     exact⟨.v (.list e' ((xs.take hh.toNat).drop l.toNat)),_,_,rs,G',w,qR hu hi hz (lift hl) (lift hhh) h0 h1 h2 hc,J3 hT' rfl h0 h1 h2,g6,e⟩
    ·simp at e
   ·simp at e
  ·simp at e
end Go.Ps
