import Derived.Test.YtfgjcohcpehcjaaGreatPsG
namespace Go.Ps
set_option linter.unusedVariables false
variable {S S':Nat→Prop} {σ σ':Sg} {w w':World} {E:En} {G:Gh} {s:St} {a:Act} {C:b9} {R:Type} {r:R}
theorem qI (hC:C.OK) {t e n:Nat} {I:TI} {Q:TI} (hI:C.ti t=some I) (hsh:I.sh= .slice e) (hQ:C.ti e=some Q) {vals:Array (Nat×Value)} {vl:List (Nat×Value)} {us:List (List Value)} (hlist:vals.toList=vl) (hvl:vl.length=n) (hz1:1≤Q.size) (hz2:n*Q.size≤16777216)
  (h3:dr (fun(q:Nat×Value) (u:List Value)=>q.2.cells.toList=u∧u.length=Q.ty.size) vl us) (h4:∀j (q:Nat×Value),vl[j]? =some q→q.1=0+j):
  ∃cells':Array Value,cells'.toList=us.flatten∧(Instr.buildSlice t n vals).run C.P w= .ok (.slice (some ⟨w.heap.size,0,none⟩) n n) (w.alloc (.cells cells' e)):=by
 obtain⟨_,⟨d,hu,_,hd,_⟩,_⟩:=hC.ti t I hI
 rw[hsh]at hd;simp only at hd;subst hd
 obtain⟨⟨i,z,hi,hs,_,hz,hsame,_⟩,_,hsz,_⟩:=hC.ti e Q hQ
 rw[hsz]at h3
 let cells0:Array Value:=(Array.range (n*Q.size)).map fun i=>(if n*Q.size=0 then #[]else z.cells)[i% (if n*Q.size=0 then(#[]:Array Value)else z.cells).size]!
 obtain⟨cells',hfill,hcl⟩:=qB (i:=0) (cells:=cells0) h3 h4 (by rw[Nat.zero_add,hvl];simp only[cells0,Array.size_map,Array.size_range])
 simp only[Nat.zero_mul,List.take_zero,List.nil_append]at hcl
 refine⟨cells',hcl, ?_⟩
 show(Instr.buildSlice t n vals).run C.P w= .ok (.slice (some ⟨w.heap.size,0,none⟩) n n) (w.alloc (.cells cells' e))
 simp only[Instr.buildSlice,Sem.run_bind,run_underlying hu,Result.andThen_ok,bL hi,hs]
 rw[ak (by omega)]
 by_cases h0:n*Q.size=0
 ·simp only[h0,if_true,pure_bind]
  have:cells0=(Array.range 0).map fun i=>(#[]:Array Value)[i% (#[]:Array Value).size]! :=by simp only[cells0,h0,if_true]
  rw[hlist,←this,hfill]
  simp[newRow]
 ·have hzero:(zeroValue e).run C.P w= .ok z w:=by simp[zeroValue,typeInfo,hi,hz]
  have:cells0=(Array.range (n*Q.size)).map fun i=>z.cells[i%z.cells.size]! :=by simp only[cells0,h0,if_false]
  simp only[h0,if_false,Sem.run_bind,hzero,Result.andThen_ok,pure_bind]
  rw[hlist,←this,hfill]
  simp[newRow]
theorem mn (hC:C.OK) (h:aK E G s a w) {t e n:Nat} {I:TI} {Q:TI} (hI:C.ti t=some I) (hsh:I.sh= .slice e) (hQ:C.ti e=some Q) {id:Nat} (hid:id%128<64) {ps:Array (Nat×Operand)} {xs:List Q.ty.den} {k:SV→List bJ→List Nat→Option R} {rs:List Nat}
  (hxs:iT Q.ty s 0 (s.evs ps.toList)=some xs) (hn:ps.toList.length=n) (hz1:1≤Q.size) (hz2:n*Q.size≤16777216) (hm:s.mem id=none)
  (e':k (.v (.own id)) (yA (bu (s.evs ps.toList))++[.set id (.rows e Q.ty .no xs)]) rs=some r):co E a C.P (Instr.buildSlice t n (ps.map fun(i,x)=>(i,a.eval x))) w s k r:=by
 obtain⟨_,⟨d,hu,_,hd,_⟩,_⟩:=hC.ti t I hI
 rw[hsh]at hd;simp only at hd;subst hd
 obtain⟨⟨i,z,hi,hs,_,hz,hsame,_⟩,_,hsz,_⟩:=hC.ti e Q hQ
 have hev:=nO h ps.toList
 have hlist:(ps.map fun(i,x)=>(i,a.eval x)).toList=ps.toList.map fun p=>(p.1,a.eval p.2):=by simp
 have hall:∀{qs:List (Nat×SV)} {vs:List (Nat×Value)},dr (fun(p:Nat×SV) (q:Nat×Value)=>p.1=q.1∧aC G.S G.σ w p.2 q.2) qs vs→∀i∈aM (bu qs),i%128≠127:=by
  intro qs
  induction qs with
  |nil=>intro vs _ i hi;simp[bu,aM]at hi
  |cons q qs ih=>
   intro vs hv i hi
   cases hv with
   | @cons _ v _ vs hq ht=>
    simp only[bu,aM,List.flatMap_append,List.mem_append]at hi
    rcases hi with hi|hi
    ·cases hc:q.2.cells with
     |none=>rw[hc]at hi;simp at hi
     |some c=>rw[hc]at hi;exact jT h (c9 hq.2 hc) i hi
    ·exact ih ht i hi
 obtain⟨G',g1,g2,g3,_,_,hsim⟩:=h.frzs (aM (bu (s.evs ps.toList))) (hall hev)
 obtain⟨hl,us,h1,h2,h3,h4⟩:=oq h g2 hev g3 hxs
 have hlen:(s.evs ps.toList).length=n:=by simp[St.evs,hn]
 have hvl:(ps.toList.map fun p=>(p.1,a.eval p.2)).length=n:=by simpa using hn
 have hxl:xs.length=n:=by rw[hl,hlen]
 obtain⟨cells',hcl,hrun⟩:=qI (w:=w) hC hI hsh hQ hlist hvl hz1 hz2 h3 h4
 have hnm:n≤16777216:=Nat.le_trans (Nat.le_mul_of_pos_right n hz1) hz2
 have hnew:=hsim.rows (e:=e) (km hm) hid (xs:=xs) (by rw[hsz];exact hz1) h1 hcl (by rw[hxl];simp[maxLen];omega)
 rw[hxl]at hnew
 have key:∀{G2:Gh},aK E G2 ((s.upds ((aM (bu (s.evs ps.toList))).map .frz)).upd (.set id (.rows e Q.ty .no xs))) a (w.alloc (.cells cells' e))→aK E G2 (s.upds (yA (bu (s.evs ps.toList))++[.set id (.rows e Q.ty .no xs)])) a (w.alloc (.cells cells' e)):=fun hh=>by
  rw[bb];exact hh
 exact⟨_,_,_,rs,_,_,hrun,aC.v fJ,key hnew,e'⟩
theorem aK.store (h:aK E G s a w) {id:Nat} {b0 b1:cj} {k o:Nat} {us:List Value} (hm:s.mem id=some b0) (hk:k∈G.β id) (hW:E.W.heap.size≤k∨∀j,j<us.length→E.M k (o+j))
  (hB:∀L,G.σ id=some L→kg G.S G.σ (w.setCells k o us) L b1 (G.β id)) (hbox:∀cs,b0= .box cs→∃cs',b1= .box cs'∧bq cs'=bq cs):aK E G (s.upd (.set id b1)) a (w.setCells k o us):=by
 obtain⟨L,hL,_⟩:=h.mem id _ hm
 refine h.change (fU _ _) (oH _ _) (b8.refl _) (fun _ x=>x) (fun q hq=>bf k us _ w q (fun e=>(h.off id k hk).1 (e▸hq))) (h.kept.put k o us hW) (fun i c hc=> ?_) (fun i hi=> ?_) h.apart h.nodup (fun i q hq=>by rw[ck];exact h.off i q hq) (fun q hq=> .inl hq) (fun i q hq=> ?_) (fun i L' _ hL'=> .inl hL') (by rw[ck];exact Nat.le_refl _)
 ·by_cases e:i=id
  ·subst e
   rw[bd]at hc
   simp only[aa]at hc
   subst hc
   exact .inr ⟨L,hL,hB L hL⟩
  ·rw[ax _ _ e]at hc
   exact .inl ⟨hc,rfl,fun q hq=>bf k us _ w q fun x=>h.apart i id e q hq (x▸hk)⟩
 ·by_cases e:i=id
  ·subst e;rw[bd]at hi;simp at hi
  ·rw[ax _ _ e]at hi;exact⟨hi,rfl,rfl⟩
 ·refine(h.mine i q hq).imp (fun x=>x) fun x=>x.imp (fun x=>x) fun⟨g1,cs,L',o',g2,g3,g4,g5⟩=> ?_
  by_cases e:i=id
  ·subst e
   rw[hm]at g2
   simp only[aa]at g2
   obtain⟨cs',h1,h2⟩:=hbox cs g2
   exact⟨g1,cs',L',o',by rw[bd,h1],g3,g4,by rw[h2];exact g5⟩
  ·exact⟨g1,cs,L',o',by rw[ax _ _ e];exact g2,g3,g4,g5⟩
theorem m5 {T:TypeId} {z b n c off:Nat} {vs us:List Value} (h:w.ownsRow 0 T z (.slice (some ⟨b,0,none⟩) n c) n vs) (hle:off+us.length≤vs.length):
  (w.setCells b off us).ownsRow 0 T z (.slice (some ⟨b,0,none⟩) n c) n (vs.take off++(us++vs.drop (off+us.length))):=by
 obtain⟨hvl,h⟩:=h
 rcases h with⟨hh,_⟩|⟨g,cap,cur,hh,hg,hheap,hn,hm',hc,ht⟩
 ·simp at hh
 ·simp only[Value.slice.injEq,aa,Addr.mk.injEq,and_true,true_and]at hh
  obtain⟨rfl,rfl⟩:=hh
  have hcur:vs.length≤cur.size:=by rw[hvl,hc];exact Nat.mul_le_mul_right _ hn
  obtain⟨cur',h1,h2⟩:=dX b _ _ us off w cur hheap (by omega)
  refine⟨by simp;omega,.inr ⟨b,c,cur',rfl,Nat.zero_le _,h1,hn,hm', ?_, ?_⟩⟩
  ·have:cur'.toList.length=cur.toList.length:=by rw[h2];simp;omega
   simpa[hc]using this
  ·rw[h2,←hvl]
   have hcv:cur.toList.take vs.length=vs:=by rw[hvl];exact ht
   have ht1:cur.toList.take off=vs.take off:=by
    conv=>rhs;rw[←hcv]
    rw[List.take_take,Nat.min_eq_left (by omega)]
   have hd1:(cur.toList.drop (off+us.length)).take (vs.length-(off+us.length))=vs.drop (off+us.length):=by
    conv=>rhs;rw[←hcv]
    rw[List.drop_take]
   rw[ht1,List.take_append,List.take_of_length_le (by simp;omega)]
   congr 1
   rw[List.take_append,List.take_of_length_le (by simp;omega)]
   congr 1
   rw[←hd1]
   congr 1
   simp;omega
theorem tI {f:Fl} {T:TypeId} {z b n c off:Nat} {vs us:List Value} (h:kf w f T z (.slice (some ⟨b,0,none⟩) n c) n vs) (hle:off+us.length≤vs.length):
  kf (w.setCells b off us) f T z (.slice (some ⟨b,0,none⟩) n c) n (vs.take off++(us++vs.drop (off+us.length))):=by
 rcases h with h|⟨hf,hvl,g,cap,cur,fz,hh,hheap,hz,hn,hm',hc,ht⟩
 ·exact .inl (m5 h hle)
 ·simp only[Value.slice.injEq,aa,Addr.mk.injEq,and_true,true_and]at hh
  obtain⟨rfl,rfl⟩:=hh
  have hcur:vs.length≤cur.size:=by rw[hvl,hc];exact Nat.mul_le_mul_right _ hn
  obtain⟨cur',h1,h2⟩:=dX b _ _ us off w cur hheap (by omega)
  have hsz:cur'.size=cur.size:=by
   have:cur'.toList.length=cur.toList.length:=by rw[h2];simp;omega
   simpa using this
  refine .inr ⟨hf,by simp;omega,b,c,cur',fz,rfl,h1,by omega,hn,hm',by omega, ?_⟩
  rw[h2,←hvl]
  have hcv:cur.toList.take vs.length=vs:=by rw[hvl];exact ht
  have ht1:cur.toList.take off=vs.take off:=by
   conv=>rhs;rw[←hcv]
   rw[List.take_take,Nat.min_eq_left (by omega)]
  have hd1:(cur.toList.drop (off+us.length)).take (vs.length-(off+us.length))=vs.drop (off+us.length):=by
   conv=>rhs;rw[←hcv]
   rw[List.drop_take]
  rw[ht1,List.take_append,List.take_of_length_le (by simp;omega)]
  congr 1
  rw[List.take_append,List.take_of_length_le (by simp;omega)]
  congr 1
  rw[←hd1]
  congr 1
  simp;omega
theorem Cy {α:Type} (vs us:List α) (a z q:Nat) (h1:a+z≤vs.length) (h2:q+us.length≤z):
  vs.take a++((((vs.drop a).take z).take q++(us++((vs.drop a).take z).drop (q+us.length)))++vs.drop (a+z))=vs.take (a+q)++(us++vs.drop (a+q+us.length)):=by
 have:=kv vs us 0 a z q us.length vs.length h1 h2
 simp only[List.take_zero,List.drop_zero,List.nil_append,Nat.zero_add,List.take_length,List.drop_length,List.append_nil]at this
 exact this
theorem Cz (s:St) (p:PV):s.dat (s.dat p)=s.dat p:=by
 cases p<;>try rfl
 case own id=>
  have:s.dat (.own id)=match s.asList (.own id)with|some ⟨e,xs⟩=> .list e xs|none=> .undef:=rfl
  rw[this]
  cases s.asList (.own id)<;>rfl
 case view id l h=>
  have:s.dat (.view id l h)=match s.asList (.view id l h)with|some ⟨e,xs⟩=> .list e xs|none=> .undef:=rfl
  rw[this]
  cases s.asList (.view id l h)<;>rfl
 case fn f caps=>
  have:s.dat (.fn f caps)=bif caps.all (fun c=>match c with| .ref _=>false|_=>true)then .fn f caps else .undef:=rfl
  rw[this]
  cases hb:caps.all (fun c=>match c with| .ref _=>false|_=>true)
  ·rfl
  ·simp only[ac];rw[this,hb];rfl
theorem dK.lo_off (q:dK):q.lo≤q.off:=by cases q<;>simp[dK.lo,dK.off];omega
theorem dK.off_down {q:dK} {k:Nat} (h:k≤q.lo):(q.down k).off=q.off-k:=by cases q<;>simp only[dK.down,dK.off,dK.lo]at*;omega
theorem dK.ok_down {q:dK} {k:Nat} (h:q.ok):(q.down k).ok:=by cases q<;>exact h
theorem vQ:∀(e:Ty) (f:Fl) (x y:e.den) (us vs:List Value) (B:List Nat) (q:dK) (n:Nat) (new:List PV),aU S w e f x us B→q.ok→gW e f x q n new=some y→aj S σ w new vs→vs.length=n→
  aU S w e f y (us.take q.off++(vs++us.drop (q.off+n))) B∧q.off+n≤us.length:=by
 have base:∀(e:Ty) (x y:e.den) (us vs:List Value) (B:List Nat) (q:dK) (n:Nat) (new:List PV),aU S w e .no x us B→q.ok→(match gT (fun p=>p) (inj e x) q n new with|some cs=>be e cs|none=>none)=some y→aj S σ w new vs→vs.length=n→
   aU S w e .no y (us.take q.off++(vs++us.drop (q.off+n))) B∧q.off+n≤us.length:=by
  intro e x y us vs B q n new h hq he hn hl
  obtain⟨h1,h2⟩:=iO.1 h
  split at he
  ·rename_i cs hcs
   obtain⟨g1,g2⟩:=iS (cD (σ:=σ) _ _ _ h1) hq hcs hn (by rw[List.map_id'];exact hn) hl
   exact⟨iO.2 ⟨bE g1 he,h2⟩,g2⟩
  ·simp at he
 intro e
 induction e with
 |pair a b iha ihb=>
  intro f x y us vs B q n new h hq he hn hl
  cases f with
  |pair f g=>
   simp only[gW]at he
   obtain⟨u,v,B1,B2,rfl,rfl,h1,h2⟩:=h
   have hu:=aU.length _ _ _ _ _ h1
   rcases ab he with⟨hb,he⟩|⟨_,he⟩
   ·split at he
    ·rename_i y1 hy
     simp only[aa]at he
     subst he
     obtain⟨g1,g2⟩:=iha f _ _ _ _ _ _ _ _ h1 hq hy hn hl
     refine⟨⟨_,v,B1,B2, ?_,rfl,g1,h2⟩,by rw[List.length_append];omega⟩
     rw[List.take_append_of_le_length (by omega),List.drop_append_of_le_length (by omega)]
     simp only[aZ]
    ·simp at he
   ·rcases ab he with⟨hb,he⟩|⟨_,he⟩
    ·have hb:=bi hb
     have hlo:=dK.lo_off q
     split at he
     ·rename_i y1 hy
      simp only[aa]at he
      subst he
      obtain⟨g1,g2⟩:=ihb g _ _ _ _ _ _ _ _ h2 (dK.ok_down hq) hy hn hl
      rw[dK.off_down hb]at g1 g2
      refine⟨⟨u,_,B1,B2, ?_,rfl,h1,g1⟩,by rw[List.length_append];omega⟩
      rw[List.take_append,List.take_of_length_le (by omega),List.drop_append,List.drop_eq_nil_of_le (as:=u) (by omega),List.nil_append,hu,aZ,show q.off+n-a.size=q.off-a.size+n by omega]
     ·simp at he
    ·simp at he
  |no=>exact base (.pair a b) _ _ _ _ _ _ _ _ h hq he hn hl
  |own _ _=>simp[gW]at he
  |box=>simp[gW]at he
 |_=>
  intro f x y us vs B q n new h hq he hn hl
  cases f with
  |no=>exact base _ _ _ _ _ _ _ _ _ h hq he hn hl
  |_=>simp[gW]at he
theorem CA (pre u post us:List Value) (q:Nat) (h:q+us.length≤u.length):(pre++(u++post)).take (pre.length+q)++(us++(pre++(u++post)).drop (pre.length+q+us.length))=pre++((u.take q++(us++u.drop (q+us.length)))++post):=by
 rw[List.take_append,List.take_of_length_le (by omega),Nat.add_sub_cancel_left,List.take_append_of_le_length (by omega),List.drop_append,List.drop_eq_nil_of_le (as:=pre) (by omega),List.nil_append,
  show pre.length+q+us.length-pre.length=q+us.length by omega,List.drop_append_of_le_length (by omega)]
 simp only[aZ]
theorem kQ (h:aK E G s a w) {id:Nat} {b0 b1:cj} {L:yN} {b n c z off:Nat} {f:Fl} {T:TypeId} {pre u post new:List Value} (hm:s.mem id=some b0) (hb0:∀cs,b0≠ .box cs) (hL:G.σ id=some L) (hv:L.v= .slice (some ⟨b,0,none⟩) n c)
  (hr:kf w f T z L.v n (pre++(u++post))) (hβ:b∈G.β id) (hoff:off+new.length≤u.length)
  (hB:kf (w.setCells b (pre.length+off) new) f T z L.v n (pre++((u.take off++(new++u.drop (off+new.length)))++post))→di G.S w (w.setCells b (pre.length+off) new)→(∀q,q≠b→(w.setCells b (pre.length+off) new).heap[q]? =w.heap[q]?)→kg G.S G.σ (w.setCells b (pre.length+off) new) L b1 (G.β id)):
  w.there b (pre.length+off) new.length∧aK E G (s.upd (.set id b1)) a (w.setCells b (pre.length+off) new):=by
 rw[hv]at hr
 refine⟨ol hr (by simp only[List.length_append];omega),h.store hm (b1:=b1) hβ ?_ (fun L' hL'=> ?_) (fun cs h0=>absurd h0 (hb0 cs))⟩
 ·rcases h.mine id b hβ with x|x|⟨_,cs0,_,_,g1,_⟩
  ·exact .inl x
  ·exact .inr fun j _=>(h.all b x).2 _
  ·rw[hm]at g1;simp only[aa]at g1;exact absurd g1 (hb0 cs0)
 ·rw[hL]at hL';simp only[aa]at hL';subst hL'
  have:=tI (off:=pre.length+off) (us:=new) hr (by simp only[List.length_append];omega)
  rw[CA _ _ _ _ _ hoff]at this
  exact hB (by rw[hv];exact this) (fun p hp=>bf b _ _ w p fun e=>(h.off id b hβ).1 (e▸hp)) (fun q hq=>bf b _ _ w q hq)
theorem oO:∀(u:List Value),(∀x∈u,x.oneCell'=true)→aj S σ w (List.replicate u.length .undef) u
 | [],_=>rfl
 |x::u,h=>⟨[x],u,rfl,⟨x,rfl,h x (by simp)⟩,oO u fun y hy=>h y (by simp[hy])⟩
theorem aK.shrink (h:aK E G s a w) {id:Nat} {b0 b:cj} {B:List Nat} (hm:s.mem id=some b0) (hb0:∀cs,b0≠ .box cs) (hB:∀k∈B,k∈G.β id) (hnd:B.Nodup) (hr:∀L,G.σ id=some L→kg G.S G.σ w L b B):aK E ⟨G.S,G.σ,az G.β id B⟩ (s.upd (.set id b)) a w:=by
 obtain⟨L,hL,_⟩:=h.mem id _ hm
 refine h.change (fU _ _) (oH _ _) (b8.refl _) (fun _ x=>x) (fun _ _=>rfl) h.kept (fun i c hc=> ?_) (fun i hi=> ?_) (fun i k hik q hq=> ?_) (fun i=> ?_) (fun i k hk=> ?_) (fun q hq=> .inl hq) (fun i k hk=> ?_) (fun i L' hi hL'=> .inl hL') (Nat.le_refl _)
 ·by_cases e:i=id
  ·subst e
   rw[bd]at hc
   simp only[aa]at hc
   subst hc
   exact .inr ⟨L,hL,by simpa[az]using hr L hL⟩
  ·rw[ax _ _ e]at hc
   exact .inl ⟨hc,by simp[az,e],fun _ _=>rfl⟩
 ·by_cases e:i=id
  ·subst e;rw[bd]at hi;simp at hi
  ·rw[ax _ _ e]at hi
   exact⟨hi,rfl,by simp[az,e]⟩
 ·by_cases e1:i=id
  ·have e2:k≠id:=fun x=>hik (e1.trans x.symm)
   simp only[az,av e1]at hq
   simp only[az,ak e2]
   exact h.apart id k (Ne.symm e2) q (hB q hq)
  ·simp only[az,ak e1]at hq
   by_cases e2:k=id
   ·simp only[az,av e2];exact fun x=>h.apart i id e1 q hq (hB q x)
   ·simp only[az,ak e2];exact h.apart i k hik q hq
 ·by_cases e1:i=id
  ·simp only[az,av e1];exact hnd
  ·simp only[az,ak e1];exact h.nodup i
 ·by_cases e1:i=id
  ·simp only[az,av e1]at hk;exact h.off id k (hB k hk)
  ·simp only[az,ak e1]at hk;exact h.off i k hk
 ·by_cases e1:i=id
  ·subst e1
   simp only[az,if_true]at hk
   rcases h.mine i k (hB k hk)with x|x|⟨_,cs0,_,_,g1,_⟩
   ·exact .inl x
   ·exact .inr (.inl x)
   ·rw[hm]at g1;simp only[aa]at g1;exact absurd g1 (hb0 cs0)
  ·simp only[az,ak e1]at hk
   refine(h.mine i k hk).imp (fun x=>x) fun x=>x.imp (fun x=>x) fun⟨g1,cs,L',o,g2,g3⟩=>⟨g1,cs,L',o, ?_,g3⟩
   rw[ax _ _ e1];exact g2
theorem sd (hC:C.OK) (h:aK E G s a w) {t:TypeId} {p:PV} {x:SV} {va vx:Value} {k:List bJ→List Nat→Option R} (hp:aP G.S G.σ w p [va]) (hx:aC G.S G.σ w x vx) (e:gX C s t p x k=some r):
  ∃G' us rs w',(Instr.storeAt t va vx).run C.P w= .ok () w'∧aK E G' (s.upds us) a w'∧k us rs=some r:=by
 unfold gX at e
 split at e
 ·rename_i I new hI hnew
  rcases ab e with⟨hw,e⟩|⟨_,e⟩
  ·have hw:=aG hw
   obtain⟨⟨i0,z,hi,hs,_⟩,_⟩:=hC.ti t I hI
   have hcells:=c9 hx hnew
   have hlen:=aj.length hcells
   rw[hw]at hlen
   have hone:=aj.ones hcells
   split at e
   ·rename_i id q _
    split at e
    ·rename_i cs hm
     obtain⟨L,b,o,hL,hv,hq,hva⟩:=hp
     simp only[ay,and_true]at hva
     subst hva
     obtain⟨L',hL',b',o',vs,hv',hc,hr,ht,hβ⟩:=h.mem id _ hm
     rw[hL]at hL';simp only[aa]at hL';subst hL'
     rw[hv]at hv'
     simp only[Value.pointer.injEq,aa,Addr.mk.injEq,and_true]at hv'
     obtain⟨rfl,rfl⟩:=hv'
     have key:∀{cs'},aj G.S G.σ w cs' (vs.take q.off++(vx.cells.toList++vs.drop (q.off+I.size)))→q.off+I.size≤vs.length→k [.set id (.box cs')] []=some r→
       ∃G' us rs w',(Instr.storeAt t (.pointer (some ⟨b,o+q.off,none⟩)) vx).run C.P w= .ok () w'∧aK E G' (s.upds us) a w'∧k us rs=some r:=by
      intro cs' hput hle e
      have hl2:=hlen
      rw[Array.length_toList]at hl2
      have hwid:bq cs'=bq cs:=by rw[←aj.length hput,←aj.length hc];simp;omega
      have hst:aK E G (s.upd (.set id (.box cs'))) a (w.setCells b (o+q.off) vx.cells.toList)→_:=fun hh=>(⟨G,[.set id (.box cs')],[],_,cY hi (by rw[hs,hlen]) (fun j hj=>by
        have:=ht (q.off+j) (by omega)
        rwa [←Nat.add_assoc]at this) hone,hh,e⟩:∃G' us rs w',(Instr.storeAt t (.pointer (some ⟨b,o+q.off,none⟩)) vx).run C.P w= .ok () w'∧aK E G' (s.upds us) a w'∧k us rs=some r)
      refine hst (h.store hm (b1:= .box cs') (k:=b) (o:=o+q.off) (us:=vx.cells.toList) (by rw[hβ];simp) ?_ (fun L' hL'=> ?_) (fun cs0 h0=>⟨cs',rfl,by simp only[cj.box.injEq]at h0;rw[←h0];exact hwid⟩))
      ·rcases h.mine id b (by rw[hβ];simp)with x|x|⟨_,cs0,L0,o0,g1,g2,g3,g4⟩
       ·exact .inl x
       ·exact .inr fun j _=>(h.all b x).2 _
       ·right
        rw[hm]at g1
        simp only[aa,cj.box.injEq]at g1
        subst g1
        rw[hL]at g2;simp only[aa]at g2;subst g2
        rw[hv]at g3
        simp only[Value.pointer.injEq,aa,Addr.mk.injEq,and_true,true_and]at g3
        subst g3
        intro j hj
        have:=g4 (q.off+j) (by rw[←aj.length hc];omega)
        rwa [←Nat.add_assoc]at this
      ·rw[hL]at hL';simp only[aa]at hL';subst hL'
       refine⟨b,o,vs.take q.off++(vx.cells.toList++vs.drop (q.off+vx.cells.toList.length)),hv, ?_,tq hr ht (by omega), ?_,hβ⟩
       ·rw[hlen];exact aj.keep (fun _ x=>x) (fun q hq=>bf b _ _ w q fun e=>(h.off id b (by rw[hβ];simp)).1 (e▸hq)) (b8.refl _) hput
       ·have:(vs.take q.off++(vx.cells.toList++vs.drop (q.off+vx.cells.toList.length))).length=vs.length:=by simp;omega
        rw[this];exact yp ht _ _ _
     cases q with
     | «at»o1=>
      simp only at e
      split at e
      ·rename_i cs' hput
       have hle:=nQ hput
       rw[←aj.length hc]at hle
       exact key (aj.put hc hput hcells hlen) hle e
      ·simp at e
     |arr o1 e1 m1 j1 q1=>
      simp only at e
      rcases ab e with⟨hemp,e⟩|⟨_,e⟩
      ·split at e
       ·rename_i cs' hput
        have hd:aj G.S G.σ w (new.map s.dat) vx.cells.toList:=cX h (fun _ x=>x) (fun i hi=>by
         have:aM new=[]:=List.isEmpty_iff.1 hemp
         rw[this]at hi;simp at hi) hcells
        obtain⟨g1,g2⟩:=iS hc hq hput hcells hd hlen
        exact key g1 g2 e
       ·simp at e
      ·simp at e
    ·simp at e
   ·rename_i id i q _
    split at e
    ·rename_i T e' f xs hm
     rcases ab e with⟨hf,e⟩|⟨_,e⟩
     ·simp only[aB,Bool.not_eq_true']at hf
      obtain⟨hf,hnot⟩:=hf
      split at e
      ·rename_i cs' hput
       split at e
       ·rename_i x' hproj
        have hnid:id∉aM new:=fun hin=>by
         have:=List.any_eq_false.1 hnot id hin
         simp at this
        obtain⟨G',gσ,gS,gV,_,gβ,hsim⟩:=h.frzs (aM new) (jT h hcells)
        have hmem:(s.upds ((aM new).map .frz)).mem id=some (.rows T e' f xs):=by rw[er hnid];exact hm
        obtain⟨L,b,n,c,hL,hv,h0,hlt,hq,hva⟩:=hp
        simp only[ay,and_true]at hva
        subst hva
        obtain⟨L',hL',hB,hz⟩:=hsim.mem id _ hmem
        rw[gσ,hL]at hL';simp only[aa]at hL';subst hL'
        obtain⟨hpos,v,vs,B2,e1,hβ2,ho,hrw⟩:=hB
        simp only[ay,and_true]at e1
        subst e1
        obtain⟨hrw',hB1⟩:=(fT hf).1 hrw
        clear hrw
        have hrw:=hrw'
        clear hrw'
        subst hB1
        rw[List.append_nil]at hβ2
        have hn:=fR ho hv
        subst hn
        rw[hv]at ho hβ2
        have hi':i.toNat<xs.length:=by omega
        have hel:=an.get (aw.length e') hrw _ hi'
        have hin:i.toNat*e'.size+e'.size≤vs.length:=by
         rw[yx ho]
         have:i.toNat*e'.size+e'.size=(i.toNat+1)*e'.size:=by rw[Nat.add_mul,Nat.one_mul]
         rw[this];exact Nat.mul_le_mul_right _ hi'
        have hcur:aj G'.S G'.σ w (inj e' (rd xs i)) ((vs.drop (i.toNat*e'.size)).take e'.size):=by
         rw[rd,fm _ _ _ hi'];exact cD _ _ _ hel
        have hnewd:aj G'.S G'.σ w (new.map s.dat) vx.cells.toList:=cX h gS gV hcells
        have hdd:(new.map s.dat).map s.dat=new.map s.dat:=by
         rw[List.map_map];exact List.map_congr_left fun p _=>Cz s p
        obtain⟨hst,hle⟩:=iS hcur hq hput hnewd (by rw[hdd];exact hnewd) hlen
        have hfull:=bE hst hproj
        have hele:q.off+I.size≤e'.size:=by rw[List.length_take,List.length_drop]at hle;omega
        have hrow':=an.set (aw.length e') hrw i.toNat x' _ hi' hfull
        have hsp:=Cy vs vx.cells.toList (i.toNat*e'.size) e'.size q.off hin (by rw[hlen];exact hele)
        rw[hlen]at hsp
        rw[hsp]at hrow'
        have hbβ:b∈G'.β id:=by
         rw[hβ2];simp[aF]
        have hput2:=tI (off:=i.toNat*e'.size+q.off) (us:=vx.cells.toList) ho (by rw[hlen];omega)
        refine⟨G',_,_,_,cY hi (by rw[hs,hlen]) ?_ hone, ?_,e⟩
        ·rw[hz];exact ol ho (by rw[hlen];omega)
        ·rw[bb]
         rw[hz]
         refine hsim.store hmem (b1:= .rows T e' f (xs.set i.toNat x')) hbβ ?_ (fun L' hL'=> ?_) (fun cs h0=>by simp at h0)
         ·rcases hsim.mine id b hbβ with x|x|⟨_,cs0,L0,o0,g1,_⟩
          ·exact .inl x
          ·exact .inr fun j _=>(hsim.all b x).2 _
          ·rw[hmem]at g1;simp at g1
         ·rw[gσ,hL]at hL';simp only[aa]at hL';subst hL'
          have hold:di G'.S w (w.setCells b (i.toNat*e'.size+q.off) vx.cells.toList):=fun p hp=>bf b _ _ w p fun e=>(hsim.off id b hbβ).1 (e▸hp)
          refine⟨⟨hpos,_,_,[],rfl,by rw[hβ2,hv,List.append_nil], ?_,(fT hf).2 ⟨an.imp (aw.keep (fun _ x=>x) hold e') _ _ hrow',rfl⟩⟩,hz⟩
          rw[hv,List.length_set]
          rw[hlen]at hput2
          exact hput2
       ·simp at e
      ·simp at e
     ·split at e
      ·rename_i x' hst0
       rcases ab hst0 with⟨hemp,hst⟩|⟨_,hst⟩
       ·have hnil:aM new=[]:=List.isEmpty_iff.1 hemp
        have hnewd:aj G.S G.σ w (new.map s.dat) vx.cells.toList:=cX h (fun _ x=>x) (fun i hi=>by rw[hnil]at hi;simp at hi) hcells
        obtain⟨L,b,n,c,hL,hv,h0,hlt,hq,hva⟩:=hp
        simp only[ay,and_true]at hva
        subst hva
        obtain⟨L',hL',hB,hz⟩:=h.mem id _ hm
        rw[hL]at hL';simp only[aa]at hL';subst hL'
        obtain⟨hpos,v,vs,B2,e1,hβ2,ho,hrw⟩:=hB
        simp only[ay,and_true]at e1
        subst e1
        have hn:=fR ho hv
        subst hn
        have hi':i.toNat<xs.length:=by omega
        obtain⟨pre,u,post,C1,Cx,C2,rfl,rfl,hpl,k1,k2,k3⟩:=aO.split (fun x us B hh=>aU.length _ _ _ _ _ hh) hrw i.toNat hi'
        rw[rd,fm _ _ _ hi']at hst
        obtain⟨g1,g2⟩:=vQ _ _ _ _ _ _ _ _ _ _ k2 hq hst hnewd hlen
        have hbl:aF L.v=some b:=by rw[hv];rfl
        have hnd:=h.nodup id
        rw[hβ2,hbl]at hnd
        have hne:∀k∈C1++(Cx++C2),k≠b:=fun k hk e=>(List.nodup_cons.1 hnd).1 (by rw[←e];exact hk)
        have hds:=kQ h (b1:= .rows T e' f (xs.set i.toNat x')) (off:=q.off) (new:=vx.cells.toList) hm (fun _=>by simp) hL hv ho (by rw[hβ2,hbl];simp) (by rw[hlen];exact g2) fun r1 r2 r3=>by
         have kp:∀{e:Ty} {xs:List e.den} {us:List Value} {B:List Nat},(∀k∈B,k≠b)→aO (aU G.S w e f) xs us B→aO (aU G.S (w.setCells b (pre.length+q.off) vx.cells.toList) e f) xs us B:=fun{e xs us B} hB hr=>aO.imp (fun x us B1 hb=>aU.keep (fun _ x=>x) r2 _ _ _ _ _ fun k hk=>r3 k (hB k (hb k hk))) hr
         refine⟨⟨hpos,_,_,_,rfl,hβ2,by rw[List.length_set];exact r1, ?_⟩,hz⟩
         rw[hlen]
         exact aO.join hi' (kp (fun k hk=>hne k (by simp[hk])) k1) (aU.keep (fun _ x=>x) r2 _ _ _ _ _ (fun k hk=>r3 k (hne k (by simp[hk]))) g1) (kp (fun k hk=>hne k (by simp[hk])) k3)
        rw[hpl,←hz]at hds
        exact⟨G,[.set id (.rows T e' f (xs.set i.toNat x'))],_,_,cY hi (by rw[hs,hlen]) hds.1 hone,hds.2,e⟩
       ·simp at hst
      ·split at e
       ·rename_i q0
        rcases ab e with⟨hsz,e⟩|⟨_,e⟩
        ·have hsz:=aG hsz
         split at e
         ·obtain⟨L,b,n,c,hL,hv,h0,hlt,hq,hva⟩:=hp
          simp only[ay,and_true]at hva
          subst hva
          obtain⟨L',hL',hB,hz⟩:=h.mem id _ hm
          rw[hL]at hL';simp only[aa]at hL';subst hL'
          obtain⟨hpos,v,vs,B2,e1,hβ2,ho,hrw⟩:=hB
          simp only[ay,and_true]at e1
          subst e1
          have hn:=fR ho hv
          subst hn
          have hi':i.toNat<xs.length:=by omega
          obtain⟨pre,u,post,C1,Cx,C2,rfl,rfl,hpl,k1,k2,k3⟩:=aO.split (fun x us B hh=>aU.length _ _ _ _ _ hh) hrw i.toNat hi'
          have hul:=aU.length _ _ _ _ _ k2
          have hbl:aF L.v=some b:=by rw[hv];rfl
          have hnd:=h.nodup id
          rw[hβ2,hbl]at hnd
          have hne:∀k∈C1++(Cx++C2),k≠b:=fun k hk e=>(List.nodup_cons.1 hnd).1 (by rw[←e];exact hk)
          simp only[Option.toList_some,List.cons_append,List.nil_append]at hnd
          obtain⟨n2,n3⟩:=List.nodup_cons.1 hnd
          obtain⟨m1,m2,m3⟩:=List.nodup_append.1 n3
          obtain⟨x1,x2,x3⟩:=List.nodup_append.1 m2
          have hlose:=h.shrink hm (fun _=>by simp) (b:= .opn T e' f xs i (List.replicate e'.size .undef)) (B:=b::(C1++C2)) (fun k hk=>by
            rw[hβ2,hbl]
            simp only[Option.toList_some,List.cons_append,List.nil_append,List.mem_cons,List.mem_append]at hk⊢
            rcases hk with hk|hk|hk
            ·exact .inl hk
            ·exact .inr (.inl hk)
            ·exact .inr (.inr (.inr hk))) (List.nodup_cons.2 ⟨fun hk=>n2 (by
            simp only[List.mem_append]at hk⊢
            rcases hk with hk|hk
            ·exact .inl hk
            ·exact .inr (.inr hk)),List.nodup_append.2 ⟨m1,x2,fun k hk k' hk'=>m3 k hk k' (by simp[hk'])⟩⟩) (fun L' hL'=>by
            rw[hL]at hL';simp only[aa]at hL';subst hL'
            refine⟨hpos,h0,hlt,hz,u,pre,post,C1,C2,ho,hpl,hul,k1, ?_,k3,by rw[hbl];rfl⟩
            have hone':∀x∈u,x.oneCell'=true:=aw.one _ _ _ (aU.data (S':=fun _=>True) (fun _ _=>trivial) _ _ _ _ _ (fun _ _=>trivial) k2)
            rw[←hul]
            exact oO u hone')
          have hcl:=hlen
          rw[hsz]at hcl
          have hds:=kQ hlose (b1:= .opn T e' f xs i new) (off:=0) (new:=vx.cells.toList) (bd _ _ _) (fun _=>by simp) hL hv ho (by simp[az]) (by omega) fun r1 r2 r3=>by
           have kp:∀{e:Ty} {xs:List e.den} {us:List Value} {B:List Nat},(∀k∈B,k≠b)→aO (aU G.S w e f) xs us B→aO (aU G.S (w.setCells b (pre.length+0) vx.cells.toList) e f) xs us B:=fun{e xs us B} hB hr=>aO.imp (fun x us B1 hb=>aU.keep (fun _ x=>x) r2 _ _ _ _ _ fun k hk=>r3 k (hB k (hb k hk))) hr
           have hu':(u.take 0++(vx.cells.toList++u.drop (0+vx.cells.toList.length)))=vx.cells.toList:=by
            rw[List.drop_eq_nil_of_le (by omega)];simp
           rw[hu']at r1
           exact⟨hpos,h0,hlt,hz,vx.cells.toList,pre,post,C1,C2,r1,hpl,hcl,kp (fun k hk=>hne k (by simp[hk])) k1,aj.keep (fun _ x=>x) r2 (b8.refl _) hcells,kp (fun k hk=>hne k (by simp[hk])) k3,by simp[az,hbl]⟩
          have hmem2:(s.upd (.set id (.opn T e' f xs i (List.replicate e'.size .undef)))).upd (.set id (.opn T e' f xs i new))=s.upd (.set id (.opn T e' f xs i new)):=by
           simp only[St.upd,St.setM]
           congr 1
           funext t
           cases Nat.beq t id<;>rfl
          rw[hmem2,hpl,←hz]at hds
          exact⟨_,[.set id (.opn T e' f xs i new)],_,_,cY hi (by rw[hs,hlen]) hds.1 hone,hds.2,e⟩
         ·simp at e
        ·simp at e
       ·simp at e
    ·rename_i T e' f xs i' cs0 hm
     rcases ab e with⟨hii,e⟩|⟨_,e⟩
     ·have hii:=of_decide_eq_true hii
      subst hii
      obtain⟨L,b,n,c,hL,hv,h0,hlt,hq,hva⟩:=hp
      simp only[ay,and_true]at hva
      subst hva
      obtain⟨L',hL',hpos,g0,gl,hz,u,pre,post,B1,B2,ho,hpl,hul,k1,kc,k3,hβ2⟩:=h.mem id _ hm
      rw[hL]at hL';simp only[aa]at hL';subst hL'
      have hn:=fR ho hv
      subst hn
      have hbl:aF L.v=some b:=by rw[hv];rfl
      have hnd:=h.nodup id
      rw[hβ2,hbl]at hnd
      have hne:∀k∈B1++B2,k≠b:=fun k hk e=>(List.nodup_cons.1 hnd).1 (by rw[←e];exact hk)
      have key:∀{cs'},aj G.S G.σ w cs' (u.take q.off++(vx.cells.toList++u.drop (q.off+I.size)))→q.off+I.size≤u.length→k [.set id (.opn T e' f xs i cs')] []=some r→
        ∃G' us rs w',(Instr.storeAt t (.pointer (some ⟨b,i.toNat*L.z+q.off,none⟩)) vx).run C.P w= .ok () w'∧aK E G' (s.upds us) a w'∧k us rs=some r:=by
       intro cs' hc hle e
       have hds:=kQ h (b1:= .opn T e' f xs i cs') (off:=q.off) (new:=vx.cells.toList) hm (fun _=>by simp) hL hv ho (by rw[hβ2,hbl];simp) (by rw[hlen];exact hle) fun r1 r2 r3=>by
        have kp:∀{e:Ty} {xs:List e.den} {us:List Value} {B:List Nat},(∀k∈B,k≠b)→aO (aU G.S w e f) xs us B→aO (aU G.S (w.setCells b (pre.length+q.off) vx.cells.toList) e f) xs us B:=fun{e xs us B} hB hr=>aO.imp (fun x us B1 hb=>aU.keep (fun _ x=>x) r2 _ _ _ _ _ fun k hk=>r3 k (hB k (hb k hk))) hr
        rw[hlen]at r1
        refine⟨hpos,g0,gl,hz,_,pre,post,B1,B2,r1,hpl, ?_,kp (fun k hk=>hne k (by simp[hk])) k1,aj.keep (fun _ x=>x) r2 (b8.refl _) hc,kp (fun k hk=>hne k (by simp[hk])) k3,hβ2⟩
        simp only[List.length_append,List.length_take,List.length_drop];omega
       rw[hpl,←hz]at hds
       exact⟨G,[.set id (.opn T e' f xs i cs')],_,_,cY hi (by rw[hs,hlen]) hds.1 hone,hds.2,e⟩
      cases q with
      | «at»o1=>
       simp only at e
       split at e
       ·rename_i cs' hput
        have hle:=nQ hput
        rw[←aj.length kc]at hle
        exact key (aj.put kc hput hcells hlen) hle e
       ·simp at e
      |arr o1 e1 m1 j1 q1=>
       simp only at e
       rcases ab e with⟨hemp,e⟩|⟨_,e⟩
       ·split at e
        ·rename_i cs' hput
         have hd:aj G.S G.σ w (new.map s.dat) vx.cells.toList:=cX h (fun _ x=>x) (fun i hi=>by
          have:aM new=[]:=List.isEmpty_iff.1 hemp
          rw[this]at hi;simp at hi) hcells
         obtain⟨g1,g2⟩:=iS kc hq hput hcells hd hlen
         exact key g1 g2 e
        ·simp at e
       ·simp at e
     ·simp at e
    ·simp at e
   ·simp at e
  ·simp at e
 ·simp at e
theorem tJ {T:TypeId} {z n m c:Nat} {g:Nat} {xs ys:List Value} (h:w.ownsRow 0 T z (.slice (some ⟨g,0,none⟩) n c) n xs) (h':w'.ownsRow 0 T z (.slice (some ⟨g,0,none⟩) m c) m ys):jh w w' g:=by
 intro o
 rcases h.2 with⟨hh,_⟩|⟨g1,cap,cur,hh,_,hg,_,_,hc,_⟩
 ·simp at hh
 rcases h'.2 with⟨hh',_⟩|⟨g2,cap',cur',hh',_,hg',_,_,hc',_⟩
 ·simp at hh'
 simp only[Value.slice.injEq,aa,Addr.mk.injEq,and_true,true_and]at hh hh'
 obtain⟨rfl,rfl⟩:=hh
 obtain⟨rfl,rfl⟩:=hh'
 have hsz:cur'.size=cur.size:=by rw[hc,hc']
 refine⟨?_, ?_⟩
 ·simp only[World.cell?,hg,hg',Option.isSome_none,Bool.false_eq_true,if_false]
  by_cases ho:o<cur.size
  ·rw[Array.getElem?_eq_getElem ho,Array.getElem?_eq_getElem (by omega)];rfl
  ·rw[Array.getElem?_eq_none (by omega),Array.getElem?_eq_none (by omega)]
 ·simp only[World.frozen?,hg,hg']
theorem fk {P:Program} (w:World) {t ty e:TypeId} {i:TypeInfo} {z:Value} {size bytes:Nat} (ht:P.underlying t=some (.slice e)) (hi:P.info? e=some i) (hz:i.zero=some z)
  (hsize:i.size=size) (hby:i.bytes=bytes) (hzs:z.cells.size=size) (hsz:0<size) {v:Value} {n:Nat} {xs:List Value} (hown:w.ownsRow 0 e size v n xs)
  {p:Option Addr} {m c:Nat} {news:List Value} (hl:news.length=m*size) (hp:p=none→m=0∧c=0) (hnews:∀ad,p=some ad→∀j u,news[j]? =some u→w.cell? (ad.add j)=some u) (h1:∀u∈news,u.oneCell'=true)
  (h63:n+m≤maxLen) (hbytes:(n+m)*bytes≤140737488355328):
  ∃v' w',(Builtin.append_ #[t,t] ty #[v,.slice p m c]).run P w= .ok v' w'∧w'.ownsRow 0 e size v' (n+m) (xs++news)∧w.grownBy w' v.ownBlock∧(∀k,v'.ownBlock=some k→w.heap.size≤k∨v.ownBlock=some k)∧(∀k,v.ownBlock=some k→jh w w' k):=by
 cases p with
 |none=>
  obtain⟨rfl,rfl⟩:=hp rfl
  have hn:news=[]:=List.eq_nil_of_length_eq_zero (by simpa using hl)
  subst hn
  exact⟨v,w,run_append_owned_none w 0 t ty e i size ht hi v n xs hown,by simpa using hown,⟨rfl,rfl,rfl,Nat.le_refl _,fun _ _ _=>rfl⟩,fun k hk=> .inr hk,fun k _ o=>⟨rfl,rfl⟩⟩
 |some ad=>
  rcases hown.2 with⟨rfl,rfl⟩|⟨g,cap,cur,rfl,hrest⟩
  ·have hown':w.ownsRow w.heap.size e size (.slice none 0 0) 0 xs:=⟨hown.1,.inl ⟨rfl,rfl⟩⟩
   obtain⟨v',w',hr,ho,hg,_⟩:=run_append_own (P:=P) w w.heap.size t ty e i z size bytes ht hi hz hsize hby hzs hsz _ 0 xs hown' ad m c news hl (hnews ad rfl) h1 h63 hbytes (Nat.le_refl _)
   refine⟨v',w',hr,⟨ho.1,ho.2.imp (fun x=>x) fun⟨g,cap,cur,a1,a2,a3⟩=>⟨g,cap,cur,a1,Nat.zero_le _,a3⟩⟩,hg,fun k hk=> .inl (ho.lt k hk).1,fun k hk=>by simp[Value.ownBlock]at hk⟩
  ·by_cases hroom:n+m≤cap
   ·obtain⟨w',hr,ho,hg⟩:=run_append_fits (P:=P) w 0 t ty e i size ht hi hsize g n cap xs hown ad m c news hl (hnews ad rfl) h1 hroom
    exact⟨_,w',hr,ho,hg,fun k hk=> .inr hk,fun k hk=>by
     simp only[Value.ownBlock,aa]at hk
     subst hk
     exact tJ hown ho⟩
   ·obtain⟨v',w',hr,ho,hg,_⟩:=run_append_own (P:=P) w 0 t ty e i z size bytes ht hi hz hsize hby hzs hsz _ n xs hown ad m c news hl (hnews ad rfl) h1 h63 hbytes (Nat.zero_le _)
    subst hsize
    subst hby
    have hr2:=run_append_grow (P:=P) w t ty e i z ht hi hz ⟨g,0,none⟩ n cap xs hown.1 (hown.cells (g:=g) rfl) ad m c news hl (hnews ad rfl) (by omega) (by simp only[maxLen]at h63;omega) (growslice_fits (by omega) hbytes)
    rw[hr]at hr2
    simp only[Result.ok.injEq]at hr2
    refine⟨v',w',hr,ho,hg,fun k hk=> .inl ?_,fun k hk o=> ?_⟩
    ·rw[hr2.1]at hk
     simp only[Value.ownBlock,aa]at hk
     omega
    ·simp only[Value.ownBlock,aa]at hk
     subst hk
     have hb:w'.heap[g]? =w.heap[g]? :=by
      rw[hr2.2]
      obtain⟨_,hh,_⟩:=hrest
      exact b7 w.drew _ g (Array.getElem?_eq_some_iff.1 hh).1
     exact⟨by rw[World.cell?_of_block (a:=⟨g,o,none⟩) hb],World.frozen?_of_block (a:=⟨g,o,none⟩) hb⟩
theorem bV (v:Value) (h:∃p n c,v= .slice p n c):aF v=v.ownBlock:=by
 obtain⟨p,n,c,rfl⟩:=h
 cases p<;>rfl
theorem oP (h:aK E G s a w) {e:Ty} {y:PV} {vy:Value} {ys:List e.den} (hy:aP G.S G.σ w y [vy]) (e1:gY s e y=some ys):
  ∃G',G'.σ=G.σ∧aK E G' (s.upds (jt s y)) a w∧(∀i,(∃T t xs,s.mem i=some (.rows T t .no xs))→G'.β i=G.β i∧(s.upds (jt s y)).mem i=s.mem i)∧(∀i,s.mem i=none→(s.upds (jt s y)).mem i=none)∧
   ∃p m c news,vy= .slice p m c∧m=ys.length∧an (aw G'.S w e) ys news∧(p=none→m=0∧c=0)∧(∀ad,p=some ad→∀j u,news[j]? =some u→w.cell? (ad.add j)=some u):=by
 have list:∀{S':Nat→Prop} (zs:List e.den),aw S' w (.list e) zs [vy]→∃p m c news,vy= .slice p m c∧m=zs.length∧an (aw S' w e) zs news∧(p=none→m=0∧c=0)∧(∀ad,p=some ad→∀j u,news[j]? =some u→w.cell? (ad.add j)=some u):=by
  rintro S' zs ⟨p,c,hv,hc,hh⟩
  simp only[ay,and_true]at hv
  rcases hh with⟨rfl,hp⟩|⟨b,o,us,rfl,hS,hr,hrows⟩
  ·exact⟨p,_,c,[],hv,rfl,rfl,fun hn=>⟨rfl,hp hn⟩,by simp⟩
  ·refine⟨_,_,c,us,hv,rfl,hrows,fun hn=>by simp at hn,fun ad had j u hu=> ?_⟩
   simp only[aa]at had
   subst had
   rw[Addr.add_mid];exact hr j u hu
 unfold gY at e1
 split at e1
 ·simp only[aa]at e1;subst e1
  have:vy= .slice none 0 0:=by simpa[aP]using hy
  exact⟨G,rfl,h,fun _ _=>⟨rfl,rfl⟩,fun _ h=>h,none,0,0,[],this,rfl,rfl,fun _=>⟨rfl,rfl⟩,by simp⟩
 ·rename_i hp
  split at e1
  ·rename_i e' xs hl
   split at e1
   ·rename_i hh _
    simp only[aa]at e1;subst e1
    subst hh
    cases y with
    |list e0 zs=>
     simp only[St.asList,aa,Sigma.mk.injEq]at hl
     obtain⟨rfl,hl⟩:=hl
     cases eq_of_heq hl
     exact⟨G,rfl,h,fun _ _=>⟨rfl,rfl⟩,fun _ h=>h,list _ hy⟩
    |own id=>
     have hT:=eS h hy hl
     have hid:=xn h hy
     obtain⟨L,p0,n0,c0,hL,hv,hvy⟩:=hy
     simp only[ay,and_true]at hvy
     simp only[jt]
     cases hm:s.mem id with
     |none=>simp[St.asList,hm]at hl
     |some b=>
      cases b with
      |rows T t f zs=>
       simp only
       cases hf:f.isNo with
       |true=>
        have hf:f= .no:=by cases f<;>first|rfl|simp[Fl.isNo]at hf
        subst hf
        refine⟨G,rfl,h,fun _ _=>⟨rfl,rfl⟩,fun _ h=>h, ?_⟩
        have hl2:t=e'∧HEq zs xs:=by simpa[St.asList,hm]using hl
        obtain⟨rfl,hl2⟩:=hl2
        cases eq_of_heq hl2
        obtain⟨L',hL',hB,_⟩:=h.mem id _ hm
        rw[hL]at hL';simp only[aa]at hL';subst hL'
        obtain⟨_,v,vs,B1,e1,_,ho,hrw⟩:=hB
        simp only[ay,and_true]at e1
        subst e1
        obtain⟨hrw,_⟩:=cC.1 hrw
        rw[hvy]
        have ho:=gA (by simp) ho
        rcases ho.2 with⟨hh2,h0⟩|⟨g,cap,cur,hh2,hg⟩
        ·exact⟨none,0,0,vs,hh2,h0.symm,hrw,fun _=>⟨rfl,rfl⟩,by simp⟩
        ·rw[hh2]at ho
         refine⟨_,_,cap,vs,hh2,rfl,hrw,by simp,fun ad had j u hu=> ?_⟩
         simp only[aa]at had
         subst had
         rw[Addr.add_mid];exact cI ho j u hu
       |false=>
        obtain⟨S',h1,h2,h3,h4⟩:=h.frz id hid
        refine⟨⟨S',G.σ,fun i=>if i=id then[]else G.β i⟩,rfl,h4,fun i hi=> ?_,fun i hi=> ?_,list _ (aw.keep (fun b hb=>hb.elim (h1 b) fun⟨i,hi,hb'⟩=>h2 b (by simp only[PV.owns,List.mem_singleton]at hi;subst hi;exact hb')) (fun _ _=>rfl) _ _ _ hT)⟩
        ·obtain⟨T2,t2,xs2,hi⟩:=hi
         have hne:i≠id:=fun e=>by
          subst e;rw[hm]at hi
          simp only[aa,cj.rows.injEq]at hi
          rw[hi.2.2.1]at hf;simp[Fl.isNo]at hf
         exact⟨by simp[hne],bF _ hne⟩
        ·have hne:i≠id:=fun e=>by subst e;rw[hm]at hi;simp at hi
         exact(bF _ hne).trans hi
      |frows t zs=>
       refine⟨G,rfl,h,fun _ _=>⟨rfl,rfl⟩,fun _ h=>h, ?_⟩
       have hl2:t=e'∧HEq zs xs:=by simpa[St.asList,hm]using hl
       obtain⟨rfl,hl2⟩:=hl2
       cases eq_of_heq hl2
       obtain⟨L',hL',_,ht,_⟩:=h.mem id _ hm
       rw[hL]at hL';simp only[aa]at hL';subst hL'
       rw[←hvy]at ht
       exact list _ ht
      |_=>simp[St.asList,hm]at hl
    |view id l h'=>
     have hT:=eS h hy hl
     have hid:id%128≠127:=tp h hy id (by simp[PV.owns])
     obtain⟨L,p0,n0,c0,hL,hv,hbb,hvy⟩:=hy
     simp only[ay,and_true]at hvy
     simp only[jt]
     cases hm:s.mem id with
     |none=>simp[St.asList,hm]at hl
     |some b=>
      cases b with
      |rows T t f zs=>
       simp only
       cases hf:f.isNo with
       |true=>
        have hf:f= .no:=by cases f<;>first|rfl|simp[Fl.isNo]at hf
        subst hf
        refine⟨G,rfl,h,fun _ _=>⟨rfl,rfl⟩,fun _ h=>h, ?_⟩
        have hl2:t=e'∧HEq ((zs.take h'.toNat).drop l.toNat) xs:=by simpa[St.asList,hm]using hl
        ·obtain⟨rfl,hl2⟩:=hl2
         cases eq_of_heq hl2
         obtain⟨L',hL',hB,hz'⟩:=h.mem id _ hm
         rw[hL]at hL';simp only[aa]at hL';subst hL'
         obtain⟨_,v,vs,B1,e1,_,ho,hrw⟩:=hB
         simp only[ay,and_true]at e1
         subst e1
         obtain⟨hrw,_⟩:=cC.1 hrw
         have ho:=gA (by simp) ho
         have hb:(0≤l∧l≤h')∧h'≤(zs.length:Int):=by
          rcases ho.2 with⟨hh2,h0⟩|⟨g,cap,cur,hh2,hg⟩
          ·rw[hv]at hh2;simp only[Value.slice.injEq]at hh2
           obtain⟨_,hn0,_⟩:=hh2
           omega
          ·rw[hv]at hh2;simp only[Value.slice.injEq]at hh2
           obtain⟨_,hn0,_⟩:=hh2
           omega
         have hsub:=an.drop (aw.length t) (an.take (aw.length t) hrw h'.toNat) l.toNat
         have hlen:((zs.take h'.toNat).drop l.toNat).length=h'.toNat-l.toNat:=by rw[List.length_drop,List.length_take];omega
         have hnl:=an.length (aw.length t) hsub
         rcases ho.2 with⟨hh2,h0⟩|⟨g,cap,cur,hh2,hg⟩
         ·have hz0:zs=[]:=List.eq_nil_of_length_eq_zero h0
          rw[hv]at hh2
          simp only[Value.slice.injEq]at hh2
          obtain⟨rfl,rfl,rfl⟩:=hh2
          have hl0:l.toNat=0:=by omega
          have hh0:h'.toNat=0:=by omega
          rw[hl0,hh0]at hvy
          refine⟨none,0,0,_,by rw[hvy];rfl,by show 0=((zs.take h'.toNat).drop l.toNat).length;rw[hlen];omega,hsub,fun _=>⟨rfl,rfl⟩,by simp⟩
         ·rw[hh2]at ho hv
          simp only[Value.slice.injEq]at hv
          obtain⟨rfl,rfl,rfl⟩:=hv
          refine⟨_,_,_,_,hvy,by show h'.toNat-l.toNat=((zs.take h'.toNat).drop l.toNat).length;rw[hlen],hsub,fun hn=> ?_,fun ad had j u hu=> ?_⟩
          ·split at hn<;>simp at hn
          ·have hj:j< (h'.toNat-l.toNat)*t.size:=by
            have:=(List.getElem?_eq_some_iff.1 hu).1
            rw[hnl,hlen]at this;exact this
           have hlt:l.toNat<h'.toNat:=by
            rcases Nat.lt_or_ge l.toNat h'.toNat with x|x
            ·exact x
            ·rw[Nat.sub_eq_zero_of_le x,Nat.zero_mul]at hj;omega
           have hcap:zs.length≤cap:=hg.2.2.1
           rw[ak (show¬cap=l.toNat by omega)]at had
           simp only[Option.map_some,aa]at had
           subst had
           have hzz:L.z=t.size:=hz'
           rw[List.getElem?_drop]at hu
           have hu2:vs[l.toNat*t.size+j]? =some u:=by
            rw[List.getElem?_take]at hu
            split at hu
            ·exact hu
            ·cases hu
           have:=cI ho (l.toNat*t.size+j) u hu2
           rw[hzz]
           rw[Addr.add_mid,Addr.add_mid,Nat.add_assoc]
           exact this
       |false=>
        obtain⟨S',h1,h2,h3,h4⟩:=h.frz id hid
        refine⟨⟨S',G.σ,fun i=>if i=id then[]else G.β i⟩,rfl,h4,fun i hi=> ?_,fun i hi=> ?_,list _ (aw.keep (fun b hb=>hb.elim (h1 b) fun⟨i,hi,hb'⟩=>h2 b (by simp only[PV.owns,List.mem_singleton]at hi;subst hi;exact hb')) (fun _ _=>rfl) _ _ _ hT)⟩
        ·obtain⟨T2,t2,xs2,hi⟩:=hi
         have hne:i≠id:=fun e=>by
          subst e;rw[hm]at hi
          simp only[aa,cj.rows.injEq]at hi
          rw[hi.2.2.1]at hf;simp[Fl.isNo]at hf
         exact⟨by simp[hne],bF _ hne⟩
        ·have hne:i≠id:=fun e=>by subst e;rw[hm]at hi;simp at hi
         exact(bF _ hne).trans hi
      |frows t zs=>
       refine⟨G,rfl,h,fun _ _=>⟨rfl,rfl⟩,fun _ h=>h, ?_⟩
       have hl2:t=e'∧HEq ((zs.take h'.toNat).drop l.toNat) xs:=by simpa[St.asList,hm]using hl
       ·obtain⟨rfl,hl2⟩:=hl2
        cases eq_of_heq hl2
        obtain⟨L',hL',_,ht,hz2,_⟩:=h.mem id _ hm
        rw[hL]at hL';simp only[aa]at hL';subst hL'
        rw[hv]at ht
        have ht2:=ht
        obtain⟨p1,c1,hv1,_⟩:=ht2
        simp only[ay,Value.slice.injEq,and_true]at hv1
        obtain⟨rfl,rfl,rfl⟩:=hv1
        have:=rP (z:=L.z) ht hz2 hbb.1 hbb.2.1 hbb.2.2
        rw[←hvy]at this
        exact list _ this
      |_=>simp[St.asList,hm]at hl
    |_=>simp[St.asList]at hl
   ·simp at e1
  ·simp at e1
theorem jk (hC:C.OK) (h:aK E G s a w) {id:Nat} (hm:s.mem id=none) (hid:id%128<64) {sl ty q:TypeId} {i:TypeInfo} {z:Value} {size bytes n:Nat} (hu:C.P.underlying sl=some (.slice q)) (hi:C.P.info? q=some i) (hz:i.zero=some z) (hs:i.size=size) (hby:i.bytes=bytes) (hzs:z.cells.size=size) (hpos:0<size)
  {v:Value} {xv:List Value} (hown:w.ownsRow 0 q size v n xv) (hk0:∀k,v.ownBlock=some k→¬G.S k∧k<w.heap.size∧(E.W.heap.size≤k∨E.O k)∧∀i,k∉G.β i)
  {vy:Value} {m:Nat} {news:List Value} (hyo:w.ownsRow 0 q size vy m news) (h1:∀u∈news,u.oneCell'=true) (h63:n+m≤maxLen) (hbytes:(n+m)*bytes≤140737488355328)
  {b:cj} {BB:List Nat} (hnd:BB.Nodup) (hBB:∀k∈BB,¬G.S k∧k<w.heap.size∧(E.W.heap.size≤k∨E.O k)∧(∀i,k∉G.β i)∧v.ownBlock≠some k)
  (hB:∀(w':World) (v':Value) (σ':Sg),w'.ownsRow 0 q size v' (n+m) (xv++news)→di G.S w w'→(∀k∈BB,w'.heap[k]? =w.heap[k]?)→b8 G.σ σ'→kg G.S σ' w' ⟨v',size⟩ b ((aF v').toList++BB)):
  ∃v' w' G',(Builtin.append_ #[sl,sl] ty #[v,vy]).run C.P w= .ok v' w'∧aP (Gh.S G') (Gh.σ G') w' (.own id) [v']∧aK E G' (s.upd (.set id b)) a w':=by
 obtain⟨p,m',c,rfl,rfl,hp,hnews⟩:∃p m' c,vy= .slice p m' c∧m'=m∧(p=none→m'=0∧c=0)∧(∀ad,p=some ad→∀j u,news[j]? =some u→w.cell? (ad.add j)=some u):=by
  rcases hyo.2 with⟨hh,h0⟩|⟨g,cap,cur,hh,_⟩
  ·exact⟨none,0,0,hh,h0.symm,fun _=>⟨rfl,rfl⟩,by simp⟩
  ·rw[hh]at hyo
   refine⟨_,_,cap,hh,rfl,by simp,fun ad had j u hu=> ?_⟩
   simp only[aa]at had
   subst had
   rw[Addr.add_mid];exact cI hyo j u hu
 obtain⟨v',w',hr,ho,hg,hloc,hshape⟩:=fk (P:=C.P) w (ty:=ty) hu hi hz hs hby hzs hpos hown hyo.1 hp hnews h1 h63 hbytes
 have hsl:∃p n c,v'= .slice p n c:=by
  rcases ho.2 with⟨hh,_⟩|⟨g,cap,cur,hh,_⟩<;>exact⟨_,_,_,hh⟩
 have hold:di G.S w w':=fun q hq=>hg.block q (h.old q hq) fun e=>(hk0 q e.symm).1 hq
 have hBw:∀k∈BB,w'.heap[k]? =w.heap[k]? :=fun k hk=>hg.block k (hBB k hk).2.1 fun e=>(hBB k hk).2.2.2.2 e.symm
 have hbv:∀k,aF v'=some k→w.heap.size≤k∨v.ownBlock=some k:=fun k hk=>hloc k (by rw[←bV v' hsl];exact hk)
 have hnew:=h.fresh2 hm hid b ⟨v',size⟩ ((aF v').toList++BB) v.ownBlock hg.os hg.tape hg.output hg.size (fun q hq hne=>hg.block q hq hne) (fun q hq=>by
   obtain⟨a1,a2,a3,a4⟩:=hk0 q hq
   exact⟨a1,a2,a3.imp (fun x=>x) fun x=>⟨x,hshape q hq⟩,a4⟩) (fun k hk=>by
   rcases List.mem_append.1 hk with hk|hk
   ·simp only[Option.mem_toList]at hk
    exact⟨.inl (hbv k hk),(ho.lt k (by rw[←bV v' hsl];exact hk)).2⟩
   ·obtain⟨a1,a2,a3,a4,_⟩:=hBB k hk
    exact⟨.inr ⟨a1,a3,a4⟩,Nat.lt_of_lt_of_le a2 hg.size⟩) (by
   refine List.nodup_append.2 ⟨by cases aF v'<;>simp,hnd,fun k hk k' hk' e=> ?_⟩
   subst e
   simp only[Option.mem_toList]at hk
   obtain⟨_,a2,_,_,a5⟩:=hBB k hk'
   rcases hbv k hk with x|x
   ·omega
   ·exact a5 x) (hB w' v' _ ho hold hBw (ep (h.dom id hm).1))
 refine⟨v',w',_,hr, ?_,hnew⟩
 obtain⟨p',n',c',rfl⟩:=hsl
 exact fJ
theorem lx (h:aK E G s a w) {j:Nat} {T:TypeId} {e:Ty} {f:Fl} (hf:f.isBox=false) {vy:Value} (hy:aP G.S G.σ w (.own j) [vy]):
  (∀{ys:List e.den},s.mem j=some (.rows T e f ys)→∃vs B2,w.ownsRow 0 T e.size vy ys.length vs∧G.β j=(aF vy).toList++B2∧aO (aU G.S w e f) ys vs B2∧0<e.size)∧
  (∀{ys:List e.den} {i:Int} {cs:List PV},s.mem j=some (.opn T e f ys i cs)→∃u pre post B1 B2,w.ownsRow 0 T e.size vy ys.length (pre++(u++post))∧G.β j=(aF vy).toList++(B1++B2)∧pre.length=i.toNat*e.size∧u.length=e.size∧0≤i∧i< (ys.length:Int)∧aO (aU G.S w e f) (ys.take i.toNat) pre B1∧aj G.S G.σ w cs u∧aO (aU G.S w e f) (ys.drop (i.toNat+1)) post B2∧0<e.size):=by
 have hf':f≠ .box:=fun e=>by rw[e]at hf;simp[Fl.isBox]at hf
 obtain⟨L',_,_,_,hL',_,hv⟩:=hy
 simp only[ay,and_true]at hv
 subst hv
 refine⟨fun{ys} hm=> ?_,fun{ys i cs} hm=> ?_⟩
 ·obtain⟨L,hL,⟨hp,v,vs,B2,e1,hβ,ho,hrw⟩,_⟩:=h.mem j _ hm
  rw[hL]at hL';simp only[aa]at hL';subst hL'
  simp only[ay,and_true]at e1
  subst e1
  exact⟨vs,B2,gA hf' ho,hβ,hrw,hp⟩
 ·obtain⟨L,hL,hpos,g0,gl,hz,u,pre,post,B1,B2,ho,hpl,hul,k1,kc,k3,hβ2⟩:=h.mem j _ hm
  rw[hL]at hL';simp only[aa]at hL';subst hL'
  exact⟨u,pre,post,B1,B2,gA hf' ho,hβ2,hpl,hul,g0,gl,k1,kc,k3,hpos⟩
theorem il (h:aK E G s a w) {j:Nat} {b:cj} (hm:s.mem j=some b) (hb:∀cs,b≠ .box cs):∀k∈G.β j,¬G.S k∧k<w.heap.size∧(E.W.heap.size≤k∨E.O k):=fun k hk=>by
 refine⟨(h.off j k hk).1,(h.off j k hk).2, ?_⟩
 rcases h.mine j k hk with x|x|⟨_,cs0,_,_,g1,_⟩
 ·exact .inl x
 ·exact .inr x
 ·rw[hm]at g1;simp only[aa]at g1;exact absurd g1 (hb cs0)
theorem kR {e:Ty} {f:Fl}:∀{xs:List e.den} {vs:List Value} {B:List Nat},aO (aU S w e f) xs vs B→∀u∈vs,u.oneCell'=true:=by
 have el:∀(e:Ty) (f:Fl) (x:e.den) (us:List Value) (B:List Nat),aU S w e f x us B→∀u∈us,u.oneCell'=true:=fun e f x us B h=>aw.one e x us (aU.data (S':=fun _=>True) (fun _ _=>trivial) _ _ _ _ _ (fun _ _=>trivial) h)
 intro xs vs B h
 exact an.one (fun x vs hx=>hx) (aO.rows (Q':=fun x us=>∀u∈us,u.oneCell'=true) (fun x us B1 _ hx=>el _ _ _ _ _ hx) h)
theorem vR (hC:C.OK) (h:aK E G s a w) {id:Nat} (hid:id%128<64) (hm:s.mem id=none) {sl ty q:TypeId} {I Q:TI} (hI:C.ti sl=some I) (hsh:I.sh= .slice q) (hQ:C.ti q=some Q) (hz1:1≤Q.size) {x y:PV} {vx vy:Value} {m:Nat} {us:List bJ} (hx:aP G.S G.σ w x [vx]) (hy:aP G.S G.σ w y [vy]) (e:nz s id q Q.ty x y=some (m,us)) (hb:aD m Q.bytes=true):
  ∃v' w' G',(Builtin.append_ #[sl,sl] ty #[vx,vy]).run C.P w= .ok v' w'∧aP (Gh.S G') (Gh.σ G') w' (.own id) [v']∧aK E G' (s.upds us) a w':=by
 obtain⟨_,⟨d,hu,_,hd,_⟩,_⟩:=hC.ti sl _ hI
 rw[hsh]at hd
 simp only at hd;subst hd
 obtain⟨⟨i,z,hi,hs,hby,hz,hsame,hzl⟩,_,hsz,_⟩:=hC.ti q Q hQ
 have hzs:z.cells.size=Q.ty.size:=by rw[hzl,hsz]
 have hpos:0<Q.ty.size:=by rw[hsz];exact hz1
 obtain⟨hb1,hb2⟩:=yq hb
 have nobox:∀{T:TypeId} {e:Ty} {f:Fl} {xs:List e.den} (cs:List PV),cj.rows T e f xs≠ .box cs:=fun _=>by simp
 have nobox2:∀{T:TypeId} {e:Ty} {f:Fl} {xs:List e.den} {i:Int} {c:List PV} (cs:List PV),cj.opn T e f xs i c≠ .box cs:=fun _=>by simp
 unfold nz at e
 split at e
 ·rename_i j
  split at e
  ·rename_i T f0 f ys ix cs hmj
   have e9:=ab e
   clear e
   rcases e9 with⟨hc,e⟩|⟨_,e⟩
   ·simp only[aB,Bool.not_eq_true']at hc
    obtain⟨hT,hf⟩:=hc
    have hT:=aG hT
    subst hT
    split at e
    ·rename_i hh _
     subst hh
     obtain⟨u,pre,post,B1,B2,ho,hβ,hpl,hul,g0,gl,k1,kc,k3,_⟩:=(lx h (j:=j) (T:=T) (e:=Q.ty) (f:=f) hf hy).2 hmj
     have hfr:=il h hmj nobox2
     have hnd:=h.nodup j
     rw[hβ]at hnd hfr
     have hnd2:=(List.nodup_append.1 hnd).2.1
     have hone:∀x∈pre++(u++post),x.oneCell'=true:=fun x hx=>by
      rcases List.mem_append.1 hx with hx|hx
      ·exact kR k1 x hx
      ·rcases List.mem_append.1 hx with hx|hx
       ·exact aj.ones kc x hx
       ·exact kR k3 x hx
     have hidj:id≠j:=fun e=>by subst e;rw[hm]at hmj;simp at hmj
     split at e
     ·simp only[aa,ar]at e
      obtain⟨rfl,rfl⟩:=e
      have:vx= .slice none 0 0:=by simpa[aP]using hx
      subst this
      have hkill:=h.kill hmj
      obtain⟨v',w',G',r1,r2,r3⟩:=jk hC hkill (id:=id) (by rw[ax _ _ hidj];exact hm) hid (ty:=ty) hu hi hz (hs.trans hsz.symm) hby hzs hpos (World.ownsRow_nil w 0 T Q.ty.size) (fun k hk=>by simp[Value.ownBlock]at hk) ho hone (by simp only[maxLen];omega) (by rw[Nat.zero_add];exact hb1)
       (b:= .opn T Q.ty f (bQ rfl ys) ix cs) (BB:=B1++B2) hnd2 (fun k hk=>by
        obtain⟨a1,a2,a3⟩:=hfr k (by simp only[List.mem_append]at hk⊢;exact .inr hk)
        refine⟨a1,a2,a3,fun i' hi'=> ?_,by simp[Value.ownBlock]⟩
        by_cases e1:i'=j
        ·simp[az,e1]at hi'
        ·simp only[az,ak e1]at hi'
         exact h.apart i' j e1 k hi' (by rw[hβ];simp only[List.mem_append]at hk⊢;exact .inr hk))
       (fun w' v' σ' hr hS hB hσ=>by
        rw[Nat.zero_add,List.nil_append]at hr
        exact⟨hpos,g0,gl,rfl,u,pre,post,B1,B2,.inl hr,hpl,hul,aO.imp (fun x us C hC'=>aU.keep (fun _ x=>x) hS _ _ _ _ _ fun k hk=>hB k (by simp[hC' k hk])) k1,aj.keep (fun _ x=>x) hS hσ kc,
         aO.imp (fun x us C hC'=>aU.keep (fun _ x=>x) hS _ _ _ _ _ fun k hk=>hB k (by simp[hC' k hk])) k3,rfl⟩)
      exact⟨v',w',G',r1,r2,r3⟩
     ·rename_i l
      split at e
      ·rename_i T' e' f' xs hml
       have e9:=ab e
       clear e
       rcases e9 with⟨hc,e⟩|⟨_,e⟩
       ·simp only[aB,Bool.not_eq_true',bh]at hc
        obtain⟨⟨hT,hf'⟩,hlj⟩:=hc
        have hT:=aG hT
        have hlj:l≠j:=Nat.ne_of_beq_eq_false hlj
        subst hT hf'
        split at e
        ·rename_i hh _
         subst hh
         simp only[aa,ar]at e
         obtain⟨rfl,rfl⟩:=e
         obtain⟨xv,BX,hox,hβx,hrx,_⟩:=(lx h (j:=l) (T:=T') (e:=Q.ty) (f:=f') hf hx).1 hml
         have hfx:=il h hml nobox
         have hndx:=h.nodup l
         rw[hβx]at hndx hfx
         have hidl:id≠l:=fun e=>by subst e;rw[hm]at hml;simp at hml
         have hkl:=h.kill hml
         have hkill:=hkl.kill (j:=j) (b:= .opn T' Q.ty f' ys ix cs) (by rw[ax _ _ (Ne.symm hlj)];exact hmj)
         have hsl:∃p n c,vx= .slice p n c:=by obtain⟨_,_,_,_,_,hh,hv⟩:=hx;simp only[ay,and_true]at hv;exact⟨_,_,_,hv.trans hh⟩
         have hgone:∀i' k,k∈az (az G.β l []) j [] i'→i'≠l∧i'≠j∧k∈G.β i':=fun i' k hk=>by
          by_cases e1:i'=j
          ·simp[az,e1]at hk
          ·by_cases e2:i'=l
           ·simp[az,e2]at hk
           ·simp only[az,ak e1,ak e2]at hk;exact⟨e2,e1,hk⟩
         have hxb:∀k,vx.ownBlock=some k→k∈(aF vx).toList:=fun k hk=>by rw[bV _ hsl,hk];simp
         obtain⟨v',w',G',r1,r2,r3⟩:=jk hC hkill (id:=id) (by rw[ax _ _ hidj,ax _ _ hidl];exact hm) hid (ty:=ty) hu hi hz (hs.trans hsz.symm) hby hzs hpos hox (fun k hk=>by
           obtain⟨a1,a2,a3⟩:=hfx k (by simp only[List.mem_append];exact .inl (hxb k hk))
           refine⟨a1,a2,a3,fun i' hi'=> ?_⟩
           obtain⟨e1,_,hi'⟩:=hgone i' k hi'
           exact h.apart i' l e1 k hi' (by rw[hβx];simp only[List.mem_append];exact .inl (hxb k hk))) ho hone (by simp only[maxLen];omega) hb1
          (b:= .opn T' Q.ty f' (bQ rfl xs++bQ rfl ys) ((xs.length:Int)+ix) cs) (BB:=(BX++B1)++B2) (by
           rw[aZ]
           refine List.nodup_append.2 ⟨(List.nodup_append.1 hndx).2.1,hnd2,fun k hk k' hk' e=> ?_⟩
           subst e
           exact h.apart l j hlj k (by rw[hβx];simp[hk]) (by rw[hβ];simp only[List.mem_append]at hk'⊢;exact .inr hk')) (fun k hk=>by
           rw[aZ]at hk
           rcases List.mem_append.1 hk with hk|hk
           ·obtain⟨a1,a2,a3⟩:=hfx k (by simp[hk])
            refine⟨a1,a2,a3,fun i' hi'=> ?_,fun e=>(List.nodup_append.1 hndx).2.2 k (hxb k e) k hk rfl⟩
            obtain⟨e1,_,hi'⟩:=hgone i' k hi'
            exact h.apart i' l e1 k hi' (by rw[hβx];simp[hk])
           ·obtain⟨a1,a2,a3⟩:=hfr k (by simp only[List.mem_append]at hk⊢;exact .inr hk)
            refine⟨a1,a2,a3,fun i' hi'=> ?_,fun e=>h.apart l j hlj k (by rw[hβx];simp only[List.mem_append];exact .inl (hxb k e)) (by rw[hβ];simp only[List.mem_append]at hk⊢;exact .inr hk)⟩
            obtain⟨_,e1,hi'⟩:=hgone i' k hi'
            exact h.apart i' j e1 k hi' (by rw[hβ];simp only[List.mem_append]at hk⊢;exact .inr hk))
          (fun w' v' σ' hr hS hB hσ=>by
           have hxl:=aO.rows (Q':=fun _ (us:List Value)=>us.length=Q.ty.size) (fun x us B1 _ hx=>aU.length _ _ _ _ _ hx) hrx
           have hxv:xv.length=xs.length*Q.ty.size:=hox.1
           have hn:((xs.length:Int)+ix).toNat=xs.length+ix.toNat:=by omega
           refine⟨hpos,by omega,by simp only[bQ,List.length_append];omega,rfl,u,xv++pre,post,BX++B1,B2,.inl ?_, ?_,hul, ?_,aj.keep (fun _ x=>x) hS hσ kc, ?_,rfl⟩
           ·simp only[bQ,List.length_append,aZ]at hr⊢;exact hr
           ·rw[hn,List.length_append,hxv,hpl,Nat.add_mul]
           ·rw[hn]
            have:(bQ rfl xs++bQ rfl ys:List Q.ty.den).take (xs.length+ix.toNat)=xs++ys.take ix.toNat:=by simp only[bQ,List.take_length_add_append]
            rw[this]
            exact(aO.imp (fun x us C hC'=>aU.keep (fun _ x=>x) hS _ _ _ _ _ fun k hk=>hB k (by simp[hC' k hk])) hrx).append (aO.imp (fun x us C hC'=>aU.keep (fun _ x=>x) hS _ _ _ _ _ fun k hk=>hB k (by simp[hC' k hk])) k1)
           ·rw[hn]
            have:(bQ rfl xs++bQ rfl ys:List Q.ty.den).drop (xs.length+ix.toNat+1)=ys.drop (ix.toNat+1):=by simp only[bQ,Nat.add_assoc,List.drop_length_add_append]
            rw[this]
            exact aO.imp (fun x us C hC'=>aU.keep (fun _ x=>x) hS _ _ _ _ _ fun k hk=>hB k (by simp[hC' k hk])) k3)
         exact⟨v',w',G',r1,r2,r3⟩
        ·simp at e
       ·simp at e
      ·simp at e
     ·simp at e
    ·simp at e
   ·simp at e
  ·rename_i T f0 f ys hmj
   have e9:=ab e
   clear e
   rcases e9 with⟨hc,e⟩|⟨_,e⟩
   ·simp only[aB,Bool.not_eq_true']at hc
    obtain⟨⟨hT,hf⟩,_⟩:=hc
    have hT:=aG hT
    subst hT
    split at e
    ·rename_i hh _
     subst hh
     obtain⟨yv,BY,ho,hβ,hry,_⟩:=(lx h (j:=j) (T:=T) (e:=Q.ty) (f:=f) hf hy).1 hmj
     have hfr:=il h hmj nobox
     have hnd:=h.nodup j
     rw[hβ]at hnd hfr
     have hnd2:=(List.nodup_append.1 hnd).2.1
     have hidj:id≠j:=fun e=>by subst e;rw[hm]at hmj;simp at hmj
     split at e
     ·rename_i l
      split at e
      ·rename_i T' e' f' xs hml
       have e9:=ab e
       clear e
       rcases e9 with⟨hc,e⟩|⟨_,e⟩
       ·simp only[aB,Bool.not_eq_true',bh]at hc
        obtain⟨⟨hT,hf'⟩,hlj⟩:=hc
        have hT:=aG hT
        have hlj:l≠j:=Nat.ne_of_beq_eq_false hlj
        subst hT hf'
        split at e
        ·rename_i hh _
         subst hh
         simp only[aa,ar]at e
         obtain⟨rfl,rfl⟩:=e
         obtain⟨xv,BX,hox,hβx,hrx,_⟩:=(lx h (j:=l) (T:=T') (e:=Q.ty) (f:=f') hf hx).1 hml
         have hfx:=il h hml nobox
         have hndx:=h.nodup l
         rw[hβx]at hndx hfx
         have hidl:id≠l:=fun e=>by subst e;rw[hm]at hml;simp at hml
         have hkl:=h.kill hml
         have hkill:=hkl.kill (j:=j) (b:= .rows T' Q.ty f' ys) (by rw[ax _ _ (Ne.symm hlj)];exact hmj)
         have hsl:∃p n c,vx= .slice p n c:=by obtain⟨_,_,_,_,_,hh,hv⟩:=hx;simp only[ay,and_true]at hv;exact⟨_,_,_,hv.trans hh⟩
         have hgone:∀i' k,k∈az (az G.β l []) j [] i'→i'≠l∧i'≠j∧k∈G.β i':=fun i' k hk=>by
          by_cases e1:i'=j
          ·simp[az,e1]at hk
          ·by_cases e2:i'=l
           ·simp[az,e2]at hk
           ·simp only[az,ak e1,ak e2]at hk;exact⟨e2,e1,hk⟩
         have hxb:∀k,vx.ownBlock=some k→k∈(aF vx).toList:=fun k hk=>by rw[bV _ hsl,hk];simp
         obtain⟨v',w',G',r1,r2,r3⟩:=jk hC hkill (id:=id) (by rw[ax _ _ hidj,ax _ _ hidl];exact hm) hid (ty:=ty) hu hi hz (hs.trans hsz.symm) hby hzs hpos hox (fun k hk=>by
           obtain⟨a1,a2,a3⟩:=hfx k (by simp only[List.mem_append];exact .inl (hxb k hk))
           refine⟨a1,a2,a3,fun i' hi'=> ?_⟩
           obtain⟨e1,_,hi'⟩:=hgone i' k hi'
           exact h.apart i' l e1 k hi' (by rw[hβx];simp only[List.mem_append];exact .inl (hxb k hk))) ho (kR hry) (by simp only[maxLen];omega) hb1
          (b:= .rows T' Q.ty f' (bQ rfl xs++bQ rfl ys)) (BB:=BX++BY) (by
           refine List.nodup_append.2 ⟨(List.nodup_append.1 hndx).2.1,hnd2,fun k hk k' hk' e=> ?_⟩
           subst e
           exact h.apart l j hlj k (by rw[hβx];simp[hk]) (by rw[hβ];simp[hk'])) (fun k hk=>by
           rcases List.mem_append.1 hk with hk|hk
           ·obtain⟨a1,a2,a3⟩:=hfx k (by simp[hk])
            refine⟨a1,a2,a3,fun i' hi'=> ?_,fun e=>(List.nodup_append.1 hndx).2.2 k (hxb k e) k hk rfl⟩
            obtain⟨e1,_,hi'⟩:=hgone i' k hi'
            exact h.apart i' l e1 k hi' (by rw[hβx];simp[hk])
           ·obtain⟨a1,a2,a3⟩:=hfr k (by simp[hk])
            refine⟨a1,a2,a3,fun i' hi'=> ?_,fun e=>h.apart l j hlj k (by rw[hβx];simp only[List.mem_append];exact .inl (hxb k e)) (by rw[hβ];simp[hk])⟩
            obtain⟨_,e1,hi'⟩:=hgone i' k hi'
            exact h.apart i' j e1 k hi' (by rw[hβ];simp[hk]))
          (fun w' v' σ' hr hS hB hσ=>by
           refine⟨⟨hpos,v',xv++yv,BX++BY,rfl,rfl,.inl ?_, ?_⟩,rfl⟩
           ·simp only[bQ,List.length_append];exact hr
           ·exact(aO.imp (fun x us C hC'=>aU.keep (fun _ x=>x) hS _ _ _ _ _ fun k hk=>hB k (by simp[hC' k hk])) hrx).append (aO.imp (fun x us C hC'=>aU.keep (fun _ x=>x) hS _ _ _ _ _ fun k hk=>hB k (by simp[hC' k hk])) hry))
         exact⟨v',w',G',r1,r2,r3⟩
        ·simp at e
       ·simp at e
      ·simp at e
     ·simp at e
    ·simp at e
   ·simp at e
  ·simp at e
 ·simp at e
theorem qb (hC:C.OK) (h:aK E G s a w) {id:Nat} (hid:id%128<64) {sl ty:TypeId} {x y:PV} {vx vy:Value} {k:SV→List bJ→List Nat→Option R} {rs:List Nat} (hx:aP G.S G.σ w x [vx]) (hy:aP G.S G.σ w y [vy]) (e:dS C s id sl x y (fun p us=>k (.v p) us rs)=some r):
  co E a C.P (Builtin.append_ #[sl,sl] ty #[vx,vy]) w s k r:=by
 unfold dS at e
 split at e
 ·rename_i q _ _ _ _ _ hI
  split at e
  ·rename_i Q hQ
   rcases ab e with⟨hz1,e⟩|⟨_,e⟩
   ·have hz1:=bi hz1
    split at e
    ·rename_i m us had
     obtain⟨hm,e⟩:=aR e
     rcases ab e with⟨hb,e⟩|⟨_,e⟩
     ·obtain⟨v',w',G',r1,r2,r3⟩:=vR hC h hid hm (ty:=ty) hI rfl hQ hz1 hx hy had hb
      exact⟨.v (.own id),v',us,rs,G',w',r1,aC.v r2,r3,e⟩
     ·simp at e
    rename_i hno0
    clear hno0
    split at e
    ·rename_i ys hys
     obtain⟨_,⟨d,hu,_,hd,_⟩,_⟩:=hC.ti sl _ hI
     simp only at hd;subst hd
     obtain⟨⟨i,z,hi,hs,hby,hz,hsame,hzl⟩,_,hsz,_⟩:=hC.ti q Q hQ
     have hzs:z.cells.size=Q.ty.size:=by rw[hzl,hsz]
     obtain⟨G',gσ,hsim,hrw,hno,p,m,c,news,rfl,rfl,hrows,hp,hnews⟩:=oP h hy hys
     have hnl:news.length=ys.length*Q.ty.size:=an.length (aw.length Q.ty) hrows
     have hone:∀u∈news,u.oneCell'=true:=an.one (aw.one Q.ty) hrows
     have hpos:0<Q.ty.size:=by rw[hsz];exact hz1
     split at e
     ·obtain⟨hm,e⟩:=aR e
      rcases ab e with⟨hb,e⟩|⟨_,e⟩
      ·obtain⟨hb1,hb2⟩:=yq hb
       have:vx= .slice none 0 0:=by simpa[aP]using hx
       subst this
       have hown:=World.ownsRow_nil w 0 q Q.ty.size
       obtain⟨v',w',hr,ho,hg,hloc,_⟩:=fk (P:=C.P) w (ty:=ty) hu hi hz (by rw[hs,hsz]) hby hzs hpos hown hnl hp hnews hone (by simp only[maxLen];omega) (by simpa using hb1)
       simp only[Nat.zero_add,List.nil_append]at ho
       have hsl:∃p n c,v'= .slice p n c:=by
        rcases ho.2 with⟨hh,_⟩|⟨g,cap,cur,hh,_⟩<;>exact⟨_,_,_,hh⟩
       have hgb:∀q,q<w.heap.size→w'.heap[q]? =w.heap[q]? :=fun q hq=>hg.block q hq (by simp[Value.ownBlock])
       have hnew:=hsim.fresh (hno id hm) hid (.rows q Q.ty .no ys) ⟨v',Q.ty.size⟩ (aF v').toList none hg.os hg.tape hg.output hg.size (fun q hq _=>hgb q hq) (fun q hq=>by simp at hq) (fun k hk=>by
        simp only[Option.mem_toList]at hk
        rw[bV v' hsl]at hk
        exact⟨(hloc k hk).imp (fun x=>x) (fun x=>by simp[Value.ownBlock]at x),(ho.lt k hk).2⟩) (by cases aF v'<;>simp)
        ⟨⟨hpos,_,news,[],rfl,by simp,.inl ho,cC.2 ⟨an.imp (aw.keep (fun _ x=>x) (fun q hq=>hgb q (hsim.old q hq)) Q.ty) _ _ hrows,rfl⟩⟩,rfl⟩
       refine⟨.v (.own id),v',_,rs,_,w',hr, ?_,by rw[bb];exact hnew,e⟩
       obtain⟨p',n',c',rfl⟩:=hsl
       exact aC.v fJ
      ·simp at e
     ·rename_i j _
      split at e
      ·rename_i T e' f xs hmj
       rcases ab e with⟨hT,e3⟩|⟨_,e3⟩
       ·simp only[aB]at hT
        obtain⟨hT,hf⟩:=hT
        have hT:=aG hT
        have hf:f= .no:=by cases f<;>first|rfl|simp[Fl.isNo]at hf
        subst hT hf
        split at e3
        ·rename_i he _
         obtain⟨hm,e4⟩:=aR e3
         clear e3 e
         have e:=e4
         clear e4
         rcases ab e with⟨hb,e⟩|⟨_,e⟩
         ·obtain⟨hb1,hb2⟩:=yq hb
          subst he
          obtain⟨hβj,hmj'⟩:=hrw j ⟨_,_,_,hmj⟩
          rw[hmj]at hmj'
          obtain⟨L,hL,hB,hz'⟩:=hsim.mem j _ hmj'
          obtain⟨L',p1,n1,c1,hL',hv1,hvx⟩:=hx
          rw[gσ]at hL
          rw[hL]at hL';simp only[aa]at hL';subst hL'
          simp only[ay,and_true]at hvx
          subst hvx
          obtain⟨hpos',v0,us,B2,e1,hβ2,hown,hrx⟩:=hB
          simp only[ay,and_true]at e1
          subst e1
          obtain⟨hrx',hB1⟩:=cC.1 hrx
          clear hrx
          have hrx:=hrx'
          clear hrx'
          subst hB1
          rw[List.append_nil]at hβ2
          have hsl0:∃p n c,L.v= .slice p n c:=⟨_,_,_,hv1⟩
          have hown:=gA (by simp) hown
          obtain⟨v',w',hr,ho,hg,hloc,hshape⟩:=fk (P:=C.P) w (ty:=ty) hu hi hz (by rw[hs,hsz]) hby hzs hpos hown hnl hp hnews hone (by simp only[maxLen];omega) hb1
          have hsl:∃p n c,v'= .slice p n c:=by
           rcases ho.2 with⟨hh,_⟩|⟨g,cap,cur,hh,_⟩<;>exact⟨_,_,_,hh⟩
          have hidj:id≠j:=fun e=>by subst e;rw[hm]at hmj;simp at hmj
          have hkill:=hsim.kill hmj'
          have hjβ:∀q,L.v.ownBlock=some q→q∈G'.β j:=fun q hq=>by
           rw[←bV _ hsl0]at hq
           rw[hβ2,hq];simp
          have hk0:∀q,L.v.ownBlock=some q→¬G'.S q∧q<w.heap.size∧(E.W.heap.size≤q∨(E.O q∧jh w w' q))∧∀i,q∉az G'.β j [] i:=by
           intro q hq
           have hin:=hjβ q hq
           obtain⟨h1,h2⟩:=hsim.off j q hin
           refine⟨h1,h2, ?_,fun i hi=> ?_⟩
           ·rcases hsim.mine j q hin with x|x|⟨_,cs0,L0,o0,g1,_⟩
            ·exact .inl x
            ·exact .inr ⟨x,hshape q hq⟩
            ·rw[hmj']at g1;simp at g1
           ·by_cases e:i=j
            ·simp[az,e]at hi
            ·simp only[az,ak e]at hi;exact hsim.apart i j e q hi hin
          have hold:di G'.S w w':=fun q hq=>hg.block q (hsim.old q hq) fun e=>(hk0 q e.symm).1 hq
          have hnew:=hkill.fresh (id:=id) (by rw[ax _ _ hidj];exact hno id hm) hid (.rows T Q.ty .no (bQ rfl xs++ys)) ⟨v',Q.ty.size⟩ (aF v').toList L.v.ownBlock hg.os hg.tape hg.output hg.size (fun q hq hne=>hg.block q hq hne) hk0 (fun k hk=>by
           simp only[Option.mem_toList]at hk
           rw[bV v' hsl]at hk
           exact⟨hloc k hk,(ho.lt k hk).2⟩) (by cases aF v'<;>simp)
           ⟨⟨hpos,_,us++news,[],rfl,by simp,by
             have hlen:xs.length+ys.length=(bQ rfl xs++ys).length:=by rw[List.length_append,sm]
             rw[hlen]at ho;exact .inl ho,cC.2 ⟨an.append (an.imp (aw.keep (fun _ x=>x) hold Q.ty) _ _ hrx) (an.imp (aw.keep (fun _ x=>x) hold Q.ty) _ _ hrows),rfl⟩⟩,rfl⟩
          refine⟨.v (.own id),v',_,rs,_,w',hr, ?_,by rw[bb];exact hnew,e⟩
          obtain⟨p',n',c',rfl⟩:=hsl
          exact aC.v fJ
         ·simp at e
        ·simp at e3
       ·simp at e3
      ·simp at e
     ·simp at e
    ·simp at e
   ·simp at e
  ·simp at e
 ·simp at e
theorem se (hC:C.OK) (h:aK E G s a w) {t:TypeId} (xo:Operand) {lo hi:Option Operand} {k:SV→List bJ→List Nat→Option R} {rs:List Nat}
  (e:gZ C s t (s.ev xo).pv (lo.map fun o=>(s.ev o).pv) (hi.map fun o=>(s.ev o).pv) (fun p us=>k (.v p) us rs)=some r):co E a C.P (Instr.sliceAt t (a.eval xo) (lo.map a.eval) (hi.map a.eval) none) w s k r:=by
 have lift:∀{lo:Option Operand} {n d:Int},((lo=none∧n=d)∨∃kd,lo.map a.eval=some (.int kd n))→(lo.map a.eval=none∧n=d)∨∃kd,lo.map a.eval=some (.int kd n):=fun h=>h.imp (fun⟨x,y⟩=>⟨by rw[x];rfl,y⟩) (fun x=>x)
 have pvr:∀{p:PV},(s.ev xo).pv=p→p≠ .undef→aP G.S G.σ w p [a.eval xo]:=by
  intro p hp hne
  have hr:=cH h xo
  cases hs:s.ev xo with
  |v q=>rw[hs]at hr hp;simp only[SV.pv]at hp;subst hp;exact aC.of_v hr hne
  |agg _=>rw[hs]at hp;exact absurd hp.symm hne
  |tup _ _=>rw[hs]at hp;exact absurd hp.symm hne
 unfold gZ at e
 split at e
 ·rename_i u hu
  rcases ab e with⟨ht,e⟩|⟨_,e⟩
  ·obtain⟨l,e,hl⟩:=cR h e
   obtain⟨hh,e,hhh⟩:=cR h e
   rcases ab e with⟨hb,e⟩|⟨_,e⟩
   ·obtain⟨h0,h1,h2⟩:=AD hb
    have hv:=kI (pvr hu (by simp))
    refine co.ofPV h ⟨.str (u.extract l.toNat hh.toNat),.string (u.extract l.toNat hh.toNat), ?_,rfl,e⟩
    rw[hv]
    simp only[Instr.sliceAt,Instr.slice,Sem.run_bind,run_underlying (gC hC ht),Result.andThen_ok]
    simp[io (P:=C.P) (w:=w) (b:=false) (lift hl) (lift hhh) h0 h1 h2 (Nat.le_refl _)]
   ·simp at e
  ·simp at e
 ·split at e
  ·rename_i e' xs hm
   rcases ab e with⟨ht,e⟩|⟨_,e⟩
   ·obtain⟨l,e,hl⟩:=cR h e
    obtain⟨hh,e,hhh⟩:=cR h e
    rcases ab e with⟨hb,e⟩|⟨_,e⟩
    ·obtain⟨h0,h1,h2⟩:=AD hb
     obtain⟨q,i,hu,hi,hz⟩:=cZ hC ht
     have hr:=pvr rfl (fun hh=>by rw[hh]at hm;simp[St.asList]at hm)
     have hT:=eS h hr hm
     obtain⟨G',g1,g2,g3,g4,_,g6⟩:=h.frzs ((s.ev xo).pv.owns) (tp h hr)
     have hT':aw G'.S w (.list e') xs [a.eval xo]:=aw.keep (fun b hb=>hb.elim (g2 b) fun⟨i,hi,hb⟩=>g3 i hi b hb) (fun _ _=>rfl) _ _ _ hT
     have hxx:=hT'
     obtain⟨p,cap,hv',hc,_⟩:=hxx
     simp only[ay,and_true]at hv'
     rw[hv']at hT'⊢
     exact⟨.v (.list e' ((xs.take hh.toNat).drop l.toNat)),_,_,rs,G',w,eu hu hi hz (lift hl) (lift hhh) h0 h1 h2 hc,rP hT' rfl h0 h1 h2,g6,e⟩
    ·simp at e
   ·simp at e
  ·simp at e
theorem vS (hC:C.OK) (h:aK E G s a w) {id:Nat} (hid:id%128<64) {t:TypeId} (xo:Operand) {lo hi:Option Operand} {k:SV→List bJ→List Nat→Option R} {rs:List Nat}
  (e:sr C s id t (s.ev xo).pv (lo.map fun o=>(s.ev o).pv) (hi.map fun o=>(s.ev o).pv) (fun p us=>k (.v p) us rs)=some r):co E a C.P (Instr.sliceAt t (a.eval xo) (lo.map a.eval) (hi.map a.eval) none) w s k r:=by
 have lift:∀{lo:Option Operand} {n d:Int},((lo=none∧n=d)∨∃kd,lo.map a.eval=some (.int kd n))→(lo.map a.eval=none∧n=d)∨∃kd,lo.map a.eval=some (.int kd n):=fun h=>h.imp (fun⟨x,y⟩=>⟨by rw[x];rfl,y⟩) (fun x=>x)
 unfold sr at e
 split at e
 ·rename_i j hx hlo
  split at e
  ·rename_i T e' f xs hmj
   rcases ab e with⟨ht,e3⟩|⟨_,e3⟩
   ·rw[aB]at ht
    obtain⟨hf,ht⟩:=ht
    have hf:f= .no:=by cases f<;>first|rfl|simp[Fl.isNo]at hf
    subst hf
    obtain⟨n,e4,hn⟩:=cR h e3
    rcases ab e4 with⟨hb,e5⟩|⟨_,e5⟩
    ·rw[aB,bh,bh]at hb
     obtain⟨h1,h2⟩:=hb
     obtain⟨hm,e6⟩:=aR e5
     obtain⟨q,i,hu,hi',hz⟩:=cZ hC ht
     have hlo':lo.map a.eval=none:=by cases lo with
      |none=>rfl
      |some _=>simp at hlo
     have hrx:aP G.S G.σ w (.own j) [a.eval xo]:=by
      have hr:=cH h xo
      cases hs:s.ev xo with
      |v p=>rw[hs]at hr hx;simp only[SV.pv]at hx;subst hx;exact aC.of_v hr (by simp)
      |agg _=>rw[hs]at hx;simp[SV.pv]at hx
      |tup _ _=>rw[hs]at hx;simp[SV.pv]at hx
     obtain⟨L,hL,hB,hz'⟩:=h.mem j _ hmj
     obtain⟨L',p1,n1,c1,hL',hv1,hvx⟩:=hrx
     rw[hL]at hL';simp only[aa]at hL';subst hL'
     simp only[ay,and_true]at hvx
     obtain⟨hpos,v0,us,B2,e1,hβ2,hown,hrows⟩:=hB
     simp only[ay,and_true]at e1
     subst e1
     obtain⟨hrows',hB1⟩:=cC.1 hrows
     subst hB1
     rw[List.append_nil]at hβ2
     have hsl0:∃p n c,L.v= .slice p n c:=⟨_,_,_,hv1⟩
     have hown:=gA (by simp) hown
     have hidj:id≠j:=fun e=>by subst e;rw[hm]at hmj;simp at hmj
     have hkill:=h.kill hmj
     have key:∃v':Value,(Instr.sliceAt t (a.eval xo) (lo.map a.eval) (hi.map a.eval) none).run C.P w= .ok v' w∧w.ownsRow 0 T e'.size v' (xs.take n.toNat).length (us.take (n.toNat*e'.size))∧v'.ownBlock=L.v.ownBlock∧∃p n c,v'= .slice p n c:=by
      have hlen:(xs.take n.toNat).length=n.toNat:=by rw[List.length_take];omega
      rw[hlen,hvx]
      rcases hown.2 with⟨hh,hn0⟩|⟨g,cap,cur,hh,hg0,hg,hcap,hmax,hcs,htk⟩
      ·rw[hh,hlo']
       have hn1:n.toNat=0:=by omega
       refine⟨.slice none 0 0, ?_,by rw[hn1,Nat.zero_mul];exact⟨by simp,.inl ⟨rfl,rfl⟩⟩,rfl,_,_,_,rfl⟩
       have:=eu (w:=w) hu hi' hz (p:=none) (len:=0) (cap:=0) (l:=0) (h:=n) (.inl ⟨rfl,rfl⟩) (by have:=lift hn;rw[hn0]at this;exact this) (by omega) h1 (by omega) (Nat.le_refl _)
       rw[this,hn1];rfl
      ·rw[hh,hlo']
       refine⟨.slice (some ⟨g,0,none⟩) n.toNat cap, ?_,⟨?_,.inr ⟨g,cap,cur,rfl,hg0,hg,by omega,hmax,hcs, ?_⟩⟩,rfl,_,_,_,rfl⟩
       ·have:=eu (w:=w) hu hi' hz (p:=some ⟨g,0,none⟩) (len:=xs.length) (cap:=cap) (l:=0) (h:=n) (.inl ⟨rfl,rfl⟩) (lift hn) (by omega) h1 h2 hcap
        rw[this]
        have e0:(0:Int).toNat=0:=rfl
        rw[e0,Nat.sub_zero,Nat.sub_zero,Nat.zero_mul]
        congr 2
        split<;>rfl
       ·rw[List.length_take,hown.1]
        exact Nat.min_eq_left (Nat.mul_le_mul_right _ (by omega))
       ·rw[←htk,List.take_take,Nat.min_eq_left (Nat.mul_le_mul_right _ (by omega))]
     obtain⟨v',hr,ho,hob,hsl⟩:=key
     have hbb:aF v'=aF L.v:=by rw[bV v' hsl,bV L.v hsl0,hob]
     have hk0:∀q,L.v.ownBlock=some q→¬G.S q∧q<w.heap.size∧(E.W.heap.size≤q∨(E.O q∧jh w w q))∧∀i,q∉az G.β j [] i:=by
      intro q hq
      have hin:q∈G.β j:=by rw[←bV _ hsl0]at hq;rw[hβ2,hq];simp
      obtain⟨h1,h2⟩:=h.off j q hin
      refine⟨h1,h2, ?_,fun i hi=> ?_⟩
      ·rcases h.mine j q hin with x|x|⟨_,cs0,L0,o0,g1,_⟩
       ·exact .inl x
       ·exact .inr ⟨x,fun o=>⟨rfl,rfl⟩⟩
       ·rw[hmj]at g1;simp at g1
      ·by_cases e:i=j
       ·simp[az,e]at hi
       ·simp only[az,ak e]at hi;exact h.apart i j e q hi hin
     have hnew:=hkill.fresh (id:=id) (by rw[ax _ _ hidj];exact hm) hid (.rows T e' .no (xs.take n.toNat)) ⟨v',L.z⟩ (aF v').toList L.v.ownBlock rfl rfl rfl (Nat.le_refl _) (fun _ _ _=>rfl) hk0 (fun k hk=>by
      simp only[Option.mem_toList]at hk
      rw[bV v' hsl]at hk
      have hlt:=(ho.lt k hk).2
      rw[hob]at hk
      exact⟨.inr hk,hlt⟩) (by cases aF v'<;>simp)
      ⟨⟨hpos,_,us.take (n.toNat*e'.size),[],rfl,by simp,.inl ho,cC.2 ⟨an.take (aw.length e') hrows' n.toNat,rfl⟩⟩,hz'⟩
     obtain⟨p',n',c',rfl⟩:=hsl
     exact⟨.v (.own id),_,_,rs,_,w,hr,aC.v fJ,hnew,e6⟩
    ·simp at e5
   ·simp at e3
  ·cases e
 ·cases e
theorem tK (hC:C.OK) (h:aK E G s a w) {t:TypeId} (xo:Operand) {lo hi:Option Operand} {k:SV→List bJ→List Nat→Option R} {rs:List Nat}
  (e:lD C s t (s.ev xo).pv (lo.map fun o=>(s.ev o).pv) (hi.map fun o=>(s.ev o).pv) (fun p=>k (.v p) [] rs)=some r):co E a C.P (Instr.sliceAt t (a.eval xo) (lo.map a.eval) (hi.map a.eval) none) w s k r:=by
 have lift:∀{lo:Option Operand} {n d:Int},((lo=none∧n=d)∨∃kd,lo.map a.eval=some (.int kd n))→(lo.map a.eval=none∧n=d)∨∃kd,lo.map a.eval=some (.int kd n):=fun h=>h.imp (fun⟨x,y⟩=>⟨by rw[x];rfl,y⟩) (fun x=>x)
 unfold lD at e
 split at e
 ·rename_i j hx
  split at e
  ·rename_i e' xs hm
   rcases ab e with⟨ht,e3⟩|⟨_,e3⟩
   ·obtain⟨l,e4,hl⟩:=cR h e3
    obtain⟨hh,e5,hhh⟩:=cR h e4
    rcases ab e5 with⟨hb,e6⟩|⟨_,e6⟩
    ·obtain⟨h0,h1,h2⟩:=AD hb
     obtain⟨q,i,hu,hi,hz⟩:=cZ hC ht
     have hrx:aP G.S G.σ w (.own j) [a.eval xo]:=by
      have hr:=cH h xo
      cases hs:s.ev xo with
      |v p=>rw[hs]at hr hx;simp only[SV.pv]at hx;subst hx;exact aC.of_v hr (by simp)
      |agg _=>rw[hs]at hx;simp[SV.pv]at hx
      |tup _ _=>rw[hs]at hx;simp[SV.pv]at hx
     obtain⟨L,hL,hLz,_,hT,_⟩:=ie h hm
     obtain⟨L',p,n,c,hL',hv,hva⟩:=hrx
     rw[hL]at hL';simp only[aa]at hL';subst hL'
     simp only[ay,and_true]at hva
     have hT2:=hT
     obtain⟨p1,c1,hv1,hc1,_⟩:=hT2
     simp only[ay,and_true]at hv1
     have hvv:=hv.symm.trans hv1
     simp only[Value.slice.injEq]at hvv
     obtain⟨rfl,rfl,rfl⟩:=hvv
     refine co.ofPV h ⟨.view j l hh,.slice (if c=l.toNat then p else p.map (·.add (l.toNat*L.z))) (hh.toNat-l.toNat) (c-l.toNat), ?_,⟨L,p,xs.length,c,hL,hv,⟨h0,h1,h2⟩,rfl⟩,e6⟩
     rw[hva,hv,hLz]
     exact eu hu hi hz (lift hl) (lift hhh) h0 h1 h2 hc1
    ·simp at e6
   ·simp at e3
  ·cases e
 ·cases e
end Go.Ps
