import Derived.Test.YtfgjcohcpehcjaaGreatPsM
namespace Go.Ps
set_option linter.unusedVariables false
variable {S S':Nat→Prop} {σ σ':Sg} {w w':World} {E:En} {G:Gh} {s:St} {a:Act} {C:b9} {R:Type} {r:R}
theorem kW {f:Fl} {T:TypeId} {z n b c:Nat} {us:List Value} (h:kf w f T z (.slice (some ⟨b,0,none⟩) n c) n us):w.rangeAt b 0 us:=by
 rcases h with h|⟨_,_,g,cap,cur,fz,hh,hheap,_,_,_,_,ht⟩
 ·exact cI h
 ·simp only[Value.slice.injEq,aa,Addr.mk.injEq,and_true,true_and]at hh
  obtain⟨rfl,rfl⟩:=hh
  intro j u hu
  rw[←ht,List.getElem?_take]at hu
  split at hu
  ·simp only[World.cell?,hheap,Option.isSome_none,Bool.false_eq_true,if_false,Nat.zero_add]
   rw[←Array.getElem?_toList];exact hu
  ·simp at hu
theorem qW {f:Fl} {T:TypeId} {z n:Nat} {v:Value} {us:List Value} (h:kf w f T z v n us) (hn:0<n):∃b c,v= .slice (some ⟨b,0,none⟩) n c:=by
 rcases yz.ofF h with⟨_,h0⟩|⟨b,c,rfl⟩
 ·omega
 ·exact⟨b,c,rfl⟩
theorem mD {b:Nat} {pre u post:List Value} (h:w.rangeAt b 0 (pre++(u++post))):w.rangeAt b pre.length u:=by
 have:=bC h pre.length u.length
 rw[Nat.zero_add,List.drop_left,List.take_left]at this
 exact this
theorem aK.open (h:aK E G s a w) {id j:Nat} {T:TypeId} {e:Ty} {f:Fl} {xs:List e.den} {i:Int} (hm:s.mem j=some (.rows T e f xs)) (h0:0≤i) (hi:i< (xs.length:Int))
  (hn:∀p∈(aL id e f (rd xs i) 0).2.1,s.mem p.1=none) (hid:id%128+(aL id e f (rd xs i) 0).2.2≤64):
  ∃G' L b c u,aK E G' (s.upds (.set j .dead::(cJ (aL id e f (rd xs i) 0).2.1++[.set j (.opn T e f xs i (aL id e f (rd xs i) 0).1)]))) a w∧G'.S=G.S∧b8 G.σ G'.σ∧G.σ j=some L∧L.v= .slice (some ⟨b,0,none⟩) xs.length c∧L.z=e.size∧
   aj G'.S G'.σ w (aL id e f (rd xs i) 0).1 u∧u.length=e.size∧w.rangeAt b (i.toNat*e.size) u:=by
 obtain⟨L,hL,⟨hp,v,vs,B,e1,hβ,ho,hrw⟩,hz⟩:=h.mem j _ hm
 simp only[ay,and_true]at e1
 subst e1
 have hi':i.toNat<xs.length:=by omega
 obtain⟨b,c,hv⟩:=qW ho (by omega)
 obtain⟨pre,u,post,B1,Bx,B2,rfl,rfl,hpl,k1,k2,k3⟩:=aO.split (fun x us B hh=>aU.length _ _ _ _ _ hh) hrw i.toNat hi'
 have hul:=aU.length _ _ _ _ _ k2
 have hx:rd xs i=xs[i.toNat]:=fm _ _ _ hi'
 rw[←hx]at k2
 have hnd:=h.nodup j
 rw[hβ]at hnd
 have hfree:=fun k (hk:k∈G.β j)=>(il h hm (fun _=>by simp) k hk)
 rw[hβ]at hfree
 have hkill:=h.kill hm
 have hne:∀p∈(aL id e f (rd xs i) 0).2.1,p.1≠j:=fun p hp e=>by have:=hn p hp;rw[e,hm]at this;simp at this
 obtain⟨n1,n2,n3⟩:=List.nodup_append.1 hnd
 obtain⟨m1,m2,m3⟩:=List.nodup_append.1 n2
 obtain⟨x1,x2,x3⟩:=List.nodup_append.1 m2
 have hkβ:∀q,q∈(aF L.v).toList++(B1++(Bx++B2))→∀i',q∉az G.β j [] i':=fun q hq i' hi'=>by
  by_cases e1:i'=j
  ·simp[az,e1]at hi'
  ·simp only[az,ak e1]at hi'
   exact h.apart i' j e1 q hi' (by rw[hβ];exact hq)
 obtain⟨G1,s1,gS,gσ,gc,gβ,gβ'⟩:=iK (id:=id) e f (rd xs i) u Bx 0 hkill k2 x1 (fun q hq=>by
   have hq':q∈(aF L.v).toList++(B1++(Bx++B2)):=by simp[hq]
   obtain⟨a1,a2,a3⟩:=hfree q hq'
   exact⟨a1,a2,hkβ q hq',a3⟩) (fun p hp=>by rw[ax _ _ (hne p hp)];exact hn p hp) (fun p hp=>by
   have h1:=(cA (id:=id) e f u 0).2 p hp
   rw[dq _ _ (rd xs i)]at h1
   left;omega)
 have hm1:((s.upd (.set j .dead)).upds (cJ (aL id e f (rd xs i) 0).2.1)).mem j=some .dead:=by rw[cq hne,bd]
 have hσ1:=gσ j L hL
 have hβ1:G1.β j=[]:=by rw[gβ' j hne];simp[az]
 have hin:∀k,k∈(aF L.v).toList++(B1++B2)→k∈(aF L.v).toList++(B1++(Bx++B2)):=fun k hk=>by
  simp only[List.mem_append]at hk⊢
  rcases hk with hk|hk|hk
  ·exact .inl hk
  ·exact .inr (.inl hk)
  ·exact .inr (.inr (.inr hk))
 have hadd:=s1.addB (id:=j) (b:= .opn T e f xs i (aL id e f (rd xs i) 0).1) (L:=L) (B:=(aF L.v).toList++(B1++B2)) (.inr hm1) (.inr hσ1) hβ1
  (by
   rw[fZ hσ1]
   exact⟨hp,h0,hi,hz,u,pre,post,B1,B2,ho,hpl,hul,aO.imp (fun x us C _=>aU.keep (fun b hb=>by rw[gS];exact hb) (fun _ _=>rfl) _ _ _ _ _ fun _ _=>rfl) k1,gc,aO.imp (fun x us C _=>aU.keep (fun b hb=>by rw[gS];exact hb) (fun _ _=>rfl) _ _ _ _ _ fun _ _=>rfl) k3,rfl⟩)
  (List.nodup_append.2 ⟨n1,List.nodup_append.2 ⟨m1,x2,fun k hk k' hk'=>m3 k hk k' (by simp[hk'])⟩,fun k hk k' hk'=>n3 k hk k' (by
   simp only[List.mem_append]at hk'⊢
   rcases hk' with hk'|hk'
   ·exact .inl hk'
   ·exact .inr (.inr hk'))⟩)
  (fun k hk=>by
   obtain⟨a1,a2,_⟩:=hfree k (hin k hk)
   refine⟨by rw[gS];exact a1,a2,fun i' hi'=> ?_⟩
   rcases gβ i' k hi' with x|x
   ·exact hkβ k (hin k hk) i' x
   ·rcases List.mem_append.1 hk with hk|hk
    ·exact n3 k hk k (by simp[x]) rfl
    ·rcases List.mem_append.1 hk with hk|hk
     ·exact m3 k hk k (by simp[x]) rfl
     ·exact x3 k x k hk rfl)
  (fun k hk=>(hfree k (hin k hk)).2.2.imp (fun x=>x) .inl)
 rw[fZ hσ1]at hadd
 refine⟨⟨G1.S,G1.σ,az G1.β j ((aF L.v).toList++(B1++B2))⟩,L,b,c,u, ?_,gS,gσ,hL,hv,hz,gc,hul, ?_⟩
 ·show aK E _ ((s.upd (.set j .dead)).upds _) a w
  rw[bb];exact hadd
 ·rw[←hpl];exact mD (by rw[hv]at ho;exact kW ho)
theorem uf (hC:C.OK) (h:aK E G s a w) {id:Nat} (hid:id%128=0) {t:TypeId} {p:PV} {v:Value} {k:SV→List bJ→List Nat→Option R} {rs:List Nat} (hp:aP G.S G.σ w p [v]) (e:kx C s id t p (fun x us=>k x us rs)=some r):co E a C.P (Instr.loadAt t v) w s k r:=by
 unfold kx at e
 split at e
 ·rename_i I hI
  have fin:∀{G':Gh} {us:List bJ} {b o:Nat} {vs:List Value} {cs:List PV},aK E G' (s.upds us) a w→v= .pointer (some ⟨b,o,none⟩)→w.rangeAt b o vs→aj G'.S G'.σ w cs vs→vs.length=I.size→qd I cs (fun x=>k x us rs)=some r→co E a C.P (Instr.loadAt t v) w s k r:=by
   intro G' us b o vs cs h' hv hr hc hlen e
   subst hv
   have hrun:=tl hC hI hr hc hlen
   rcases mc e with⟨ha,e⟩|⟨ha,c,rfl,hw,e⟩
   ·exact⟨.agg cs,_,us,rs,G',w,hrun.1 ha,⟨vs,rfl,hc⟩,h',e⟩
   ·obtain⟨x,rfl,hx⟩:=hrun.2 ha c rfl hw
    exact⟨.v c,x,us,rs,G',w,hx,aC.v (aj.of_one hc),h',e⟩
  split at e
  ·rename_i cs hl
   obtain⟨b,o,vs,hv,hr,hc,hlen,_⟩:=kJ h hp hl
   exact fin (us:=[]) h hv hr hc hlen e
  ·unfold oY at e
   split at e
   ·rename_i j i q _
    obtain⟨L,b,n,c,hL,hLv,h0,hlt,hq,hva⟩:=hp
    simp only[ay,and_true]at hva
    split at e
    ·rename_i T e1 f xs hm
     have e9:=ab e
     clear e
     rcases e9 with⟨hc,e⟩|⟨_,e⟩
     ·simp only[aB]at hc
      obtain⟨c1,c2⟩:=hc
      have c1:=bi c1
      split at e
      ·rename_i cs hcs
       obtain⟨L1,hL1,⟨_,v1,vs1,_,e2,_,ho,_⟩,_⟩:=h.mem j _ hm
       rw[hL]at hL1;simp only[aa]at hL1;subst hL1
       simp only[ay,and_true]at e2
       subst e2
       have hn:=fR ho hLv
       subst hn
       obtain⟨G',L',b',c',u,hs,gS,gσ,hL',hv',hz,hc,hul,hr⟩:=h.open (id:=id) hm h0 hlt (mC c2) (by omega)
       rw[hL]at hL';simp only[aa]at hL';subst hL'
       rw[hLv]at hv'
       simp only[Value.slice.injEq,aa,Addr.mk.injEq,and_true,true_and]at hv'
       obtain⟨rfl,rfl⟩:=hv'
       obtain⟨g1,g2,g3⟩:=iq hc hq hcs
       refine fin hs hva ?_ g1 (by rw[List.length_take,List.length_drop];omega) e
       rw[hz];exact bC hr q.off I.size
      ·simp at e
     ·simp at e
    ·rename_i T e1 f xs i' cs0 hm
     have e9:=ab e
     clear e
     rcases e9 with⟨hc,e⟩|⟨_,e⟩
     ·have hc:=of_decide_eq_true hc
      subst hc
      split at e
      ·rename_i cs hcs
       obtain⟨L1,hL1,hpos,g0,gl,hz,u,pre,post,B1,B2,ho,hpl,hul,k1,kc,k3,_⟩:=h.mem j _ hm
       rw[hL]at hL1;simp only[aa]at hL1;subst hL1
       have hn:=fR ho hLv
       subst hn
       rw[hLv]at ho
       have hr:=mD (kW ho)
       obtain⟨g1,g2,g3⟩:=iq kc hq hcs
       refine fin (us:=[]) h hva ?_ g1 (by rw[List.length_take,List.length_drop];omega) e
       rw[hz,←hpl];exact bC hr q.off I.size
      ·simp at e
     ·simp at e
    ·simp at e
   ·simp at e
 ·simp at e
theorem ug (hC:C.OK) (h:aK E G s a w) {t e n:Nat} {I:TI} {Q:TI} (hI:C.ti t=some I) (hsh:I.sh= .slice e) (hQ:C.ti e=some Q) {id:Nat} (hid:id%128<64) {ps:Array (Nat×Operand)} {f:Fl} {b:cj} {k:SV→List bJ→List Nat→Option R} {rs:List Nat}
  (hd:AJ f e Q.ty (s.evs ps.toList)=some b) (hn:ps.toList.length=n) (hz1:1≤Q.size) (hz2:n*Q.size≤16777216) (hm:s.mem id=none)
  (e':k (.v (.own id)) [.set id b] rs=some r):co E a C.P (Instr.buildSlice t n (ps.map fun(i,x)=>(i,a.eval x))) w s k r:=by
 obtain⟨_,_,hsz,_⟩:=hC.ti e Q hQ
 have hev:=nO h ps.toList
 have hlist:(ps.map fun(i,x)=>(i,a.eval x)).toList=ps.toList.map fun p=>(p.1,a.eval p.2):=by simp
 have hvl:(ps.toList.map fun p=>(p.1,a.eval p.2)).length=n:=by simpa using hn
 have hlen:(s.evs ps.toList).length=n:=by simp[St.evs,hn]
 have hold:∀(o:Obj) (q:Nat),G.S q→(w.alloc o).heap[q]? =w.heap[q]? :=fun o q hq=>b7 w o q (h.old q hq)
 have fin:∀{us:List (List Value)} {b:cj},dr (fun(q:Nat×Value) (u:List Value)=>q.2.cells.toList=u∧u.length=Q.ty.size) (ps.toList.map fun p=>(p.1,a.eval p.2)) us→(∀j (q:Nat×Value),(ps.toList.map fun p=>(p.1,a.eval p.2))[j]? =some q→q.1=0+j)→
   (∀(w':World) (σ':Sg),w'.ownsRow 0 e Q.ty.size (.slice (some ⟨w.heap.size,0,none⟩) n n) n us.flatten→di G.S w w'→b8 G.σ σ'→kg G.S σ' w' ⟨.slice (some ⟨w.heap.size,0,none⟩) n n,Q.ty.size⟩ b [w.heap.size])→k (.v (.own id)) [.set id b] rs=some r→co E a C.P (Instr.buildSlice t n (ps.map fun(i,x)=>(i,a.eval x))) w s k r:=by
  intro us b h3 h4 hB e'
  obtain⟨cells,hcl,hrun⟩:=qI (w:=w) hC hI hsh hQ hlist hvl hz1 hz2 h3 h4
  have hfl:us.flatten.length=n*Q.ty.size:=by
   rw[←hvl]
   clear hrun hcl h4 hB
   generalize (ps.toList.map fun p=>(p.1,a.eval p.2))=l at h3
   induction h3 with
   |nil=>simp
   |cons h t ih=>simp only[List.flatten_cons,List.length_append,List.length_cons,h.2,ih,Nat.add_mul];omega
  have hn2:n≤16777216:=Nat.le_trans (Nat.le_mul_of_pos_right n hz1) hz2
  have hnew:=h.fresh hm hid b ⟨.slice (some ⟨w.heap.size,0,none⟩) n n,Q.ty.size⟩ [w.heap.size] none (w':=w.alloc (.cells cells e)) rfl rfl rfl (by rw[dg];omega) (fun q hq _=>b7 w _ q hq) (fun q hq=>by simp at hq) (fun k hk=>by
    simp only[List.mem_singleton]at hk;subst hk
    exact⟨.inl (Nat.le_refl _),by rw[dg];omega⟩) (by simp) (hB _ _ ⟨hfl,.inr ⟨w.heap.size,n,cells,rfl,Nat.zero_le _,cL w _,Nat.le_refl _,by simp[maxLen];omega,by rw[←hfl,←hcl];simp,by rw[hcl,←hfl,List.take_length]⟩⟩ (hold _) (ep (h.dom id hm).1))
  exact⟨_,_,[.set id b],rs,_,_,hrun,aC.v fJ,hnew,e'⟩
 unfold AJ at hd
 have e9:=ab hd
 clear hd
 rcases e9 with⟨_,hd⟩|⟨_,hd⟩
 ·simp at hd
 split at hd
 ·rename_i hps
  simp only[aa]at hd
  subst hd
  have h0:n=0:=by rw[←hlen,hps];rfl
  subst h0
  have hp0:ps.toList=[]:=List.eq_nil_of_length_eq_zero hn
  rw[hp0]at fin
  exact fin (us:=[]) (b:= .rows e Q.ty f []) .nil (by simp) (fun w' σ' hr hS hσ=>⟨⟨by rw[hsz];exact hz1,_,[],[],rfl,rfl,.inl hr,rfl,rfl⟩,rfl⟩) e'
 ·rename_i x hps
  split at hd
  ·rename_i c hc
   split at hd
   ·rename_i hshp
    have e9:=ab hd
    clear hd
    rcases e9 with⟨hw,hd⟩|⟨_,hd⟩
    ·have hw:=aG hw
     simp only[aa]at hd
     subst hd
     have h1:n=1:=by rw[←hlen,hps];rfl
     subst h1
     rw[hps]at hev
     generalize hvs:(ps.toList.map fun p=>(p.1,a.eval p.2))=vs at hev fin
     cases hev with
     | @cons _ v _ vs' hq ht=>
      cases ht
      have hcc:=c9 hq.2 hc
      have hcl:=aj.length hcc
      refine fin (us:=[v.2.cells.toList]) (b:= .opn e Q.ty f [Q.ty.dflt] 0 c) (.cons ⟨rfl,by rw[hcl,hw]⟩ .nil) (fun j q hj=> ?_) (fun w' σ' hr hS hσ=> ?_) e'
      ·cases j with
       |zero=>simp only[List.getElem?_cons_zero,aa]at hj;subst hj;rw[←hq.1]
       |succ j=>simp at hj
      ·simp only[List.flatten_cons,List.flatten_nil,List.append_nil]at hr
       exact⟨by rw[hsz];exact hz1,by simp,by simp,rfl,v.2.cells.toList,[],[],[],[],.inl (by simpa using hr),by simp,by rw[hcl,hw],⟨rfl,rfl⟩,aj.keep (fun _ x=>x) hS hσ hcc,by simp[aO],by simp[aF]⟩
    ·simp at hd
   ·simp at hd
  ·simp at hd
 ·simp at hd
end Go.Ps
