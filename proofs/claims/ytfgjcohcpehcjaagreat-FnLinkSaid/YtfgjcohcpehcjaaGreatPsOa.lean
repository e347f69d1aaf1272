import Derived.Test.YtfgjcohcpehcjaaGreatPsO
namespace Go.Ps
set_option linter.unusedVariables false
variable {S S':Nat→Prop} {σ σ':Sg} {w w':World} {E:En} {G:Gh} {s s':St} {a:Act} {C:b9} {R:Type} {r:R}
theorem Dq {β:Nat→List Nat} (hap:∀i j,i≠j→∀k∈β i,k∉β j) (hnd:∀i,(β i).Nodup):∀{U:List Nat},U.Nodup→(U.flatMap β).Nodup
 | [],_=>by simp
 |i::U,h=>by
  obtain⟨h1,h2⟩:=List.nodup_cons.1 h
  simp only[List.flatMap_cons]
  refine List.nodup_append.2 ⟨hnd i,Dq hap hnd h2,fun k hk k' hk' e=> ?_⟩
  subst e
  obtain⟨j,hj,hk'⟩:=List.mem_flatMap.1 hk'
  exact hap i j (fun e=>h1 (e▸hj)) k hk hk'
theorem aK.closeU (h:aK E G s a w) (id:Nat):∃G',aK E G' (s.upds (closeU s id)) a w:=by
 unfold Go.Ps.closeU
 split
 ·rename_i T e f xs i cs hm
  split
  ·rename_i x U V hp
   cases hc:dj (id::U)&&g8 (id::U) V with
   |false=>exact⟨G,h⟩
   |true=>
    simp only[ac]
    simp only[aB]at hc
    have hU:=dw hc.1
    have hUV:=fO hc.2
    obtain⟨L,hL,hpos,g0,gl,hz,u,pre,post,B1,B2,ho,hpl,hul,k1,kc,k3,hβ⟩:=h.mem id _ hm
    have hV:=jY h _ _ _ _ _ _ _ _ hp kc
    obtain⟨G1,g1,g2,g3,g4,g5,s1⟩:=h.frzs V hV
    obtain⟨u',v,e1,hx,hv⟩:=dh h g2 _ _ _ _ _ _ _ _ hp kc g3
    cases hv
    rw[List.append_nil]at e1
    subst e1
    have hUm:∀j∈U,∃b,s.mem j=some b∧(∀bs,b= .box bs→j%128≠127):=iM _ _ _ _ _ _ _ hp
    have hm1:∀j∈id::U,(s.upds (V.map .frz)).mem j=s.mem j:=fun j hj=>er (hUV j hj)
    have s2:=s1.dead (w':=w) (ids:=id::U) (S'':=G1.S) (M':=fun _ _=>False) (fun j hj=>by
      rw[hm1 j hj]
      rcases List.mem_cons.1 hj with rfl|hj
      ·exact⟨_,hm⟩
      ·obtain⟨b,hb,_⟩:=hUm j hj;exact⟨b,hb⟩) (cM.refl _ _) (fun _ _ hF=>hF.elim) (fun _ x=>x) (fun _ x=> .inl x)
    have hi':i.toNat<xs.length:=by omega
    have hσ1:G1.σ id=some L:=by rw[g1];exact hL
    have hmineI:∀k∈G.β id,E.W.heap.size≤k∨E.O k:=fun k hk=>(il h hm (fun _=>by simp) k hk).2.2
    have hmineU:∀j∈U,∀k∈G.β j,E.W.heap.size≤k∨E.O k:=fun j hj k hk=>by
     obtain⟨b,hb,hb'⟩:=hUm j hj
     rcases h.mine j k hk with y|y|⟨y,cs0,_,_,y2,_⟩
     ·exact .inl y
     ·exact .inr y
     ·rw[hb]at y2;simp only[aa]at y2;exact absurd y (hb' cs0 y2)
    have hBm:∀k,k∈(aF L.v).toList++(B1++(U.flatMap G.β++B2))→∃j∈id::U,k∈G.β j:=fun k hk=>by
     have hid:k∈(aF L.v).toList++(B1++B2)∨k∈U.flatMap G.β:=by
      simp only[List.mem_append]at hk⊢
      rcases hk with hk|hk|hk|hk
      ·exact .inl (.inl hk)
      ·exact .inl (.inr (.inl hk))
      ·exact .inr hk
      ·exact .inl (.inr (.inr hk))
     rcases hid with hid|hid
     ·exact⟨id,by simp,by rw[hβ];exact hid⟩
     ·obtain⟨j,hj,hk⟩:=List.mem_flatMap.1 hid
      exact⟨j,by simp[hj],hk⟩
    have hnd:((aF L.v).toList++(B1++(U.flatMap G.β++B2))).Nodup:=by
     have h1:=h.nodup id
     rw[hβ]at h1
     obtain⟨n1,n2,n3⟩:=List.nodup_append.1 h1
     obtain⟨m1,m2,m3⟩:=List.nodup_append.1 n2
     have hUn:=Dq h.apart h.nodup (List.nodup_cons.1 hU).2
     have hdis:∀k∈U.flatMap G.β,k∉G.β id:=fun k hk hk'=>by
      obtain⟨j,hj,hk⟩:=List.mem_flatMap.1 hk
      exact h.apart j id (fun e=>(List.nodup_cons.1 hU).1 (e▸hj)) k hk hk'
     rw[hβ]at hdis
     refine List.nodup_append.2 ⟨n1,List.nodup_append.2 ⟨m1,List.nodup_append.2 ⟨hUn,m2,fun k hk k' hk' e=>hdis k hk (by subst e;simp[hk'])⟩,fun k hk k' hk' e=> ?_⟩,fun k hk k' hk' e=> ?_⟩
     ·subst e
      rcases List.mem_append.1 hk' with hk'|hk'
      ·exact hdis k hk' (by simp[hk])
      ·exact m3 k hk k hk' rfl
     ·subst e
      simp only[List.mem_append]at hk'
      rcases hk' with hk'|hk'|hk'
      ·exact n3 k hk k (by simp[hk']) rfl
      ·exact hdis k hk' (by simp only[List.mem_append];exact .inl hk)
      ·exact n3 k hk k (by simp[hk']) rfl
    have hadd:=s2.addB (id:=id) (b:= .rows T e f (xs.set i.toNat x)) (L:=L) (B:=(aF L.v).toList++(B1++(U.flatMap G.β++B2))) (.inr (by rw[eU,av (by simp)])) (.inr hσ1) (by simp)
     (by
      simp only
      rw[fZ hσ1]
      exact⟨⟨hpos,_,_,_,rfl,rfl,by rw[List.length_set];exact ho,aO.join hi' (aO.imp (fun x us C _=>aU.keep g2 (fun _ _=>rfl) _ _ _ _ _ fun _ _=>rfl) k1) hx (aO.imp (fun x us C _=>aU.keep g2 (fun _ _=>rfl) _ _ _ _ _ fun _ _=>rfl) k3)⟩,hz⟩)
     hnd (fun k hk=>by
      obtain⟨j,hj,hk⟩:=hBm k hk
      have hk1:k∈G1.β j:=by rw[g5 j (hUV j hj)];exact hk
      refine⟨(s1.off j k hk1).1,(h.off j k hk).2,fun i' hi'=> ?_⟩
      by_cases e1:i'∈id::U
      ·simp only[av e1]at hi';simp at hi'
      ·simp only[ak e1]at hi'
       exact s1.apart j i' (fun e=>e1 (e▸hj)) k hk1 hi')
     (fun k hk=>by
      obtain⟨j,hj,hk⟩:=hBm k hk
      rcases List.mem_cons.1 hj with rfl|hj
      ·exact(hmineI k hk).imp (fun x=>x) .inl
      ·exact(hmineU j hj k hk).imp (fun x=>x) .inl)
    have key:s.upds (V.map .frz++((id::U).map (.set · .dead)++[.set id (.rows T e f (xs.set i.toNat x))]))=(((s.upds (V.map .frz)).upds ((id::U).map (.set · .dead))).upd (.set id (.rows T e f (xs.set i.toNat x)))):=by
     rw[bb,bb];rfl
    rw[key]
    exact⟨_,hadd⟩
  ·exact⟨G,h⟩
 ·exact⟨G,h⟩
theorem aK.closeS:∀(l:List Nat) {G:Gh} {s:St},aK E G s a w→∃G',aK E G' (closeS l s) a w
 | [],G,s,h=>⟨G,h⟩
 |id::l,G,s,h=>by
  obtain⟨G1,h1⟩:=h.closeU id
  exact aK.closeS l h1
theorem aK.subs (h0:aK E G s a w):∀{ls:List (Nat×LK)} {q q':St} {G':Gh},aK E G' q a w→subs s ls q=some q'→∃G'',aK E G'' q' a w
 | [],q,q',G',h,e=>by
  simp only[Go.Ps.subs,aa]at e
  subst e;exact⟨_,h⟩
 |(t,k)::ls,q,q',G',h,e=>by
  cases k<;>try exact aK.subs h0 (ls:=ls) h e
  rename_i t0 k
  simp only[Go.Ps.subs]at e
  split at e
  ·rename_i i p p' h1 h2 h3
   split at e
   ·rename_i T e1 f xs n cs T' e' f' ys hm hm'
    split at e
    ·rename_i j m hc hc'
     rcases ab e with⟨hb,e2⟩|⟨_,e2⟩
     ·clear e
      simp only[aB]at hb
      obtain⟨⟨⟨b1,b2⟩,b3⟩,b4⟩:=hb
      have b1:=aG b1
      have b2:=aG b2
      have b3:=bi b3
      subst b1
      obtain⟨L,hL,hpos,g0,gl,hz,u,pre,post,B1,B2,ho,hpl,hul,k1,kc,k3,hβ⟩:=h0.mem p _ hm
      obtain⟨b,c,hLv⟩:=qW ho (by omega)
      have t2:=h0.tmp t0
      rw[h2]at t2
      obtain⟨L2,_,_,_,hL2,_,hv2⟩:=aC.of_v t2 (by simp)
      rw[hL]at hL2;simp only[aa]at hL2;subst hL2
      have t3:=h.tmp t0
      rw[h3]at t3
      obtain⟨L3,_,_,_,hL3,_,hv3⟩:=aC.of_v t3 (by simp)
      have hvv:L3.v=L.v:=by have:=hv2.symm.trans hv3;simpa using this.symm
      obtain⟨L4,hL4,⟨_,v4,vs4,_,e4,_,ho4,_⟩,_⟩:=h.mem p' _ hm'
      rw[hL3]at hL4;simp only[aa]at hL4;subst hL4
      simp only[ay,and_true]at e4
      subst e4
      have hlen:xs.length=ys.length:=by
       have:=fR ho4 (hvv.trans hLv)
       omega
      obtain⟨G2,L5,b5,c5,u5,s5,gS,gσ,hL5,hv5,hz5,hc5,hu5,hr5⟩:=h.open (id:=128*t+32) hm' g0 (by omega) (mC b4) (by omega)
      rw[hL3]at hL5;simp only[aa]at hL5;subst hL5
      rw[hvv,hLv]at hv5
      simp only[Value.slice.injEq,aa,Addr.mk.injEq,and_true]at hv5
      obtain⟨rfl,_,rfl⟩:=hv5
      rw[hLv]at ho
      have hr:=mD (kW ho)
      obtain⟨v1,q1,q2⟩:=nT kc hc
      obtain⟨v6,q3,q4⟩:=nT hc5 hc'
      have hv1:=hr k v1 q1
      have hv6:=hr5 k v6 q3
      rw[hpl,b2,hv6]at hv1
      simp only[aa]at hv1
      subst hv1
      have t1:=h0.tmp t
      rw[h1]at t1
      obtain⟨L6,_,_,_,hL6,_,hv7⟩:=aC.of_v t1 (by simp)
      obtain⟨L7,_,_,_,hL7,_,hv8⟩:=q2
      rw[hL6]at hL7;simp only[aa]at hL7;subst hL7
      refine aK.subs h0 (ls:=ls) (s5.put' (d:=t) ?_) e2
      have:a.tmps.getD t undef=v6:=by
       simp only[ay,and_true]at hv7 hv8
       rw[hv7,hv8]
      rw[this]
      exact aC.v q4
     ·simp at e2
    ·simp at e
   ·simp at e
  ·simp at e
end Go.Ps
