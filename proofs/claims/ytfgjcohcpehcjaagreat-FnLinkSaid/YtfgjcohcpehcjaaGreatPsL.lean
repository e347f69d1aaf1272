import Derived.Test.YtfgjcohcpehcjaaGreatPsK
namespace Go.Ps
set_option linter.unusedVariables false
variable {S S':Nat→Prop} {σ σ':Sg} {w w' w0:World} {E:En} {G G0:Gh} {s s' s0:St} {a:Act} {C:b9} {R:Type} {r:R}
theorem fZ {σ:Sg} {i:Nat} {L:yN} (h:σ i=some L):cc σ i L=σ:=by
 funext q
 by_cases e:q=i
 ·subst e;rw[bK,h]
 ·simp[cc,e]
theorem gF:∀{ms:List (Nat×cj)} {s:St},(ms.map (·.1)).Nodup→∀i,(s.upds (cJ ms)).mem i=match ao ms i with|some b=>some b|none=>s.mem i
 | [],_,_,_=>rfl
 |(j,b)::ms,s,hnd,i=>by
  simp only[List.map_cons,List.nodup_cons]at hnd
  simp only[cJ,List.map_cons,St.upds,ao]
  rw[show(List.map (fun p=>bJ.set p.1 p.2) ms)=cJ ms from rfl]
  by_cases e:i=j
  ·subst e
   rw[ij]
   simp only[ac]
   rw[cq fun p hp e=>hnd.1 (List.mem_map.2 ⟨p,hp,e⟩),bd]
  ·rw[dF e]
   simp only[af]
   rw[gF hnd.2,ax _ _ e]
theorem ub {nw:List (Nat×cj)} (h0:aK E G0 s0 a w0) (hw:w0.heap.size≤w.heap.size) (hth:∀b,b<w0.heap.size→∀o,(w.cell? ⟨b,o,none⟩).isSome=(w0.cell? ⟨b,o,none⟩).isSome∧w.frozen? ⟨b,o,none⟩=w0.frozen? ⟨b,o,none⟩) (hold:di G0.S w0 w):
  ∀(bs:List Bk) (K:List Bq) (cells:List PV) (ms:List Value) (us:List bJ) {G:Gh} {s:St},eM G0 w0 s0 bs K→aK E G s a w→(∀b,G0.S b→G.S b)→b8 G0.σ G.σ→
   (∀b o n,.var b o n∈K→(∀q,q<o∨o+n≤q→w.cell? ⟨b,q,none⟩=w0.cell? ⟨b,q,none⟩)∧¬G.S b∧∀i,b∉G.β i)→(K.flatMap Bq.blk).Nodup→
   (∀i∈o3 bs,s.mem i=some .dead∧G.β i=[])→(o3 bs).Nodup→aj G.S G.σ w cells ms→mU nw s cells→mY w K ms→eN s0 nw bs cells=some us→
   ∃G',aK E G' (s.upds us) a w∧G'.S=G.S∧G'.σ=G.σ:=by
 intro bs
 induction bs with
 |nil=>
  intro K cells ms us G s hb h hS hσ hv hnk hd hnd hc hN hm e
  cases cells with
  |nil=>simp only[eN,aa]at e;subst e;exact⟨G,h,rfl,rfl⟩
  |cons _ _=>simp[eN]at e
 |cons b bs ih=>
  intro K cells ms us G s hb h hS hσ hv hnk hd hnd hc hN hm e
  cases hb with
  | @var id o bk o0 τ _ K cs L hm0 hL0 hv0 hβ0 hl t=>
   simp only[eN]at e
   split at e
   ·rename_i seg rest hseg hrest
    split at e
    ·rename_i old hold0
     split at e
     ·rename_i new hput
      split at e
      ·rename_i us1 hback
       simp only[aa]at e
       subst e
       rw[hm0]at hold0
       simp only[aa,cj.box.injEq]at hold0
       subst hold0
       obtain⟨u,v,rfl,hul,hur,hut,hmv⟩:=hm
       obtain⟨hout,hbS,hbβ⟩:=hv bk (o0+o) τ.size (by simp)
       obtain⟨L',hL',b',o',vs,hv',hcs,hr,ht,hβ'⟩:=h0.mem id _ hm0
       rw[hL0]at hL';simp only[aa]at hL';subst hL'
       rw[hv0]at hv'
       simp only[Value.pointer.injEq,aa,Addr.mk.injEq,and_true]at hv'
       obtain⟨rfl,rfl⟩:=hv'
       have hlt:=(h0.off id bk (by rw[hβ0];simp)).2
       have hle:o+τ.size≤vs.length:=by rw[aj.length hcs];exact hl
       have g1:=(aj.take hc hseg).1
       rw[List.take_append_of_le_length (by omega),List.take_of_length_le (by omega)]at g1
       have g2:=aj.drop hc hrest
       rw[List.drop_append,List.drop_eq_nil_of_le (by omega),List.nil_append,hul,Nat.sub_self,List.drop_zero]at g2
       have hcs':aj G.S G.σ w cs vs:=aj.keep hS hold hσ hcs
       have hnewc:=aj.put hcs' hput g1 hul
       have hnl:(vs.take o++(u++vs.drop (o+τ.size))).length=vs.length:=by simp;omega
       have hwid:bq new=bq cs:=by rw[←aj.length hnewc,←aj.length hcs,hnl]
       have hLG:G.σ id=some L:=hσ _ _ hL0
       have hdi:=hd id (by simp[o3])
       have hadd:=h.addB (id:=id) (b:= .box new) (L:=L) (B:=[bk]) (.inr hdi.1) (.inr hLG) hdi.2 ⟨bk,o0,_,hv0,by rw[fZ hLG];exact hnewc,fun j x hx=> ?_,fun j hj=> ?_,rfl⟩ (by simp) (fun k hk=>by
         simp only[List.mem_singleton]at hk;subst hk
         exact⟨hbS,Nat.lt_of_lt_of_le hlt hw,hbβ⟩) (fun k hk=>by
         simp only[List.mem_singleton]at hk;subst hk
         refine(h0.mine id k (by rw[hβ0];simp)).imp (fun x=>x) fun x=>x.imp (fun x=>x) fun⟨q1,cs0,L0,o2,q2,q3,q4,q5⟩=> ?_
         rw[hm0]at q2;simp only[aa,cj.box.injEq]at q2;subst q2
         rw[hL0]at q3;simp only[aa]at q3;subst q3
         exact⟨q1,new,o2,rfl,q4,by rw[hwid];exact q5⟩)
       ·rw[fZ hLG]at hadd
        simp only[o3,List.nodup_cons]at hnd
        simp only[List.flatMap_cons,Bq.blk,List.cons_append,List.nil_append,List.nodup_cons]at hnk
        obtain⟨G',f1,f2,f3⟩:=ih K rest v us1 t hadd hS hσ (fun b2 o2 n2 hb2=>by
         obtain⟨q1,q2,q3⟩:=hv b2 o2 n2 (by simp[hb2])
         refine⟨q1,q2,fun i hi=> ?_⟩
         by_cases e1:i=id
         ·simp only[az,av e1,List.mem_singleton]at hi
          subst hi
          exact hnk.1 (List.mem_flatMap.2 ⟨_,hb2,by simp[Bq.blk]⟩)
         ·simp only[az,ak e1]at hi;exact q3 i hi) hnk.2 (fun i hi=>by
         have hne:i≠id:=fun z=>hnd.1 (z▸hi)
         obtain⟨q1,q2⟩:=hd i (by simp[o3,hi])
         exact⟨by rw[ax _ _ hne];exact q1,by simp[az,hne,q2]⟩) hnd.2 g2 ⟨(hN.suffix (kK hrest)).1,fun j hj T0 e0 f0 xs0 hj0=>by
          have:=(hN.suffix (kK hrest)).2 j hj _ _ _ _ hj0
          rw[ax _ _ fun z=>by subst z;rw[hdi.1]at this;simp at this];exact this⟩ hmv hback
        exact⟨G',f1,f2,f3⟩
       ·by_cases hj1:o≤j∧j<o+τ.size
        ·rw[List.getElem?_append_right (by simp;omega)]at hx
         have hl1:(vs.take o).length=o:=by simp;omega
         rw[hl1,List.getElem?_append_left (by omega)]at hx
         have:=hur (j-o) x hx
         rwa [show o0+o+(j-o)=o0+j by omega]at this
        ·rw[hout (o0+j) (by omega)]
         refine hr j x ?_
         by_cases h2:j<o
         ·rw[List.getElem?_append_left (by simp;omega),List.getElem?_take,av h2]at hx
          exact hx
         ·have hl1:(vs.take o).length=o:=by simp;omega
          rw[List.getElem?_append_right (by omega),hl1,List.getElem?_append_right (by omega),List.getElem?_drop,hul,show o+τ.size+(j-o-τ.size)=j by omega]at hx
          exact hx
       ·rw[hnl]at hj
        have q1:=ht j hj
        have q2:=hth bk hlt (o0+j)
        exact⟨by rw[q2.1];exact q1.1,by rw[q2.2];exact q1.2⟩
      ·simp at e
     ·simp at e
    ·simp at e
   ·simp at e
  | @lend cs uo τ f _ K hc0 hl hz t=>
   simp only[eN]at e
   split at e
   ·rename_i us1 cells1 hlend
    split at e
    ·rename_i us2 hback
     simp only[aa]at e
     subst e
     obtain⟨v,rfl,hmv⟩:=hm
     simp only[o3]at hd hnd
     obtain⟨n1,n2,n3⟩:=List.nodup_append.1 hnd
     have hz':ko G.σ τ f cs:=ko.mono hσ hz
     obtain⟨G1,s1,gS,gσ,gd,gn,gN,gβ,gi⟩:=tr (nw:=nw) τ f cs cells [] cells1 uo v us1 h hlend (aj.keep hS hold hσ hc0) (by omega) hz' (by rw[List.take_of_length_le (by omega)];exact hc) hN (fun i hi=>hd i (by simp[hi])) n1
     obtain⟨G',f1,f2,f3⟩:=ih K cells1 v us2 t s1 (fun b hb=>by rw[gS];exact hS b hb) (by rw[gσ];exact hσ) (fun b2 o2 n2' hb2=>by
      obtain⟨q1,q2,q3⟩:=hv b2 o2 n2' (by simp[hb2])
      refine⟨q1,by rw[gS];exact q2,fun i hi=> ?_⟩
      obtain⟨j,hj⟩:=gβ i b2 hi
      exact q3 j hj) (by simpa[Bq.blk]using hnk) (fun i hi=>gi i (fun x=>n3 i x i hi rfl) (hd i (by simp[hi])).1 (hd i (by simp[hi])).2) n2 (by rw[gS,gσ];exact gn) gN hmv hback
     exact⟨G',by rw[bb];exact f1,f2.trans gS,f3.trans gσ⟩
    ·simp at e
   ·simp at e
theorem dw:∀{l:List Nat},dj l=true→l.Nodup
 | [],_=> .nil
 |i::l,h=>by
  simp only[dj,aB,Bool.not_eq_true']at h
  refine List.nodup_cons.2 ⟨fun hi=> ?_,dw h.2⟩
  have:=List.any_eq_false.1 h.1 i hi
  simp at this
theorem fO {U V:List Nat} (h:g8 U V=true):∀i∈U,i∉V:=fun i hi hv=>by
 have:=List.all_eq_true.1 h i hi
 simp only[Bool.not_eq_true']at this
 have:=List.any_eq_false.1 this i hv
 simp at this
theorem uc {l:List Nat} (h:xC l=true):∀i∈l,i%128≠127:=fun i hi=>by
 have:=List.all_eq_true.1 h i hi
 have:i%128<127:=bi this
 omega
theorem mC {l:List (Nat×cj)} (h:fX s l=true):∀p∈l,s.mem p.1=none:=fun p hp=>by
 have:=List.all_eq_true.1 h p hp
 split at this
 ·assumption
 ·simp at this
theorem AP {l:List Nat} {s:St} {i:Nat}:(s.upds (l.map .frz)).mem i=none↔s.mem i=none:=by
 induction l generalizing s with
 |nil=>exact Iff.rfl
 |cons j l ih=>
  simp only[List.map_cons,St.upds]
  rw[ih]
  by_cases e:i=j
  ·subst e;rw[et];simp
  ·rw[bF _ e]
theorem eM.mem {bs:List Bk} {K:List Bq} (h:eM G w s bs K):∀b o n,.var b o n∈K→∃id cs L o0,s.mem id=some (.box cs)∧G.σ id=some L∧L.v= .pointer (some ⟨b,o0,none⟩)∧G.β id=[b]∧o0≤o∧o+n≤o0+bq cs:=by
 induction h with
 |nil=>simp
 | @var id o b o0 τ bs K cs L hm hL hv hβ hl t ih=>
  intro b' o' n' hb
  simp only[List.mem_cons,Bq.var.injEq]at hb
  rcases hb with⟨rfl,rfl,rfl⟩|hb
  ·exact⟨id,cs,L,o0,hm,hL,hv,hβ,by omega,by omega⟩
  ·exact ih b' o' n' hb
 |lend hc hl hz t ih=>
  intro b' o' n' hb
  simp only[List.mem_cons,reduceCtorEq,false_or]at hb
  exact ih b' o' n' hb
theorem eM.keep (hS:∀b,G.S b→G0.S b) (hσ:G0.σ=G.σ) {bs:List Bk} {K:List Bq} (hm:∀i∈o3 bs,G0.β i=G.β i∧s'.mem i=s.mem i) (h:eM G w s bs K):eM G0 w s' bs K:=by
 induction h with
 |nil=>exact .nil
 | @var id o b o0 τ bs K cs L hm' hL hv hβ hl t ih=>
  obtain⟨q1,q2⟩:=hm id (by simp[o3])
  exact .var (by rw[q2];exact hm') (by rw[hσ];exact hL) hv (by rw[q1];exact hβ) hl (ih fun i hi=>hm i (by simp[o3,hi]))
 |lend hc hl hz t ih=>exact .lend (aj.keep hS (fun _ _=>rfl) (by rw[hσ];exact b8.refl _) hc) hl (by rw[hσ];exact hz) (ih fun i hi=>hm i (by simp[o3,hi]))
theorem ud:∀{K:List Bq},(K.flatMap Bq.blk).Nodup→∀{b o o' n n':Nat},.var b o n∈K→ .var b o' n'∈K→o=o'∧n=n'
 | [],_,b,o,o',n,n',h,_=>by simp at h
 |q::K,hn,b,o,o',n,n',h,h'=>by
  simp only[List.flatMap_cons]at hn
  obtain⟨n1,n2,n3⟩:=List.nodup_append.1 hn
  rcases List.mem_cons.1 h with e|h<;>rcases List.mem_cons.1 h' with e'|h'
  ·rw[←e]at e';simp only[Bq.var.injEq,true_and]at e';exact⟨e'.1.symm,e'.2.symm⟩
  ·exact absurd rfl (n3 b (by rw[←e];simp[Bq.blk]) b (List.mem_flatMap.2 ⟨_,h',by simp[Bq.blk]⟩))
  ·exact absurd rfl (n3 b (by rw[←e'];simp[Bq.blk]) b (List.mem_flatMap.2 ⟨_,h,by simp[Bq.blk]⟩))
  ·exact ud n2 h h'
theorem ue (hC:C.OK) {env:C.Env} (hE:ii E.I C env) (h:aK E G s a w) {id:Nat} (hid:id%128=0) {g:Nat} {sg:ki} (hsg:C.sig g=some sg) {xs:List SV} {vals:List Value} (hx:dr (fun x v=>aC G.S G.σ w x v) xs vals) {A:Ar} (hA:cx s sg.params xs=some A)
  {k:SV→List bJ→List Nat→Option R} (e:nb C env id s g sg A k=some r):
  Calls C.P (C.real g) vals.toArray w fun e w'=>∃v x us rs G',e= .returned v∧aC (Gh.S G') (Gh.σ G') w' x v∧aK E G' (s.upds us) a w'∧k x us rs=some r:=by
 unfold nb at e
 rcases ab e with⟨hchk,e⟩|⟨_,e⟩
 ·simp only[aB]at hchk
  obtain⟨⟨⟨⟨c1,c2⟩,c3⟩,c4⟩,c5⟩:=hchk
  have hUP:=dw c1
  have hUV:=fO c2
  have hbk:=dw c4
  have hbkin:∀i∈o3 A.bk,i∈A.U++A.P:=fun i hi=>by
   have:=List.all_eq_true.1 c5 i hi
   obtain⟨j,hj,e⟩:=List.any_eq_true.1 this
   rw[aG e];exact hj
  rw[Option.bind_eq_some_iff]at e
  obtain⟨q,hq,e⟩:=e
  rw[Ah]at e
  split at e
  ·rename_i x back hxs hback0
   rcases ab e with⟨hj,e⟩|⟨_,e⟩
   ·simp only[aB]at hj
    obtain⟨⟨⟨hj,hfr⟩,hnn⟩,hnb⟩:=hj
    have hnn:=dw hnn
    have hnb:=dw hnb
    have hj:=bi hj
    have hfr:=mC hfr
    split at e
    ·rename_i us hback
     let S1:Nat→Prop:=fun b=>G.S b∨∃i∈A.V,b∈G.β i
     obtain⟨K,hArgs,hBk,hKP⟩:=rX h (S1:=S1) (fun _=> .inl) hx hA (fun i hi k hk=> .inr ⟨i,hi,hk⟩)
     obtain⟨n1,n2,n3⟩:=List.nodup_append.1 hUP
     have flat:∀{l:List Nat},l.Nodup→(l.flatMap G.β).Nodup:=by
      intro l hl
      induction l with
      |nil=>simp
      |cons i l ih=>
       obtain⟨h1,h2⟩:=List.nodup_cons.1 hl
       simp only[List.flatMap_cons]
       refine List.nodup_append.2 ⟨h.nodup i,ih h2,fun k hk k' hk' e=> ?_⟩
       subst e
       obtain⟨j,hj,hk'⟩:=List.mem_flatMap.1 hk'
       exact h.apart i j (fun e=>h1 (e▸hj)) k hk hk'
     have hS1not:∀i,i∈A.U++A.P→∀k∈G.β i,¬S1 k:=fun i hi k hk hs=>by
      rcases hs with hs|⟨j,hj,hk'⟩
      ·exact(h.off i k hk).1 hs
      ·exact h.apart i j (fun e=>hUV i hi (e▸hj)) k hk hk'
     have hS1lt:∀b,S1 b→b<w.heap.size:=fun b hb=>hb.elim (h.old b) fun⟨i,_,hk⟩=>(h.off i b hk).2
     have hOwnB:Cv S1 w (fun _=>True) (A.U.flatMap G.β):=⟨flat n1,fun k hk=>by
      obtain⟨i,hi,hk⟩:=List.mem_flatMap.1 hk
      exact⟨hS1not i (by simp[hi]) k hk,trivial,(h.off i k hk).2⟩⟩
     have hOwnK:Cv S1 w (fun b=>b∉A.U.flatMap G.β) (K.flatMap Bq.blk):=by
      rw[hKP]
      refine⟨flat n2,fun k hk=> ?_⟩
      obtain⟨i,hi,hk⟩:=List.mem_flatMap.1 hk
      refine⟨hS1not i (by simp[hi]) k hk,fun hk'=> ?_,(h.off i k hk).2⟩
      obtain⟨j,hj,hk'⟩:=List.mem_flatMap.1 hk'
      exact h.apart i j (fun e=>n3 j hj i hi e.symm) k hk hk'
     refine(hE g A.as q hq sg hsg S1 w vals K (A.U.flatMap G.β) hS1lt hArgs hOwnB hOwnK (E.I.keep (fun _=> .inl) (fun _ _=>rfl) h.inv)).mono ?_
     rintro en w' ⟨v,ys,us0,mv,S',B',rfl,rfl,ht,hm,hk,hS'1,hS'2,hOwn',hF⟩
     have hbox:∀i∈A.P,∃cs,s.mem i=some (.box cs):=Au hA
     have hrow:∀i∈A.U,∃b,s.mem i=some b∧(∀cs,b= .box cs→i%128≠127):=At hA
     have hUm:∀i∈A.U,∀k∈G.β i,E.W.heap.size≤k∨E.O k:=fun i hi k hk'=>by
      obtain⟨b,hb,hb'⟩:=hrow i hi
      rcases h.mine i k hk' with y|y|⟨y,cs,_,_,y2,_⟩
      ·exact .inl y
      ·exact .inr y
      ·rw[hb]at y2;simp only[aa]at y2;exact absurd y (hb' cs y2)
     have main:∀(Gv:Gh) (fv:List bJ),aK E Gv (s.upds fv) a w→Gv.σ=G.σ→(∀b,G.S b→Gv.S b)→(∀i∈A.U++A.P,Gv.β i=G.β i∧(s.upds fv).mem i=s.mem i)→(∀i,(s.upds fv).mem i=none↔s.mem i=none)→
       fv=(bif (C.resTy g).shares sg.resFl then A.V.map .frz else[])→∀(S'':Nat→Prop),(∀b,Gv.S b→S'' b)→(∀b,S'' b→Gv.S b∨(w.heap.size≤b∧b<w'.heap.size)∨b∈A.U.flatMap G.β)→aU S'' w' (C.resTy g) sg.resFl q (us0++mv) B'→(∀k∈B',¬S'' k)→
       ∃v x us rs G',Ending.returned (kn ys)= .returned v∧aC (Gh.S G') (Gh.σ G') w' x v∧aK E G' (s.upds us) a w'∧k x us rs=some r:=by
      intro Gv fv hv hvσ hvS hvU hvn hfv S'' hS1'' hS2'' hF'' hB''
      have hsub:∀i∈A.U++A.P,∀k,k∈Gv.β i↔k∈G.β i:=fun i hi k=>by rw[(hvU i hi).1]
      have hd:=hv.dead (w':=w') (ids:=A.U++A.P) (S'':=S'') (M':=DN K (A.U.flatMap G.β)) (fun i hi=>by
        rw[(hvU i hi).2]
        rcases List.mem_append.1 hi with hi|hi
        ·obtain⟨b,hb,_⟩:=hrow i hi;exact⟨b,hb⟩
        ·obtain⟨cs,hb⟩:=hbox i hi;exact⟨_,hb⟩) hk (fun b o ho=>by
        rcases ho with ho|⟨o0,n,ho,h1,h2⟩
        ·obtain⟨i,hi,hb⟩:=List.mem_flatMap.1 ho
         exact⟨i,by simp[hi],(hsub i (by simp[hi]) b).2 hb,(hUm i hi b hb).imp (fun x=>x) fun x=>(h.all b x).2 o⟩
        ·obtain⟨j,cs,L,o1,g1,g2,g3,g4,g5,g6⟩:=hBk.mem b o0 n ho
         have hjP:b∈A.P.flatMap G.β:=by rw[←hKP];exact List.mem_flatMap.2 ⟨_,ho,by simp[Bq.blk]⟩
         obtain⟨i,hi,hb⟩:=List.mem_flatMap.1 hjP
         refine⟨i,by simp[hi],(hsub i (by simp[hi]) b).2 hb, ?_⟩
         rcases h.mine i b hb with y|y|⟨y,cs',L',o',y2,y3,y4,y5⟩
         ·exact .inl y
         ·exact .inr ((h.all b y).2 o)
         ·have hij:i=j:=Classical.byContradiction fun hne=>h.apart i j hne b hb (by rw[g4];simp)
          subst hij
          rw[g1]at y2;simp only[aa,cj.box.injEq]at y2;subst y2
          rw[g2]at y3;simp only[aa]at y3;subst y3
          rw[g3]at y4
          simp only[Value.pointer.injEq,aa,Addr.mk.injEq,and_true,true_and]at y4
          subst y4
          have:=y5 (o-o1) (by omega)
          rw[show o1+(o-o1)=o by omega]at this
          exact .inr this) hS1'' (fun b hb=>(hS2'' b hb).imp (fun x=>x) fun x=>x.imp (fun x=>x) fun x=>by
         obtain⟨i,hi,hb⟩:=List.mem_flatMap.1 x
         exact⟨i,by simp[hi],(hsub i (by simp[hi]) b).2 hb,hUm i hi b hb⟩)
      have hB3:∀b∈B',b<w'.heap.size∧(w.heap.size≤b∨b∈A.U.flatMap G.β):=fun b hb=>⟨(hOwn'.2 b hb).2.2,(hOwn'.2 b hb).2.1⟩
      have hfree:∀b∈B',∀i,b∉(if i∈A.U++A.P then[]else Gv.β i):=fun b hb i hi=>by
       by_cases e1:i∈A.U++A.P
       ·simp[e1]at hi
       ·simp only[ak e1]at hi
        rcases(hB3 b hb).2 with x|x
        ·have:=(hv.off i b hi).2;omega
        ·obtain⟨j,hj,hb'⟩:=List.mem_flatMap.1 x
         exact hv.apart i j (fun e=>e1 (by rw[e];simp[hj])) b hi ((hsub j (by simp[hj]) b).2 hb')
      obtain⟨G2,hs2,fS,fσ,fc,fβ,fβ'⟩:=iK (C.resTy g) sg.resFl q (us0++mv) B' 0 hd hF'' hOwn'.1 (fun b hb=>⟨hB'' b hb,(hB3 b hb).1,hfree b hb,by
        rcases(hB3 b hb).2 with x|x
        ·exact .inl (Nat.le_trans h.kept.size x)
        ·obtain⟨i,hi,hb'⟩:=List.mem_flatMap.1 x
         exact hUm i hi b hb'⟩) (fun p hp=>by
        rw[eU]
        have hno:=hfr p hp
        have:p.1∉A.U++A.P:=fun hi=>by
         rcases List.mem_append.1 hi with hi|hi
         ·obtain⟨b,hb,_⟩:=hrow _ hi;rw[hno]at hb;simp at hb
         ·obtain⟨cs,hb⟩:=hbox _ hi;rw[hno]at hb;simp at hb
        rw[ak this];exact(hvn p.1).2 hno) (fun p hp=>by
        have h1:=(cA (id:=id) (C.resTy g) sg.resFl (us0++mv) 0).2 p hp
        rw[dq _ _ q]at h1
        left;omega)
      have hlen:(sg.res.map (·.1.size)).foldr (· + ·) 0=us0.length:=by rw[ht.length.1];simp[ki.shape,List.map_map,Function.comp_def]
      have hbc:=aj.drop fc hback0
      rw[hlen,List.drop_left]at hbc
      have hBk':eM Gv w (s.upds fv) A.bk K:=hBk.keep hvS hvσ fun i hi=>hvU i (hbkin i hi)
      have hstate:s.upds ((bif (C.resTy g).shares sg.resFl then A.V.map .frz else[])++((A.U++A.P).map (.set · .dead)++cJ (aL id (C.resTy g) sg.resFl q 0).2.1))=((s.upds fv).upds ((A.U++A.P).map (.set · .dead))).upds (cJ (aL id (C.resTy g) sg.resFl q 0).2.1):=by
       rw[hfv];simp only[bb]
      have hnewU:∀i∈A.U++A.P,∀p∈(aL id (C.resTy g) sg.resFl q 0).2.1,p.1≠i:=fun i hi p hp e=>by
       have hno:=hfr p hp
       rw[e]at hno
       rcases List.mem_append.1 hi with hi|hi
       ·obtain⟨b,hb,_⟩:=hrow _ hi;rw[hno]at hb;simp at hb
       ·obtain⟨cs,hb⟩:=hbox _ hi;rw[hno]at hb;simp at hb
      have hKS:∀b o n,.var b o n∈K→¬S'' b∧b<w.heap.size∧b∉A.U.flatMap G.β:=fun b o n hb=>by
       obtain⟨g1,g2,g3⟩:=hOwnK.2 b (List.mem_flatMap.2 ⟨_,hb,by simp[Bq.blk]⟩)
       refine⟨fun hs=> ?_,g3,g2⟩
       rcases hS2'' b hs with x|x|x
       ·obtain⟨j,cs,L,o1,q1,q2,q3,q4,_⟩:=hBk'.mem b o n hb
        exact(hv.off j b (by rw[q4];simp)).1 x
       ·omega
       ·exact g2 x
      rw[mV (s':=s.upds fv) (fun i hi=>((hvU i (hbkin i hi)).2).symm)]at hback
      obtain⟨G3,hs3,kS,kσ⟩:=ub (G0:=Gv) (s0:=s.upds fv) (w0:=w) hv hk.size (fun b hb o=>⟨hk.there b hb o,hk.frozen b hb o⟩) (fun b hb=>hk.block b (hv.old b hb) fun o ho=>by
        rcases ho with ho|⟨o0,n,ho,_⟩
        ·obtain⟨i,hi,hb'⟩:=List.mem_flatMap.1 ho
         exact(hv.off i b ((hsub i (by simp[hi]) b).2 hb')).1 hb
        ·obtain⟨j,cs,L,o1,q1,q2,q3,q4,_⟩:=hBk'.mem b o0 n ho
         exact(hv.off j b (by rw[q4];simp)).1 hb) A.bk K back mv us hBk' hs2 (fun b hb=>by rw[fS];exact hS1'' b hb) fσ (fun b o n hb=>by
        obtain⟨g1,g2,g3⟩:=hKS b o n hb
        refine⟨fun p hp=>(hk.cells b g2 p fun hin=> ?_).1,by rw[fS];exact g1,fun i hi=> ?_⟩
        ·rcases hin with x|⟨o1,n1,x,y1,y2⟩
         ·exact g3 x
         ·obtain⟨rfl,rfl⟩:=ud hOwnK.1 hb x
          omega
        ·rcases fβ i b hi with x|x
         ·by_cases e1:i∈A.U++A.P
          ·simp[e1]at x
          ·simp only[ak e1]at x
           obtain⟨j,cs,L,o1,q1,q2,q3,q4,_⟩:=hBk'.mem b o n hb
           have hbP:b∈A.P.flatMap G.β:=by rw[←hKP];exact List.mem_flatMap.2 ⟨_,hb,by simp[Bq.blk]⟩
           obtain⟨j',hj',hb'⟩:=List.mem_flatMap.1 hbP
           exact hv.apart i j' (fun e=>e1 (by rw[e];simp[hj'])) b x ((hsub j' (by simp[hj']) b).2 hb')
         ·rcases(hB3 b x).2 with y|y
          ·omega
          ·exact g3 y) hOwnK.1 (fun i hi=>by
        have hin:=hbkin i hi
        refine⟨?_, ?_⟩
        ·rw[cq (hnewU i hin),eU,av hin]
        ·rw[fβ' i (hnewU i hin)];simp only[av hin]) hbk hbc ⟨hnb,fun j _ T0 e0 f0 xs0 hj0=>by rw[gF hnn,hj0]⟩ hm hback
      refine⟨kn ys,x,_,_,G3,rfl,aC.keep (fun b hb=>by rw[kS];exact hb) (fun _ _=>rfl) (by rw[kσ];exact b8.refl _) (yb fc ht hxs), ?_,e⟩
      rw[bb,hstate]
      exact hs3
     by_cases hsh:(C.resTy g).shares sg.resFl=true
     ·have hpar:∀i∈A.V,i%128≠127:=by
       rw[hsh]at c3
       exact uc (by simpa using c3)
      obtain⟨Gv,v1,v2,v3,v4,v5,v6⟩:=h.frzs A.V hpar
      refine main Gv (A.V.map .frz) v6 v1 v2 (fun i hi=>⟨v5 i (hUV i hi),er (hUV i hi)⟩) (fun i=>AP) (by rw[hsh];rfl) S' (fun b hb=> ?_) (fun b hb=> ?_) hF (fun k hk'=>(hOwn'.2 k hk').1)
      ·rcases v4 b hb with x|⟨i,hi,x⟩
       ·exact hS'1 b (.inl x)
       ·exact hS'1 b (.inr ⟨i,hi,x⟩)
      ·rcases hS'2 b hb with(x|⟨i,hi,x⟩)|x
       ·exact .inl (v2 b x)
       ·exact .inl (v3 i hi b x)
       ·exact .inr x
     ·have hsh:(C.resTy g).shares sg.resFl=false:=by simpa using hsh
      refine main G [] h rfl (fun _ x=>x) (fun i hi=>⟨rfl,rfl⟩) (fun i=>Iff.rfl) (by rw[hsh];rfl) G.S (fun _ x=>x) (fun b hb=> .inl hb) (aU.free _ _ _ _ _ hsh hF) (fun k hk' hs=>(hOwn'.2 k hk').1 (hS'1 k (.inl hs)))
    ·simp at e
   ·simp at e
  ·simp at e
 ·simp at e
end Go.Ps
