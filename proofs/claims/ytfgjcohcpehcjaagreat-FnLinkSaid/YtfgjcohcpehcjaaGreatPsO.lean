import Derived.Test.YtfgjcohcpehcjaaGreatPsNa
namespace Go.Ps
set_option linter.unusedVariables false
variable {S S':Nat→Prop} {σ σ':Sg} {w w':World} {E:En} {G Gc:Gh} {s s' sc:St} {a:Act} {C:b9} {R:Type} {r:R}
theorem jY (h:aK E G s a w):∀(τ:Ty) (f:Fl) (cs cs':List PV) (x:τ.den) (U V:List Nat) (vs:List Value),bN s τ f cs=some (x,cs',U,V)→aj G.S G.σ w cs vs→∀i∈V,i%128≠127:=by
 have dt:∀(τ:Ty) (cs cs':List PV) (x:τ.den) (U V:List Nat) (vs:List Value),(match d9 cs τ.size,bm cs τ.size with
   |some a,some b=>match be τ (a.map s.dat)with
    |some x=>some (x,b,([]:List Nat),aM a)
    |none=>none
   |_,_=>none)=some (x,cs',U,V)→aj G.S G.σ w cs vs→∀i∈V,i%128≠127:=by
  intro τ cs cs' x U V vs e hc
  split at e
  ·rename_i h1 _
   split at e
   ·simp only[aa,ar]at e
    rw[←e.2.2.2];exact jT h (aj.take hc h1).1
   ·simp at e
  ·simp at e
 intro τ
 induction τ with
 |list e ih=>
  intro f cs cs' x U V vs e' hc
  cases f with
  |own T g=>
   simp only[bN]at e'
   split at e'
   ·split at e'
    ·rcases ab e' with⟨_,e2⟩|⟨_,e2⟩
     ·split at e2
      ·simp only[aa,ar]at e2
       rw[←e2.2.2.2];simp
      ·simp at e2
     ·simp at e2
    ·simp at e'
   ·rcases ab e' with⟨_,e2⟩|⟨_,e2⟩
    ·simp only[aa,ar]at e2
     rw[←e2.2.2.2];simp
    ·simp at e2
   ·simp at e'
  |_=>exact dt _ _ _ _ _ _ _ e' hc
 |opt e ih=>
  intro f cs cs' x U V vs e' hc
  cases f with
  |box=>
   simp only[bN]at e'
   split at e'
   ·simp only[aa,ar]at e'
    rw[←e'.2.2.2];simp
   ·split at e'
    ·rename_i hm
     rcases ab e' with⟨_,e2⟩|⟨_,e2⟩
     ·split at e2
      ·simp only[aa,ar]at e2
       rw[←e2.2.2.2]
       obtain⟨_,_,_,_,_,_,hcs,_⟩:=h.mem _ _ hm
       exact jT h hcs
      ·simp at e2
     ·simp at e2
    ·simp at e'
   ·simp at e'
  |_=>exact dt _ _ _ _ _ _ _ e' hc
 |pair τa τb iha ihb=>
  intro f cs cs' x U V vs e' hc
  cases f with
  |pair f g=>
   simp only[bN]at e'
   split at e'
   ·rename_i x1 cs1 U1 V1 h1
    split at e'
    ·rename_i x2 cs2 U2 V2 h2
     simp only[aa,ar]at e'
     rw[←e'.2.2.2]
     intro i hi
     rcases List.mem_append.1 hi with hi|hi
     ·exact iha f _ _ _ _ _ _ h1 hc i hi
     ·exact ihb g _ _ _ _ _ _ h2 (aj.drop hc (oD _ _ _ _ _ _ _ h1)) i hi
    ·simp at e'
   ·simp at e'
  |_=>exact dt _ _ _ _ _ _ _ e' hc
 |_=>intro f cs cs' x U V vs e' hc;cases f<;>exact dt _ _ _ _ _ _ _ e' hc
theorem aK.forget (h:aK E G s a w) {S1:Nat→Prop} {V K:List Nat} (hS:∀b,S1 b↔G.S b∨∃i∈V,b∈G.β i) (hV:∀i∈V,i%128≠127) (hK:∀i∈K,∃b,s.mem i=some b):
  aK E ⟨S1,fun i=>if i∈K then G.σ i else none,fun _=>[]⟩ ⟨s.n,fun _=> .v .undef,fun i=>if i∈K then some .dead else none⟩ a w where
 defers:=h.defers
 size:=h.size
 tmp t:=trivial
 mem i b hb:=by
  by_cases e:i∈K
  ·simp only[av e,aa]at hb
   subst hb
   obtain⟨b,hb⟩:=hK i e
   obtain⟨L,hL,_⟩:=h.mem i b hb
   exact⟨L,by simp[e,hL],rfl⟩
  ·simp only[ak e]at hb;simp at hb
 dom i hi:=by
  by_cases e:i∈K
  ·simp only[av e]at hi;simp at hi
  ·simp[e]
 apart i j _ k hk:=by simp at hk
 nodup i:= .nil
 off i k hk:=by simp at hk
 old b hb:=((hS b).1 hb).elim (h.old b) fun⟨i,_,hk⟩=>(h.off i b hk).2
 inv:=E.I.keep (fun b hb=>(hS b).2 (.inl hb)) (fun _ _=>rfl) h.inv
 kept:=h.kept
 sub b hb:=(hS b).2 (.inl (h.sub b hb))
 new b hb:=((hS b).1 hb).elim (h.new b) fun⟨i,hi,hk⟩=>by
  rcases h.mine i b hk with x|x|x
  ·exact .inr (.inl x)
  ·exact .inr (.inr x)
  ·exact absurd x.1 (hV i hi)
 mine i k hk:=by simp at hk
 sep b o hM:=(h.sep b o hM).elim .inl fun⟨h1,h2⟩=>by
  by_cases hO:E.O b
  ·exact .inl hO
  ·refine .inr ⟨fun hb=> ?_,h2⟩
   rcases(hS b).1 hb with x|⟨i,hi,hk⟩
   ·exact h1 x
   ·rcases h.mine i b hk with x|x|x
    ·omega
    ·exact hO x
    ·exact hV i hi x.1
 all:=h.all
 par i L hi hL:=by
  by_cases e:i∈K
  ·simp only[av e]at hL;exact h.par i L hi hL
  ·simp only[ak e]at hL;simp at hL
 parp:=h.parp
structure kV (G:Gh) (Gc:Gh) (sc:St) (S1:Nat→Prop) (U:List Nat) (ids:List Nat):Prop where
 S:Gc.S=S1
 free:∀i∈U,∀q∈G.β i,∀j,q∉Gc.β j
 ids:∀i∈ids,(sc.mem i=none∧i%128<64)∨(64≤i%128∧sc.mem i=some .dead∧(∃L,Gc.σ i=some L∧G.σ i=some L)∧Gc.β i=[])
theorem qV {t j:Nat} (h:j≤30) {p:Nat} (h1:128*t+32+0≤p) (h2:p<128*t+32+j):p%128<63∧32≤p%128:=by omega
theorem o9 (h:aK E G s a w) {S1:Nat→Prop} (hS:∀b,G.S b→S1 b) {τ:Ty} {f:Fl} {cs:List PV} {x:τ.den} {U V:List Nat} {vs:List Value} {t:Nat} (hp:bN s τ f cs=some (x,[],U,V)) (hc:aj G.S G.σ w cs vs)
  (hV:∀i∈V,∀k∈G.β i,S1 k) (hU:U.Nodup) (hUS:∀i∈U,∀k∈G.β i,¬S1 k) (hj:(aL (128*t+32) τ f x 0).2.2≤30) {ids:List Nat}
  (hn:∀p∈(aL (128*t+32) τ f x 0).2.1,p.1∈ids) (h':aK E Gc sc a w) (hr:kV G Gc sc S1 U ids):
  ∃G',aK E G' (sc.upds (cJ (aL (128*t+32) τ f x 0).2.1)) a w∧G'.S=S1∧b8 Gc.σ G'.σ∧aj G'.S G'.σ w (aL (128*t+32) τ f x 0).1 vs∧(∀i k,k∈G'.β i→k∈Gc.β i∨∃u∈U,k∈G.β u)∧(∀i,(∀p∈(aL (128*t+32) τ f x 0).2.1,p.1≠i)→G'.β i=Gc.β i):=by
 obtain⟨u,v,rfl,h1,h2⟩:=dh h hS _ _ _ _ _ _ _ _ hp hc hV
 cases h2
 rw[List.append_nil]
 have hrg:=dW (id:=128*t+32) τ f x 0
 obtain⟨G',g1,g2,g3,g4,g5,g6⟩:=iK (id:=128*t+32) τ f x u (U.flatMap G.β) 0 h' (by rw[hr.S];exact h1) (by
   clear hp hUS hr h1
   induction U with
   |nil=>simp
   |cons i l ih=>
    obtain⟨h1,h2⟩:=List.nodup_cons.1 hU
    simp only[List.flatMap_cons]
    refine List.nodup_append.2 ⟨h.nodup i,ih h2,fun k hk k' hk' e=> ?_⟩
    subst e
    obtain⟨j,hj,hk'⟩:=List.mem_flatMap.1 hk'
    exact h.apart i j (fun e=>h1 (e▸hj)) k hk hk') (fun q hq=>by
   obtain⟨i,hi,hq⟩:=List.mem_flatMap.1 hq
   refine⟨by rw[hr.S];exact hUS i hi q hq,(h.off i q hq).2,hr.free i hi q hq, ?_⟩
   obtain⟨b,hb,hb'⟩:=iM _ _ _ _ _ _ _ hp i hi
   rcases h.mine i q hq with x|x|⟨x,cs0,_,_,g1,_⟩
   ·exact .inl x
   ·exact .inr x
   ·rw[hb]at g1;simp only[aa]at g1;exact absurd x (hb' _ g1)) (fun p hp=>by
   rcases hr.ids p.1 (hn p hp)with x|⟨x,_⟩
   ·exact x.1
   ·
    have:=hrg.2 p hp
    have:=qV hj this.1 this.2
    omega) (fun p hp=>by
   have h3:=(cA (id:=128*t+32) τ f u 0).2 p hp
   rw[dq _ _ x]at h3
   left;omega)
 refine⟨G',g1,g2.trans hr.S,g3,g4,fun i k hk=> ?_,g6⟩
 exact(g5 i k hk).imp (fun x=>x) fun x=>by
  obtain⟨i,hi,hq⟩:=List.mem_flatMap.1 x
  exact⟨i,hi,hq⟩
theorem kV.rest (h:aK E G s a w) {S1:Nat→Prop} {U U' ids ids':List Nat} {ms:List (Nat×cj)} {G':Gh} (hr:kV G Gc sc S1 (U++U') (ids++ids')) (hnd:(U++U').Nodup) (hid:(ids++ids').Nodup) (hms:∀p∈ms,p.1∈ids)
  (gS:G'.S=S1) (gσ:b8 Gc.σ G'.σ) (gβ:∀i k,k∈G'.β i→k∈Gc.β i∨∃u∈U,k∈G.β u) (gβ':∀i,(∀p∈ms,p.1≠i)→G'.β i=Gc.β i):kV G G' (sc.upds (cJ ms)) S1 U' ids' where
 S:=gS
 free i hi q hq j hj:=by
  rcases gβ j q hj with x|⟨u,hu,x⟩
  ·exact hr.free i (by simp[hi]) q hq j x
  ·exact h.apart u i (fun e=>(List.nodup_append.1 hnd).2.2 u hu i hi e) q x hq
 ids i hi:=by
  have hne:∀p∈ms,p.1≠i:=fun p hp e=>(List.nodup_append.1 hid).2.2 p.1 (hms p hp) i hi e
  rw[cq hne,gβ' i hne]
  refine(hr.ids i (by simp[hi])).imp (fun x=>x) fun⟨x1,x2,⟨L,x3,x4⟩,x5⟩=>⟨x1,x2,⟨L,gσ _ _ x3,x4⟩,x5⟩
theorem qf (h:aK E G s a w) {S1:Nat→Prop} (hS:∀b,G.S b→S1 b) {t:Nat} {k:LK} {H:HS} (e:nS s t k=some H) (hV:∀i∈H.V,∀k∈G.β i,S1 k) (hUS:∀i∈H.U,∀k∈G.β i,¬S1 k) {U' ids':List Nat}
  (h':aK E Gc sc a w) (hr:kV G Gc sc S1 (H.U++U') (H.ms.map (·.1)++ids')) (hnd:(H.U++U').Nodup) (hid:(H.ms.map (·.1)++ids').Nodup):
  ∃G',aK E G' (sc.upds (cJ H.ms)) a w∧b8 Gc.σ G'.σ∧aC G'.S G'.σ w H.x (a.tmps.getD t undef)∧kV G G' (sc.upds (cJ H.ms)) S1 U' ids':=by
 have hv:=h.tmp t
 have hUn:=(List.nodup_append.1 hnd).1
 have sub:∀{U0:List Nat} {m0:List (Nat×cj)},(∀i∈U0,i∈H.U)→(∀p∈m0,p.1∈H.ms.map (·.1))→kV G Gc sc S1 U0 (m0.map (·.1)):=fun hU hm=>⟨hr.S,fun i hi=>hr.free i (by simp[hU i hi]),fun i hi=>hr.ids i (by
  obtain⟨p,hp,rfl⟩:=List.mem_map.1 hi
  exact List.mem_append_left _ (hm p hp))⟩
 have plain:H.U=[]→H.ms=[]→aC S1 Gc.σ w H.x (a.tmps.getD t undef)→∃G',aK E G' (sc.upds (cJ H.ms)) a w∧b8 Gc.σ G'.σ∧aC G'.S G'.σ w H.x (a.tmps.getD t undef)∧kV G G' (sc.upds (cJ H.ms)) S1 U' ids':=fun hU hm hx=>by
  rw[hU]at hr
  rw[hm]at hr⊢
  exact⟨Gc,h',b8.refl _,by rw[hr.S];exact hx,hr⟩
 have boxed:∀{id nid:Nat} {cs:List PV} {τ:Ty} {f:Fl} {x:τ.den} {U V:List Nat},s.tmps t= .v (.ptr id (.at 0))→s.mem id=some (.box cs)→bN s τ f cs=some (x,[],U,V)→(aL (128*t+32) τ f x 0).2.2≤30→
   H=⟨.v (.ptr nid (.at 0)),(aL (128*t+32) τ f x 0).2.1++[(nid,.box (aL (128*t+32) τ f x 0).1)],id::U,V⟩→((nid=128*t+63∧id%128<64)∨(nid=id∧id%128=127))→
   ∃G',aK E G' (sc.upds (cJ H.ms)) a w∧b8 Gc.σ G'.σ∧aC G'.S G'.σ w H.x (a.tmps.getD t undef)∧kV G G' (sc.upds (cJ H.ms)) S1 U' ids':=by
  intro id nid cs τ f x U V ht hm hp hj hH hcase
  subst hH
  simp only at hV hUS hr hnd hid hUn sub⊢
  rw[ht]at hv
  obtain⟨L,b,o,hL,hLv,_,hva⟩:=aC.of_v hv (by simp)
  obtain⟨L',hL',b',o',vs,hv',hc,hrg,hth,hβ⟩:=h.mem id _ hm
  rw[hL]at hL';simp only[aa]at hL';subst hL'
  rw[hLv]at hv'
  simp only[Value.pointer.injEq,aa,Addr.mk.injEq,and_true]at hv'
  obtain⟨rfl,rfl⟩:=hv'
  simp only[ay,and_true,dK.off,Nat.add_zero]at hva
  simp only[List.map_append,List.map_cons,List.map_nil]at hr hid
  obtain⟨G1,s1,gS,gσ,gc,gβ,gβ'⟩:=o9 h hS (t:=t) hp hc hV (List.nodup_cons.1 hUn).2 (fun i hi=>hUS i (by simp[hi])) hj (ids:=(aL (128*t+32) τ f x 0).2.1.map (·.1)) (fun p hp=>List.mem_map.2 ⟨p,hp,rfl⟩) h' (sub (fun i hi=>by simp[hi]) (fun p hp=>by simp;exact .inl ⟨_,hp⟩))
  have hnew:∀p∈(aL (128*t+32) τ f x 0).2.1,p.1≠nid:=fun p hp e=>by
   rw[aZ]at hid
   exact(List.nodup_append.1 hid).2.2 p.1 (List.mem_map.2 ⟨p,hp,rfl⟩) nid (by simp) e
  have hbid:∀j,b∉G1.β j:=fun j hj=>by
   rcases gβ j b hj with x|⟨u,hu,x⟩
   ·exact hr.free id (by simp) b (by rw[hβ];simp) j x
   ·exact h.apart id u (fun e=>(List.nodup_cons.1 hUn).1 (e▸hu)) b (by rw[hβ];simp) x
  have hbS:¬G1.S b:=by rw[gS];exact hUS id (by simp) b (by rw[hβ];simp)
  have hidn:=hr.ids nid (by simp)
  have hwid:bq (aL (128*t+32) τ f x 0).1=bq cs:=by rw[←aj.length gc,←aj.length hc]
  have fin:∀L2:yN,L2.v= .pointer (some ⟨b,o,none⟩)→((G1.σ nid=none∧(nid%128<64∨L2.v=E.par nid))∨G1.σ nid=some L2)→((sc.upds (cJ (aL (128*t+32) τ f x 0).2.1)).mem nid=none∨(sc.upds (cJ (aL (128*t+32) τ f x 0).2.1)).mem nid=some .dead)→G1.β nid=[]→
    b8 G1.σ (cc G1.σ nid L2)→(E.W.heap.size≤b∨E.O b∨(nid%128=127∧∃cs0 o2,cj.box (aL (128*t+32) τ f x 0).1= .box cs0∧L2.v= .pointer (some ⟨b,o2,none⟩)∧∀j,j<bq cs0→E.M b (o2+j)))→
    ∃G',aK E G' (sc.upds (cJ ((aL (128*t+32) τ f x 0).2.1++[(nid,.box (aL (128*t+32) τ f x 0).1)]))) a w∧b8 Gc.σ G'.σ∧aC G'.S G'.σ w (.v (.ptr nid (.at 0))) (a.tmps.getD t undef)∧kV G G' (sc.upds (cJ ((aL (128*t+32) τ f x 0).2.1++[(nid,.box (aL (128*t+32) τ f x 0).1)]))) S1 U' ids':=by
   intro L2 hL2 hσ2 hm2 hβ2 hle hmine
   have hadd:=s1.addB (id:=nid) (b:= .box (aL (128*t+32) τ f x 0).1) (L:=L2) (B:=[b]) hm2 hσ2 hβ2 ⟨b,o,vs,hL2,aj.keep (fun _ x=>x) (fun _ _=>rfl) hle gc,hrg,hth,rfl⟩ (by simp) (fun k hk=>by
     simp only[List.mem_singleton]at hk;subst hk
     exact⟨hbS,(h.off id k (by rw[hβ];simp)).2,hbid⟩) (fun k hk=>by simp only[List.mem_singleton]at hk;subst hk;exact hmine)
   have hset:sc.upds (cJ ((aL (128*t+32) τ f x 0).2.1++[(nid,.box (aL (128*t+32) τ f x 0).1)]))=(sc.upds (cJ (aL (128*t+32) τ f x 0).2.1)).upd (.set nid (.box (aL (128*t+32) τ f x 0).1)):=by
    rw[jf,bb];rfl
   refine⟨_,by rw[hset];exact hadd,gσ.trans hle,aC.v ⟨L2,b,o,bK _ _ _,hL2,trivial,by rw[hva];simp[dK.off]⟩, ?_⟩
   refine kV.rest h hr hnd hid (fun p hp=> ?_) gS (gσ.trans hle) (fun i k hk=> ?_) (fun i hi=> ?_)
   ·rcases List.mem_append.1 hp with hp|hp
    ·exact List.mem_append_left _ (List.mem_map.2 ⟨p,hp,rfl⟩)
    ·simp only[List.mem_singleton]at hp;subst hp;simp
   ·by_cases e1:i=nid
    ·simp only[az,av e1,List.mem_singleton]at hk
     subst hk
     exact .inr ⟨id,by simp,by rw[hβ];simp⟩
    ·simp only[az,ak e1]at hk
     exact(gβ i k hk).imp (fun x=>x) fun⟨u,hu,x⟩=>⟨u,by simp[hu],x⟩
   ·have e1:i≠nid:=fun e=>hi (nid,.box (aL (128*t+32) τ f x 0).1) (by simp) e.symm
    simp only[az,ak e1]
    exact gβ' i fun p hp=>hi p (by simp[hp])
  have hm1:(sc.upds (cJ (aL (128*t+32) τ f x 0).2.1)).mem nid=sc.mem nid:=cq hnew
  rcases hcase with⟨hn1,hn2⟩|⟨hn1,hn2⟩
  ·have hlt:nid%128<64:=by omega
   rcases hidn with⟨q1,_⟩|⟨q1,_⟩
   ·obtain⟨q3,q4⟩:=s1.dom nid (hm1.trans q1)
    refine fin ⟨.pointer (some ⟨b,o,none⟩),0⟩ rfl (.inl ⟨q3,.inl hlt⟩) (.inl (hm1.trans q1)) q4 (ep q3) ?_
    rcases h.mine id b (by rw[hβ];simp)with x|x|⟨x,_⟩
    ·exact .inl x
    ·exact .inr (.inl x)
    ·omega
   ·omega
  ·subst hn1
   rcases hidn with⟨_,q1⟩|⟨_,q1,⟨L0,q2,q3⟩,q4⟩
   ·omega
   ·rw[hL]at q3;simp only[aa]at q3;subst q3
    refine fin L hLv (.inr (gσ _ _ q2)) (.inr (hm1.trans q1)) (by rw[gβ' nid hnew];exact q4) (by rw[fZ (gσ _ _ q2)];exact b8.refl _) ?_
    refine(h.mine nid b (by rw[hβ];simp)).imp (fun x=>x) fun x=>x.imp (fun x=>x) fun⟨y,cs0,L0,o2,y1,y2,y3,y4⟩=> ?_
    rw[hm]at y1;simp only[aa,cj.box.injEq]at y1;subst y1
    rw[hL]at y2;simp only[aa]at y2;subst y2
    exact⟨y,_,o2,rfl,y3,by rw[hwid];exact y4⟩
 have celled:∀{cs:List PV} {vs:List Value} {τ:Ty} {f:Fl} {x:τ.den} {U V:List Nat},aj G.S G.σ w cs vs→bN s τ f cs=some (x,[],U,V)→(aL (128*t+32) τ f x 0).2.2≤30→H.ms=(aL (128*t+32) τ f x 0).2.1→H.U=U→H.V=V→
   (∀{σ1:Sg},aj S1 σ1 w (aL (128*t+32) τ f x 0).1 vs→aC S1 σ1 w H.x (a.tmps.getD t undef))→
   ∃G',aK E G' (sc.upds (cJ H.ms)) a w∧b8 Gc.σ G'.σ∧aC G'.S G'.σ w H.x (a.tmps.getD t undef)∧kV G G' (sc.upds (cJ H.ms)) S1 U' ids':=by
  intro cs vs τ f x U V hc hp hj hms hU hV' hx
  subst hU hV'
  obtain⟨G1,s1,gS,gσ,gc,gβ,gβ'⟩:=o9 h hS (t:=t) hp hc hV hUn hUS hj (ids:=H.ms.map (·.1)) (fun p hp=>List.mem_map.2 ⟨p,by rw[hms];exact hp,rfl⟩) h' (sub (fun i hi=>hi) (fun p hp=>List.mem_map.2 ⟨p,hp,rfl⟩))
  rw[←hms]at s1 gβ'
  refine⟨G1,s1,gσ, ?_,kV.rest h hr hnd hid (fun p hp=>List.mem_map.2 ⟨p,hp,rfl⟩) gS gσ gβ gβ'⟩
  rw[gS]at gc⊢
  exact hx gc
 unfold nS at e
 split at e
 ·rename_i τ f p ht
  split at e
  ·simp at e
  ·rename_i hne
   split at e
   ·rename_i x U V hp
    split at e
    ·rename_i c ms j hj
     rcases ab e with⟨hj2,e⟩|⟨_,e⟩
     ·simp only[aa]at e
      have hj2:=bi hj2
      rw[ht]at hv
      have hv:=aC.of_v hv hne
      have e1:(aL (128*t+32) τ f x 0).1=[c]:=by rw[hj]
      have e2:(aL (128*t+32) τ f x 0).2.1=ms:=by rw[hj]
      have e3:(aL (128*t+32) τ f x 0).2.2=j:=by rw[hj]
      refine celled (aj.one hv) hp (by rw[e3];exact hj2) (by rw[←e,e2]) (by rw[←e]) (by rw[←e]) (fun hc=> ?_)
      rw[←e]
      rw[e1]at hc
      exact aC.v (aj.of_one hc)
     ·simp at e
    ·simp at e
   ·simp at e
 ·rename_i τ f cs ht
  split at e
  ·rename_i x U V hp
   simp only at e
   rcases ab e with⟨hj2,e⟩|⟨_,e⟩
   ·simp only[aa]at e
    have hj2:=bi hj2
    rw[ht]at hv
    obtain⟨vs,hvv,hc⟩:=hv
    refine celled hc hp hj2 (by rw[←e]) (by rw[←e]) (by rw[←e]) (fun hc=> ?_)
    rw[←e]
    exact⟨vs,hvv,hc⟩
   ·simp at e
  ·simp at e
 ·rename_i τ f id ht
  split at e
  ·rename_i cs hm
   split at e
   ·rename_i x U V hp
    simp only at e
    rcases ab e with⟨hj2,e⟩|⟨_,e⟩
    ·simp only[aa]at e
     simp only[aB]at hj2
     have hlt:id%128<64:=bi hj2.2
     exact boxed ht hm hp (bi hj2.1) e.symm (.inl ⟨rfl,hlt⟩)
    ·simp at e
   ·simp at e
  ·simp at e
 ·rename_i τ f id ht
  split at e
  ·rename_i cs hm
   split at e
   ·rename_i x U V hp
    simp only at e
    rcases ab e with⟨hj2,e⟩|⟨_,e⟩
    ·simp only[aa]at e
     simp only[aB]at hj2
     exact boxed ht hm hp (bi hj2.1) e.symm (.inr ⟨rfl,aG hj2.2⟩)
    ·simp at e
   ·simp at e
  ·simp at e
 ·rename_i T e0 g id ht
  split at e
  ·rename_i T' e1 g' xs hm
   rcases ab e with⟨hb,e2⟩|⟨_,e2⟩
   ·simp only[aB,bh]at hb
    obtain⟨⟨hT,hg⟩,h64⟩:=hb
    have hT:=aG hT
    have h64:=bi h64
    clear e
    subst hT hg
    split at e2
    ·rename_i he _
     simp only[aa]at e2
     subst he
     subst e2
     simp only at hV hUS hr hnd hid hUn⊢
     rw[ht]at hv
     obtain⟨L,p,n,c,hL,hLv,hva⟩:=aC.of_v hv (by simp)
     obtain⟨L',hL',hB,hz⟩:=h.mem id _ hm
     rw[hL]at hL';simp only[aa]at hL';subst hL'
     simp only[List.map_cons,List.map_nil]at hr hid
     rcases hr.ids id (by simp)with⟨_,q1⟩|⟨_,q1,⟨L0,q2,q3⟩,q4⟩
     ·omega
     ·rw[hL]at q3;simp only[aa]at q3;subst q3
      have hadd:=h'.addB (id:=id) (b:= .rows T' e1 g' xs) (L:=L) (B:=G.β id) (.inr q1) (.inr q2) q4 ⟨aU.keep (fun b hb=>by rw[hr.S];exact hS b hb) (fun _ _=>rfl) _ _ _ _ _ (fun _ _=>rfl) hB,hz⟩ (h.nodup id) (fun k hk=>⟨by rw[hr.S];exact hUS id (by simp) k hk,(h.off id k hk).2,hr.free id (by simp) k hk⟩) (fun k hk=>by
       rcases h.mine id k hk with x|x|⟨_,cs0,_,_,g1,_⟩
       ·exact .inl x
       ·exact .inr (.inl x)
       ·rw[hm]at g1;simp at g1)
      have hσ':b8 Gc.σ (cc Gc.σ id L):=by rw[fZ q2];exact b8.refl _
      refine⟨_,hadd,hσ',aC.v ⟨L,p,n,c,bK _ _ _,hLv,by rw[hva]⟩,kV.rest h hr hnd hid (ms:=[(id,.rows T' e1 g' xs)]) (fun p hp=>by simp only[List.mem_singleton]at hp;subst hp;simp) hr.S hσ' (fun i k hk=> ?_) (fun i hi=> ?_)⟩
      ·by_cases e3:i=id
       ·simp only[az,av e3]at hk;exact .inr ⟨id,by simp,hk⟩
       ·simp only[az,ak e3]at hk;exact .inl hk
      ·have e3:i≠id:=fun e=>hi (id,.rows T' e1 g' xs) (by simp) e.symm
       simp only[az,ak e3]
    ·simp at e2
   ·simp at e2
  ·simp at e
 ·rename_i τ τ' x ht
  split at e
  ·simp only[aa]at e
   rw[ht]at hv
   refine plain (by rw[←e]) (by rw[←e]) ?_
   rw[←e]
   obtain⟨b,o,us,hb,q⟩:=aC.of_v hv (by simp)
   exact aC.v ⟨b,o,us,hS b hb,q.1,aw.keep hS (fun _ _=>rfl) _ _ _ q.2.1,q.2.2⟩
  ·simp at e
 ·rename_i p ht
  split at e
  ·simp at e
  ·rename_i hne
   rcases ab e with⟨hcl,e⟩|⟨_,e⟩
   ·simp only[aa]at e
    rw[ht]at hv
    refine plain (by rw[←e]) (by rw[←e]) ?_
    rw[←e]
    have hv:=aC.of_v hv hne
    have hd:=rR (σ':=Gc.σ) h hS (p:=p) (fun i hi=>by cases p<;>simp[PV.owns]at hi<;>simp[PV.closed]at hcl) hv
    have hdp:s.dat p=p:=by
     cases p<;>simp only[PV.closed]at hcl<;>try rfl
     all_goals first|(simp at hcl;done)|(simp only[St.dat,hcl,ac])
    rw[hdp]at hd
    exact aC.v hd
   ·simp at e
 ·simp at e
theorem kB (h:aK E G s a w) {S1:Nat→Prop} (hS:∀b,G.S b→S1 b):∀{ls:List (Nat×LK)} {lo:Nat} {ts:List (Nat×SV)} {ms:List (Nat×cj)} {U V:List Nat} {Gc:Gh} {sc:St},gE s ls lo=some (ts,ms,U,V)→(∀i∈V,∀k∈G.β i,S1 k)→(∀i∈U,∀k∈G.β i,¬S1 k)→
  aK E Gc sc a w→kV G Gc sc S1 U (ms.map (·.1))→U.Nodup→(ms.map (·.1)).Nodup→∃G',aK E G' (sc.upds (cJ ms)) a w∧G'.S=S1∧b8 Gc.σ G'.σ∧∀p∈ts,aC G'.S G'.σ w p.2 (a.tmps.getD p.1 undef)
 | [],lo,ts,ms,U,V,Gc,sc,e,_,_,h',hr,_,_=>by
  simp only[gE,aa,ar]at e
  obtain⟨rfl,rfl,rfl,rfl⟩:=e
  exact⟨Gc,h',hr.S,b8.refl _,by simp⟩
 |(t,k)::ls,lo,ts,ms,U,V,Gc,sc,e,hV,hUS,h',hr,hnd,hid=>by
  simp only[gE]at e
  rcases ab e with⟨_,e⟩|⟨_,e⟩
  ·split at e
   ·rename_i H hH
    split at e
    ·rename_i ts1 ms1 U1 V1 hgo
     simp only[aa,ar]at e
     obtain⟨rfl,rfl,rfl,rfl⟩:=e
     rw[List.map_append]at hr hid
     obtain⟨G1,s1,gσ,gx,gr⟩:=qf h hS hH (fun i hi=>hV i (by simp[hi])) (fun i hi=>hUS i (by simp[hi])) h' hr hnd hid
     obtain⟨G2,s2,fS,fσ,fx⟩:=kB h hS hgo (fun i hi=>hV i (by simp[hi])) (fun i hi=>hUS i (by simp[hi])) s1 gr (List.nodup_append.1 hnd).2.1 (List.nodup_append.1 hid).2.1
     refine⟨G2,by rw[jf,bb];exact s2,fS,gσ.trans fσ,fun p hp=> ?_⟩
     rcases List.mem_cons.1 hp with rfl|hp
     ·exact aC.keep (fun b hb=>by rw[fS,←gr.S];exact hb) (fun _ _=>rfl) fσ gx
     ·exact fx p hp
    ·simp at e
   ·simp at e
  ·simp at e
theorem ne:∀(ts:List (Nat×SV)) (t:Nat),am ts t= .v .undef∨(t,am ts t)∈ts
 | [],_=> .inl rfl
 |(j,x)::r,t=>by
  simp only[am]
  cases hb:Nat.beq t j with
  |true=>simp only[ac];rw[aG hb];exact .inr (by simp)
  |false=>simp only[af];exact(ne r t).imp id fun h=>by simp[h]
theorem aK.congr (h:aK E G s a w) (hn:s'.n=s.n) (htm:∀t,aC G.S G.σ w (s'.tmps t) (a.tmps.getD t undef)) (hm:∀i,s'.mem i=s.mem i):aK E G s' a w:=
 {h with
  size:=by rw[hn];exact h.size
  tmp:=htm
  mem:=fun i b hb=>h.mem i b (by rw[←hm];exact hb)
  dom:=fun i hi=>h.dom i (by rw[←hm];exact hi)
  mine:=fun i k hk=>by rw[hm];exact h.mine i k hk}
theorem pb (h:aK E G s a w):∀{ls:List (Nat×LK)} {lo:Nat} {ts:List (Nat×SV)} {ms:List (Nat×cj)} {U V:List Nat},gE s ls lo=some (ts,ms,U,V)→(∀p∈ms,p.1%128<64∨∃b,s.mem p.1=some b)∧∀i∈V,i%128≠127
 | [],lo,ts,ms,U,V,e=>by
  simp only[gE,aa,ar]at e
  obtain⟨rfl,rfl,rfl,rfl⟩:=e
  exact⟨by simp,by simp⟩
 |(t,k)::ls,lo,ts,ms,U,V,e=>by
  simp only[gE]at e
  rcases ab e with⟨_,e⟩|⟨_,e⟩
  ·split at e
   ·rename_i H hH
    split at e
    ·rename_i ts1 ms1 U1 V1 hgo
     simp only[aa,ar]at e
     obtain⟨rfl,rfl,rfl,rfl⟩:=e
     obtain⟨i1,i2⟩:=pb h hgo
     have key:(∀p∈H.ms,p.1%128<64∨∃b,s.mem p.1=some b)∧∀i∈H.V,i%128≠127:=by
      have hv:=h.tmp t
      have rng:∀{τ:Ty} {f:Fl} {x:τ.den},(aL (128*t+32) τ f x 0).2.2≤30→∀p∈(aL (128*t+32) τ f x 0).2.1,p.1%128<64∨∃b,s.mem p.1=some b:=fun{τ f x} hj p hp=>by
       have:=(dW (id:=128*t+32) τ f x 0).2 p hp
       have:=qV hj this.1 this.2
       exact .inl (by omega)
      unfold nS at hH
      split at hH
      ·rename_i τ f p ht
       split at hH
       ·simp at hH
       ·rename_i hne
        split at hH
        ·rename_i x U V hp
         split at hH
         ·rename_i c ms j hj
          rcases ab hH with⟨hj2,hH⟩|⟨_,hH⟩
          ·simp only[aa]at hH
           have hj2:=bi hj2
           rw[ht]at hv
           have e2:(aL (128*t+32) τ f x 0).2.1=ms:=by rw[hj]
           have e3:(aL (128*t+32) τ f x 0).2.2=j:=by rw[hj]
           rw[←hH]
           exact⟨by rw[←e2];exact rng (by rw[e3];exact hj2),jY h _ _ _ _ _ _ _ _ hp (aj.one (aC.of_v hv hne))⟩
          ·simp at hH
         ·simp at hH
        ·simp at hH
      ·rename_i τ f cs ht
       split at hH
       ·rename_i x U V hp
        simp only at hH
        rcases ab hH with⟨hj2,hH⟩|⟨_,hH⟩
        ·simp only[aa]at hH
         rw[ht]at hv
         obtain⟨vs,hvv,hc⟩:=hv
         rw[←hH]
         exact⟨rng (bi hj2),jY h _ _ _ _ _ _ _ _ hp hc⟩
        ·simp at hH
       ·simp at hH
      ·rename_i τ f id ht
       split at hH
       ·rename_i cs hm
        split at hH
        ·rename_i x U V hp
         simp only at hH
         rcases ab hH with⟨hj2,hH⟩|⟨_,hH⟩
         ·simp only[aa]at hH
          simp only[aB]at hj2
          obtain⟨_,_,_,_,_,_,hc,_⟩:=h.mem _ _ hm
          rw[←hH]
          refine⟨fun p hp'=> ?_,jY h _ _ _ _ _ _ _ _ hp hc⟩
          rcases List.mem_append.1 hp' with hp'|hp'
          ·exact rng (bi hj2.1) p hp'
          ·simp only[List.mem_singleton]at hp';subst hp';left;simp only;omega
         ·simp at hH
        ·simp at hH
       ·simp at hH
      ·rename_i τ f id ht
       split at hH
       ·rename_i cs hm
        split at hH
        ·rename_i x U V hp
         simp only at hH
         rcases ab hH with⟨hj2,hH⟩|⟨_,hH⟩
         ·simp only[aa]at hH
          simp only[aB]at hj2
          obtain⟨_,_,_,_,_,_,hc,_⟩:=h.mem _ _ hm
          rw[←hH]
          refine⟨fun p hp'=> ?_,jY h _ _ _ _ _ _ _ _ hp hc⟩
          rcases List.mem_append.1 hp' with hp'|hp'
          ·exact rng (bi hj2.1) p hp'
          ·simp only[List.mem_singleton]at hp';subst hp';right;exact⟨_,hm⟩
         ·simp at hH
        ·simp at hH
       ·simp at hH
      ·rename_i T e0 g id ht
       split at hH
       ·rename_i hm
        rcases ab hH with⟨_,e2⟩|⟨_,e2⟩
        ·split at e2
         ·simp only[aa]at e2
          rw[←e2]
          exact⟨fun p hp=>by simp only[List.mem_singleton]at hp;subst hp;exact .inr ⟨_,hm⟩,by simp⟩
         ·simp at e2
        ·simp at e2
       ·simp at hH
      ·split at hH
       ·simp only[aa]at hH;rw[←hH];exact⟨by simp,by simp⟩
       ·simp at hH
      ·split at hH
       ·simp at hH
       ·rcases ab hH with⟨_,hH⟩|⟨_,hH⟩
        ·simp only[aa]at hH;rw[←hH];exact⟨by simp,by simp⟩
        ·simp at hH
      ·simp at hH
     exact⟨fun p hp=>(List.mem_append.1 hp).elim (key.1 p) (i1 p),fun i hi=>(List.mem_append.1 hi).elim (key.2 i) (i2 i)⟩
    ·simp at e
   ·simp at e
  ·simp at e
theorem aK.canon0 (h:aK E G s a w) {ls:List (Nat×LK)} (e:canon0 s ls=some s'):∃G',aK E G' s' a w:=by
 unfold Go.Ps.canon0 at e
 split at e
 ·rename_i ts ms U V hgo
  rcases ab e with⟨hb,e⟩|⟨_,e⟩
  ·simp only[aa]at e
   subst e
   simp only[aB]at hb
   obtain⟨⟨h1,h2⟩,h3⟩:=hb
   have hU:=dw h1
   have hUV:=fO h2
   have hms:=dw h3
   obtain⟨k1,k2⟩:=pb h hgo
   let K:=(ms.map (·.1)).filter fun i=>decide (64≤i%128)
   let S1:Nat→Prop:=fun b=>G.S b∨∃i∈V,b∈G.β i
   have hK:∀i∈K,∃b,s.mem i=some b:=fun i hi=>by
    obtain⟨hi,h64⟩:=List.mem_filter.1 hi
    obtain⟨p,hp,rfl⟩:=List.mem_map.1 hi
    simp only[bh]at h64
    exact(k1 p hp).resolve_left (by omega)
   have h0:=h.forget (S1:=S1) (V:=V) (K:=K) (fun _=>Iff.rfl) k2 hK
   obtain⟨G',g1,g2,g3,g4⟩:=kB h (S1:=S1) (fun _=> .inl) hgo (fun i hi k hk=> .inr ⟨i,hi,hk⟩) (fun i hi k hk hs=>by
    rcases hs with hs|⟨j,hj,hk'⟩
    ·exact(h.off i k hk).1 hs
    ·exact h.apart i j (fun e=>hUV i hi (e▸hj)) k hk hk') h0 ⟨rfl,fun i hi q hq j=>by simp,fun i hi=>by
     by_cases h64:64≤i%128
     ·have hiK:i∈K:=List.mem_filter.2 ⟨hi,by simpa using h64⟩
      obtain⟨b,hb⟩:=hK i hiK
      obtain⟨L,hL,_⟩:=h.mem i b hb
      exact .inr ⟨h64,by simp[hiK],⟨L,by simp[hiK,hL],hL⟩,rfl⟩
     ·have hiK:i∉K:=fun hh=>h64 (by simpa using(List.mem_filter.1 hh).2)
      exact .inl ⟨by simp[hiK],by omega⟩⟩ hU hms
   refine⟨G',g1.congr (by rw[fV]) (fun t=> ?_) (fun i=> ?_)⟩
   ·rcases ne ts t with hh|hh
    ·simp only[hh];trivial
    ·exact g4 _ hh
   ·rw[gF hms]
    show ao ms i=_
    cases hb:ao ms i with
    |some b=>rfl
    |none=>
     simp only
     have hiK:i∉K:=fun hi=>by
      obtain⟨hi,_⟩:=List.mem_filter.1 hi
      have:∀{ms:List (Nat×cj)},i∈ms.map (·.1)→ao ms i≠none:=by
       intro ms
       induction ms with
       |nil=>simp
       |cons p ms ih=>
        intro hi
        simp only[List.map_cons,List.mem_cons]at hi
        simp only[ao]
        by_cases e:i=p.1
        ·subst e;rw[ij];simp
        ·rw[dF e];exact ih (hi.resolve_left e)
      exact this hi hb
     simp[hiK]
  ·simp at e
 ·simp at e
def CL (a:Act) (w:World) (t0:Nat):Option Nat→Value→Prop
 |none,v=>v=a.tmps.getD t0 undef
 |some k,v=>(∃cs:List Value,a.tmps.getD t0 undef= .agg cs.toArray∧cs[k]? =some v)∨∃b o,a.tmps.getD t0 undef= .pointer (some ⟨b,o,none⟩)∧w.cell? ⟨b,o+k,none⟩=some v
theorem CL.fn {t0:Nat} {k:Option Nat} {u v:Value} (h:CL a w t0 k u) (h':CL a w t0 k v):u=v:=by
 cases k with
 |none=>rw[show u=_ from h,show v=_ from h']
 |some k=>
  rcases h with⟨cs,h1,h2⟩|⟨b,o,h1,h2⟩<;>rcases h' with⟨cs',h3,h4⟩|⟨b',o',h3,h4⟩
  ·rw[h1]at h3
   have h3:=congrArg Array.toList (Value.agg.inj h3)
   simp only at h3
   subst h3
   rw[h2]at h4;exact Option.some.inj h4
  ·rw[h1]at h3;cases h3
  ·rw[h1]at h3;cases h3
  ·rw[h1]at h3
   simp only[Value.pointer.injEq,aa,Addr.mk.injEq,and_true]at h3
   obtain⟨rfl,rfl⟩:=h3
   rw[h2]at h4;exact Option.some.inj h4
theorem nT {S:Nat→Prop} {σ:Sg} {cs:List PV} {vs:List Value} {k:Nat} {c:PV} (h:aj S σ w cs vs) (e:kP cs k 1=some [c]):∃v,vs[k]? =some v∧aP S σ w c [v]:=by
 obtain⟨h1,h2,h3⟩:=aj.cut h e
 have hk:k<vs.length:=by omega
 have:(vs.drop k).take 1=[vs[k]]:=by rw[List.drop_eq_getElem_cons hk];rfl
 rw[this]at h1
 exact⟨vs[k],by simp[hk],aj.of_one h1⟩
theorem nU (h:aK E G s a w) {t0:Nat} {k:Option Nat} {p:PV} (hp:p≠ .undef) (e:t8 s t0 k= .v p):∃v,CL a w t0 k v∧aP G.S G.σ w p [v]:=by
 have ht:=h.tmp t0
 cases k with
 |none=>
  simp only[t8]at e
  rw[e]at ht
  exact⟨_,rfl,aC.of_v ht hp⟩
 |some k=>
  simp only[t8]at e
  split at e
  ·rename_i cs hcs
   rw[hcs]at ht
   obtain⟨vs,hv,hc⟩:=ht
   split at e
   ·rename_i c hcut
    simp only[SV.v.injEq]at e
    subst e
    obtain⟨v,h1,h2⟩:=nT hc hcut
    exact⟨v,.inl ⟨vs,hv,h1⟩,h2⟩
   ·simp only[SV.v.injEq]at e;exact absurd e.symm hp
  ·rename_i id hid
   rw[hid]at ht
   obtain⟨L,b,o,hL,hLv,_,hv⟩:=aC.of_v ht (by simp)
   simp only[ay,and_true,dK.off,Nat.add_zero]at hv
   split at e
   ·rename_i cs hm
    split at e
    ·rename_i c hcut
     simp only[SV.v.injEq]at e
     subst e
     obtain⟨L',hL',b',o',vs,hv1,hc,hr,_⟩:=h.mem _ _ hm
     rw[hL]at hL';simp only[aa]at hL';subst hL'
     rw[hLv]at hv1
     simp only[Value.pointer.injEq,aa,Addr.mk.injEq,and_true]at hv1
     obtain⟨rfl,rfl⟩:=hv1
     obtain⟨v,h1,h2⟩:=nT hc hcut
     exact⟨v,.inr ⟨b,o,hv,hr k v h1⟩,h2⟩
    ·simp only[SV.v.injEq]at e;exact absurd e.symm hp
   ·simp only[SV.v.injEq]at e;exact absurd e.symm hp
  ·simp only[SV.v.injEq]at e;exact absurd e.symm hp
theorem AQ {G':Gh} {q:St} (h0:aK E G s a w) (h:aK E G' q a w):∀{cs cs':List pS} {ts:List Nat} {us:List Value},jz s q cs ts=some cs'→ew G.S G.σ w cs us→ew G'.S G'.σ w cs' us:=by
 intro cs
 induction cs with
 |nil=>
  intro cs' ts us e hu
  cases ts with
  |nil=>simp only[jz,aa]at e;subst e;exact hu
  |cons t ts=>simp[jz]at e
 |cons c cs ih=>
  intro cs' ts us e hu
  cases c with
  |ref i=>
   cases ts with
   |nil=>simp[jz]at e
   |cons t0 ts=>
    simp only[jz]at e
    split at e
    ·rename_i j m r h1 h2 h3
     rcases ab e with⟨hij,e2⟩|⟨_,e2⟩
     ·have hij:=aG hij
      subst hij
      simp only[aa]at e2
      subst e2
      obtain⟨v,us,rfl,hv,hu⟩:=hu
      refine⟨v,us,rfl, ?_,ih h3 hu⟩
      obtain⟨L,b,o,hL,hLv,rfl⟩:=hv
      have t1:=h0.tmp t0
      rw[h1]at t1
      obtain⟨L1,b1,o1,hL1,hLv1,_,hv1⟩:=aC.of_v t1 (by simp)
      rw[hL]at hL1;simp only[aa]at hL1;subst hL1
      rw[hLv]at hLv1
      simp only[Value.pointer.injEq,aa,Addr.mk.injEq,and_true]at hLv1
      obtain⟨rfl,rfl⟩:=hLv1
      have t2:=h.tmp t0
      rw[h2]at t2
      obtain⟨L2,b2,o2,hL2,hLv2,_,hv2⟩:=aC.of_v t2 (by simp)
      have e3:=hv1.symm.trans hv2
      simp only[dK.off,Nat.add_zero,ay,Value.pointer.injEq,aa,Addr.mk.injEq,and_true]at e3
      obtain⟨rfl,rfl⟩:=e3
      exact⟨L2,_,_,hL2,hLv2,hLv.trans hLv2.symm⟩
     ·simp at e2
    ·simp at e
  |_=>cases ts<;>simp[jz]at e
theorem aK.sames (h0:aK E G s a w):∀{ls:List (Nat×LK)} {q q':St} {G':Gh},aK E G' q a w→sames s ls q=some q'→aK E G' q' a w
 | [],q,q',G',h,e=>by
  simp only[Go.Ps.sames,aa]at e
  subst e;exact h
 |(t,k)::r,q,q',G',h,e=>by
  cases k<;>try exact aK.sames h0 (ls:=r) h e
  case clos ts=>
   simp only[Go.Ps.sames]at e
   split at e
   ·rename_i f caps hf
    split at e
    ·rename_i caps' hc
     refine aK.sames h0 (ls:=r) (h.put' (d:=t) ?_) e
     have ht:=h0.tmp t
     rw[hf]at ht
     obtain⟨us,hv,hu⟩:=aC.of_v ht (by simp)
     exact aC.v ⟨us,hv,AQ h0 h hc hu⟩
    ·simp at e
   ·simp at e
  rename_i t0 k
  simp only[Go.Ps.sames]at e
  have ht:=h0.tmp t
  split at e
  ·rename_i i j m h1 h2 h3
   rcases ab e with⟨hij,e2⟩|⟨_,e2⟩
   ·have hij:=aG hij
    subst hij
    refine aK.sames h0 (ls:=r) (h.put' (d:=t) ?_) e2
    rw[h1]at ht
    obtain⟨L,_,_,_,hL,_,hv⟩:=aC.of_v ht (by simp)
    obtain⟨v,k1,L2,_,_,_,hL2,_,hv2⟩:=nU h0 (by simp) h2
    obtain⟨v',k1',k2'⟩:=nU h (by simp) h3
    rw[hL]at hL2;simp only[aa]at hL2;subst hL2
    simp only[ay,and_true]at hv hv2
    rw[hv,←hv2,k1.fn k1']
    exact aC.v k2'
   ·simp at e2
  ·rename_i i j m h1 h2 h3
   rcases ab e with⟨hij,e2⟩|⟨_,e2⟩
   ·have hij:=aG hij
    subst hij
    refine aK.sames h0 (ls:=r) (h.put' (d:=t) ?_) e2
    rw[h1]at ht
    obtain⟨L,b,o,hL,hLv,_,hv⟩:=aC.of_v ht (by simp)
    obtain⟨v,k1,L2,b2,o2,hL2,hLv2,_,hv2⟩:=nU h0 (by simp) h2
    obtain⟨v',k1',k2'⟩:=nU h (by simp) h3
    rw[hL]at hL2;simp only[aa]at hL2;subst hL2
    rw[hLv]at hLv2
    simp only[Value.pointer.injEq,aa,Addr.mk.injEq,and_true]at hLv2
    obtain⟨rfl,rfl⟩:=hLv2
    simp only[ay,and_true]at hv hv2
    rw[hv,←hv2,k1.fn k1']
    exact aC.v k2'
   ·simp at e2
  ·simp at e
theorem aK.canon (h:aK E G s a w) {ls:List (Nat×LK)} (e:canon s ls=some s'):∃G',aK E G' s' a w:=by
 unfold Go.Ps.canon at e
 split at e
 ·rename_i q hq
  obtain⟨G',h'⟩:=h.canon0 hq
  exact⟨G',h.sames h' e⟩
 ·simp at e
end Go.Ps
