import Derived.Test.YtfgjcohcpehcjaaGreatPsS
namespace Go.Ps
set_option linter.unusedVariables false
variable {S S':Nat→Prop} {σ σ':Sg} {w w':World} {E:En} {G:Gh} {s s':St} {a:Act} {C:b9} {R:Type} {r:R}
theorem AF:∀(τ:Ty) (d:τ.den) (cs:List PV) (q:τ.den×List PV),eK τ (inj τ d++cs)=some q→q=(d,cs):=by
 intro τ
 induction τ with
 |list e ih=>
  intro d cs q h
  simp only[inj,List.cons_append,List.nil_append,eK]at h
  split at h
  ·simp only[bQ,aa]at h;exact h.symm
  ·simp at h
 |arr e n ih=>
  intro d cs q h
  simp only[inj,List.cons_append,List.nil_append,eK]at h
  split at h
  ·simp only[bQ,aa]at h;exact h.symm
  ·simp at h
 |pair a b iha ihb=>
  intro d cs q h
  simp only[inj,aZ,eK]at h
  split at h
  ·rename_i x cs1 h1
   have:=iha _ _ _ h1
   simp only[ar]at this
   obtain⟨rfl,rfl⟩:=this
   split at h
   ·rename_i y cs2 h2
    have:=ihb _ _ _ h2
    simp only[ar]at this
    obtain⟨rfl,rfl⟩:=this
    simp only[aa]at h
    exact h.symm
   ·simp at h
  ·simp at h
 |opt e ih=>
  intro d cs q h
  simp only[inj,List.cons_append,List.nil_append,eK]at h
  split at h
  ·simp only[Du,aa]at h;exact h.symm
  ·simp at h
 |unit=>intro d cs q h;simp only[inj,List.nil_append,eK,aa]at h;exact h.symm
 |bool=>intro d cs q h;simp only[inj,List.cons_append,List.nil_append,eK,aa]at h;exact h.symm
 |str=>intro d cs q h;simp only[inj,List.cons_append,List.nil_append,eK,aa]at h;exact h.symm
 |int k=>
  intro d cs q h
  simp only[inj,List.cons_append,List.nil_append,eK]at h
  split at h
  ·simp only[aa]at h;exact h.symm
  ·simp at h
theorem m8 {τ:Ty} {d x:τ.den} (h:be τ (inj τ d)=some x):x=d:=by
 unfold be at h
 split at h
 ·rename_i y hy
  simp only[aa]at h
  subst h
  have:=AF τ d [] (y,[]) (by rw[List.append_nil];exact hy)
  exact(Prod.mk.inj this).1
 ·simp at h
theorem cS {i:Nat} {τ:Ty} {f:Fl} {d:τ.den} {cs:List PV} {m:List (Nat×cj)} (h:ez i τ f (inj τ d)=some (cs,m)):cs=(aL (128*i+64) τ f d 0).1∧m=(aL (128*i+64) τ f d 0).2.1∧(aL (128*i+64) τ f d 0).2.2≤60:=by
 unfold ez at h
 split at h
 ·rename_i x hx
  have:=m8 hx
  subst this
  generalize hq:aL (128*i+64) τ f x 0=q at h⊢
  obtain⟨cs',m',j⟩:=q
  simp only at h
  rcases ab h with⟨hj,h⟩|⟨_,h⟩
  ·simp only[aa,ar]at h
   exact⟨h.1.symm,h.2.symm,bi hj⟩
  ·simp at h
 ·simp at h
theorem gD:∀{ms:List (Nat×cj)} {i:Nat},(∀p∈ms,p.1≠i)→ao ms i=none
 | [],_,_=>rfl
 |(j,b)::ms,i,h=>by
  simp only[ao,dF (Ne.symm (h (j,b) (by simp))),af]
  exact gD fun p hp=>h p (by simp[hp])
theorem ku:∀{ms ms':List (Nat×cj)} {i:Nat},ao (ms++ms') i=match ao ms i with|some b=>some b|none=>ao ms' i
 | [],_,_=>rfl
 |(j,b)::ms,ms',i=>by
  simp only[List.cons_append,ao]
  by_cases e:i=j
  ·subst e;rw[ij];rfl
  ·rw[dF e];simp only[af];exact ku
theorem DR {a b:St} (h1:a.n=b.n) (h2:a.tmps=b.tmps) (h3:a.mem=b.mem):a=b:=by cases a;cases b;simp_all
theorem vX {n:Nat} {ts:Nat→SV} {m ms:List (Nat×cj)} (h:(m.map (·.1)).Nodup):(⟨n,ts,ao ms⟩:St).upds (cJ m)=⟨n,ts,ao (m++ms)⟩:=by
 refine DR (fV _ _) (du _ _) (funext fun i=> ?_)
 rw[gF h]
 exact ku.symm
theorem vY {id:Nat}:∀(τ:Ty) (f:Fl) (x:τ.den) (j:Nat),((aL id τ f x j).2.1.map (·.1)).Nodup:=by
 intro τ
 induction τ with
 |list e ih=>intro f x j;cases f<;>simp[aL]
 |opt e ih=>
  intro f x j
  cases f with
  |box=>cases x<;>simp[aL]
  |_=>simp[aL]
 |pair a b iha ihb=>
  intro f x j
  cases f with
  |pair f g=>
   simp only[aL,List.map_append]
   refine List.nodup_append.2 ⟨iha f x.1 j,ihb g x.2 _,fun p hp q hq e=> ?_⟩
   obtain⟨p',hp',rfl⟩:=List.mem_map.1 hp
   obtain⟨q',hq',rfl⟩:=List.mem_map.1 hq
   have h1:=(dW (id:=id) a f x.1 j).2 p' hp'
   have h2:=(dW (id:=id) b g x.2 (aL id a f x.1 j).2.2).2 q' hq'
   omega
  |_=>simp[aL]
 |_=>intro f x j;cases f<;>simp[aL]
theorem fq {id:Nat}:∀(τ:Ty) (f:Fl) (us:List Value) (j:Nat),((bX id τ f us j).1.map (·.1)).Nodup:=by
 have one:∀(us:List Value) (k:Nat),((us.head?.toList.map fun v=>(k,v)).map (·.1)).Nodup:=fun us k=>by cases us<;>simp
 intro τ
 induction τ with
 |list e ih=>intro f us j;cases f<;>first|exact one _ _|simp[bX]
 |opt e ih=>intro f us j;cases f<;>first|exact one _ _|simp[bX]
 |pair a b iha ihb=>
  intro f us j
  cases f with
  |pair f g=>
   simp only[bX,List.map_append]
   refine List.nodup_append.2 ⟨iha f _ j,ihb g _ _,fun p hp q hq e=> ?_⟩
   obtain⟨p',hp',rfl⟩:=List.mem_map.1 hp
   obtain⟨q',hq',rfl⟩:=List.mem_map.1 hq
   have h1:=(cA (id:=id) a f (us.take a.size) j).2 p' hp'
   have h2:=(cA (id:=id) b g (us.drop a.size) (bX id a f (us.take a.size) j).2).2 q' hq'
   omega
  |_=>simp[bX]
 |_=>intro f us j;cases f<;>simp[bX]
def yJ:List (Nat×Value)→Nat→Value
 | [],_=> .pointer none
 |(k,v)::l,j=>if j=k then v else yJ l j
theorem ip:∀{l:List (Nat×Value)},(l.map (·.1)).Nodup→∀p∈l,yJ l p.1=p.2
 | [],_,p,h=>by cases h
 |(k,v)::l,hn,p,h=>by
  simp only[List.map_cons,List.nodup_cons]at hn
  rcases List.mem_cons.1 h with rfl|h
  ·simp[yJ]
  ·have:p.1≠k:=fun e=>hn.1 (by rw[←e];exact List.mem_map.2 ⟨p,h,rfl⟩)
   simp only[yJ,ak this]
   exact ip hn.2 p h
def sj (i:Nat) (x:Value) (l:List (Nat×Value)) (par:Nat→Value) (j:Nat):Value:=if j<128*(i+1)then(if j%128=127 then x else yJ l j)else par j
theorem dR {i:Nat} {x:Value} {l:List (Nat×Value)} {par:Nat→Value} {j:Nat} (h:128*(i+1)≤j):sj i x l par j=par j:=ak (by omega)
theorem ft {i:Nat} {x:Value} {l:List (Nat×Value)} {par:Nat→Value} {j:Nat} (h:j<128*(i+1)) (h':j%128=127):sj i x l par j=x:=by
 unfold sj;rw[av h,av h']
theorem jp {i:Nat} {x:Value} {l:List (Nat×Value)} {par:Nat→Value} {j:Nat} (h:j<128*(i+1)) (h':j%128≠127):sj i x l par j=yJ l j:=by
 unfold sj;rw[av h,ak h']
theorem yK {id:Nat}:∀(τ:Ty) (f:Fl) (us:List Value) (j:Nat),us.length=τ.size→(∀p∈(bX id τ f us j).1,∀L,σ p.1=some L→L.v=p.2)→
  (∀i∈aM (jA id τ f j).1,∃L p n c,σ i=some L∧L.v= .slice p n c)→aj S σ w (jA id τ f j).1 (jj τ f us)∧(jA id τ f j).2=(bX id τ f us j).2:=by
 intro τ
 induction τ with
 |list e ih=>
  intro f us j hl hh ho
  cases f with
  |own T g=>
   obtain⟨v,rfl⟩:=List.length_eq_one_iff.1 hl
   obtain⟨L,p,n,c,h1,h2⟩:=ho (id+j) (by simp[jA,aM,PV.owns])
   have h3:=hh (id+j,v) (by simp[bX]) L h1
   exact⟨aj.one (p:= .own (id+j)) ⟨L,p,n,c,h1,h2,by rw[h3];rfl⟩,rfl⟩
  |_=>exact⟨rfl,rfl⟩
 |opt e ih=>intro f us j hl hh ho;cases f<;>exact⟨rfl,rfl⟩
 |pair a b iha ihb=>
  intro f us j hl hh ho
  cases f with
  |pair f g=>
   simp only[jA,bX,jj]at hh ho⊢
   simp only[Ty.size]at hl
   obtain⟨h1,h2⟩:=iha f (us.take a.size) j (by simp;omega) (fun p hp=>hh p (by simp[hp])) (fun i hi=>ho i (by simp only[aM,List.flatMap_append,List.mem_append];exact .inl hi))
   obtain⟨h3,h4⟩:=ihb g (us.drop a.size) (jA id a f j).2 (by simp;omega) (fun p hp=>hh p (by rw[h2]at hp;simp[hp])) (fun i hi=>ho i (by simp only[aM,List.flatMap_append,List.mem_append];exact .inr hi))
   exact⟨an.append h1 h3,by rw[h4,h2]⟩
  |_=>exact⟨rfl,rfl⟩
 |_=>intro f us j hl hh ho;cases f<;>exact⟨rfl,rfl⟩
theorem bD.len {ps:List PK} {xs:List SV} {vs:List Value} {K:List Bq} {B:List Nat} (h:bD S w ps xs vs K B):vs.length=ps.length:=by
 induction h with
 |nil=>rfl
 |plain _ _ _ ih=>simp[ih]
 |give _ _ _ ih=>simp[ih]
 |lend _ _ _ ih=>simp[ih]
 |var _ _ _ _ ih=>simp[ih]
 |dvar _ _ _ _ _ _ ih=>simp[ih]
def CC (S:Nat→Prop) (w:World) (ps:List PK) (xs:List SV) (vs:List Value) (K:List Bq) (B:List Nat) (i:Nat) (par:Nat→Value):Prop:=
 ∀{E:En} {G:Gh} {a:Act} {n:Nat} {ts ts':List (Nat×SV)} {ms ms':List (Nat×cj)},(∀j,128*i≤j→E.par j=par j)→(∀b o m,.var b o m∈K→∀j,j<m→E.M b (o+j))→(∀k∈B,E.O k)→
  (∀j v,vs[j]? =some v→a.tmps.getD (i+j) undef=v)→B.Nodup→(∀k∈B,¬G.S k∧k<w.heap.size∧∀q,k∉G.β q)→(K.flatMap Bq.blk).Nodup→(∀k∈K.flatMap Bq.blk,¬G.S k∧k<w.heap.size∧k∉B∧∀q,k∉G.β q)→
  G.S=S→aK E G ⟨n,am ts,ao ms⟩ a w→(∀p∈ms,p.1<128*i)→enter ps xs i ts ms=some (ts',ms')→∃G',G'.S=S∧aK E G' ⟨n,am ts',ao ms'⟩ a w
def DS (ps:List PK) (xs:List SV) (K:List Bq) (i:Nat) (par:Nat→Value):Prop:=
 ∀{E:En} {G:Gh} {s:St} {a:Act} {w':World} {cs:List PV} {ts:List (Nat×SV)} {ms:List (Nat×cj)} {q:List (Nat×SV)×List (Nat×cj)},enter ps xs i ts ms=some q→(∀j,128*i≤j→E.par j=par j)→aK E G s a w'→cy s ps i=some cs→∃ms,mY w' K ms∧aj G.S G.σ w' cs ms
theorem vZ (h:aK E G s a w) {i:Nat} (hl:AL s i=true):∃L p n c,G.σ i=some L∧L.v= .slice p n c:=by
 unfold AL at hl
 split at hl
 ·rename_i T e f xs hm
  obtain⟨L,hL,hB,_⟩:=h.mem i _ hm
  obtain⟨_,v,vs,B2,e1,_,ho,_⟩:=hB
  simp only[ay,and_true]at e1
  rcases yz.ofF ho with⟨e2,_⟩|⟨b,c,e2⟩
  ·exact⟨L,_,_,_,hL,by rw[e1,e2]⟩
  ·exact⟨L,_,_,_,hL,by rw[e1,e2]⟩
 ·simp at hl
theorem iR {τ:Ty} {x:SV} {d:τ.den} {v:Value} {us:List Value} (h:yw τ x d v us):(x= .agg (inj τ d)∧v= .agg us.toArray)∨(∃c,x= .v c∧inj τ d=[c]∧us=[v]):=
 h.imp id fun⟨c,h1,h2,_,h3⟩=>⟨c,h1,h2,h3⟩
theorem jW {i n:Nat} {ts:List (Nat×SV)} {ms:List (Nat×cj)} {τ:Ty} {f:Fl} {d:τ.den} {us:List Value} {B1:List Nat} (hs:aK E G ⟨n,am ts,ao ms⟩ a w) (hm:∀p∈ms,p.1<128*i) (hr:aU G.S w τ f d us B1) (hnd:B1.Nodup)
  (hB:∀k∈B1,(¬G.S k∧k<w.heap.size∧∀q,k∉G.β q)∧E.O k) (hp:∀p∈(bX (128*i+64) τ f us 0).1,E.par p.1=p.2) {cs:List PV} {m:List (Nat×cj)} (e:ez i τ f (inj τ d)=some (cs,m)):
  ∃G',G'.S=G.S∧aK E G' ⟨n,am ts,ao (m++ms)⟩ a w∧aj G'.S G'.σ w cs us∧(∀q k,k∈G'.β q→k∈G.β q∨k∈B1)∧(∀p∈m++ms,p.1<128*i+124):=by
 obtain⟨rfl,rfl,h60⟩:=cS e
 have hrg:=dW (id:=128*i+64) τ f d 0
 obtain⟨G',h1,h2,h3,h4,h5,h6⟩:=iK (id:=128*i+64) τ f d us B1 0 hs hr hnd (fun q hq=>⟨(hB q hq).1.1,(hB q hq).1.2.1,(hB q hq).1.2.2,.inr (hB q hq).2⟩)
  (fun p hp=>gD fun q hq e=>by have:=hm q hq;have:=hrg.2 p hp;omega) (fun p hp'=> .inr (hp p hp').symm)
 rw[vX (vY _ _ _ _)]at h1
 refine⟨G',h2,h1,h4,h5,fun p hp=> ?_⟩
 rcases List.mem_append.1 hp with hp|hp
 ·have:=hrg.2 p hp;omega
 ·have:=hm p hp;omega
theorem tS {ps:List PK} {xs:List SV} {vs:List Value} {K:List Bq} {B:List Nat} (h:bD S w ps xs vs K B):∀i,∃par:Nat→Value,(∀j,j%128=127→∃x,par j= .pointer x)∧CC S w ps xs vs K B i par∧DS ps xs K i par:=by
 induction h with
 |nil=>
  intro i
  refine⟨fun _=> .pointer none,fun _ _=>⟨_,rfl⟩, ?_, ?_⟩
  ·intro E G a n ts ts' ms ms' _ _ _ _ _ _ _ _ hS hs _ e
   simp only[enter,aa,ar]at e
   obtain⟨rfl,rfl⟩:=e
   exact⟨G,hS,hs⟩
  ·intro E G s a w' cs ts ms q _ _ _ e
   simp only[cy,aa]at e
   subst e
   exact⟨[],rfl,rfl⟩
 | @plain p ps x xs v vs K B hp hx t ih=>
  intro i
  obtain⟨par,h1,h2,h3⟩:=ih (i+1)
  refine⟨par,h1, ?_, ?_⟩
  ·intro E G a n ts ts' ms ms' hpar hM hO hv hBn hB hKn hK hS hs hm e
   have e:enter ps xs (i+1) ((i,x)::ts) ms=some (ts',ms'):=by cases p<;>first|exact e|simp[PK.plain]at hp
   refine h2 (fun j hj=>hpar j (by omega)) hM hO (fun j u hu=>by have:=hv (j+1) u (by simpa using hu);rwa [show i+(j+1)=i+1+j by omega]at this) hBn hB hKn hK hS ?_ (fun q hq=>by have:=hm q hq;omega) e
   refine hs.put' (d:=i) (x:=x) ?_
   rw[show a.tmps.getD i undef=v from hv 0 v (by simp)]
   rw[hS]
   exact aC.keep (fun _ x=>x) (fun _ _=>rfl) (fun j L hj=>by simp at hj) hx
  ·intro E G s a w' cs ts ms q en hpar hs e
   have en:enter ps xs (i+1) ((i,x)::ts) ms=some q:=by cases p<;>first|exact en|simp[PK.plain]at hp
   have e:cy s ps (i+1)=some cs:=by cases p<;>first|exact e|simp[PK.plain]at hp
   exact h3 en (fun j hj=>hpar j (by omega)) hs e
 | @give ps x xs v vs K B f us B1 τ d hd hr t ih=>
  intro i
  obtain⟨par,h1,h2,h3⟩:=ih (i+1)
  have hrg:=cA (id:=128*i+64) τ f us 0
  refine⟨sj i (.pointer none) (bX (128*i+64) τ f us 0).1 par,fun j hj=> ?_, ?_, ?_⟩
  ·by_cases hlt:j<128*(i+1)
   ·exact⟨none,ft hlt hj⟩
   ·rw[dR (by omega)];exact h1 j hj
  ·intro E G a n ts ts' ms ms' hpar hM hO hv hBn hB hKn hK hS hs hm e
   obtain⟨n1,n2,n3⟩:=List.nodup_append.1 hBn
   have key:∀{cs m},ez i τ f (inj τ d)=some (cs,m)→∃G',G'.S=G.S∧aK E G' ⟨n,am ts,ao (m++ms)⟩ a w∧aj G'.S G'.σ w cs us∧(∀q k,k∈G'.β q→k∈G.β q∨k∈B1)∧(∀p∈m++ms,p.1<128*i+124):=fun{cs m} e=>
    jW hs hm (by rw[hS];exact hr) n1 (fun k hk=>⟨hB k (by simp[hk]),hO k (by simp[hk])⟩) (fun p hp=>by
     have h60:=(cS e).2.2
     have:=hrg.2 p hp
     rw[dq τ f d us 0]at this
     rw[hpar p.1 (by omega),jp (by omega) (by omega)]
     exact ip (fq _ _ _ _) p hp) e
   have hgo:∀{y:SV} {cs m},ez i τ f (inj τ d)=some (cs,m)→(∀G':Gh,aj G'.S G'.σ w cs us→aC G'.S G'.σ w y v)→enter ps xs (i+1) ((i,y)::ts) (m++ms)=some (ts',ms')→∃G',G'.S=S∧aK E G' ⟨n,am ts',ao ms'⟩ a w:=by
    intro y cs m e1 hy e2
    obtain⟨G',k1,k2,k3,k4,k5⟩:=key e1
    refine h2 (fun j hj=>by rw[hpar j (by omega),dR (by omega)]) hM (fun k hk=>hO k (by simp[hk])) (fun j u hu=>by have:=hv (j+1) u (by simpa using hu);rwa [show i+(j+1)=i+1+j by omega]at this) n2 (fun k hk=> ?_) hKn (fun k hk=> ?_) (k1.trans hS) (show aK E G' ⟨n,am ((i,y)::ts),ao (m++ms)⟩ a w from k2.put' (d:=i) (x:=y) ?_) (fun q hq=>by have:=k5 q hq;omega) e2
    ·have:=hB k (by simp[hk])
     exact⟨by rw[k1];exact this.1,this.2.1,fun q hq=>(k4 q k hq).elim (this.2.2 q) fun x=>n3 k x k hk rfl⟩
    ·have:=hK k hk
     exact⟨by rw[k1];exact this.1,this.2.1,fun x=>this.2.2.1 (by simp[x]),fun q hq=>(k4 q k hq).elim (this.2.2.2 q) fun x=>this.2.2.1 (by simp[x])⟩
    ·rw[show a.tmps.getD i undef=v from hv 0 v (by simp)]
     exact hy G' k3
   rcases iR hd with⟨rfl,rfl⟩|⟨c,rfl,hc,rfl⟩
   ·simp only[enter]at e
    split at e
    ·rename_i cs m e1
     exact hgo (y:= .agg cs) e1 (fun G' hG=>⟨us,rfl,hG⟩) e
    ·simp at e
   ·simp only[enter]at e
    rw[←hc]at e
    split at e
    ·rename_i c' m e1
     exact hgo (y:= .v c') e1 (fun G' hG=>aC.v (aj.of_one hG)) e
    ·simp at e
  ·intro E G s a w' cs ts ms q en hpar hs e
   have:∃ts ms,enter ps xs (i+1) ts ms=some q:=by
    rcases iR hd with⟨rfl,rfl⟩|⟨c,rfl,hc,rfl⟩<;>simp only[enter]at en<;>split at en
    ·exact⟨_,_,en⟩
    ·simp at en
    ·exact⟨_,_,en⟩
    ·simp at en
   obtain⟨ts1,ms1,en⟩:=this
   exact h3 en (fun j hj=>by rw[hpar j (by omega),dR (by omega)]) hs e
 | @lend ps x xs v vs K B f us B1 τ d hd hr t ih=>
  intro i
  obtain⟨par,h1,h2,h3⟩:=ih (i+1)
  have hrg:=cA (id:=128*i+64) τ f us 0
  refine⟨sj i (.pointer none) (bX (128*i+64) τ f us 0).1 par,fun j hj=> ?_, ?_, ?_⟩
  ·by_cases hlt:j<128*(i+1)
   ·exact⟨none,ft hlt hj⟩
   ·rw[dR (by omega)];exact h1 j hj
  ·intro E G a n ts ts' ms ms' hpar hM hO hv hBn hB hKn hK hS hs hm e
   obtain⟨n1,n2,n3⟩:=List.nodup_append.1 hBn
   have key:∀{cs m},ez i τ f (inj τ d)=some (cs,m)→∃G',G'.S=G.S∧aK E G' ⟨n,am ts,ao (m++ms)⟩ a w∧aj G'.S G'.σ w cs us∧(∀q k,k∈G'.β q→k∈G.β q∨k∈B1)∧(∀p∈m++ms,p.1<128*i+124):=fun{cs m} e=>
    jW hs hm (by rw[hS];exact hr) n1 (fun k hk=>⟨hB k (by simp[hk]),hO k (by simp[hk])⟩) (fun p hp=>by
     have h60:=(cS e).2.2
     have:=hrg.2 p hp
     rw[dq τ f d us 0]at this
     rw[hpar p.1 (by omega),jp (by omega) (by omega)]
     exact ip (fq _ _ _ _) p hp) e
   have hgo:∀{y:SV} {cs m},ez i τ f (inj τ d)=some (cs,m)→(∀G':Gh,aj G'.S G'.σ w cs us→aC G'.S G'.σ w y v)→enter ps xs (i+1) ((i,y)::ts) (m++ms)=some (ts',ms')→∃G',G'.S=S∧aK E G' ⟨n,am ts',ao ms'⟩ a w:=by
    intro y cs m e1 hy e2
    obtain⟨G',k1,k2,k3,k4,k5⟩:=key e1
    refine h2 (fun j hj=>by rw[hpar j (by omega),dR (by omega)]) (fun b o m hb=>hM b o m (by simp[hb])) (fun k hk=>hO k (by simp[hk])) (fun j u hu=>by have:=hv (j+1) u (by simpa using hu);rwa [show i+(j+1)=i+1+j by omega]at this) n2 (fun k hk=> ?_) (by simpa[Bq.blk]using hKn) (fun k hk=> ?_) (k1.trans hS) (show aK E G' ⟨n,am ((i,y)::ts),ao (m++ms)⟩ a w from k2.put' (d:=i) (x:=y) ?_) (fun q hq=>by have:=k5 q hq;omega) e2
    ·have:=hB k (by simp[hk])
     exact⟨by rw[k1];exact this.1,this.2.1,fun q hq=>(k4 q k hq).elim (this.2.2 q) fun x=>n3 k x k hk rfl⟩
    ·have:=hK k (by simpa[Bq.blk]using hk)
     exact⟨by rw[k1];exact this.1,this.2.1,fun x=>this.2.2.1 (by simp[x]),fun q hq=>(k4 q k hq).elim (this.2.2.2 q) fun x=>this.2.2.1 (by simp[x])⟩
    ·rw[show a.tmps.getD i undef=v from hv 0 v (by simp)]
     exact hy G' k3
   rcases iR hd with⟨rfl,rfl⟩|⟨c,rfl,hc,rfl⟩
   ·simp only[enter]at e
    split at e
    ·rename_i cs m e1
     exact hgo (y:= .agg cs) e1 (fun G' hG=>⟨us,rfl,hG⟩) e
    ·simp at e
   ·simp only[enter]at e
    rw[←hc]at e
    split at e
    ·rename_i c' m e1
     exact hgo (y:= .v c') e1 (fun G' hG=>aC.v (aj.of_one hG)) e
    ·simp at e
  ·intro E G s a w' cs ts ms q en hpar hs e
   have:(∃ts ms,enter ps xs (i+1) ts ms=some q)∧(bX (128*i+64) τ f us 0).2≤60:=by
    rw[dq τ f d us 0]
    rcases iR hd with⟨rfl,rfl⟩|⟨c,rfl,hc,rfl⟩<;>simp only[enter]at en
    ·split at en
     ·rename_i e1;exact⟨⟨_,_,en⟩,(cS e1).2.2⟩
     ·simp at en
    ·rw[←hc]at en
     split at en
     ·rename_i e1;exact⟨⟨_,_,en⟩,(cS e1).2.2⟩
     ·simp at en
   obtain⟨⟨ts1,ms1,en⟩,h60⟩:=this
   simp only[cy]at e
   split at e
   ·rename_i rr hrr
    rcases ab e with⟨hl,e⟩|⟨_,e⟩
    ·simp only[aa]at e
     subst e
     obtain⟨ms,g1,g2⟩:=h3 en (fun j hj=>by rw[hpar j (by omega),dR (by omega)]) hs hrr
     have hlen:=aU.length _ _ _ _ _ hr
     have:=yK (S:=G.S) (σ:=G.σ) (w:=w') (id:=128*i+64) τ f us 0 hlen (fun p hp L hL=>by
      have:=hrg.2 p hp
      rw[hs.par p.1 L (by omega) hL,hpar p.1 (by omega),jp (by omega) (by omega)]
      exact ip (fq _ _ _ _) p hp) (fun k hk=>vZ hs (List.all_eq_true.1 hl k hk))
     exact⟨_,⟨ms,rfl,g1⟩,an.append this.1 g2⟩
    ·simp at e
   ·simp at e
 | @var ps xs vs K B f us b o B1 τ d hr hrg ht t ih=>
  intro i
  obtain⟨par,h1,h2,h3⟩:=ih (i+1)
  have hrn:=cA (id:=128*i+64) τ f us 0
  refine⟨sj i (.pointer (some ⟨b,o,none⟩)) (bX (128*i+64) τ f us 0).1 par,fun j hj=> ?_, ?_, ?_⟩
  ·by_cases hlt:j<128*(i+1)
   ·exact⟨_,ft hlt hj⟩
   ·rw[dR (by omega)];exact h1 j hj
  ·intro E G a n ts ts' ms ms' hpar hM hO hv hBn hB hKn hK hS hs hm e
   obtain⟨n1,n2,n3⟩:=List.nodup_append.1 hBn
   have hlen:=aU.length _ _ _ _ _ hr
   simp only[enter]at e
   split at e
   ·rename_i cs m e1
    have h60:=(cS e1).2.2
    obtain⟨G',k1,k2,k3,k4,k5⟩:=jW hs hm (by rw[hS];exact hr) n1 (fun k hk=>⟨hB k (by simp[hk]),hO k (by simp[hk])⟩) (fun p hp=>by
     have:=hrn.2 p hp
     rw[dq τ f d us 0]at this
     rw[hpar p.1 (by omega),jp (by omega) (by omega)]
     exact ip (fq _ _ _ _) p hp) e1
    have hb:=hK b (by simp[Bq.blk])
    have hm0:ao (m++ms) (128*i+127)=none:=gD fun p hp e=>by have:=k5 p hp;omega
    obtain⟨hσ0,hβ0⟩:=k2.dom (128*i+127) hm0
    have hwid:bq cs=τ.size:=by rw[←aj.length k3,hlen]
    have h4:=k2.addB (id:=128*i+127) (b:= .box cs) (L:=⟨.pointer (some ⟨b,o,none⟩),0⟩) (B:=[b]) (.inl hm0) (.inl ⟨hσ0,.inr (by rw[hpar _ (by omega),ft (by omega) (by omega)])⟩) hβ0
     ⟨b,o,us,rfl,aj.keep (fun _ x=>x) (fun _ _=>rfl) (ep hσ0) k3,hrg,ht,rfl⟩ (by simp) (fun k hk=>by
      simp only[List.mem_singleton]at hk
      subst hk
      exact⟨by rw[k1];exact hb.1,hb.2.1,fun q hq=>(k4 q k hq).elim (hb.2.2.2 q) fun x=>hb.2.2.1 (by simp[x])⟩) (fun k hk=>by
      simp only[List.mem_singleton]at hk
      subst hk
      exact .inr (.inr ⟨by omega,cs,o,rfl,rfl,fun j hj=>hM k o τ.size (by simp) j (by omega)⟩))
    have h5:aK E ⟨G'.S,cc G'.σ (128*i+127) ⟨.pointer (some ⟨b,o,none⟩),0⟩,az G'.β (128*i+127) [b]⟩ ⟨n,am ((i,.v (.ptr (128*i+127) (.at 0)))::ts),ao ((128*i+127,.box cs)::(m++ms))⟩ a w:=by
     have:=h4.put' (d:=i) (x:= .v (.ptr (128*i+127) (.at 0))) (by
      rw[show a.tmps.getD i undef= .pointer (some ⟨b,o,none⟩) from hv 0 _ (by simp)]
      exact⟨_,b,o,bK _ _ _,rfl,trivial,by simp[dK.off]⟩)
     exact this
    refine h2 (G:=⟨G'.S,cc G'.σ (128*i+127) ⟨.pointer (some ⟨b,o,none⟩),0⟩,az G'.β (128*i+127) [b]⟩) (ts:=(i,.v (.ptr (128*i+127) (.at 0)))::ts) (ms:=(128*i+127,.box cs)::(m++ms)) (fun j hj=>by rw[hpar j (by omega),dR (by omega)]) (fun b o m hb=>hM b o m (by simp[hb])) (fun k hk=>hO k (by simp[hk])) (fun j u hu=>by have:=hv (j+1) u (by simpa using hu);rwa [show i+(j+1)=i+1+j by omega]at this) n2 (fun k hk=> ?_) (by simp only[List.flatMap_cons,Bq.blk]at hKn;exact(List.nodup_append.1 hKn).2.1) (fun k hk=> ?_) (k1.trans hS) h5 (fun q hq=> ?_) e
    ·have:=hB k (by simp[hk])
     refine⟨by rw[k1];exact this.1,this.2.1,fun q hq=> ?_⟩
     by_cases e2:q=128*i+127
     ·simp only[az,av e2,List.mem_singleton]at hq
      subst hq
      exact hb.2.2.1 (by simp[hk])
     ·simp only[az,ak e2]at hq
      exact(k4 q k hq).elim (this.2.2 q) fun x=>n3 k x k hk rfl
    ·have:=hK k (by simp only[List.flatMap_cons,List.mem_append];exact .inr hk)
     refine⟨by rw[k1];exact this.1,this.2.1,fun x=>this.2.2.1 (by simp[x]),fun q hq=> ?_⟩
     by_cases e2:q=128*i+127
     ·simp only[az,av e2,List.mem_singleton]at hq
      subst hq
      simp only[List.flatMap_cons,Bq.blk,List.singleton_append,List.nodup_cons]at hKn
      exact hKn.1 hk
     ·simp only[az,ak e2]at hq
      exact(k4 q k hq).elim (this.2.2.2 q) fun x=>this.2.2.1 (by simp[x])
    ·rcases List.mem_cons.1 hq with rfl|hq
     ·simp only;omega
     ·have:=k5 q hq;omega
   ·simp at e
  ·intro E G s a w' cs ts ms q en hpar hs e
   simp only[enter]at en
   split at en
   ·simp only[cy]at e
    split at e
    ·rename_i c rr hmm hrr
     rcases ab e with⟨hwd,e⟩|⟨_,e⟩
     ·simp only[aa]at e
      subst e
      obtain⟨ms,g1,g2⟩:=h3 en (fun j hj=>by rw[hpar j (by omega),dR (by omega)]) hs hrr
      obtain⟨L,hL,b',o',us',hv1,hc,hr',ht',_⟩:=hs.mem _ _ hmm
      have hp:=hs.par _ L (by omega) hL
      rw[hpar _ (by omega),ft (by omega) (by omega),hv1]at hp
      simp only[Value.pointer.injEq,aa,Addr.mk.injEq,and_true]at hp
      obtain⟨rfl,rfl⟩:=hp
      have hl:=aj.length hc
      have hwd:=aG hwd
      exact⟨us'++ms,⟨us',ms,rfl,by omega,hr',by rw[←hwd,←hl];exact ht',g1⟩,an.append hc g2⟩
     ·simp at e
    ·simp at e
   ·simp at en
 | @dvar ps xs vs K B f us b o bc oc B1 τ d hr hrg ht hq hcl t ih=>
  intro i
  obtain⟨par,h1,h2,h3⟩:=ih (i+1)
  have hrn:=cA (id:=128*i+64) τ f us 0
  refine⟨sj i (.pointer (some ⟨b,o,none⟩)) (bX (128*i+64) τ f us 0).1 par,fun j hj=> ?_, ?_, ?_⟩
  ·by_cases hlt:j<128*(i+1)
   ·exact⟨_,ft hlt hj⟩
   ·rw[dR (by omega)];exact h1 j hj
  ·intro E G a n ts ts' ms ms' hpar hM hO hv hBn hB hKn hK hS hs hm e
   obtain⟨n1,n2,n3⟩:=List.nodup_append.1 hBn
   have hlen:=aU.length _ _ _ _ _ hr
   simp only[enter]at e
   split at e
   ·rename_i cs m e1
    have h60:=(cS e1).2.2
    obtain⟨G',k1,k2,k3,k4,k5⟩:=jW hs hm (by rw[hS];exact hr) n1 (fun k hk=>⟨hB k (by simp[hk]),hO k (by simp[hk])⟩) (fun p hp=>by
     have:=hrn.2 p hp
     rw[dq τ f d us 0]at this
     rw[hpar p.1 (by omega),jp (by omega) (by omega)]
     exact ip (fq _ _ _ _) p hp) e1
    have hb:=hK b (by simp[Bq.blk])
    have hm0:ao (m++ms) (128*i+127)=none:=gD fun p hp e=>by have:=k5 p hp;omega
    obtain⟨hσ0,hβ0⟩:=k2.dom (128*i+127) hm0
    have hwid:bq cs=τ.size:=by rw[←aj.length k3,hlen]
    have h4:=k2.addB (id:=128*i+127) (b:= .box cs) (L:=⟨.pointer (some ⟨b,o,none⟩),0⟩) (B:=[b]) (.inl hm0) (.inl ⟨hσ0,.inr (by rw[hpar _ (by omega),ft (by omega) (by omega)])⟩) hβ0
     ⟨b,o,us,rfl,aj.keep (fun _ x=>x) (fun _ _=>rfl) (ep hσ0) k3,hrg,ht,rfl⟩ (by simp) (fun k hk=>by
      simp only[List.mem_singleton]at hk
      subst hk
      exact⟨by rw[k1];exact hb.1,hb.2.1,fun q hq=>(k4 q k hq).elim (hb.2.2.2 q) fun x=>hb.2.2.1 (by simp[x])⟩) (fun k hk=>by
      simp only[List.mem_singleton]at hk
      subst hk
      exact .inr (.inr ⟨by omega,cs,o,rfl,rfl,fun j hj=>hM k o τ.size (by simp) j (by omega)⟩))
    have h5:aK E ⟨G'.S,cc G'.σ (128*i+127) ⟨.pointer (some ⟨b,o,none⟩),0⟩,az G'.β (128*i+127) [b]⟩ ⟨n,am ((i,.v (.cell (128*i+127)))::ts),ao ((128*i+127,.box cs)::(m++ms))⟩ a w:=by
     have:=h4.put' (d:=i) (x:= .v (.cell (128*i+127))) (by
      rw[show a.tmps.getD i undef= .pointer (some ⟨bc,oc,none⟩) from hv 0 _ (by simp)]
      exact⟨_,b,o,bc,oc,bK _ _ _,rfl,by rw[k1,hS];exact hq,hcl,rfl⟩)
     exact this
    refine h2 (G:=⟨G'.S,cc G'.σ (128*i+127) ⟨.pointer (some ⟨b,o,none⟩),0⟩,az G'.β (128*i+127) [b]⟩) (ts:=(i,.v (.cell (128*i+127)))::ts) (ms:=(128*i+127,.box cs)::(m++ms)) (fun j hj=>by rw[hpar j (by omega),dR (by omega)]) (fun b o m hb=>hM b o m (by simp[hb])) (fun k hk=>hO k (by simp[hk])) (fun j u hu=>by have:=hv (j+1) u (by simpa using hu);rwa [show i+(j+1)=i+1+j by omega]at this) n2 (fun k hk=> ?_) (by simp only[List.flatMap_cons,Bq.blk]at hKn;exact(List.nodup_append.1 hKn).2.1) (fun k hk=> ?_) (k1.trans hS) h5 (fun q hq=> ?_) e
    ·have:=hB k (by simp[hk])
     refine⟨by rw[k1];exact this.1,this.2.1,fun q hq=> ?_⟩
     by_cases e2:q=128*i+127
     ·simp only[az,av e2,List.mem_singleton]at hq
      subst hq
      exact hb.2.2.1 (by simp[hk])
     ·simp only[az,ak e2]at hq
      exact(k4 q k hq).elim (this.2.2 q) fun x=>n3 k x k hk rfl
    ·have:=hK k (by simp only[List.flatMap_cons,List.mem_append];exact .inr hk)
     refine⟨by rw[k1];exact this.1,this.2.1,fun x=>this.2.2.1 (by simp[x]),fun q hq=> ?_⟩
     by_cases e2:q=128*i+127
     ·simp only[az,av e2,List.mem_singleton]at hq
      subst hq
      simp only[List.flatMap_cons,Bq.blk,List.singleton_append,List.nodup_cons]at hKn
      exact hKn.1 hk
     ·simp only[az,ak e2]at hq
      exact(k4 q k hq).elim (this.2.2.2 q) fun x=>this.2.2.1 (by simp[x])
    ·rcases List.mem_cons.1 hq with rfl|hq
     ·simp only;omega
     ·have:=k5 q hq;omega
   ·simp at e
  ·intro E G s a w' cs ts ms q en hpar hs e
   simp only[enter]at en
   split at en
   ·simp only[cy]at e
    split at e
    ·rename_i c rr hmm hrr
     rcases ab e with⟨hwd,e⟩|⟨_,e⟩
     ·simp only[aa]at e
      subst e
      obtain⟨ms,g1,g2⟩:=h3 en (fun j hj=>by rw[hpar j (by omega),dR (by omega)]) hs hrr
      obtain⟨L,hL,b',o',us',hv1,hc,hr',ht',_⟩:=hs.mem _ _ hmm
      have hp:=hs.par _ L (by omega) hL
      rw[hpar _ (by omega),ft (by omega) (by omega),hv1]at hp
      simp only[Value.pointer.injEq,aa,Addr.mk.injEq,and_true]at hp
      obtain⟨rfl,rfl⟩:=hp
      have hl:=aj.length hc
      have hwd:=aG hwd
      exact⟨us'++ms,⟨us',ms,rfl,by omega,hr',by rw[←hwd,←hl];exact ht',g1⟩,an.append hc g2⟩
     ·simp at e
    ·simp at e
   ·simp at en
end Go.Ps
