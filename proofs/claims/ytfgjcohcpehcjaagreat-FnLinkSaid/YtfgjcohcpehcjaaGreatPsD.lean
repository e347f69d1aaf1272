import Derived.Test.YtfgjcohcpehcjaaGreatPsC
namespace Go.Ps
set_option linter.unusedVariables false
variable {S S':Nat→Prop} {σ σ':Sg} {w w':World}
def oE:List (Nat×Bool)→List Value→List Value→Prop
 | [],us,xs=>us=[]∧xs=[]
 |(n,agg)::sh,us,xs=>∃u v y ys,us=u++v∧xs=y::ys∧u.length=n∧(agg=true→y= .agg u.toArray)∧(agg=false→u=[y])∧oE sh v ys
def oF (S:Nat→Prop) (σ:Sg) (w:World) (cs:List PV) (sh:List (Nat×Bool)) (xs:List Value):Prop:=∃us,aj S σ w cs us∧oE sh us xs
def aC (S:Nat→Prop) (σ:Sg) (w:World):SV→Value→Prop
 | .v .undef,_=>True
 | .v p,x=>aP S σ w p [x]
 | .agg cs,x=>∃vs:List Value,x= .agg vs.toArray∧aj S σ w cs vs
 | .tup cs sh,x=>∃xs:List Value,x= .tuple xs.toArray∧oF S σ w cs sh xs
theorem aC.v {p:PV} {x:Value} (h:aP S σ w p [x]):aC S σ w (.v p) x:=by
 cases p<;>first|trivial|exact h
theorem aC.of_v {p:PV} {x:Value} (h:aC S σ w (.v p) x) (hp:p≠ .undef):aP S σ w p [x]:=by
 cases p<;>first|exact h|exact absurd rfl hp
theorem oF.keep (hS:∀b,S b→S' b) (hw:di S w w') (hσ:b8 σ σ') {sh:List (Nat×Bool)} {cs:List PV} {xs:List Value} (h:oF S σ w cs sh xs):oF S' σ' w' cs sh xs:=
 let⟨us,h1,h2⟩:=h;⟨us,aj.keep hS hw hσ h1,h2⟩
theorem aC.keep (hS:∀b,S b→S' b) (hw:di S w w') (hσ:b8 σ σ') {p:SV} {x:Value} (h:aC S σ w p x):aC S' σ' w' p x:=by
 cases p with
 |v p=>
  by_cases hp:p= .undef
  ·subst hp;trivial
  ·exact aC.v (aP.keep hS hw hσ (aC.of_v h hp))
 |agg cs=>obtain⟨vs,e,k⟩:=h;exact⟨vs,e,aj.keep hS hw hσ k⟩
 |tup cs sh=>obtain⟨vs,e,k⟩:=h;exact⟨vs,e,oF.keep hS hw hσ k⟩
def aO {α:Type} (Q:α→List Value→List Nat→Prop):List α→List Value→List Nat→Prop
 | [],vs,B=>vs=[]∧B=[]
 |x::xs,vs,B=>∃u v B1 B2,vs=u++v∧B=B1++B2∧Q x u B1∧aO Q xs v B2
def Cu (w:World) (e:TypeId) (size:Nat) (v:Value) (n:Nat) (xs:List Value):Prop:=
 xs.length=n*size∧∃g cap cur fz,v= .slice (some ⟨g,0,none⟩) n cap∧w.heap[g]? =some (.cells cur e fz)∧cur.size≤fz.1∧n≤cap∧cap≤maxLen∧cur.size=cap*size∧cur.toList.take (n*size)=xs
def kf (w:World) (f:Fl) (e:TypeId) (size:Nat) (v:Value) (n:Nat) (xs:List Value):Prop:=w.ownsRow 0 e size v n xs∨(f= .box∧Cu w e size v n xs)
theorem gA {w:World} {e:TypeId} {size:Nat} {v:Value} {n:Nat} {xs:List Value} {f:Fl} (hf:f≠ .box) (h:kf w f e size v n xs):w.ownsRow 0 e size v n xs:=h.elim id fun h=>absurd h.1 hf
theorem yx {w:World} {e:TypeId} {size:Nat} {v:Value} {n:Nat} {xs:List Value} {f:Fl} (h:kf w f e size v n xs):xs.length=n*size:=h.elim (fun h=>h.1) fun h=>h.2.1
def aU (S:Nat→Prop) (w:World):(τ:Ty)→Fl→τ.den→List Value→List Nat→Prop
 | .list e,.own T f,xs,us,B=>0<e.size∧∃v vs B2,us=[v]∧B=(aF v).toList++B2∧kf w f T e.size v xs.length vs∧aO (aU S w e f) xs vs B2
 | .opt e,.box,x,us,B=>(x=none∧us=[.pointer none]∧B=[])∨∃y b o vs,x=some y∧us=[.pointer (some ⟨b,o,none⟩)]∧B=[b]∧w.rangeAt b o vs∧w.there b o vs.length∧aw S w e y vs
 | .pair a b,.pair f g,x,us,B=>∃u v B1 B2,us=u++v∧B=B1++B2∧aU S w a f x.1 u B1∧aU S w b g x.2 v B2
 |τ,_,x,us,B=>aw S w τ x us∧B=[]
def Cv (S:Nat→Prop) (w:World) (ok:Nat→Prop) (B:List Nat):Prop:=B.Nodup∧∀k∈B,¬S k∧ok k∧k<w.heap.size
theorem eV {w w':World} {base:Nat} {t:TypeId} {z n:Nat} {v:Value} {vs:List Value} (h:w.ownsRow base t z v n vs) (e:∀k,aF v=some k→w'.heap[k]? =w.heap[k]?):w'.ownsRow base t z v n vs:=by
 obtain⟨h1,h2⟩:=h
 refine⟨h1,h2.imp id ?_⟩
 rintro⟨g,cap,cur,rfl,hg,hh,r⟩
 exact⟨g,cap,cur,rfl,hg,(e g rfl).trans hh,r⟩
theorem kq {w w':World} {f:Fl} {t:TypeId} {z n:Nat} {v:Value} {vs:List Value} (h:kf w f t z v n vs) (e:∀k,aF v=some k→w'.heap[k]? =w.heap[k]?):kf w' f t z v n vs:=by
 refine h.imp (fun h=>eV h e) ?_
 rintro⟨hf,h1,g,cap,cur,fz,rfl,hh,r⟩
 exact⟨hf,h1,g,cap,cur,fz,rfl,(e g rfl).trans hh,r⟩
theorem aO.imp {α:Type} {Q Q':α→List Value→List Nat→Prop}:∀{xs:List α} {vs:List Value} {B:List Nat},(∀x us B1,(∀k∈B1,k∈B)→Q x us B1→Q' x us B1)→aO Q xs vs B→aO Q' xs vs B
 | [],_,_,_,h=>h
 |x::xs,_,_,hQ,⟨u,v,B1,B2,e,e',h,k⟩=>⟨u,v,B1,B2,e,e',hQ _ _ _ (fun k hk=>by rw[e'];simp[hk]) h,aO.imp (fun x us B1 hB=>hQ x us B1 fun k hk=>by rw[e'];simp[hB k hk]) k⟩
theorem aO.rows {α:Type} {Q:α→List Value→List Nat→Prop} {Q':α→List Value→Prop}:∀{xs:List α} {vs:List Value} {B:List Nat},(∀x us B1,(∀k∈B1,k∈B)→Q x us B1→Q' x us)→aO Q xs vs B→an Q' xs vs
 | [],_,_,_,h=>h.1
 |x::xs,_,_,hQ,⟨u,v,B1,B2,e,e',h,k⟩=>⟨u,v,e,hQ _ _ _ (fun k hk=>by rw[e'];simp[hk]) h,aO.rows (fun x us B1 hB=>hQ x us B1 fun k hk=>by rw[e'];simp[hB k hk]) k⟩
theorem aO.append {α:Type} {Q:α→List Value→List Nat→Prop}:∀{xs ys:List α} {us vs:List Value} {B B':List Nat},aO Q xs us B→aO Q ys vs B'→aO Q (xs++ys) (us++vs) (B++B')
 | [],_,_,_,_,_,⟨h1,h2⟩,k=>by subst h1 h2;exact k
 |x::xs,_,_,_,_,_,⟨u,v,B1,B2,e,e',h,t⟩,k=>⟨u,v++_,B1,B2++_,by rw[e,aZ],by rw[e',aZ],h,aO.append t k⟩
theorem aO.split {α:Type} {Q:α→List Value→List Nat→Prop} {n:Nat} (hQ:∀x us B,Q x us B→us.length=n):∀{xs:List α} {vs:List Value} {B:List Nat},aO Q xs vs B→∀i (hi:i<xs.length),
  ∃pre u post B1 Bx B2,vs=pre++(u++post)∧B=B1++(Bx++B2)∧pre.length=i*n∧aO Q (xs.take i) pre B1∧Q xs[i] u Bx∧aO Q (xs.drop (i+1)) post B2
 | [],_,_,_,i,h=>by simp at h
 |x::xs,_,_,⟨u,v,B1,B2,e,e',h,k⟩,0,_=>⟨[],u,v,[],B1,B2,by simpa using e,by simpa using e',by simp,⟨rfl,rfl⟩,h,by simpa using k⟩
 |x::xs,_,_,⟨u,v,B1,B2,e,e',h,k⟩,i+1,hi=>by
  obtain⟨pre,u',post,C1,Cx,C2,g1,g2,g3,g4,g5,g6⟩:=aO.split hQ k i (by simpa using hi)
  refine⟨u++pre,u',post,B1++C1,Cx,C2,by rw[e,g1,aZ],by rw[e',g2,aZ], ?_,⟨u,pre,B1,C1,rfl,rfl,h,g4⟩,by simpa using g5,by simpa using g6⟩
  rw[List.length_append,g3,hQ _ _ _ h,Nat.add_mul];omega
theorem aO.join {α:Type} {Q:α→List Value→List Nat→Prop} {xs:List α} {i:Nat} {y:α} {pre u post:List Value} {B1 Bx B2:List Nat} (hi:i<xs.length) (h1:aO Q (xs.take i) pre B1) (h2:Q y u Bx) (h3:aO Q (xs.drop (i+1)) post B2):
  aO Q (xs.set i y) (pre++(u++post)) (B1++(Bx++B2)):=by
 rw[List.set_eq_take_append_cons_drop,av hi]
 exact h1.append ⟨u,post,Bx,B2,rfl,rfl,h2,h3⟩
theorem aU.keep (hS:∀b,S b→S' b) (hw:di S w w'):∀(τ:Ty) (f:Fl) (x:τ.den) (us:List Value) (B:List Nat),(∀k∈B,w'.heap[k]? =w.heap[k]?)→aU S w τ f x us B→aU S' w' τ f x us B:=by
 have dt:∀(τ:Ty) (x:τ.den) (us:List Value) (B:List Nat),(aw S w τ x us∧B=[])→(aw S' w' τ x us∧B=[]):=fun τ x us B h=>⟨aw.keep hS hw _ _ _ h.1,h.2⟩
 intro τ
 induction τ with
 |list e ih=>
  intro f x us B hk h
  cases f with
  |own T f=>
   obtain⟨hp,v,vs,B2,e1,rfl,ho,h⟩:=h
   exact⟨hp,v,vs,B2,e1,rfl,kq ho fun k hv=>hk k (by simp[hv]),aO.imp (fun y us B1 hB=>ih f y us B1 fun k hk'=>hk k (by simp[hB k hk'])) h⟩
  |_=>exact dt _ _ _ _ h
 |opt e ih=>
  intro f x us B hk h
  cases f with
  |box=>
   refine h.imp id ?_
   rintro⟨y,b,o,vs,e1,e2,rfl,hr,ht,hy⟩
   have hb:=hk b (by simp)
   exact⟨y,b,o,vs,e1,e2,rfl,bM hr hb,jq ht hb,aw.keep hS hw _ _ _ hy⟩
  |_=>exact dt _ _ _ _ h
 |pair a b iha ihb=>
  intro f x us B hk h
  cases f with
  |pair f g=>
   obtain⟨u,v,B1,B2,e1,rfl,h1,h2⟩:=h
   exact⟨u,v,B1,B2,e1,rfl,iha f _ _ _ (fun k hk'=>hk k (by simp[hk'])) h1,ihb g _ _ _ (fun k hk'=>hk k (by simp[hk'])) h2⟩
  |_=>exact dt _ _ _ _ h
 |_=>intro f x us B hk h;exact dt _ _ _ _ h
theorem aU.length:∀(τ:Ty) (f:Fl) (x:τ.den) (us:List Value) (B:List Nat),aU S w τ f x us B→us.length=τ.size:=by
 intro τ
 induction τ with
 |list e ih=>
  intro f x us B h
  cases f with
  |own T f=>obtain⟨_,v,vs,B1,rfl,_⟩:=h;rfl
  |_=>exact aw.length _ _ _ h.1
 |opt e ih=>
  intro f x us B h
  cases f with
  |box=>rcases h with⟨_,rfl,_⟩|⟨_,_,_,_,_,rfl,_⟩<;>rfl
  |_=>exact aw.length _ _ _ h.1
 |pair a b iha ihb=>
  intro f x us B h
  cases f with
  |pair f g=>obtain⟨u,v,B1,B2,rfl,_,h1,h2⟩:=h;rw[List.length_append,iha _ _ _ _ h1,ihb _ _ _ _ h2];rfl
  |_=>exact aw.length _ _ _ h.1
 |_=>intro f x us B h;exact aw.length _ _ _ h.1
theorem yy {T:TypeId} {e:Ty} {xs:List e.den} {v:Value} {vs:List Value} (hr:an (aw S w e) xs vs) (ho:w.ownsRow 0 T e.size v xs.length vs) (hS:∀k,aF v=some k→S k):aw S w (.list e) xs [v]:=by
 obtain⟨hl,ho⟩:=ho
 rcases ho with⟨rfl,h0⟩|⟨g,cap,cur,rfl,_,hh,hn,_,hc,ht⟩
 ·exact⟨none,0,by rw[h0],by omega,.inl ⟨List.eq_nil_of_length_eq_zero h0,fun _=>rfl⟩⟩
 ·refine⟨_,cap,rfl,hn,.inr ⟨g,0,vs,rfl,hS g rfl, ?_,hr⟩⟩
  intro j u hu
  have hu':=hu
  rw[←ht,List.getElem?_take]at hu'
  split at hu'
  ·simp only[World.cell?,hh,Option.isSome_none,Bool.false_eq_true,if_false,Nat.zero_add]
   rw[←Array.getElem?_toList];exact hu'
  ·simp at hu'
theorem Ay {T:TypeId} {f:Fl} {e:Ty} {xs:List e.den} {v:Value} {vs:List Value} (hr:an (aw S w e) xs vs) (ho:kf w f T e.size v xs.length vs) (hS:∀k,aF v=some k→S k):aw S w (.list e) xs [v]:=by
 rcases ho with ho|⟨_,hl,g,cap,cur,fz,rfl,hh,_,hn,_,hc,ht⟩
 ·exact yy hr ho hS
 ·refine⟨_,cap,rfl,hn,.inr ⟨g,0,vs,rfl,hS g rfl, ?_,hr⟩⟩
  intro j u hu
  have hu':=hu
  rw[←ht,List.getElem?_take]at hu'
  split at hu'
  ·simp only[World.cell?,hh,Option.isSome_none,Bool.false_eq_true,if_false,Nat.zero_add]
   rw[←Array.getElem?_toList];exact hu'
  ·simp at hu'
theorem aU.data (hS:∀b,S b→S' b):∀(τ:Ty) (f:Fl) (x:τ.den) (us:List Value) (B:List Nat),(∀k∈B,S' k)→aU S w τ f x us B→aw S' w τ x us:=by
 have dt:∀(τ:Ty) (x:τ.den) (us:List Value) (B:List Nat),(aw S w τ x us∧B=[])→aw S' w τ x us:=fun τ x us B h=>aw.keep hS (fun _ _=>rfl) _ _ _ h.1
 intro τ
 induction τ with
 |list e ih=>
  intro f x us B hk h
  cases f with
  |own T f=>
   obtain⟨hp,v,vs,B2,rfl,rfl,ho,h⟩:=h
   exact Ay (aO.rows (fun y us B1 hB=>ih f y us B1 fun k hk'=>hk k (by simp[hB k hk'])) h) ho fun k hv=>hk k (by simp[hv])
  |_=>exact dt _ _ _ _ h
 |opt e ih=>
  intro f x us B hk h
  cases f with
  |box=>
   refine h.imp (fun h=>⟨h.1,h.2.1⟩) ?_
   rintro⟨y,b,o,vs,e1,e2,rfl,hr,ht,hy⟩
   exact⟨y,b,o,vs,e1,e2,hk b (by simp),hr,aw.keep hS (fun _ _=>rfl) _ _ _ hy⟩
  |_=>exact dt _ _ _ _ h
 |pair a b iha ihb=>
  intro f x us B hk h
  cases f with
  |pair f g=>
   obtain⟨u,v,B1,B2,rfl,rfl,h1,h2⟩:=h
   exact⟨u,v,rfl,iha f _ _ _ (fun k hk'=>hk k (by simp[hk'])) h1,ihb g _ _ _ (fun k hk'=>hk k (by simp[hk'])) h2⟩
  |_=>exact dt _ _ _ _ h
 |_=>intro f x us B hk h;exact dt _ _ _ _ h
theorem aU.free:∀(τ:Ty) (f:Fl) (x:τ.den) (us:List Value) (B:List Nat),τ.shares f=false→aU S w τ f x us B→aU S' w τ f x us B:=by
 have hsl:∀τ:Ty,τ.shares .no=τ.lists:=by
  intro τ
  induction τ with
  |arr e n ih=>simp only[Ty.shares,Ty.lists,ih]
  |pair a b iha ihb=>simp only[Ty.shares,Ty.lists,iha,ihb]
  |_=>rfl
 have dt:∀(τ:Ty) (x:τ.den) (us:List Value) (B:List Nat),τ.shares .no=false→(aw S w τ x us∧B=[])→(aw S' w τ x us∧B=[]):=fun τ x us B hs h=>⟨aw.free τ (by rw[←hsl];exact hs) _ _ h.1,h.2⟩
 intro τ
 induction τ with
 |list e ih=>
  intro f x us B hs h
  cases f with
  |own T f=>
   obtain⟨hp,v,vs,B2,e1,e2,ho,h⟩:=h
   exact⟨hp,v,vs,B2,e1,e2,ho,aO.imp (fun y us B1 _=>ih f y us B1 (by simpa[Ty.shares]using hs)) h⟩
  |_=>simp[Ty.shares]at hs
 |opt e ih=>
  intro f x us B hs h
  cases f with
  |box=>
   refine h.imp id ?_
   rintro⟨y,b,o,vs,e1,e2,rfl,hr,ht,hy⟩
   exact⟨y,b,o,vs,e1,e2,rfl,hr,ht,aw.free e (by rw[←hsl];simpa[Ty.shares]using hs) _ _ hy⟩
  |_=>simp[Ty.shares]at hs
 |arr e n ih=>
  intro f x us B hs h
  have hs':(Ty.arr e n).shares .no=false:=by simpa[Ty.shares]using hs
  cases f<;>exact dt _ _ _ _ hs' h
 |pair a b iha ihb=>
  intro f x us B hs h
  cases f with
  |pair f g=>
   simp only[Ty.shares,Bool.or_eq_false_iff]at hs
   obtain⟨u,v,B1,B2,e1,e2,h1,h2⟩:=h
   exact⟨u,v,B1,B2,e1,e2,iha f _ _ _ hs.1 h1,ihb g _ _ _ hs.2 h2⟩
  |no=>exact dt (.pair a b) _ _ _ hs h
  |own _ _=>exact dt (.pair a b) _ _ _ hs h
  |box=>exact dt (.pair a b) _ _ _ hs h
 |unit=>intro f x us B hs h;cases f<;>exact dt .unit _ _ _ rfl h
 |bool=>intro f x us B hs h;cases f<;>exact dt .bool _ _ _ rfl h
 |str=>intro f x us B hs h;cases f<;>exact dt .str _ _ _ rfl h
 |int k=>intro f x us B hs h;cases f<;>exact dt (.int k) _ _ _ rfl h
theorem iO {τ:Ty} {x:τ.den} {us:List Value} {B:List Nat}:aU S w τ .no x us B↔(aw S w τ x us∧B=[]):=by
 cases τ<;>exact Iff.rfl
theorem cC {e:Ty}:∀{xs:List e.den} {vs:List Value} {B:List Nat},aO (aU S w e .no) xs vs B↔(an (aw S w e) xs vs∧B=[])
 | [],_,_=>Iff.rfl
 |x::xs,vs,B=>by
  constructor
  ·rintro⟨u,v,B1,B2,rfl,rfl,h1,h2⟩
   obtain⟨g1,e1⟩:=iO.1 h1
   obtain⟨g2,e2⟩:=cC.1 h2
   exact⟨⟨u,v,rfl,g1,g2⟩,by rw[e1,e2];rfl⟩
  ·rintro⟨⟨u,v,rfl,h1,h2⟩,rfl⟩
   exact⟨u,v,[],[],rfl,rfl,iO.2 ⟨h1,rfl⟩,cC.2 ⟨h2,rfl⟩⟩
theorem qG {τ:Ty} {f:Fl} (hf:f.flat τ=true) {x:τ.den} {us:List Value} {B:List Nat}:aU S w τ f x us B↔(aw S w τ x us∧B=[]):=by
 cases f with
 |no=>exact iO
 |box=>cases τ<;>first|exact Iff.rfl|simp[Fl.flat]at hf
 |_=>simp[Fl.flat]at hf
theorem fT {e:Ty} {f:Fl} (hf:f.flat e=true):∀{xs:List e.den} {vs:List Value} {B:List Nat},aO (aU S w e f) xs vs B↔(an (aw S w e) xs vs∧B=[])
 | [],_,_=>Iff.rfl
 |x::xs,vs,B=>by
  constructor
  ·rintro⟨u,v,B1,B2,rfl,rfl,h1,h2⟩
   obtain⟨g1,e1⟩:=(qG hf).1 h1
   obtain⟨g2,e2⟩:=(fT hf).1 h2
   exact⟨⟨u,v,rfl,g1,g2⟩,by rw[e1,e2];rfl⟩
  ·rintro⟨⟨u,v,rfl,h1,h2⟩,rfl⟩
   exact⟨u,v,[],[],rfl,rfl,(qG hf).2 ⟨h1,rfl⟩,(fT hf).2 ⟨h2,rfl⟩⟩
def yz (v:Value) (n:Nat):Prop:=(v= .slice none 0 0∧n=0)∨∃b c,v= .slice (some ⟨b,0,none⟩) n c
theorem yz.ofF {f:Fl} {T:TypeId} {z n:Nat} {v:Value} {vs:List Value} (h:kf w f T z v n vs):yz v n:=by
 rcases h with h|⟨_,_,g,cap,_,_,h,_⟩
 ·rcases h.2 with h|⟨g,cap,cur,h,_⟩
  ·exact .inl h
  ·exact .inr ⟨g,cap,h⟩
 ·exact .inr ⟨g,cap,h⟩
theorem yz.of {b0:Nat} {T:TypeId} {z n:Nat} {v:Value} {vs:List Value} (h:w.ownsRow b0 T z v n vs):yz v n:=by
 rcases h.2 with h|⟨g,cap,cur,h,_⟩
 ·exact .inl h
 ·exact .inr ⟨g,cap,h⟩
def kg (S:Nat→Prop) (σ:Sg) (w:World) (L:yN):cj→List Nat→Prop
 | .box cs,B=>∃b o vs,L.v= .pointer (some ⟨b,o,none⟩)∧aj S σ w cs vs∧w.rangeAt b o vs∧w.there b o vs.length∧B=[b]
 | .rows T e f xs,B=>aU S w (.list e) (.own T f) xs [L.v] B∧L.z=e.size
 | .fbox cs,B=>B=[]∧∃b o vs,L.v= .pointer (some ⟨b,o,none⟩)∧S b∧aj S σ w cs vs∧w.rangeAt b o vs
 | .frows e xs,B=>B=[]∧aw S w (.list e) xs [L.v]∧L.z=e.size∧0<e.size∧yz L.v xs.length
 | .dead,B=>B=[]
 | .opn T e f xs i cs,B=>0<e.size∧0≤i∧i< (xs.length:Int)∧L.z=e.size∧∃u pre post B1 B2,kf w f T e.size L.v xs.length (pre++(u++post))∧pre.length=i.toNat*e.size∧u.length=e.size∧
   aO (aU S w e f) (xs.take i.toNat) pre B1∧aj S σ w cs u∧aO (aU S w e f) (xs.drop (i.toNat+1)) post B2∧B=(aF L.v).toList++(B1++B2)
structure Gh where
 S:Nat→Prop
 σ:Sg
 β:Nat→List Nat
structure vE where
 at_:(Nat→Prop)→World→Prop
 keep:∀{S S' w w'},(∀b,S b→S' b)→di S w w'→at_ S w→at_ S' w'
def vE.none:vE:=⟨fun _ _=>True,fun _ _ _=>trivial⟩
structure En where
 W:World
 S:Nat→Prop
 M:Nat→Nat→Prop
 O:Nat→Prop
 par:Nat→Value
 I:vE
structure cM (W w:World) (M:Nat→Nat→Prop):Prop where
 os:w.os=W.os
 tape:w.tape=W.tape
 output:w.output=W.output
 size:W.heap.size≤w.heap.size
 block:∀b,b<W.heap.size→(∀o,¬M b o)→w.heap[b]? =W.heap[b]?
 cells:∀b,b<W.heap.size→∀o,¬M b o→w.cell? ⟨b,o,none⟩=W.cell? ⟨b,o,none⟩∧True
 frozen:∀b,b<W.heap.size→∀o,w.frozen? ⟨b,o,none⟩=W.frozen? ⟨b,o,none⟩
 there:∀b,b<W.heap.size→∀o,(w.cell? ⟨b,o,none⟩).isSome=(W.cell? ⟨b,o,none⟩).isSome
theorem cM.refl (W:World) (M:Nat→Nat→Prop):cM W W M:=⟨rfl,rfl,rfl,Nat.le_refl _,fun _ _ _=>rfl,fun _ _ _ _=>⟨rfl,trivial⟩,fun _ _ _=>rfl,fun _ _ _=>rfl⟩
theorem cM.step {W w w':World} {M:Nat→Nat→Prop} (h:cM W w M) (ho:w'.os=w.os) (ht:w'.tape=w.tape) (hu:w'.output=w.output) (hs:w.heap.size≤w'.heap.size)
  (hb:∀b,b<W.heap.size→w'.heap[b]? =w.heap[b]?):cM W w' M where
 os:=ho.trans h.os
 tape:=ht.trans h.tape
 output:=hu.trans h.output
 size:=Nat.le_trans h.size hs
 block b hlt hM:=(hb b hlt).trans (h.block b hlt hM)
 cells b hlt o hM:=⟨(World.cell?_of_block (a:=⟨b,o,none⟩) (hb b hlt)).trans (h.cells b hlt o hM).1,trivial⟩
 frozen b hlt o:=(World.frozen?_of_block (a:=⟨b,o,none⟩) (hb b hlt)).trans (h.frozen b hlt o)
 there b hlt o:=by rw[World.cell?_of_block (a:=⟨b,o,none⟩) (hb b hlt)];exact h.there b hlt o
structure aK (E:En) (G:Gh) (s:St) (a:Act) (w:World):Prop where
 defers:a.defers=[]
 size:a.tmps.size=s.n
 tmp:∀t,aC G.S G.σ w (s.tmps t) (a.tmps.getD t undef)
 mem:∀i b,s.mem i=some b→∃L,G.σ i=some L∧kg G.S G.σ w L b (G.β i)
 dom:∀i,s.mem i=none→G.σ i=none∧G.β i=[]
 apart:∀i j,i≠j→∀k∈G.β i,k∉G.β j
 nodup:∀i,(G.β i).Nodup
 off:∀i,∀k∈G.β i,¬G.S k∧k<w.heap.size
 old:∀b,G.S b→b<w.heap.size
 kept:cM E.W w E.M
 sub:∀b,E.S b→G.S b
 new:∀b,G.S b→E.S b∨E.W.heap.size≤b∨E.O b
 mine:∀i,∀k∈G.β i,E.W.heap.size≤k∨E.O k∨(i%128=127∧∃cs L o,s.mem i=some (.box cs)∧G.σ i=some L∧L.v= .pointer (some ⟨k,o,none⟩)∧∀j,j<bq cs→E.M k (o+j))
 sep:∀b o,E.M b o→E.O b∨(¬G.S b∧b<E.W.heap.size)
 all:∀b,E.O b→b<E.W.heap.size∧∀o,E.M b o
 par:∀i L,64≤i%128→G.σ i=some L→L.v=E.par i
 parp:∀i,i%128=127→∃x,E.par i= .pointer x
 inv:E.I.at_ G.S w
theorem kg.keep (hS:∀b,S b→S' b) (hw:di S w w') (hσ:b8 σ σ') {L:yN} {b:cj} {B:List Nat} (hB:∀k∈B,w'.heap[k]? =w.heap[k]? ∧¬S' k) (h:kg S σ w L b B):kg S' σ' w' L b B:=by
 cases b with
 |box cs=>
  obtain⟨b,o,vs,e,k,r,t,rfl⟩:=h
  have:=(hB b (by simp)).1
  exact⟨b,o,vs,e,aj.keep hS hw hσ k,bM r this,jq t this,rfl⟩
 |rows T e f xs=>exact⟨aU.keep hS hw _ _ _ _ _ (fun k hk=>(hB k hk).1) h.1,h.2⟩
 |fbox cs=>obtain⟨e,b,o,vs,e1,hs,hc,hr⟩:=h;exact⟨e,b,o,vs,e1,hS _ hs,aj.keep hS hw hσ hc,bM hr (hw b hs)⟩
 |frows e xs=>obtain⟨e0,h1,h2⟩:=h;exact⟨e0,aw.keep hS hw _ _ _ h1,h2⟩
 |dead=>exact h
 |opn T e f xs i cs=>
  obtain⟨hz,h0,hi,hl,u,pre,post,B1,B2,hr,hp,hu,r1,hc,r2,rfl⟩:=h
  refine⟨hz,h0,hi,hl,u,pre,post,B1,B2,kq hr fun k hk=>(hB k (by simp[hk])).1,hp,hu, ?_,aj.keep hS hw hσ hc, ?_,rfl⟩
  ·exact aO.imp (fun x us B h'=>aU.keep hS hw _ _ _ _ _ fun k hk=>(hB k (by simp[h' k hk])).1) r1
  ·exact aO.imp (fun x us B h'=>aU.keep hS hw _ _ _ _ _ fun k hk=>(hB k (by simp[h' k hk])).1) r2
variable {E:En} {G G':Gh} {s s':St} {a:Act}
theorem aK.change (h:aK E G s a w) (htm:s'.tmps=s.tmps) (hn:s'.n=s.n) (hσ:b8 G.σ G'.σ) (hS:∀b,G.S b→G'.S b) (hw:di G.S w w') (hkept:cM E.W w' E.M)
  (hmem:∀i b,s'.mem i=some b→(s.mem i=some b∧G'.β i=G.β i∧∀k∈G.β i,w'.heap[k]? =w.heap[k]?)∨(∃L,G'.σ i=some L∧kg G'.S G'.σ w' L b (G'.β i)))
  (hdom:∀i,s'.mem i=none→s.mem i=none∧G'.σ i=G.σ i∧G'.β i=G.β i)
  (hap:∀i j,i≠j→∀k∈G'.β i,k∉G'.β j) (hnd:∀i,(G'.β i).Nodup) (hoff:∀i,∀k∈G'.β i,¬G'.S k∧k<w'.heap.size)
  (hnew:∀b,G'.S b→G.S b∨(b<w'.heap.size∧(E.W.heap.size≤b∨E.O b)))
  (hmine:∀i,∀k∈G'.β i,E.W.heap.size≤k∨E.O k∨(i%128=127∧∃cs L o,s'.mem i=some (.box cs)∧G'.σ i=some L∧L.v= .pointer (some ⟨k,o,none⟩)∧∀j,j<bq cs→E.M k (o+j)))
  (hpar:∀i L,64≤i%128→G'.σ i=some L→G.σ i=some L∨L.v=E.par i) (hsz:w.heap.size≤w'.heap.size):aK E G' s' a w' where
 defers:=h.defers
 size:=by rw[hn];exact h.size
 tmp t:=by rw[htm];exact aC.keep hS hw hσ (h.tmp t)
 mem i b hb:=by
  rcases hmem i b hb with⟨h1,h2,h3⟩|h1
  ·obtain⟨L,hL,hB⟩:=h.mem i b h1
   refine⟨L,hσ _ _ hL, ?_⟩
   rw[h2]
   exact kg.keep hS hw hσ (fun k hk=>⟨h3 k hk,(hoff i k (by rw[h2];exact hk)).1⟩) hB
  ·exact h1
 dom i hi:=by
  obtain⟨h1,h2,h3⟩:=hdom i hi
  obtain⟨h4,h5⟩:=h.dom i h1
  exact⟨h2.trans h4,h3.trans h5⟩
 apart:=hap
 nodup:=hnd
 off:=hoff
 old b hb:=(hnew b hb).elim (fun x=>Nat.lt_of_lt_of_le (h.old b x) hsz) (fun x=>x.1)
 inv:=E.I.keep hS hw h.inv
 kept:=hkept
 sub b hb:=hS b (h.sub b hb)
 new b hb:=(hnew b hb).elim (h.new b) (fun x=> .inr x.2)
 mine:=hmine
 sep b o hM:=(h.sep b o hM).elim .inl fun⟨h1,h2⟩=>by
  by_cases hO:E.O b
  ·exact .inl hO
  ·exact .inr ⟨fun hb=>(hnew b hb).elim h1 fun x=>x.2.elim (fun y=>by omega) hO,h2⟩
 all:=h.all
 par i L hi hL:=(hpar i L hi hL).elim (h.par i L hi) id
 parp:=h.parp
theorem ij (t:Nat):Nat.beq t t=true:=Nat.beq_refl t
theorem dF {i id:Nat} (h:i≠id):Nat.beq i id=false:=by cases hb:Nat.beq i id;rfl;exact absurd (aG hb) h
theorem qH (s:St) (id:Nat) (b:Option cj):(s.setM id b).mem id=b:=by simp[St.setM]
theorem oG (s:St) {id i:Nat} (b:Option cj) (h:i≠id):(s.setM id b).mem i=s.mem i:=by simp[St.setM,dF h]
theorem bd (s:St) (id:Nat) (b:cj):(s.upd (.set id b)).mem id=some b:=qH _ _ _
theorem ax (s:St) {id i:Nat} (b:cj) (h:i≠id):(s.upd (.set id b)).mem i=s.mem i:=oG _ _ h
theorem et (s:St) (id:Nat):(s.upd (.frz id)).mem id=(s.mem id).map cj.frz:=qH _ _ _
theorem bF (s:St) {id i:Nat} (h:i≠id):(s.upd (.frz id)).mem i=s.mem i:=oG _ _ h
theorem fU (s:St) (u:bJ):(s.upd u).tmps=s.tmps:=by cases u<;>rfl
theorem oH (s:St) (u:bJ):(s.upd u).n=s.n:=by cases u<;>rfl
theorem du:∀(us:List bJ) (s:St),(s.upds us).tmps=s.tmps
 | [],_=>rfl
 |u::us,s=>(du us _).trans (fU s u)
theorem fV:∀(us:List bJ) (s:St),(s.upds us).n=s.n
 | [],_=>rfl
 |u::us,s=>(fV us _).trans (oH s u)
theorem bb:∀(us vs:List bJ) (s:St),s.upds (us++vs)=(s.upds us).upds vs
 | [],_,_=>rfl
 |u::us,vs,s=>bb us vs _
theorem Az {a:Act} {d t:Nat} {v:Value} (hd:d<a.tmps.size):(a.put (some d) v).tmps.getD t undef=if t=d then v else a.tmps.getD t undef:=by
 simp only[Act.put,Array.getD_eq_getD_getElem?,Array.getElem?_setIfInBounds]
 by_cases h:t=d
 ·subst h;simp[hd]
 ·rw[ak (fun e=>h e.symm),ak h]
theorem aK.put (h:aK E G s a w) {d:Nat} (hd:d<s.n) {x:SV} {v:Value} (hx:aC G.S G.σ w x v):aK E G (s.put d x) (a.put (some d) v) w:=
 {h with
  size:=by simp only[Act.put,Array.size_setIfInBounds];exact h.size
  tmp:=fun t=>by
   rw[Az (by rw[h.size];exact hd)]
   simp only[St.put]
   by_cases e:t=d
   ·subst e;simp[hx]
   ·rw[ak e,dF e];exact h.tmp t
  defers:=h.defers}
theorem aK.put' (h:aK E G s a w) {d:Nat} {x:SV} (hx:aC G.S G.σ w x (a.tmps.getD d undef)):aK E G (s.put d x) a w:=
 {h with
  tmp:=fun t=>by
   simp only[St.put]
   by_cases e:t=d
   ·subst e;rw[ij];exact hx
   ·rw[dF e];exact h.tmp t}
theorem aK.frz (h:aK E G s a w) (id:Nat) (hid:id%128≠127):∃S',(∀b,G.S b→S' b)∧(∀k∈G.β id,S' k)∧(∀b,S' b→G.S b∨b∈G.β id)∧aK E ⟨S',G.σ,fun i=>if i=id then[]else G.β i⟩ (s.upd (.frz id)) a w:=by
 refine⟨fun b=>G.S b∨b∈G.β id,fun _=> .inl,fun _=> .inr,fun _ x=>x, ?_⟩
 have hnb:∀{cs},∀k∈G.β id,¬(id%128=127∧cs):=fun _ _ x=>hid x.1
 refine h.change (fU _ _) (oH _ _) (b8.refl _) (fun _=> .inl) (fun _ _=>rfl) h.kept (fun i b hb=> ?_) (fun i hi=> ?_) (fun i j hij k hk=> ?_) (fun i=> ?_) (fun i k hk=> ?_) (fun b hb=> ?_) (fun i k hk=> ?_) (fun i L _ hL=> .inl hL) (Nat.le_refl _)
 ·by_cases hi:i=id
  ·subst hi
   rw[et]at hb
   cases hm:s.mem i with
   |none=>rw[hm]at hb;simp at hb
   |some b0=>
    rw[hm]at hb
    simp only[Option.map_some,aa]at hb
    subst hb
    obtain⟨L,hL,hB⟩:=h.mem i b0 hm
    refine .inr ⟨L,hL, ?_⟩
    simp only[if_true]
    cases b0 with
    |box cs=>obtain⟨b,o,vs,e,k,r,t,hb⟩:=hB;exact⟨rfl,b,o,vs,e,.inr (by rw[hb];simp),aj.keep (fun _=> .inl) (fun _ _=>rfl) (b8.refl _) k,r⟩
    |rows T e f xs=>exact⟨rfl,aU.data (fun _=> .inl) _ _ _ _ _ (fun k hk=> .inr hk) hB.1,hB.2,hB.1.1,by obtain⟨_,v,vs,B1,e1,_,ho,_⟩:=hB.1;simp only[ay,and_true]at e1;rw[e1];exact yz.ofF ho⟩
    |fbox cs=>obtain⟨_,b,o,vs,e1,hs,hc,hr⟩:=hB;exact⟨rfl,b,o,vs,e1,.inl hs,aj.keep (fun _=> .inl) (fun _ _=>rfl) (b8.refl _) hc,hr⟩
    |frows e xs=>obtain⟨_,h1,h2⟩:=hB;exact⟨rfl,aw.keep (fun _=> .inl) (fun _ _=>rfl) _ _ _ h1,h2⟩
    |dead=>rfl
    |opn T e f xs i cs=>rfl
  ·rw[bF _ hi]at hb
   exact .inl ⟨hb,by simp[hi],fun _ _=>rfl⟩
 ·by_cases hi':i=id
  ·subst hi'
   rw[et]at hi
   have hm:s.mem i=none:=by simpa using hi
   exact⟨hm,rfl,by simp[(h.dom i hm).2]⟩
  ·rw[bF _ hi']at hi
   exact⟨hi,rfl,by simp[hi']⟩
 ·by_cases hi:i=id
  ·simp[hi]at hk
  ·simp only[ak hi]at hk
   by_cases hj:j=id
   ·simp[hj]
   ·simp only[ak hj];exact h.apart i j hij k hk
 ·by_cases hi:i=id
  ·simp[hi]
  ·simp only[ak hi];exact h.nodup i
 ·by_cases hi:i=id
  ·simp[hi]at hk
  ·simp only[ak hi]at hk
   have:=h.off i k hk
   exact⟨fun hs=>hs.elim this.1 fun hk'=>h.apart i id hi k hk hk',this.2⟩
 ·refine hb.imp (fun x=>x) fun x=>⟨(h.off id b x).2, ?_⟩
  rcases h.mine id b x with h1|h1|h1
  ·exact .inl h1
  ·exact .inr h1
  ·exact absurd h1.1 hid
 ·by_cases hi:i=id
  ·simp[hi]at hk
  ·simp only[ak hi]at hk
   refine(h.mine i k hk).imp (fun x=>x) fun x=>x.imp (fun x=>x) fun⟨h1,cs,L,o,h2,h3⟩=>⟨h1,cs,L,o, ?_,h3⟩
   rw[bF _ hi];exact h2
theorem aK.frzs:∀(l:List Nat) {G:Gh} {s:St},aK E G s a w→(∀i∈l,i%128≠127)→∃G',G'.σ=G.σ∧(∀b,G.S b→G'.S b)∧(∀i∈l,∀k∈G.β i,G'.S k)∧(∀b,G'.S b→G.S b∨∃i∈l,b∈G.β i)∧(∀i,i∉l→G'.β i=G.β i)∧aK E G' (s.upds (l.map .frz)) a w
 | [],G,s,h,_=>⟨G,rfl,fun _ x=>x,by simp,fun _=> .inl,fun _ _=>rfl,h⟩
 |id::l,G,s,h,hl=>by
  obtain⟨S',h1,h2,h3,h4⟩:=h.frz id (hl id (by simp))
  obtain⟨G',g1,g2,g3,g4,g5,g6⟩:=aK.frzs l h4 fun i hi=>hl i (by simp[hi])
  refine⟨G',g1,fun b hb=>g2 b (h1 b hb),fun i hi k hk=> ?_,fun b hb=> ?_,fun i hi=> ?_,g6⟩
  ·by_cases e:i=id
   ·subst e;exact g2 k (h2 k hk)
   ·exact g3 i ((List.mem_cons.1 hi).resolve_left e) k (by simp[e,hk])
  ·rcases g4 b hb with x|⟨i,hi,hk⟩
   ·exact(h3 b x).imp (fun x=>x) fun x=>⟨id,by simp,x⟩
   ·by_cases e:i=id
    ·simp[e]at hk
    ·simp only[ak e]at hk;exact .inr ⟨i,by simp[hi],hk⟩
  ·have e:i≠id:=fun e=>hi (by simp[e])
   rw[g5 i fun x=>hi (by simp[x])];simp[e]
end Go.Ps
