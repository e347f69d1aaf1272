import Derived.Test.YtfgjcohcpehcjaaGreatPsH
namespace Go.Ps
set_option linter.unusedVariables false
variable {S S':Nat→Prop} {σ σ':Sg} {w w':World} {E:En} {G:Gh} {s:St} {a:Act} {C:b9} {R:Type} {r:R}
abbrev σ0:Sg:=fun _=>none
def yw (τ:Ty) (x:SV) (d:τ.den) (v:Value) (us:List Value):Prop:=(x= .agg (inj τ d)∧v= .agg us.toArray)∨(∃c,x= .v c∧inj τ d=[c]∧c.width=1∧us=[v])
inductive Bq where
 |var (b o n:Nat)
 |lend (us:List Value)
def Bq.blk:Bq→List Nat
 | .var b _ _=>[b]
 | .lend _=>[]
def jj:Ty→Fl→List Value→List Value
 | .list _,.own _ _,us=>us.take 1
 | .pair a b,.pair f g,us=>jj a f (us.take a.size)++jj b g (us.drop a.size)
 |_,_,_=>[]
def PK.plain:PK→Bool
 | .raw| .val _| .ro _=>true
 |_=>false
inductive bD (S:Nat→Prop) (w:World):List PK→List SV→List Value→List Bq→List Nat→Prop where
 |nil:bD S w [] [] [] [] []
 |plain {p ps x xs v vs K B} (hp:p.plain=true) (h:aC S σ0 w x v) (t:bD S w ps xs vs K B):bD S w (p::ps) (x::xs) (v::vs) K B
 |give {ps x xs v vs K B f us B1} {τ:Ty} {d:τ.den} (hd:yw τ x d v us) (h:aU S w τ f d us B1) (t:bD S w ps xs vs K B):bD S w (.give τ f::ps) (x::xs) (v::vs) K (B1++B)
 |lend {ps x xs v vs K B f us B1} {τ:Ty} {d:τ.den} (hd:yw τ x d v us) (h:aU S w τ f d us B1) (t:bD S w ps xs vs K B):bD S w (.lend τ f::ps) (x::xs) (v::vs) (.lend (jj τ f us)::K) (B1++B)
 |var {ps xs vs K B f us b o B1} {τ:Ty} {d:τ.den} (h:aU S w τ f d us B1) (hr:w.rangeAt b o us) (ht:w.there b o us.length) (t:bD S w ps xs vs K B):
   bD S w (.var τ f::ps) (.agg (inj τ d)::xs) (.pointer (some ⟨b,o,none⟩)::vs) (.var b o τ.size::K) (B1++B)
 |dvar {ps xs vs K B f us b o q p B1} {τ:Ty} {d:τ.den} (h:aU S w τ f d us B1) (hr:w.rangeAt b o us) (ht:w.there b o us.length) (hq:S q) (hc:w.rangeAt q p [.pointer (some ⟨b,o,none⟩)]) (t:bD S w ps xs vs K B):
   bD S w (.dvar τ f::ps) (.agg (inj τ d)::xs) (.pointer (some ⟨q,p,none⟩)::vs) (.var b o τ.size::K) (B1++B)
def DN (K:List Bq) (B:List Nat) (b o:Nat):Prop:=b∈B∨∃o0 n,.var b o0 n∈K∧o0≤o∧o<o0+n
def mY (w:World):List Bq→List Value→Prop
 | [],ms=>ms=[]
 | .var b o n::K,ms=>∃u v,ms=u++v∧u.length=n∧w.rangeAt b o u∧w.there b o n∧mY w K v
 | .lend us::K,ms=>∃v,ms=us++v∧mY w K v
def ki.shape (sg:ki):List (Nat×Bool):=sg.res.map fun x=>(x.1.size,x.2)
def kn:List Value→Value
 | [x]=>x
 |xs=> .tuple xs.toArray
def kO (I:vE) (C:b9) (f:Nat) (args:List SV) (r:C.Res f):Prop:=
 ∀sg,C.sig f=some sg→∀(S:Nat→Prop) (w:World) (vals:List Value) (K:List Bq) (B:List Nat),(∀b,S b→b<w.heap.size)→bD S w sg.params args vals K B→
  Cv S w (fun _=>True) B→Cv S w (fun b=>b∉B) (K.flatMap Bq.blk)→I.at_ S w→
  Calls C.P (C.real f) vals.toArray w fun e w'=>∃v xs us ms S' B',e= .returned v∧v=kn xs∧oE sg.shape us xs∧mY w' K ms∧cM w w' (DN K B)∧
   (∀b,S b→S' b)∧(∀b,S' b→S b∨(w.heap.size≤b∧b<w'.heap.size)∨b∈B)∧Cv S' w' (fun k=>w.heap.size≤k∨k∈B) B'∧aU S' w' (C.resTy f) sg.resFl r (us++ms) B'
def oC (C:b9) (f:Nat) (args:List SV) (r:C.Res f):Prop:=
 ∀sg,C.sig f=some sg→∀(S:Nat→Prop) (w:World) (vals:List Value) (K:List Bq) (B:List Nat),(∀b,S b→b<w.heap.size)→bD S w sg.params args vals K B→
  Cv S w (fun _=>True) B→Cv S w (fun b=>b∉B) (K.flatMap Bq.blk)→
  Calls C.P (C.real f) vals.toArray w fun e w'=>∃v xs us ms S' B',e= .returned v∧v=kn xs∧oE sg.shape us xs∧mY w' K ms∧cM w w' (DN K B)∧
   (∀b,S b→S' b)∧(∀b,S' b→S b∨(w.heap.size≤b∧b<w'.heap.size)∨b∈B)∧Cv S' w' (fun k=>w.heap.size≤k∨k∈B) B'∧aU S' w' (C.resTy f) sg.resFl r (us++ms) B'
theorem oC.all {C:b9} {f:Nat} {args:List SV} {r:C.Res f} (h:oC C f args r) (I:vE):kO I C f args r:=fun sg h1 S w vals K B h2 h3 h4 h5 _=>h sg h1 S w vals K B h2 h3 h4 h5
theorem kO.none {C:b9} {f:Nat} {args:List SV} {r:C.Res f} (h:kO vE.none C f args r):oC C f args r:=fun sg h1 S w vals K B h2 h3 h4 h5=>h sg h1 S w vals K B h2 h3 h4 h5 trivial
def ii (I:vE) (C:b9) (env:C.Env):Prop:=∀f args r,env f args=some r→kO I C f args r
theorem bD.append {ps ps':List PK} {xs xs':List SV} {vs vs':List Value} {K K':List Bq} {B B':List Nat} (h:bD S w ps xs vs K B) (h':bD S w ps' xs' vs' K' B'):bD S w (ps++ps') (xs++xs') (vs++vs') (K++K') (B++B'):=by
 induction h with
 |nil=>exact h'
 |plain hp h _ ih=>exact .plain hp h ih
 |give hd h _ ih=>rw[aZ];exact .give hd h ih
 |lend hd h _ ih=>rw[aZ];exact .lend hd h ih
 |var h hr ht _ ih=>rw[aZ];exact .var h hr ht ih
 |dvar h hr ht hq hc _ ih=>rw[aZ];exact .dvar h hr ht hq hc ih
theorem dh (h:aK E G s a w) {S1:Nat→Prop} (hS:∀b,G.S b→S1 b):∀(τ:Ty) (f:Fl) (cs cs':List PV) (x:τ.den) (U V:List Nat) (vs:List Value),bN s τ f cs=some (x,cs',U,V)→aj G.S G.σ w cs vs→(∀i∈V,∀k∈G.β i,S1 k)→
  ∃u v,vs=u++v∧aU S1 w τ f x u (U.flatMap G.β)∧aj G.S G.σ w cs' v:=by
 have dt:∀(τ:Ty) (cs cs':List PV) (x:τ.den) (U V:List Nat) (vs:List Value),(match d9 cs τ.size,bm cs τ.size with
   |some a,some b=>match be τ (a.map s.dat)with
    |some x=>some (x,b,([]:List Nat),aM a)
    |none=>none
   |_,_=>none)=some (x,cs',U,V)→aj G.S G.σ w cs vs→(∀i∈V,∀k∈G.β i,S1 k)→∃u v,vs=u++v∧(aw S1 w τ x u∧U.flatMap G.β=[])∧aj G.S G.σ w cs' v:=by
  intro τ cs cs' x U V vs e hc hV
  split at e
  ·rename_i c b hc1 hb1
   split at e
   ·rename_i y hy
    simp only[aa,ar]at e
    obtain⟨rfl,rfl,rfl,rfl⟩:=e
    exact⟨vs.take τ.size,vs.drop τ.size,by simp,⟨bE (cX (σ':=G.σ) h hS hV (aj.take hc hc1).1) hy,rfl⟩,aj.drop hc hb1⟩
   ·simp at e
  ·simp at e
 intro τ
 induction τ with
 |list e ih=>
  intro f cs cs' x U V vs e' hc hV
  cases f with
  |own T g=>
   simp only[bN]at e'
   split at e'
   ·rename_i i cs1
    split at e'
    ·rename_i T' e1 g' xs hm
     rcases ab e' with⟨hb,e2⟩|⟨_,e2⟩
     ·simp only[aB,bh]at hb
      obtain⟨hT,hg⟩:=hb
      have hT:=aG hT
      clear e'
      subst hT hg
      split at e2
      ·rename_i he _
       simp only[aa,ar]at e2
       obtain⟨rfl,rfl,rfl,rfl⟩:=e2
       subst he
       obtain⟨u,v,rfl,⟨L,p,n,c,hL,_,hu⟩,hv⟩:=hc
       obtain⟨L',hL',hB,_⟩:=h.mem i _ hm
       rw[hL]at hL';simp only[aa]at hL';subst hL'
       refine⟨u,v,rfl, ?_,hv⟩
       rw[hu]
       simp only[List.flatMap_cons,List.flatMap_nil,List.append_nil]
       exact aU.keep hS (fun _ _=>rfl) _ _ _ _ _ (fun _ _=>rfl) hB
      ·simp at e2
     ·simp at e2
    ·simp at e'
   ·rename_i cs1
    rcases ab e' with⟨hb,e'⟩|⟨_,e'⟩
    ·simp only[aa,ar]at e'
     obtain⟨rfl,rfl,rfl,rfl⟩:=e'
     obtain⟨u,v,rfl,hu,hv⟩:=hc
     refine⟨u,v,rfl,⟨bi hb,.slice none 0 0,[],[],hu,rfl,.inl (World.ownsRow_nil w 0 T e.size),rfl,rfl⟩,hv⟩
    ·simp at e'
   ·simp at e'
  |_=>exact dt _ _ _ _ _ _ _ e' hc hV
 |opt e ih=>
  intro f cs cs' x U V vs e' hc hV
  cases f with
  |box=>
   simp only[bN]at e'
   split at e'
   ·rename_i cs1
    simp only[aa,ar]at e'
    obtain⟨rfl,rfl,rfl,rfl⟩:=e'
    obtain⟨u,v,rfl,hu,hv⟩:=hc
    exact⟨u,v,rfl,.inl ⟨rfl,hu,rfl⟩,hv⟩
   ·rename_i i cs1
    split at e'
    ·rename_i bs hm
     rcases ab e' with⟨hb,e'⟩|⟨_,e'⟩
     ·split at e'
      ·rename_i y hy
       simp only[aa,ar]at e'
       obtain⟨rfl,rfl,rfl,rfl⟩:=e'
       obtain⟨u,v,rfl,⟨L,b,o,hL,hv0,_,hu⟩,hv⟩:=hc
       obtain⟨L',hL',b',o',vs',hv1,hcs,hr,ht,hβ⟩:=h.mem i _ hm
       rw[hL]at hL';simp only[aa]at hL';subst hL'
       rw[hv0]at hv1
       simp only[Value.pointer.injEq,aa,Addr.mk.injEq,and_true]at hv1
       obtain⟨rfl,rfl⟩:=hv1
       refine⟨u,v,rfl,.inr ⟨y,b,o,vs',rfl,by simpa[dK.off]using hu,by simp[hβ],hr,ht, ?_⟩,hv⟩
       exact bE (cX (σ':=G.σ) h hS hV hcs) hy
      ·simp at e'
     ·simp at e'
    ·simp at e'
   ·simp at e'
  |_=>exact dt _ _ _ _ _ _ _ e' hc hV
 |pair τa τb iha ihb=>
  intro f cs cs' x U V vs e' hc hV
  cases f with
  |pair f g=>
   simp only[bN]at e'
   split at e'
   ·rename_i x1 cs1 U1 V1 h1
    split at e'
    ·rename_i x2 cs2 U2 V2 h2
     simp only[aa,ar]at e'
     obtain⟨rfl,rfl,rfl,rfl⟩:=e'
     obtain⟨u,v,rfl,g1,g2⟩:=iha f _ _ _ _ _ _ h1 hc fun i hi=>hV i (by simp[hi])
     obtain⟨u',v',rfl,g3,g4⟩:=ihb g _ _ _ _ _ _ h2 g2 fun i hi=>hV i (by simp[hi])
     exact⟨u++u',v',by simp,⟨u,u',_,_,rfl,by simp,g1,g3⟩,g4⟩
    ·simp at e'
   ·simp at e'
  |_=>exact dt _ _ _ _ _ _ _ e' hc hV
 |_=>intro f cs cs' x U V vs e' hc hV;exact dt _ _ _ _ _ _ _ e' hc hV
theorem mZ {τ:Ty} {agg:Bool} {d:τ.den} {y:SV} (e:ju τ agg d=some y):(agg=true∧y= .agg (inj τ d))∨(agg=false∧∃c,inj τ d=[c]∧c.width=1∧y= .v c):=by
 unfold ju at e
 rcases ab e with⟨ha,e⟩|⟨ha,e⟩
 ·simp only[aa]at e;exact .inl ⟨ha,e.symm⟩
 ·right
  refine⟨ha, ?_⟩
  generalize inj τ d=l at e
  match l,e with
  | [c],e=>
   rcases ab e with⟨hw,e⟩|⟨_,e⟩
   ·simp only[aa]at e;exact⟨c,rfl,aG hw,e.symm⟩
   ·simp at e
  | [],e=>simp at e
  |_::_::_,e=>simp at e
theorem xr {x:SV} {v:Value} {cs:List PV} (hx:aC S σ w x v) (hc:x.cells=some cs):(x.isA=true→v= .agg v.cells.toList.toArray)∧(x.isA=false→v.cells.toList=[v]):=by
 cases x with
 |v p=>
  refine⟨fun e=>by simp[SV.isA]at e,fun _=> ?_⟩
  have hp:p≠ .undef:=fun e=>by subst e;simp[SV.cells]at hc
  have:=aP.one (aC.of_v hx hp) v (by simp)
  rw[ly this]
 |agg cs'=>
  refine⟨fun _=> ?_,fun e=>by simp[SV.isA]at e⟩
  obtain⟨vs,rfl,_⟩:=hx
  simp[Value.cells]
 |tup _ _=>simp[SV.cells]at hc
theorem rW {τ:Ty} {x y:SV} {d:τ.den} {v:Value} {cs:List PV} (hx:aC S σ w x v) (hc:x.cells=some cs) (e:ju τ x.isA d=some y):yw τ y d v v.cells.toList:=by
 have hv:=xr hx hc
 rcases mZ e with⟨ha,rfl⟩|⟨ha,c,h1,h2,rfl⟩
 ·exact .inl ⟨rfl,hv.1 ha⟩
 ·exact .inr ⟨c,rfl,h1,h2,hv.2 ha⟩
theorem yw.rep {τ:Ty} {x:SV} {d:τ.den} {v:Value} {us:List Value} (h:yw τ x d v us) (ht:aw S w τ d us):aC S σ w x v:=by
 rcases h with⟨rfl,rfl⟩|⟨c,rfl,h1,_,rfl⟩
 ·exact⟨us,rfl,cD _ _ _ ht⟩
 ·have:=cD (σ:=σ) _ _ _ ht
  rw[h1]at this
  exact aC.v (aj.of_one this)
theorem mi:∀{cs t u:List PV} {m n:Nat},bm cs m=some t→bm t n=some u→bm cs (m+n)=some u
 |cs,t,u,0,n,h,h'=>by simp only[bm,aa]at h;subst h;rw[Nat.zero_add];exact h'
 | [],t,u,m+1,n,h,_=>by simp[bm]at h
 |p::cs,t,u,m+1,n,h,h'=>by
  simp only[bm]at h
  rcases ab h with⟨hb,h⟩|⟨_,h⟩
  ·have hb:=bi hb
   have:=mi h h'
   rw[show m+1+n=(m+n)+1 by omega]
   simp only[bm]
   rw[show Nat.ble p.width (m+n+1)=true from Nat.ble_eq_true_of_le (by omega)]
   simp only[ac]
   rw[show m+n+1-p.width=m+1-p.width+n by omega]
   exact this
  ·simp at h
def ko (σ:Sg):Ty→Fl→List PV→Prop
 | .list e,.own _ _,cs=>∀i t,cs= .own i::t→∃L,σ i=some L∧L.z=e.size
 | .pair a b,.pair f g,cs=>ko σ a f cs∧∀t,bm cs a.size=some t→ko σ b g t
 |_,_,_=>True
theorem oD:∀(τ:Ty) (f:Fl) (cs cs':List PV) (x:τ.den) (U V:List Nat),bN s τ f cs=some (x,cs',U,V)→bm cs τ.size=some cs':=by
 have dt:∀(τ:Ty) (cs cs':List PV) (x:τ.den) (U V:List Nat),(match d9 cs τ.size,bm cs τ.size with
   |some a,some b=>match be τ (a.map s.dat)with
    |some x=>some (x,b,([]:List Nat),aM a)
    |none=>none
   |_,_=>none)=some (x,cs',U,V)→bm cs τ.size=some cs':=by
  intro τ cs cs' x U V e
  split at e
  ·rename_i hb1
   split at e
   ·simp only[aa,ar]at e
    rw[hb1,e.2.1]
   ·simp at e
  ·simp at e
 have one:∀(p:PV) (cs:List PV),p.width=1→bm (p::cs) 1=some cs:=by
  intro p cs hp
  simp only[bm,hp]
  cases cs<;>rfl
 intro τ
 induction τ with
 |list e ih=>
  intro f cs cs' x U V e'
  cases f with
  |own T g=>
   simp only[bN]at e'
   split at e'
   ·split at e'
    ·rcases ab e' with⟨hb,e2⟩|⟨_,e2⟩
     ·split at e2
      ·simp only[aa,ar]at e2
       rw[←e2.2.1];exact one _ _ rfl
      ·simp at e2
     ·simp at e2
    ·simp at e'
   ·rcases ab e' with⟨hb,e2⟩|⟨_,e2⟩
    ·simp only[aa,ar]at e2
     rw[←e2.2.1];exact one _ _ rfl
    ·simp at e2
   ·simp at e'
  |_=>exact dt _ _ _ _ _ _ e'
 |opt e ih=>
  intro f cs cs' x U V e'
  cases f with
  |box=>
   simp only[bN]at e'
   split at e'
   ·simp only[aa,ar]at e'
    rw[←e'.2.1];exact one _ _ rfl
   ·split at e'
    ·rcases ab e' with⟨hb,e2⟩|⟨_,e2⟩
     ·split at e2
      ·simp only[aa,ar]at e2
       rw[←e2.2.1];exact one _ _ rfl
      ·simp at e2
     ·simp at e2
    ·simp at e'
   ·simp at e'
  |_=>exact dt _ _ _ _ _ _ e'
 |pair τa τb iha ihb=>
  intro f cs cs' x U V e'
  cases f with
  |pair f g=>
   simp only[bN]at e'
   split at e'
   ·rename_i x1 cs1 U1 V1 h1
    split at e'
    ·rename_i x2 cs2 U2 V2 h2
     simp only[aa,ar]at e'
     rw[←e'.2.1]
     have g1:=iha f _ _ _ _ _ h1
     have g2:=ihb g _ _ _ _ _ h2
     exact mi g1 g2
    ·simp at e'
   ·simp at e'
  |_=>exact dt _ _ _ _ _ _ e'
 |_=>intro f cs cs' x U V e';cases f<;>exact dt _ _ _ _ _ _ e'
theorem tA (h:aK E G s a w):∀(τ:Ty) (f:Fl) (cs cs':List PV) (x:τ.den) (U V:List Nat),bN s τ f cs=some (x,cs',U,V)→ko G.σ τ f cs:=by
 intro τ
 induction τ with
 |list e ih=>
  intro f cs cs' x U V e'
  cases f with
  |own T g=>
   intro i t hcs
   subst hcs
   simp only[bN]at e'
   split at e'
   ·rename_i T' e1 g' xs hm
    rcases ab e' with⟨hb,e2⟩|⟨_,e2⟩
    ·split at e2
     ·rename_i he _
      obtain⟨L,hL,_,hz⟩:=h.mem i _ hm
      exact⟨L,hL,by rw[hz,he]⟩
     ·simp at e2
    ·simp at e2
   ·simp at e'
  |_=>trivial
 |pair τa τb iha ihb=>
  intro f cs cs' x U V e'
  cases f with
  |pair f g=>
   simp only[bN]at e'
   split at e'
   ·rename_i x1 cs1 U1 V1 h1
    split at e'
    ·rename_i x2 cs2 U2 V2 h2
     refine⟨iha f _ _ _ _ _ h1,fun t ht=> ?_⟩
     have:=oD _ _ _ _ _ _ _ h1
     rw[ht]at this
     simp only[aa]at this
     subst this
     exact ihb g _ _ _ _ _ h2
    ·simp at e'
   ·simp at e'
  |_=>trivial
 |_=>intro f cs cs' x U V e';cases f<;>trivial
inductive eM (G:Gh) (w:World) (s:St):List Bk→List Bq→Prop where
 |nil:eM G w s [] []
 |var {id o b o0 τ bs K cs L} (hm:s.mem id=some (.box cs)) (hL:G.σ id=some L) (hv:L.v= .pointer (some ⟨b,o0,none⟩)) (hβ:G.β id=[b]) (hl:o+τ.size≤bq cs) (t:eM G w s bs K):eM G w s (.var (.ptr id (.at o)) τ::bs) (.var b (o0+o) τ.size::K)
 |lend {cs us τ f bs K} (hc:aj G.S G.σ w cs us) (hl:us.length=τ.size) (hz:ko G.σ τ f cs) (t:eM G w s bs K):eM G w s (.lend cs τ f::bs) (.lend (jj τ f us)::K)
theorem eM.append {bs bs':List Bk} {K K':List Bq} (h:eM G w s bs K) (h':eM G w s bs' K'):eM G w s (bs++bs') (K++K'):=by
 induction h with
 |nil=>exact h'
 |var hm hL hv hβ hl _ ih=>exact .var hm hL hv hβ hl ih
 |lend hc hl hz _ ih=>exact .lend hc hl hz ih
theorem Ct (h:aK E G s a w) {S1:Nat→Prop} (hS:∀b,G.S b→S1 b) {p:PV} (hf:∀i∈p.owns,∀k∈G.β i,S1 k) {v:Value} (hr:aC G.S G.σ w (.v p) v):aC S1 σ0 w (.v (s.dat p)) v:=by
 by_cases hp:p= .undef
 ·subst hp;trivial
 ·exact aC.v (rR h hS hf (aC.of_v hr hp))
theorem tB (h:aK E G s a w) {S1:Nat→Prop} (hS:∀b,G.S b→S1 b) {p:PK} {x:SV} {v:Value} {A:Ar} (hx:aC G.S G.σ w x v) (e:ee s p x=some A) (hV:∀i∈A.V,∀k∈G.β i,S1 k):
  ∃K,bD S1 w [p] A.as [v] K (A.U.flatMap G.β)∧eM G w s A.bk K∧K.flatMap Bq.blk=A.P.flatMap G.β:=by
 cases p with
 |raw=>
  simp only[ee]at e
  split at e
  ·rename_i p
   simp only[aa]at e;subst e
   exact⟨[],.plain rfl (Ct h hS hV hx) .nil,.nil,rfl⟩
  ·simp at e
 |val τ=>
  simp only[ee]at e
  split at e
  ·rename_i cs hc
   split at e
   ·rename_i d hd
    split at e
    ·rename_i y hy
     simp only[aa]at e;subst e
     have ht:=bE (cX (σ':=G.σ) h hS hV (c9 hx hc)) hd
     exact⟨[],.plain rfl ((rW hx hc hy).rep ht) .nil,.nil,rfl⟩
    ·simp at e
   ·simp at e
  ·simp at e
 |give τ f=>
  simp only[ee]at e
  split at e
  ·rename_i cs hc
   split at e
   ·rename_i d U V hd
    split at e
    ·rename_i y hy
     simp only[aa]at e;subst e
     obtain⟨u,v',e1,h1,h2⟩:=dh h hS _ _ _ _ _ _ _ _ hd (c9 hx hc) hV
     cases h2
     rw[List.append_nil]at e1
     refine⟨[], ?_,.nil,rfl⟩
     have:=bD.give (S:=S1) (w:=w) (rW hx hc hy) (e1▸h1) .nil
     rwa [List.append_nil]at this
    ·simp at e
   ·simp at e
  ·simp at e
 |lend τ f=>
  simp only[ee]at e
  split at e
  ·rename_i cs hc
   split at e
   ·rename_i d U V hd
    split at e
    ·rename_i y hy
     simp only[aa]at e;subst e
     have hcs:=c9 hx hc
     obtain⟨u,v',e1,h1,h2⟩:=dh h hS _ _ _ _ _ _ _ _ hd hcs hV
     cases h2
     rw[List.append_nil]at e1
     refine⟨[.lend (jj τ f v.cells.toList)], ?_,.lend hcs (by rw[e1];exact aU.length _ _ _ _ _ h1) (tA h _ _ _ _ _ _ _ hd) .nil,rfl⟩
     have:=bD.lend (S:=S1) (w:=w) (rW hx hc hy) (e1▸h1) .nil
     rwa [List.append_nil]at this
    ·simp at e
   ·simp at e
  ·simp at e
 |ro τ=>
  simp only[ee]at e
  split at e
  ·rename_i cs hl
   split at e
   ·rename_i d hd
    simp only[aa]at e;subst e
    have hne:x.pv≠ .undef:=fun e=>by rw[e]at hl;simp[St.look]at hl
    have hpv:aP G.S G.σ w x.pv [v]:=by
     cases x with
     |v p=>exact aC.of_v hx hne
     |agg _=>exact absurd rfl hne
     |tup _ _=>exact absurd rfl hne
    obtain⟨b,o,vs,rfl,hr,hc,hlen,hb⟩:=kJ h hpv hl
    refine⟨[],.plain rfl (aC.v (p:= .cptr τ d 0) ⟨b,o,vs, ?_,hr,bE (cX (σ':=G.σ) h hS (fun i hi=>hV i (by simp[hi])) hc) hd,rfl⟩) .nil,.nil,rfl⟩
    exact hb.elim (hS b) fun⟨i,hi,hk⟩=>hV i (by simp[hi]) b hk
   ·simp at e
  ·simp at e
 |var τ f=>
  simp only[ee]at e
  split at e
  ·rename_i id o hpv
   split at e
   ·rename_i bs hm
    split at e
    ·rename_i cs hl
     split at e
     ·rename_i d U V hd
      simp only[aa]at e;subst e
      have hx1:x= .v (.ptr id (.at o)):=by
       cases x with
       |v p=>simp only[SV.pv]at hpv;rw[hpv]
       |agg _=>simp[SV.pv]at hpv
       |tup _ _=>simp[SV.pv]at hpv
      subst hx1
      obtain⟨L,b,o0,hL,hv,_,hva⟩:=aC.of_v hx (by simp)
      simp only[ay,and_true]at hva
      subst hva
      obtain⟨L',hL',b',o',vs,hv',hcs,hr,ht,hβ⟩:=h.mem id _ hm
      rw[hL]at hL';simp only[aa]at hL';subst hL'
      rw[hv]at hv'
      simp only[Value.pointer.injEq,aa,Addr.mk.injEq,and_true]at hv'
      obtain⟨rfl,rfl⟩:=hv'
      obtain⟨g1,g2,g3⟩:=aj.cut hcs hl
      obtain⟨u,v',e1,h1,h2⟩:=dh h hS _ _ _ _ _ _ _ _ hd g1 hV
      cases h2
      rw[List.append_nil]at e1
      rw[←e1]at h1
      have hlu:((vs.drop o).take τ.size).length=τ.size:=aU.length _ _ _ _ _ h1
      refine⟨[.var b (o0+o) τ.size], ?_,.var hm hL hv hβ (by rw[←aj.length hcs];exact g3) .nil,by simp[hβ,Bq.blk]⟩
      have:=bD.var (S:=S1) (w:=w) h1 (bC hr o τ.size) (fun j hj=>by
       have:=ht (o+j) (by rw[hlu]at hj;omega)
       rwa [←Nat.add_assoc]at this) .nil
      rwa [List.append_nil]at this
     ·simp at e
    ·simp at e
   ·simp at e
  ·simp at e
 |dvar τ f=>
  simp only[ee]at e
  split at e
  ·rename_i i0 hpv
   split at e
   ·rename_i id hm0
    split at e
    ·rename_i bs hm
     split at e
     ·rename_i cs hl
      split at e
      ·rename_i d U V hd
       simp only[aa]at e;subst e
       have hx1:x= .v (.ptr i0 (.at 0)):=by
        cases x with
        |v p=>simp only[SV.pv]at hpv;rw[hpv]
        |agg _=>simp[SV.pv]at hpv
        |tup _ _=>simp[SV.pv]at hpv
       subst hx1
       obtain⟨L0,q,p0,hL0,hv0,_,hva0⟩:=aC.of_v hx (by simp)
       simp only[ay,and_true]at hva0
       subst hva0
       have key:∃vs0,aj G.S G.σ w [.ptr id (.at 0)] vs0∧w.rangeAt q p0 vs0∧S1 q:=by
        unfold kz at hm0
        split at hm0
        ·rename_i cs' hm0'
         simp only[aa]at hm0;subst hm0
         obtain⟨L',hL',b',o',vs,hv',hc,hr,_,hβ⟩:=h.mem i0 _ hm0'
         rw[hL0]at hL';simp only[aa]at hL';subst hL'
         rw[hv0]at hv'
         simp only[Value.pointer.injEq,aa,Addr.mk.injEq,and_true]at hv'
         obtain⟨rfl,rfl⟩:=hv'
         exact⟨vs,hc,hr,hV i0 (by simp) q (by simp[hβ])⟩
        ·rename_i cs' hm0'
         simp only[aa]at hm0;subst hm0
         obtain⟨L',hL',_,b',o',vs,hv',hs,hc,hr⟩:=h.mem i0 _ hm0'
         rw[hL0]at hL';simp only[aa]at hL';subst hL'
         rw[hv0]at hv'
         simp only[Value.pointer.injEq,aa,Addr.mk.injEq,and_true]at hv'
         obtain⟨rfl,rfl⟩:=hv'
         exact⟨vs,hc,hr,hS q hs⟩
        ·simp at hm0
       obtain⟨vs0,hcs0,hr0,hq0⟩:=key
       obtain⟨u0,v0,e0,⟨L,b,o0,hL,hv,_,hva⟩,hnil⟩:=hcs0
       cases hnil
       rw[List.append_nil]at e0
       subst e0
       subst hva
       obtain⟨L',hL',b',o',vs,hv',hcs,hr,ht,hβ⟩:=h.mem id _ hm
       rw[hL]at hL';simp only[aa]at hL';subst hL'
       rw[hv]at hv'
       simp only[Value.pointer.injEq,aa,Addr.mk.injEq,and_true]at hv'
       obtain⟨rfl,rfl⟩:=hv'
       obtain⟨g1,g2,g3⟩:=aj.cut hcs hl
       obtain⟨u,v',e1,h1,h2⟩:=dh h hS _ _ _ _ _ _ _ _ hd g1 (fun i hi=>hV i (by simp[hi]))
       cases h2
       rw[List.append_nil]at e1
       rw[←e1]at h1
       have hlu:((vs.drop 0).take τ.size).length=τ.size:=aU.length _ _ _ _ _ h1
       refine⟨[.var b (o0+0) τ.size], ?_,.var hm hL hv hβ (by rw[←aj.length hcs];exact g3) .nil,by simp[hβ,Bq.blk]⟩
       have:=bD.dvar (S:=S1) (w:=w) (q:=q) (p:=p0) h1 (bC hr 0 τ.size) (fun j hj=>by
        have:=ht (0+j) (by rw[hlu]at hj;omega)
        rwa [←Nat.add_assoc]at this) hq0 (by exact hr0) .nil
       rwa [List.append_nil]at this
      ·simp at e
     ·simp at e
    ·simp at e
   ·simp at e
  ·simp at e
theorem rX (h:aK E G s a w) {S1:Nat→Prop} (hS:∀b,G.S b→S1 b):∀{ps:List PK} {xs:List SV} {vs:List Value} {A:Ar},dr (fun x v=>aC G.S G.σ w x v) xs vs→cx s ps xs=some A→(∀i∈A.V,∀k∈G.β i,S1 k)→
  ∃K,bD S1 w ps A.as vs K (A.U.flatMap G.β)∧eM G w s A.bk K∧K.flatMap Bq.blk=A.P.flatMap G.β:=by
 intro ps
 induction ps with
 |nil=>
  intro xs vs A hx e hV
  cases hx with
  |nil=>simp only[cx,aa]at e;subst e;exact⟨[],.nil,.nil,rfl⟩
  |cons _ _=>simp[cx]at e
 |cons p ps ih=>
  intro xs vs A hx e hV
  cases hx with
  |nil=>simp[cx]at e
  | @cons x v xs vs hxv ht=>
   simp only[cx]at e
   split at e
   ·rename_i A1 A2 h1 h2
    simp only[aa]at e;subst e
    obtain⟨K1,g1,g2,g3⟩:=tB h hS hxv h1 fun i hi=>hV i (by simp[hi])
    obtain⟨K2,f1,f2,f3⟩:=ih ht h2 fun i hi=>hV i (by simp[hi])
    refine⟨K1++K2, ?_,g2.append f2,by simp[g3,f3]⟩
    have:=g1.append f1
    rw[List.flatMap_append]
    exact this
   ·simp at e
end Go.Ps
