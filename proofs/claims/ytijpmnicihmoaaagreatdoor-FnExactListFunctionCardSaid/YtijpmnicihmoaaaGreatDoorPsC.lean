import Derived.Test.YtijpmnicihmoaaaGreatDoorPsB
import Derived.Deep.MidRow
import Derived.Laws.AppendOwn
import Derived.Below
namespace Go.Ps
set_option linter.unusedVariables false
def av {α:Type} (R:α→List Value→Prop):List α→List Value→Prop
 | [],vs=>vs=[]
 |x::xs,vs=>∃u v,vs=u++v∧R x u∧av R xs v
theorem av.imp {α:Type} {R R':α→List Value→Prop} (h:∀x vs,R x vs→R' x vs):∀(xs:List α) (vs:List Value),av R xs vs→av R' xs vs
 | [],_,e=>e
 |_::xs,_,⟨u,v,e,a,b⟩=>⟨u,v,e,h _ _ a,av.imp h xs _ b⟩
theorem av.append {α:Type} {R:α→List Value→Prop}:∀{xs ys:List α} {us vs:List Value},av R xs us→av R ys vs→av R (xs++ys) (us++vs)
 | [],_,_,_,e,h=>by cases e;exact h
 |_::_,_,_,_,⟨u,v,e,a,b⟩,h=>⟨u,v++_,by rw[e,bl],a,av.append b h⟩
theorem av.length {α:Type} {R:α→List Value→Prop} {n:Nat} (hR:∀x vs,R x vs→vs.length=n):∀{xs:List α} {vs:List Value},av R xs vs→vs.length=xs.length*n
 | [],_,e=>by cases e;simp
 |_::xs,_,⟨u,v,e,a,b⟩=>by rw[e,List.length_append,hR _ _ a,av.length hR b,List.length_cons,Nat.add_mul];omega
theorem av.get {α:Type} {R:α→List Value→Prop} {n:Nat} (hR:∀x vs,R x vs→vs.length=n):∀{xs:List α} {vs:List Value},av R xs vs→∀i (h:i<xs.length),R xs[i] ((vs.drop (i*n)).take n)
 | [],_,e,i,h=>by simp at h
 |x::xs,_,⟨u,v,e,a,b⟩,0,h=>by
  have:=hR _ _ a
  rw[e];simp only[Nat.zero_mul,List.drop_zero,List.getElem_cons_zero]
  rw[List.take_append_of_le_length (by omega),List.take_of_length_le (by omega)];exact a
 |x::xs,_,⟨u,v,e,a,b⟩,i+1,h=>by
  have hu:=hR _ _ a
  have:=av.get hR b i (by simpa using h)
  rw[e];simp only[List.getElem_cons_succ]
  rw[Nat.add_mul,Nat.one_mul,List.drop_append,List.drop_eq_nil_of_le (by omega),List.nil_append,show i*n+n-u.length=i*n by omega]
  exact this
theorem av.take {α:Type} {R:α→List Value→Prop} {n:Nat} (hR:∀x vs,R x vs→vs.length=n):∀{xs:List α} {vs:List Value},av R xs vs→∀i,av R (xs.take i) (vs.take (i*n))
 | [],_,e,i=>by cases e;simp[av]
 |x::xs,_,⟨u,v,e,a,b⟩,0=>by simp[av]
 |x::xs,_,⟨u,v,e,a,b⟩,i+1=>by
  have hu:=hR _ _ a
  refine⟨u,v.take (i*n), ?_,a,av.take hR b i⟩
  rw[e,List.take_append,List.take_of_length_le (by rw[Nat.add_mul];omega),Nat.add_mul,show i*n+1*n-u.length=i*n by omega]
theorem av.drop {α:Type} {R:α→List Value→Prop} {n:Nat} (hR:∀x vs,R x vs→vs.length=n):∀{xs:List α} {vs:List Value},av R xs vs→∀i,av R (xs.drop i) (vs.drop (i*n))
 | [],_,e,i=>by cases e;simp[av]
 |x::xs,_,⟨u,v,e,a,b⟩,0=>by simpa using⟨u,v,e,a,b⟩
 |x::xs,_,⟨u,v,e,a,b⟩,i+1=>by
  have hu:=hR _ _ a
  have:=av.drop hR b i
  rw[e,Nat.add_mul,List.drop_append,List.drop_eq_nil_of_le (as:=u) (by omega),List.nil_append,show i*n+1*n-u.length=i*n by omega]
  exact this
theorem av.set {α:Type} {R:α→List Value→Prop} {n:Nat} (hR:∀x vs,R x vs→vs.length=n):∀{xs:List α} {vs:List Value},av R xs vs→∀i y us,i<xs.length→R y us→av R (xs.set i y) (vs.take (i*n)++(us++vs.drop (i*n+n)))
 | [],_,e,i,_,_,h,_=>by simp at h
 |x::xs,_,⟨u,v,e,a,b⟩,0,y,us,h,hy=>by
  have hu:=hR _ _ a
  refine⟨us,v, ?_,hy,b⟩
  rw[e];simp[←hu]
 |x::xs,_,⟨u,v,e,a,b⟩,i+1,y,us,h,hy=>by
  have hu:=hR _ _ a
  refine⟨u,_, ?_,a,av.set hR b i y us (by simpa using h) hy⟩
  rw[e,Nat.add_mul,Nat.one_mul,List.take_append,List.take_of_length_le (by omega),List.drop_append,List.drop_eq_nil_of_le (as:=u) (by omega),List.nil_append,show i*n+n-u.length=i*n by omega,show i*n+n+n-u.length=i*n+n by omega,bl]
def aE (S:Nat→Prop) (w:World):(τ:Ty)→τ.den→List Value→Prop
 | .unit,_,vs=>vs=[]
 | .bool,b,vs=>vs=[.bool b]
 | .str,s,vs=>vs=[.string s]
 | .int k,n,vs=>vs=[.int k n]
 | .list e,xs,vs=>∃p cap,vs=[.slice p xs.length cap]∧xs.length≤cap∧((xs=[]∧(p=none→cap=0))∨∃b o us,p=some ⟨b,o,none⟩∧S b∧w.rangeAt b o us∧av (aE S w e) xs us)
 | .arr e n,xs,vs=>xs.length=n∧av (aE S w e) xs vs
 | .pair a b,x,vs=>∃u v,vs=u++v∧aE S w a x.1 u∧aE S w b x.2 v
 | .opt e,x,vs=>(x=none∧vs=[.pointer none])∨∃y b o us,x=some y∧vs=[.pointer (some ⟨b,o,none⟩)]∧S b∧w.rangeAt b o us∧aE S w e y us
theorem aE.length {S:Nat→Prop} {w:World}:∀(τ:Ty) (x:τ.den) (vs:List Value),aE S w τ x vs→vs.length=τ.size
 | .unit,_,_,h=>by cases h;rfl
 | .bool,_,_,h=>by cases h;rfl
 | .str,_,_,h=>by cases h;rfl
 | .int _,_,_,h=>by cases h;rfl
 | .list e,_,_,⟨_,_,h,_⟩=>by rw[h];rfl
 | .arr e n,_,_,⟨h,k⟩=>by rw[av.length (aE.length e) k,h];rfl
 | .pair a b,_,_,⟨u,v,e,h,k⟩=>by rw[e,List.length_append,aE.length a _ _ h,aE.length b _ _ k];rfl
 | .opt e,_,_,h=>by
  rcases h with⟨_,h⟩|⟨_,_,_,_,_,h,_⟩<;>rw[h]<;>rfl
def eO (S:Nat→Prop) (w w':World):Prop:=∀b,S b→w'.heap[b]? =w.heap[b]?
theorem cb {w w':World} {b o:Nat} {us:List Value} (h:w.rangeAt b o us) (e:w'.heap[b]? =w.heap[b]?):w'.rangeAt b o us:=
 fun j v hv=>(World.cell?_of_block (a:=⟨b,o+j,none⟩) e).trans (h j v hv)
theorem kf {w w':World} {b o n:Nat} (h:w.there b o n) (e:w'.heap[b]? =w.heap[b]?):w'.there b o n:=
 fun j hj=>⟨by rw[World.cell?_of_block (a:=⟨b,o+j,none⟩) e];exact(h j hj).1,by rw[World.frozen?_of_block (a:=⟨b,o+j,none⟩) e];exact(h j hj).2⟩
theorem aE.keep {S S':Nat→Prop} {w w':World} (hS:∀b,S b→S' b) (hw:eO S w w'):∀(τ:Ty) (x:τ.den) (vs:List Value),aE S w τ x vs→aE S' w' τ x vs
 | .unit,_,_,h=>h
 | .bool,_,_,h=>h
 | .str,_,_,h=>h
 | .int _,_,_,h=>h
 | .list e,_,_,⟨p,c,h,hc,k⟩=>⟨p,c,h,hc,k.imp id fun⟨b,o,us,hp,hb,hr,hk⟩=>⟨b,o,us,hp,hS b hb,cb hr (hw b hb),av.imp (aE.keep hS hw e) _ _ hk⟩⟩
 | .arr e n,_,_,⟨h,k⟩=>⟨h,av.imp (aE.keep hS hw e) _ _ k⟩
 | .pair a b,_,_,⟨u,v,e,h,k⟩=>⟨u,v,e,aE.keep hS hw a _ _ h,aE.keep hS hw b _ _ k⟩
 | .opt e,_,_,h=>h.imp id fun⟨y,b,o,us,hx,hv,hb,hr,hk⟩=>⟨y,b,o,us,hx,hv,hS b hb,cb hr (hw b hb),aE.keep hS hw e _ _ hk⟩
theorem aE.free {S S':Nat→Prop} {w w':World}:∀(τ:Ty) (hτ:τ.lists=false) (x:τ.den) (vs:List Value),aE S w τ x vs→aE S' w' τ x vs
 | .unit,_,_,_,h=>h
 | .bool,_,_,_,h=>h
 | .str,_,_,_,h=>h
 | .int _,_,_,_,h=>h
 | .list e,h,_,_,_=>by simp[Ty.lists]at h
 | .opt e,h,_,_,_=>by simp[Ty.lists]at h
 | .arr e n,hl,_,_,⟨h,k⟩=>⟨h,av.imp (aE.free e hl) _ _ k⟩
 | .pair a b,hl,_,_,⟨u,v,e,h,k⟩=>by
  simp only[Ty.lists,Bool.or_eq_false_iff]at hl
  exact⟨u,v,e,aE.free a hl.1 _ _ h,aE.free b hl.2 _ _ k⟩
structure Cl where
 v:Value
 z:Nat
abbrev Sg:=Nat→Option Cl
def cn (σ σ':Sg):Prop:=∀i L,σ i=some L→σ' i=some L
theorem cn.refl (σ:Sg):cn σ σ:=fun _ _ h=>h
def ba:Value→Option Nat
 | .slice (some a) _ _=>some a.block
 | .pointer (some a)=>some a.block
 |_=>none
def dZ.off:dZ→Nat
 | .at o=>o
 | .arr o e m j q=>o+j.toNat*e.size+q
def dZ.ok:dZ→Prop
 | .at _=>True
 | .arr _ _ m j _=>0≤j∧j< (m:Int)
def kg (S:Nat→Prop) (σ:Sg) (w:World):rQ→Value→Prop
 | .dat τ x,v=>aE S w τ x [v]
 | .agg τ x,v=>∃us:List Value,v= .agg us.toArray∧aE S w τ x us
 | .cref τ x,v=>∃b o us,S b∧w.rangeAt b o us∧aE S w τ x us∧v= .pointer (some ⟨b,o,none⟩)
 | .ref id,v=>∃L b o,σ id=some L∧L.v= .pointer (some ⟨b,o,none⟩)∧v=L.v
def eP (S:Nat→Prop) (σ:Sg) (w:World):List rQ→List Value→Prop
 | [],vs=>vs=[]
 |c::cs,vs=>∃v us,vs=v::us∧kg S σ w c v∧eP S σ w cs us
def bc (S:Nat→Prop) (σ:Sg) (w:World):PV→List Value→Prop
 | .undef,vs=>∃v,vs=[v]∧v.oneCell'=true
 | .bool b,vs=>vs=[.bool b]
 | .int k n,vs=>vs=[.int k n]
 | .str s,vs=>vs=[.string s]
 | .nils,vs=>vs=[.slice none 0 0]
 | .nilp,vs=>vs=[.pointer none]
 | .list e xs,vs=>aE S w (.list e) xs vs
 | .seg e n xs,vs=>aE S w (.arr e n) xs vs
 | .own id,vs=>∃L p n c,σ id=some L∧L.v= .slice p n c∧vs=[L.v]
 | .ptr id q,vs=>∃L b o,σ id=some L∧L.v= .pointer (some ⟨b,o,none⟩)∧q.ok∧vs=[.pointer (some ⟨b,o+q.off,none⟩)]
 | .elt id i q,vs=>∃L b n c,σ id=some L∧L.v= .slice (some ⟨b,0,none⟩) n c∧0≤i∧i< (n:Int)∧q.ok∧vs=[.pointer (some ⟨b,i.toNat*L.z+q.off,none⟩)]
 | .cptr τ x off,vs=>∃b o us,S b∧w.rangeAt b o us∧aE S w τ x us∧vs=[.pointer (some ⟨b,o+off,none⟩)]
 | .fn f caps,vs=>∃us:List Value,vs=[.func (.func f) #[] us.toArray]∧eP S σ w caps us
 | .dopt e x,vs=>aE S w (.opt e) x vs
variable {S S':Nat→Prop} {σ σ':Sg} {w w':World}
theorem bc.length:∀{p:PV} {vs:List Value},bc S σ w p vs→vs.length=p.width:=by
 intro p vs h
 cases p<;>simp only[bc,PV.width]at h⊢
 case undef=>obtain⟨v,rfl,_⟩:=h;rfl
 case list=>exact aE.length _ _ _ h
 case seg=>exact aE.length _ _ _ h
 case own=>obtain⟨_,_,_,_,_,_,rfl⟩:=h;rfl
 case ptr=>obtain⟨_,_,_,_,_,_,rfl⟩:=h;rfl
 case elt=>obtain⟨_,_,_,_,_,_,_,_,_,rfl⟩:=h;rfl
 case cptr=>obtain⟨_,_,_,_,_,_,rfl⟩:=h;rfl
 case fn=>obtain⟨_,rfl,_⟩:=h;rfl
 case dopt=>exact aE.length _ _ _ h
 all_goals (rw[h];rfl)
theorem kg.keep (hS:∀b,S b→S' b) (hw:eO S w w') (hσ:cn σ σ') {c:rQ} {v:Value} (h:kg S σ w c v):kg S' σ' w' c v:=by
 cases c with
 |dat=>exact aE.keep hS hw _ _ _ h
 |agg=>obtain⟨us,e,k⟩:=h;exact⟨us,e,aE.keep hS hw _ _ _ k⟩
 |cref=>obtain⟨b,o,us,hb,hr,ht,e⟩:=h;exact⟨b,o,us,hS b hb,cb hr (hw b hb),aE.keep hS hw _ _ _ ht,e⟩
 |ref=>obtain⟨L,b,o,hL,e,e'⟩:=h;exact⟨L,b,o,hσ _ _ hL,e,e'⟩
theorem eP.keep (hS:∀b,S b→S' b) (hw:eO S w w') (hσ:cn σ σ'):∀{cs:List rQ} {vs:List Value},eP S σ w cs vs→eP S' σ' w' cs vs
 | [],_,h=>h
 |_::_,_,⟨v,us,e,h,k⟩=>⟨v,us,e,kg.keep hS hw hσ h,eP.keep hS hw hσ k⟩
theorem bc.keep (hS:∀b,S b→S' b) (hw:eO S w w') (hσ:cn σ σ') {p:PV} {vs:List Value} (h:bc S σ w p vs):bc S' σ' w' p vs:=by
 cases p<;>simp only[bc]at h⊢
 case list=>exact aE.keep hS hw _ _ _ h
 case seg=>exact aE.keep hS hw _ _ _ h
 case own=>obtain⟨L,p,n,c,hL,e⟩:=h;exact⟨L,p,n,c,hσ _ _ hL,e⟩
 case ptr=>obtain⟨L,b,o,hL,e⟩:=h;exact⟨L,b,o,hσ _ _ hL,e⟩
 case elt=>obtain⟨L,b,n,c,hL,e⟩:=h;exact⟨L,b,n,c,hσ _ _ hL,e⟩
 case cptr=>obtain⟨b,o,us,hb,hr,ht,rfl⟩:=h;exact⟨b,o,us,hS b hb,cb hr (hw b hb),aE.keep hS hw _ _ _ ht,rfl⟩
 case fn=>obtain⟨us,e,h⟩:=h;exact⟨us,e,eP.keep hS hw hσ h⟩
 case dopt=>exact aE.keep hS hw _ _ _ h
 all_goals exact h
abbrev ar (S:Nat→Prop) (σ:Sg) (w:World) (cs:List PV) (vs:List Value):Prop:=av (bc S σ w) cs vs
theorem ar.keep (hS:∀b,S b→S' b) (hw:eO S w w') (hσ:cn σ σ'):∀{cs:List PV} {vs:List Value},ar S σ w cs vs→ar S' σ' w' cs vs
 | [],_,h=>h
 |p::cs,_,⟨u,v,e,a,b⟩=>⟨u,v,e,bc.keep hS hw hσ a,ar.keep hS hw hσ b⟩
theorem ar.length:∀{cs:List PV} {vs:List Value},ar S σ w cs vs→vs.length=bH cs
 | [],_,h=>by cases h;rfl
 |p::cs,_,⟨u,v,e,a,b⟩=>by rw[e,List.length_append,bc.length a,ar.length b];rfl
theorem ar.one {p:PV} {vs:List Value} (h:bc S σ w p vs):ar S σ w [p] vs:=⟨vs,[],by simp,h,rfl⟩
theorem ar.of_one {p:PV} {vs:List Value} (h:ar S σ w [p] vs):bc S σ w p vs:=by
 obtain⟨u,v,rfl,h,k⟩:=h
 cases k
 simpa using h
theorem ar.drop:∀{cs cs':List PV} {vs:List Value} {n:Nat},ar S σ w cs vs→bu cs n=some cs'→ar S σ w cs' (vs.drop n)
 |cs,cs',vs,0,h,e=>by simp only[bu,aa]at e;subst e;simpa using h
 | [],cs',vs,n+1,h,e=>by simp[bu]at e
 |p::cs,cs',_,n+1,⟨u,v,rfl,a,b⟩,e=>by
  have hu:=bc.length a
  simp only[bu]at e
  cases hle:Nat.ble p.width (n+1)with
  |false=>rw[hle]at e;simp at e
  |true=>
   rw[hle]at e
   have hle':=bz hle
   have:=ar.drop b e
   rw[List.drop_append,List.drop_eq_nil_of_le (as:=u) (by omega),List.nil_append,hu]
   exact this
theorem ar.take:∀{cs cs':List PV} {vs:List Value} {n:Nat},ar S σ w cs vs→eH cs n=some cs'→ar S σ w cs' (vs.take n)∧bH cs'=n
 |cs,cs',vs,0,h,e=>by simp only[eH,aa]at e;subst e;simp[av,bH]
 | [],cs',vs,n+1,h,e=>by simp[eH]at e
 |p::cs,cs',_,n+1,⟨u,v,rfl,a,b⟩,e=>by
  have hu:=bc.length a
  simp only[eH]at e
  cases hle:Nat.ble p.width (n+1)with
  |false=>rw[hle]at e;simp at e
  |true=>
   rw[hle]at e
   have hle':=bz hle
   simp only[ae]at e
   cases ht:eH cs (n+1-p.width)with
   |none=>rw[ht]at e;simp at e
   |some t=>
    rw[ht]at e
    simp only[aa]at e
    subst e
    have:=ar.take b ht
    refine⟨⟨u,v.take (n+1-p.width), ?_,a,this.1⟩, ?_⟩
    ·rw[List.take_append,List.take_of_length_le (by omega),hu]
    ·simp only[bH,this.2];omega
theorem ar.cut {cs cs':List PV} {vs:List Value} {off n:Nat} (h:ar S σ w cs vs) (e:mi cs off n=some cs'):ar S σ w cs' ((vs.drop off).take n)∧bH cs'=n∧off+n≤vs.length:=by
 unfold mi at e
 cases hd:bu cs off with
 |none=>rw[hd]at e;simp at e
 |some t=>
  rw[hd]at e
  have h1:=ar.drop h hd
  have h2:=ar.take h1 e
  refine⟨h2.1,h2.2, ?_⟩
  have l1:=ar.length h2.1
  rw[h2.2,List.length_take,List.length_drop]at l1
  by_cases hn:n=0
  ·subst hn
   have l2:=ar.length h1
   rw[List.length_drop]at l2
   have:∀(cs t:List PV) (k:Nat),bu cs k=some t→k≤bH cs:=by
    intro cs
    induction cs with
    |nil=>intro t k hk;cases k with
     |zero=>exact Nat.le_refl _
     |succ k=>simp[bu]at hk
    |cons p cs ih=>intro t k hk;cases k with
     |zero=>exact Nat.zero_le _
     |succ k=>
      simp only[bu]at hk
      cases hle:Nat.ble p.width (k+1)with
      |false=>rw[hle]at hk;simp at hk
      |true=>rw[hle]at hk;have:=ih _ _ hk;simp only[bH];have:=bz hle;omega
   have:=this _ _ _ hd
   have:=ar.length h
   omega
  ·omega
theorem ar.put {cs cs' new:List PV} {vs us:List Value} {off n:Nat} (h:ar S σ w cs vs) (e:ni cs off n new=some cs') (hn:ar S σ w new us) (hl:us.length=n):
  ar S σ w cs' (vs.take off++(us++vs.drop (off+n))):=by
 unfold ni at e
 cases ht:eH cs off with
 |none=>rw[ht]at e;simp at e
 |some a=>
  cases hd:bu cs (off+n)with
  |none=>rw[ht,hd]at e;simp at e
  |some b=>
   rw[ht,hd]at e
   simp only[aa]at e
   subst e
   exact av.append (ar.take h ht).1 (av.append hn (ar.drop h hd))
theorem cH:∀(τ:Ty) (x:τ.den) (vs:List Value),aE S w τ x vs→ar S σ w (inj τ x) vs
 | .unit,_,_,h=>h
 | .bool,b,_,h=>⟨_,[],by simp,h,rfl⟩
 | .str,_,_,h=>⟨_,[],by simp,h,rfl⟩
 | .int _,_,_,h=>⟨_,[],by simp,h,rfl⟩
 | .list _,_,_,h=>⟨_,[],by simp,h,rfl⟩
 | .arr _ _,_,_,h=>⟨_,[],by simp,h,rfl⟩
 | .pair a b,_,_,⟨u,v,e,h,k⟩=>by subst e;exact av.append (cH a _ _ h) (cH b _ _ k)
 | .opt _,_,vs,h=>⟨vs,[],by simp,h,rfl⟩
theorem jk {e e':Ty} (h:e'=e) (xs:List e'.den):(bT h xs).length=xs.length:=by subst h;rfl
theorem yT {e e':Ty} (h:e'=e) {xs:List e'.den} {vs:List Value} (k:aE S w (.list e') xs vs):aE S w (.list e) (bT h xs) vs:=by subst h;exact k
theorem Cm {e e':Ty} {n:Nat} (h:e'=e) {xs:List e'.den} {vs:List Value} (k:aE S w (.arr e' n) xs vs):aE S w (.arr e n) (bT h xs) vs:=by subst h;exact k
theorem oa {α:Type} {R:α→List Value→Prop} {p:List PV→Option (α×List PV)}
  (hp:∀(cs cs':List PV) (vs:List Value) (x:α),ar S σ w cs vs→p cs=some (x,cs')→∃u v,vs=u++v∧R x u∧ar S σ w cs' v):
  ∀(n:Nat) (cs cs':List PV) (vs:List Value) (xs:List α),ar S σ w cs vs→mh p n cs=some (xs,cs')→xs.length=n∧∃u v,vs=u++v∧av R xs u∧ar S σ w cs' v
 |0,cs,cs',vs,xs,h,e=>by
  simp only[mh,aa,ax]at e
  obtain⟨rfl,rfl⟩:=e
  exact⟨rfl,[],vs,rfl,rfl,h⟩
 |n+1,cs,cs',vs,xs,h,e=>by
  simp only[mh]at e
  split at e
  ·rename_i x cs1 hx
   split at e
   ·rename_i ys cs2 hy
    simp only[aa,ax]at e
    obtain⟨rfl,rfl⟩:=e
    obtain⟨u,v,rfl,hu,hv⟩:=hp _ _ _ _ h hx
    obtain⟨hl,u',v',rfl,hu',hv'⟩:=oa hp n _ _ _ _ hv hy
    exact⟨by simp[hl],u++u',v',by simp,⟨u,u',rfl,hu,hu'⟩,hv'⟩
   ·simp at e
  ·simp at e
theorem ki:∀(τ:Ty) (cs cs':List PV) (vs:List Value) (x:τ.den),ar S σ w cs vs→eW τ cs=some (x,cs')→∃u v,vs=u++v∧aE S w τ x u∧ar S σ w cs' v
 | .unit,cs,cs',vs,x,h,e=>by
  simp only[eW,aa,ax]at e
  obtain⟨_,rfl⟩:=e
  exact⟨[],vs,rfl,rfl,h⟩
 | .bool,cs,cs',vs,x,h,e=>by
  simp only[eW]at e
  split at e
  ·simp only[aa,ax]at e
   obtain⟨rfl,rfl⟩:=e
   obtain⟨u,v,rfl,hu,hv⟩:=h
   exact⟨u,v,rfl,hu,hv⟩
  ·simp at e
 | .str,cs,cs',vs,x,h,e=>by
  simp only[eW]at e
  split at e
  ·simp only[aa,ax]at e
   obtain⟨rfl,rfl⟩:=e
   obtain⟨u,v,rfl,hu,hv⟩:=h
   exact⟨u,v,rfl,hu,hv⟩
  ·simp at e
 | .int k,cs,cs',vs,x,h,e=>by
  simp only[eW]at e
  split at e
  ·split at e
   ·rename_i hk _
    simp only[aa,ax]at e
    obtain⟨rfl,rfl⟩:=e
    obtain⟨u,v,rfl,hu,hv⟩:=h
    subst hk
    exact⟨u,v,rfl,hu,hv⟩
   ·simp at e
  ·simp at e
 | .list e',cs,cs',vs,x,h,e=>by
  simp only[eW]at e
  split at e
  ·split at e
   ·rename_i hk _
    simp only[aa,ax]at e
    obtain⟨rfl,rfl⟩:=e
    obtain⟨u,v,rfl,hu,hv⟩:=h
    exact⟨u,v,rfl,yT hk hu,hv⟩
   ·simp at e
  ·simp only[aa,ax]at e
   obtain⟨rfl,rfl⟩:=e
   obtain⟨u,v,rfl,hu,hv⟩:=h
   simp only[bc]at hu
   subst hu
   exact⟨_,v,rfl,⟨none,0,rfl,Nat.le_refl _,.inl ⟨rfl,fun _=>rfl⟩⟩,hv⟩
  ·simp at e
 | .arr e' n,cs,cs',vs,x,h,e=>by
  simp only[eW]at e
  split at e
  ·split at e
   ·rename_i hk hn _ _
    simp only[aa,ax]at e
    obtain⟨rfl,rfl⟩:=e
    obtain⟨u,v,rfl,hu,hv⟩:=h
    subst hn
    exact⟨u,v,rfl,Cm hk hu,hv⟩
   ·simp at e
  ·obtain⟨hl,u,v,rfl,hu,hv⟩:=oa (fun cs cs' vs x h e=>ki e' cs cs' vs x h e) _ _ _ _ _ h e
   exact⟨u,v,rfl,⟨hl,hu⟩,hv⟩
 | .opt e',cs,cs',vs,x,h,e=>by
  simp only[eW]at e
  split at e
  ·simp only[aa,ax]at e
   obtain⟨rfl,rfl⟩:=e
   obtain⟨u,v,rfl,hu,hv⟩:=h
   exact⟨u,v,rfl,.inl ⟨rfl,hu⟩,hv⟩
  ·split at e
   ·rename_i hk _
    simp only[aa,ax]at e
    obtain⟨rfl,rfl⟩:=e
    obtain⟨u,v,rfl,hu,hv⟩:=h
    subst hk
    exact⟨u,v,rfl,hu,hv⟩
   ·simp at e
  ·simp at e
 | .pair a b,cs,cs',vs,x,h,e=>by
  simp only[eW]at e
  split at e
  ·rename_i y cs1 hy
   split at e
   ·rename_i z cs2 hz
    simp only[aa,ax]at e
    obtain⟨rfl,rfl⟩:=e
    obtain⟨u,v,rfl,hu,hv⟩:=ki a _ _ _ _ h hy
    obtain⟨u',v',rfl,hu',hv'⟩:=ki b _ _ _ _ hv hz
    exact⟨u++u',v',by simp,⟨u,u',rfl,hu,hu'⟩,hv'⟩
   ·simp at e
  ·simp at e
theorem bJ {τ:Ty} {cs:List PV} {vs:List Value} {x:τ.den} (h:ar S σ w cs vs) (e:bj τ cs=some x):aE S w τ x vs:=by
 unfold bj at e
 split at e
 ·rename_i y hy
  simp only[aa]at e
  subst e
  obtain⟨u,v,rfl,hu,hv⟩:=ki _ _ _ _ _ h hy
  cases hv
  simpa using hu
 ·simp at e
theorem kQ {cs:List PV} {vs:List Value} {o m:Nat} {e:Ty} {xs:List e.den} (h:ar S σ w cs vs) (he:n7 cs o e m=some xs):
  aE S w (.arr e m) xs ((vs.drop o).take (m*e.size))∧o+m*e.size≤vs.length:=by
 unfold n7 at he
 split at he
 ·rename_i c hc
  have:=ar.cut h hc
  exact⟨bJ this.1 he,this.2.2⟩
 ·simp at he
theorem fF {α:Type} (l:List α) (d:α) (i:Nat) (h:i<l.length):l.getD i d=l[i]:=by simp[List.getD_eq_getElem?_getD,h]
theorem wM:∀(cs:List PV) (t:List PV) (k:Nat),bu cs k=some t→k≤bH cs:=by
 intro cs
 induction cs with
 |nil=>intro t k hk;cases k with
  |zero=>exact Nat.le_refl _
  |succ k=>simp[bu]at hk
 |cons p cs ih=>intro t k hk;cases k with
  |zero=>exact Nat.zero_le _
  |succ k=>
   simp only[bu]at hk
   cases hle:Nat.ble p.width (k+1)with
   |false=>rw[hle]at hk;simp at hk
   |true=>rw[hle]at hk;have:=ih _ _ hk;simp only[bH];have:=bz hle;omega
theorem oW {cs cs' new:List PV} {off n:Nat} (e:ni cs off n new=some cs'):off+n≤bH cs:=by
 unfold ni at e
 cases hd:bu cs (off+n)with
 |none=>rw[hd]at e;split at e<;>simp_all
 |some t=>exact wM _ _ _ hd
theorem I5 {α:Type} (vs:List α) (o a z q n M:Nat) (h1:a+z≤M) (h2:q+n≤z):(((((vs.drop o).take M).drop a).take z).drop q).take n=(vs.drop (o+a+q)).take n:=by
 simp only[List.drop_take,List.drop_drop,List.take_take]
 rw[show min n (min z (M-a)-q)=n by omega]
theorem ll {α:Type} (vs us:List α) (o a z q n M:Nat) (h1:a+z≤M) (h2:q+n≤z):
  vs.take o++((((vs.drop o).take M).take a++((((((vs.drop o).take M).drop a).take z).take q++(us++((((vs.drop o).take M).drop a).take z).drop (q+n)))++((vs.drop o).take M).drop (a+z)))++vs.drop (o+M))=vs.take (o+a+q)++(us++vs.drop (o+a+q+n)):=by
 have e1:vs.take (o+a+q)=vs.take o++((vs.drop o).take a++(vs.drop (o+a)).take q):=by rw[←bl,←List.take_add,←List.take_add]
 have e2:((((vs.drop o).take M).drop a).take z).drop (q+n)++(((vs.drop o).take M).drop (a+z)++vs.drop (o+M))=vs.drop (o+a+q+n):=by
  have h3:((vs.drop o).take M).drop (a+z)++vs.drop (o+M)=vs.drop (o+a+z):=by
   rw[List.drop_take,List.drop_drop,show o+M=o+(a+z)+(M-(a+z)) by omega,←List.drop_drop (i:=M-(a+z)),List.take_append_drop,Nat.add_assoc]
  rw[h3]
  simp only[List.drop_take,List.drop_drop,List.take_take]
  rw[show min z (M-a)-(q+n)=z-(q+n) by omega,show o+a+z=o+a+(q+n)+(z-(q+n)) by omega,←List.drop_drop (i:=z-(q+n)),List.take_append_drop]
  congr 1;omega
 rw[e1,←e2]
 simp only[List.drop_take,List.drop_drop,List.take_take,bl]
 rw[show min a M=a by omega,show min q (min z (M-a))=q by omega]
theorem iM {cs cs':List PV} {vs:List Value} {q:dZ} {n:Nat} (h:ar S σ w cs vs) (hq:q.ok) (e:iJ cs q n=some cs'):
  ar S σ w cs' ((vs.drop q.off).take n)∧bH cs'=n∧q.off+n≤vs.length:=by
 cases q with
 | «at»o=>exact ar.cut h e
 |arr o e' m j q=>
  simp only[iJ]at e
  cases hx:n7 cs o e' m with
  |none=>rw[hx]at e;simp at e
  |some xs=>
   rw[hx]at e
   obtain⟨⟨h1,h2⟩,h3⟩:=kQ h hx
   obtain⟨j0,jm⟩:=hq
   have hj:j.toNat<xs.length:=by omega
   have h4:=av.get (aE.length e') h2 _ hj
   have h5:=ar.cut (cH (σ:=σ) _ _ _ h4) (by rw[←fF _ e'.dflt _ hj];exact e)
   have hm:(j.toNat+1)*e'.size≤m*e'.size:=Nat.mul_le_mul_right _ (by omega)
   rw[Nat.add_mul,Nat.one_mul]at hm
   have hl:=aE.length _ _ _ h4
   have h6:=h5.2.2
   rw[hl]at h6
   refine⟨?_,h5.2.1,by simp only[dZ.off];omega⟩
   have:=h5.1
   rw[I5 _ _ _ _ _ _ _ hm h6]at this
   exact this
theorem jl {dat:PV→PV} {cs cs' new:List PV} {vs us:List Value} {q:dZ} {n:Nat} (h:ar S σ w cs vs) (hq:q.ok) (e:ib dat cs q n new=some cs') (hn:ar S σ w new us) (hd:ar S σ w (new.map dat) us) (hl:us.length=n):
  ar S σ w cs' (vs.take q.off++(us++vs.drop (q.off+n)))∧q.off+n≤vs.length:=by
 cases q with
 | «at»o=>exact⟨ar.put h e hn hl,by rw[ar.length h];exact oW e⟩
 |arr o e' m j q=>
  simp only[ib]at e
  cases hx:n7 cs o e' m with
  |none=>rw[hx]at e;simp at e
  |some xs=>
   rw[hx]at e
   obtain⟨⟨h1,h2⟩,h3⟩:=kQ h hx
   obtain⟨j0,jm⟩:=hq
   have hj:j.toNat<xs.length:=by omega
   have h4:=av.get (aE.length e') h2 _ hj
   have hlz:=aE.length _ _ _ h4
   have hm:(j.toNat+1)*e'.size≤m*e'.size:=Nat.mul_le_mul_right _ (by omega)
   rw[Nat.add_mul,Nat.one_mul]at hm
   simp only[rd,fF _ e'.dflt _ hj]at e
   cases hp:ni (inj e' xs[j.toNat]) q n (new.map dat)with
   |none=>rw[hp]at e;simp at e
   |some c=>
    rw[hp]at e
    simp only at e
    cases hc:bj e' c with
    |none=>rw[hc]at e;simp at e
    |some x=>
     rw[hc]at e
     have h4':=cH (σ:=σ) _ _ _ h4
     have hle:=oW hp
     rw[←ar.length h4',hlz]at hle
     have h5:=bJ (ar.put h4' hp hd hl) hc
     have h6:=av.set (aE.length e') h2 _ _ _ hj h5
     have h7:aE S w (.arr e' m) (xs.set j.toNat x) _:=⟨by simp[h1],h6⟩
     have hl7:=aE.length _ _ _ h7
     have h8:=ar.put h e (ar.one (σ:=σ) (p:= .seg e' m (xs.set j.toNat x)) h7) hl7
     refine⟨?_,by simp only[dZ.off];omega⟩
     rw[ll _ _ _ _ _ _ _ _ hm hle]at h8
     exact h8
end Go.Ps
