import Derived.Test.YtfgjcohcpehcjaaGreatPsB
import Derived.Deep.MidRow
import Derived.Laws.AppendOwn
import Derived.Below
namespace Go.Ps
set_option linter.unusedVariables false
def an {α:Type} (R:α→List Value→Prop):List α→List Value→Prop
 | [],vs=>vs=[]
 |x::xs,vs=>∃u v,vs=u++v∧R x u∧an R xs v
theorem an.imp {α:Type} {R R':α→List Value→Prop} (h:∀x vs,R x vs→R' x vs):∀(xs:List α) (vs:List Value),an R xs vs→an R' xs vs
 | [],_,e=>e
 |_::xs,_,⟨u,v,e,a,b⟩=>⟨u,v,e,h _ _ a,an.imp h xs _ b⟩
theorem an.append {α:Type} {R:α→List Value→Prop}:∀{xs ys:List α} {us vs:List Value},an R xs us→an R ys vs→an R (xs++ys) (us++vs)
 | [],_,_,_,e,h=>by cases e;exact h
 |_::_,_,_,_,⟨u,v,e,a,b⟩,h=>⟨u,v++_,by rw[e,aZ],a,an.append b h⟩
theorem an.length {α:Type} {R:α→List Value→Prop} {n:Nat} (hR:∀x vs,R x vs→vs.length=n):∀{xs:List α} {vs:List Value},an R xs vs→vs.length=xs.length*n
 | [],_,e=>by cases e;simp
 |_::xs,_,⟨u,v,e,a,b⟩=>by rw[e,List.length_append,hR _ _ a,an.length hR b,List.length_cons,Nat.add_mul];omega
theorem an.get {α:Type} {R:α→List Value→Prop} {n:Nat} (hR:∀x vs,R x vs→vs.length=n):∀{xs:List α} {vs:List Value},an R xs vs→∀i (h:i<xs.length),R xs[i] ((vs.drop (i*n)).take n)
 | [],_,e,i,h=>by simp at h
 |x::xs,_,⟨u,v,e,a,b⟩,0,h=>by
  have:=hR _ _ a
  rw[e];simp only[Nat.zero_mul,List.drop_zero,List.getElem_cons_zero]
  rw[List.take_append_of_le_length (by omega),List.take_of_length_le (by omega)];exact a
 |x::xs,_,⟨u,v,e,a,b⟩,i+1,h=>by
  have hu:=hR _ _ a
  have:=an.get hR b i (by simpa using h)
  rw[e];simp only[List.getElem_cons_succ]
  rw[Nat.add_mul,Nat.one_mul,List.drop_append,List.drop_eq_nil_of_le (by omega),List.nil_append,show i*n+n-u.length=i*n by omega]
  exact this
theorem an.take {α:Type} {R:α→List Value→Prop} {n:Nat} (hR:∀x vs,R x vs→vs.length=n):∀{xs:List α} {vs:List Value},an R xs vs→∀i,an R (xs.take i) (vs.take (i*n))
 | [],_,e,i=>by cases e;simp[an]
 |x::xs,_,⟨u,v,e,a,b⟩,0=>by simp[an]
 |x::xs,_,⟨u,v,e,a,b⟩,i+1=>by
  have hu:=hR _ _ a
  refine⟨u,v.take (i*n), ?_,a,an.take hR b i⟩
  rw[e,List.take_append,List.take_of_length_le (by rw[Nat.add_mul];omega),Nat.add_mul,show i*n+1*n-u.length=i*n by omega]
theorem an.drop {α:Type} {R:α→List Value→Prop} {n:Nat} (hR:∀x vs,R x vs→vs.length=n):∀{xs:List α} {vs:List Value},an R xs vs→∀i,an R (xs.drop i) (vs.drop (i*n))
 | [],_,e,i=>by cases e;simp[an]
 |x::xs,_,⟨u,v,e,a,b⟩,0=>by simpa using⟨u,v,e,a,b⟩
 |x::xs,_,⟨u,v,e,a,b⟩,i+1=>by
  have hu:=hR _ _ a
  have:=an.drop hR b i
  rw[e,Nat.add_mul,List.drop_append,List.drop_eq_nil_of_le (as:=u) (by omega),List.nil_append,show i*n+1*n-u.length=i*n by omega]
  exact this
theorem an.set {α:Type} {R:α→List Value→Prop} {n:Nat} (hR:∀x vs,R x vs→vs.length=n):∀{xs:List α} {vs:List Value},an R xs vs→∀i y us,i<xs.length→R y us→an R (xs.set i y) (vs.take (i*n)++(us++vs.drop (i*n+n)))
 | [],_,e,i,_,_,h,_=>by simp at h
 |x::xs,_,⟨u,v,e,a,b⟩,0,y,us,h,hy=>by
  have hu:=hR _ _ a
  refine⟨us,v, ?_,hy,b⟩
  rw[e];simp[←hu]
 |x::xs,_,⟨u,v,e,a,b⟩,i+1,y,us,h,hy=>by
  have hu:=hR _ _ a
  refine⟨u,_, ?_,a,an.set hR b i y us (by simpa using h) hy⟩
  rw[e,Nat.add_mul,Nat.one_mul,List.take_append,List.take_of_length_le (by omega),List.drop_append,List.drop_eq_nil_of_le (as:=u) (by omega),List.nil_append,show i*n+n-u.length=i*n by omega,show i*n+n+n-u.length=i*n+n by omega,aZ]
def aw (S:Nat→Prop) (w:World):(τ:Ty)→τ.den→List Value→Prop
 | .unit,_,vs=>vs=[]
 | .bool,b,vs=>vs=[.bool b]
 | .str,s,vs=>vs=[.string s]
 | .int k,n,vs=>vs=[.int k n]
 | .list e,xs,vs=>∃p cap,vs=[.slice p xs.length cap]∧xs.length≤cap∧((xs=[]∧(p=none→cap=0))∨∃b o us,p=some ⟨b,o,none⟩∧S b∧w.rangeAt b o us∧an (aw S w e) xs us)
 | .arr e n,xs,vs=>xs.length=n∧an (aw S w e) xs vs
 | .pair a b,x,vs=>∃u v,vs=u++v∧aw S w a x.1 u∧aw S w b x.2 v
 | .opt e,x,vs=>(x=none∧vs=[.pointer none])∨∃y b o us,x=some y∧vs=[.pointer (some ⟨b,o,none⟩)]∧S b∧w.rangeAt b o us∧aw S w e y us
theorem aw.length {S:Nat→Prop} {w:World}:∀(τ:Ty) (x:τ.den) (vs:List Value),aw S w τ x vs→vs.length=τ.size
 | .unit,_,_,h=>by cases h;rfl
 | .bool,_,_,h=>by cases h;rfl
 | .str,_,_,h=>by cases h;rfl
 | .int _,_,_,h=>by cases h;rfl
 | .list e,_,_,⟨_,_,h,_⟩=>by rw[h];rfl
 | .arr e n,_,_,⟨h,k⟩=>by rw[an.length (aw.length e) k,h];rfl
 | .pair a b,_,_,⟨u,v,e,h,k⟩=>by rw[e,List.length_append,aw.length a _ _ h,aw.length b _ _ k];rfl
 | .opt e,_,_,h=>by
  rcases h with⟨_,h⟩|⟨_,_,_,_,_,h,_⟩<;>rw[h]<;>rfl
def di (S:Nat→Prop) (w w':World):Prop:=∀b,S b→w'.heap[b]? =w.heap[b]?
theorem bM {w w':World} {b o:Nat} {us:List Value} (h:w.rangeAt b o us) (e:w'.heap[b]? =w.heap[b]?):w'.rangeAt b o us:=
 fun j v hv=>(World.cell?_of_block (a:=⟨b,o+j,none⟩) e).trans (h j v hv)
theorem jq {w w':World} {b o n:Nat} (h:w.there b o n) (e:w'.heap[b]? =w.heap[b]?):w'.there b o n:=
 fun j hj=>⟨by rw[World.cell?_of_block (a:=⟨b,o+j,none⟩) e];exact(h j hj).1,by rw[World.frozen?_of_block (a:=⟨b,o+j,none⟩) e];exact(h j hj).2⟩
theorem aw.keep {S S':Nat→Prop} {w w':World} (hS:∀b,S b→S' b) (hw:di S w w'):∀(τ:Ty) (x:τ.den) (vs:List Value),aw S w τ x vs→aw S' w' τ x vs
 | .unit,_,_,h=>h
 | .bool,_,_,h=>h
 | .str,_,_,h=>h
 | .int _,_,_,h=>h
 | .list e,_,_,⟨p,c,h,hc,k⟩=>⟨p,c,h,hc,k.imp id fun⟨b,o,us,hp,hb,hr,hk⟩=>⟨b,o,us,hp,hS b hb,bM hr (hw b hb),an.imp (aw.keep hS hw e) _ _ hk⟩⟩
 | .arr e n,_,_,⟨h,k⟩=>⟨h,an.imp (aw.keep hS hw e) _ _ k⟩
 | .pair a b,_,_,⟨u,v,e,h,k⟩=>⟨u,v,e,aw.keep hS hw a _ _ h,aw.keep hS hw b _ _ k⟩
 | .opt e,_,_,h=>h.imp id fun⟨y,b,o,us,hx,hv,hb,hr,hk⟩=>⟨y,b,o,us,hx,hv,hS b hb,bM hr (hw b hb),aw.keep hS hw e _ _ hk⟩
theorem aw.free {S S':Nat→Prop} {w w':World}:∀(τ:Ty) (hτ:τ.lists=false) (x:τ.den) (vs:List Value),aw S w τ x vs→aw S' w' τ x vs
 | .unit,_,_,_,h=>h
 | .bool,_,_,_,h=>h
 | .str,_,_,_,h=>h
 | .int _,_,_,_,h=>h
 | .list e,h,_,_,_=>by simp[Ty.lists]at h
 | .opt e,h,_,_,_=>by simp[Ty.lists]at h
 | .arr e n,hl,_,_,⟨h,k⟩=>⟨h,an.imp (aw.free e hl) _ _ k⟩
 | .pair a b,hl,_,_,⟨u,v,e,h,k⟩=>by
  simp only[Ty.lists,Bool.or_eq_false_iff]at hl
  exact⟨u,v,e,aw.free a hl.1 _ _ h,aw.free b hl.2 _ _ k⟩
structure yN where
 v:Value
 z:Nat
abbrev Sg:=Nat→Option yN
def b8 (σ σ':Sg):Prop:=∀i L,σ i=some L→σ' i=some L
theorem b8.refl (σ:Sg):b8 σ σ:=fun _ _ h=>h
def aF:Value→Option Nat
 | .slice (some a) _ _=>some a.block
 | .pointer (some a)=>some a.block
 |_=>none
def dK.off:dK→Nat
 | .at o=>o
 | .arr o e m j q=>o+j.toNat*e.size+q
def dK.ok:dK→Prop
 | .at _=>True
 | .arr _ _ m j _=>0≤j∧j< (m:Int)
def jr (S:Nat→Prop) (σ:Sg) (w:World):pS→Value→Prop
 | .dat τ x,v=>aw S w τ x [v]
 | .agg τ x,v=>∃us:List Value,v= .agg us.toArray∧aw S w τ x us
 | .cref τ x,v=>∃b o us,S b∧w.rangeAt b o us∧aw S w τ x us∧v= .pointer (some ⟨b,o,none⟩)
 | .ref id,v=>∃L b o,σ id=some L∧L.v= .pointer (some ⟨b,o,none⟩)∧v=L.v
def ew (S:Nat→Prop) (σ:Sg) (w:World):List pS→List Value→Prop
 | [],vs=>vs=[]
 |c::cs,vs=>∃v us,vs=v::us∧jr S σ w c v∧ew S σ w cs us
def aP (S:Nat→Prop) (σ:Sg) (w:World):PV→List Value→Prop
 | .undef,vs=>∃v,vs=[v]∧v.oneCell'=true
 | .bool b,vs=>vs=[.bool b]
 | .int k n,vs=>vs=[.int k n]
 | .str s,vs=>vs=[.string s]
 | .nils,vs=>vs=[.slice none 0 0]
 | .nilp,vs=>vs=[.pointer none]
 | .list e xs,vs=>aw S w (.list e) xs vs
 | .seg e n xs,vs=>aw S w (.arr e n) xs vs
 | .own id,vs=>∃L p n c,σ id=some L∧L.v= .slice p n c∧vs=[L.v]
 | .ptr id q,vs=>∃L b o,σ id=some L∧L.v= .pointer (some ⟨b,o,none⟩)∧q.ok∧vs=[.pointer (some ⟨b,o+q.off,none⟩)]
 | .elt id i q,vs=>∃L b n c,σ id=some L∧L.v= .slice (some ⟨b,0,none⟩) n c∧0≤i∧i< (n:Int)∧q.ok∧vs=[.pointer (some ⟨b,i.toNat*L.z+q.off,none⟩)]
 | .cptr τ x off,vs=>∃b o us,S b∧w.rangeAt b o us∧aw S w τ x us∧vs=[.pointer (some ⟨b,o+off,none⟩)]
 | .fn f caps,vs=>∃us:List Value,vs=[.func (.func f) #[] us.toArray]∧ew S σ w caps us
 | .dopt e x,vs=>aw S w (.opt e) x vs
 | .cell id,vs=>∃L b o q p,σ id=some L∧L.v= .pointer (some ⟨b,o,none⟩)∧S q∧w.rangeAt q p [L.v]∧vs=[.pointer (some ⟨q,p,none⟩)]
 | .view id l h,vs=>∃L p n c,σ id=some L∧L.v= .slice p n c∧(0≤l∧l≤h∧h≤(n:Int))∧vs=[.slice (if c=l.toNat then p else p.map (·.add (l.toNat*L.z))) (h.toNat-l.toNat) (c-l.toNat)]
variable {S S':Nat→Prop} {σ σ':Sg} {w w':World}
theorem aP.length:∀{p:PV} {vs:List Value},aP S σ w p vs→vs.length=p.width:=by
 intro p vs h
 cases p<;>simp only[aP,PV.width]at h⊢
 case undef=>obtain⟨v,rfl,_⟩:=h;rfl
 case list=>exact aw.length _ _ _ h
 case seg=>exact aw.length _ _ _ h
 case own=>obtain⟨_,_,_,_,_,_,rfl⟩:=h;rfl
 case ptr=>obtain⟨_,_,_,_,_,_,rfl⟩:=h;rfl
 case elt=>obtain⟨_,_,_,_,_,_,_,_,_,rfl⟩:=h;rfl
 case cptr=>obtain⟨_,_,_,_,_,_,rfl⟩:=h;rfl
 case fn=>obtain⟨_,rfl,_⟩:=h;rfl
 case dopt=>exact aw.length _ _ _ h
 case cell=>obtain⟨_,_,_,_,_,_,_,_,_,rfl⟩:=h;rfl
 case view=>obtain⟨_,_,_,_,_,_,_,rfl⟩:=h;rfl
 all_goals (rw[h];rfl)
theorem jr.keep (hS:∀b,S b→S' b) (hw:di S w w') (hσ:b8 σ σ') {c:pS} {v:Value} (h:jr S σ w c v):jr S' σ' w' c v:=by
 cases c with
 |dat=>exact aw.keep hS hw _ _ _ h
 |agg=>obtain⟨us,e,k⟩:=h;exact⟨us,e,aw.keep hS hw _ _ _ k⟩
 |cref=>obtain⟨b,o,us,hb,hr,ht,e⟩:=h;exact⟨b,o,us,hS b hb,bM hr (hw b hb),aw.keep hS hw _ _ _ ht,e⟩
 |ref=>obtain⟨L,b,o,hL,e,e'⟩:=h;exact⟨L,b,o,hσ _ _ hL,e,e'⟩
theorem ew.keep (hS:∀b,S b→S' b) (hw:di S w w') (hσ:b8 σ σ'):∀{cs:List pS} {vs:List Value},ew S σ w cs vs→ew S' σ' w' cs vs
 | [],_,h=>h
 |_::_,_,⟨v,us,e,h,k⟩=>⟨v,us,e,jr.keep hS hw hσ h,ew.keep hS hw hσ k⟩
theorem aP.keep (hS:∀b,S b→S' b) (hw:di S w w') (hσ:b8 σ σ') {p:PV} {vs:List Value} (h:aP S σ w p vs):aP S' σ' w' p vs:=by
 cases p<;>simp only[aP]at h⊢
 case list=>exact aw.keep hS hw _ _ _ h
 case seg=>exact aw.keep hS hw _ _ _ h
 case own=>obtain⟨L,p,n,c,hL,e⟩:=h;exact⟨L,p,n,c,hσ _ _ hL,e⟩
 case ptr=>obtain⟨L,b,o,hL,e⟩:=h;exact⟨L,b,o,hσ _ _ hL,e⟩
 case elt=>obtain⟨L,b,n,c,hL,e⟩:=h;exact⟨L,b,n,c,hσ _ _ hL,e⟩
 case cptr=>obtain⟨b,o,us,hb,hr,ht,rfl⟩:=h;exact⟨b,o,us,hS b hb,bM hr (hw b hb),aw.keep hS hw _ _ _ ht,rfl⟩
 case fn=>obtain⟨us,e,h⟩:=h;exact⟨us,e,ew.keep hS hw hσ h⟩
 case dopt=>exact aw.keep hS hw _ _ _ h
 case cell=>obtain⟨L,b,o,q,p,hL,e,hq,hr,e'⟩:=h;exact⟨L,b,o,q,p,hσ _ _ hL,e,hS q hq,bM hr (hw q hq),e'⟩
 case view=>obtain⟨L,p,n,c,hL,e⟩:=h;exact⟨L,p,n,c,hσ _ _ hL,e⟩
 all_goals exact h
abbrev aj (S:Nat→Prop) (σ:Sg) (w:World) (cs:List PV) (vs:List Value):Prop:=an (aP S σ w) cs vs
theorem aj.keep (hS:∀b,S b→S' b) (hw:di S w w') (hσ:b8 σ σ'):∀{cs:List PV} {vs:List Value},aj S σ w cs vs→aj S' σ' w' cs vs
 | [],_,h=>h
 |p::cs,_,⟨u,v,e,a,b⟩=>⟨u,v,e,aP.keep hS hw hσ a,aj.keep hS hw hσ b⟩
theorem aj.length:∀{cs:List PV} {vs:List Value},aj S σ w cs vs→vs.length=bq cs
 | [],_,h=>by cases h;rfl
 |p::cs,_,⟨u,v,e,a,b⟩=>by rw[e,List.length_append,aP.length a,aj.length b];rfl
theorem aj.one {p:PV} {vs:List Value} (h:aP S σ w p vs):aj S σ w [p] vs:=⟨vs,[],by simp,h,rfl⟩
theorem aj.of_one {p:PV} {vs:List Value} (h:aj S σ w [p] vs):aP S σ w p vs:=by
 obtain⟨u,v,rfl,h,k⟩:=h
 cases k
 simpa using h
theorem aj.drop:∀{cs cs':List PV} {vs:List Value} {n:Nat},aj S σ w cs vs→bm cs n=some cs'→aj S σ w cs' (vs.drop n)
 |cs,cs',vs,0,h,e=>by simp only[bm,aa]at e;subst e;simpa using h
 | [],cs',vs,n+1,h,e=>by simp[bm]at e
 |p::cs,cs',_,n+1,⟨u,v,rfl,a,b⟩,e=>by
  have hu:=aP.length a
  simp only[bm]at e
  cases hle:Nat.ble p.width (n+1)with
  |false=>rw[hle]at e;simp at e
  |true=>
   rw[hle]at e
   have hle':=bi hle
   have:=aj.drop b e
   rw[List.drop_append,List.drop_eq_nil_of_le (as:=u) (by omega),List.nil_append,hu]
   exact this
theorem aj.take:∀{cs cs':List PV} {vs:List Value} {n:Nat},aj S σ w cs vs→d9 cs n=some cs'→aj S σ w cs' (vs.take n)∧bq cs'=n
 |cs,cs',vs,0,h,e=>by simp only[d9,aa]at e;subst e;simp[an,bq]
 | [],cs',vs,n+1,h,e=>by simp[d9]at e
 |p::cs,cs',_,n+1,⟨u,v,rfl,a,b⟩,e=>by
  have hu:=aP.length a
  simp only[d9]at e
  cases hle:Nat.ble p.width (n+1)with
  |false=>rw[hle]at e;simp at e
  |true=>
   rw[hle]at e
   have hle':=bi hle
   simp only[ac]at e
   cases ht:d9 cs (n+1-p.width)with
   |none=>rw[ht]at e;simp at e
   |some t=>
    rw[ht]at e
    simp only[aa]at e
    subst e
    have:=aj.take b ht
    refine⟨⟨u,v.take (n+1-p.width), ?_,a,this.1⟩, ?_⟩
    ·rw[List.take_append,List.take_of_length_le (by omega),hu]
    ·simp only[bq,this.2];omega
theorem aj.cut {cs cs':List PV} {vs:List Value} {off n:Nat} (h:aj S σ w cs vs) (e:kP cs off n=some cs'):aj S σ w cs' ((vs.drop off).take n)∧bq cs'=n∧off+n≤vs.length:=by
 unfold kP at e
 cases hd:bm cs off with
 |none=>rw[hd]at e;simp at e
 |some t=>
  rw[hd]at e
  have h1:=aj.drop h hd
  have h2:=aj.take h1 e
  refine⟨h2.1,h2.2, ?_⟩
  have l1:=aj.length h2.1
  rw[h2.2,List.length_take,List.length_drop]at l1
  by_cases hn:n=0
  ·subst hn
   have l2:=aj.length h1
   rw[List.length_drop]at l2
   have:∀(cs t:List PV) (k:Nat),bm cs k=some t→k≤bq cs:=by
    intro cs
    induction cs with
    |nil=>intro t k hk;cases k with
     |zero=>exact Nat.le_refl _
     |succ k=>simp[bm]at hk
    |cons p cs ih=>intro t k hk;cases k with
     |zero=>exact Nat.zero_le _
     |succ k=>
      simp only[bm]at hk
      cases hle:Nat.ble p.width (k+1)with
      |false=>rw[hle]at hk;simp at hk
      |true=>rw[hle]at hk;have:=ih _ _ hk;simp only[bq];have:=bi hle;omega
   have:=this _ _ _ hd
   have:=aj.length h
   omega
  ·omega
theorem aj.put {cs cs' new:List PV} {vs us:List Value} {off n:Nat} (h:aj S σ w cs vs) (e:mm cs off n new=some cs') (hn:aj S σ w new us) (hl:us.length=n):
  aj S σ w cs' (vs.take off++(us++vs.drop (off+n))):=by
 unfold mm at e
 cases ht:d9 cs off with
 |none=>rw[ht]at e;simp at e
 |some a=>
  cases hd:bm cs (off+n)with
  |none=>rw[ht,hd]at e;simp at e
  |some b=>
   rw[ht,hd]at e
   simp only[aa]at e
   subst e
   exact an.append (aj.take h ht).1 (an.append hn (aj.drop h hd))
theorem cD:∀(τ:Ty) (x:τ.den) (vs:List Value),aw S w τ x vs→aj S σ w (inj τ x) vs
 | .unit,_,_,h=>h
 | .bool,b,_,h=>⟨_,[],by simp,h,rfl⟩
 | .str,_,_,h=>⟨_,[],by simp,h,rfl⟩
 | .int _,_,_,h=>⟨_,[],by simp,h,rfl⟩
 | .list _,_,_,h=>⟨_,[],by simp,h,rfl⟩
 | .arr _ _,_,_,h=>⟨_,[],by simp,h,rfl⟩
 | .pair a b,_,_,⟨u,v,e,h,k⟩=>by subst e;exact an.append (cD a _ _ h) (cD b _ _ k)
 | .opt _,_,vs,h=>⟨vs,[],by simp,h,rfl⟩
theorem sm {e e':Ty} (h:e'=e) (xs:List e'.den):(bQ h xs).length=xs.length:=by subst h;rfl
theorem wa {e e':Ty} (h:e'=e) {xs:List e'.den} {vs:List Value} (k:aw S w (.list e') xs vs):aw S w (.list e) (bQ h xs) vs:=by subst h;exact k
theorem yO {e e':Ty} {n:Nat} (h:e'=e) {xs:List e'.den} {vs:List Value} (k:aw S w (.arr e' n) xs vs):aw S w (.arr e n) (bQ h xs) vs:=by subst h;exact k
theorem m9 {α:Type} {R:α→List Value→Prop} {p:List PV→Option (α×List PV)}
  (hp:∀(cs cs':List PV) (vs:List Value) (x:α),aj S σ w cs vs→p cs=some (x,cs')→∃u v,vs=u++v∧R x u∧aj S σ w cs' v):
  ∀(n:Nat) (cs cs':List PV) (vs:List Value) (xs:List α),aj S σ w cs vs→lw p n cs=some (xs,cs')→xs.length=n∧∃u v,vs=u++v∧an R xs u∧aj S σ w cs' v
 |0,cs,cs',vs,xs,h,e=>by
  simp only[lw,aa,ar]at e
  obtain⟨rfl,rfl⟩:=e
  exact⟨rfl,[],vs,rfl,rfl,h⟩
 |n+1,cs,cs',vs,xs,h,e=>by
  simp only[lw]at e
  split at e
  ·rename_i x cs1 hx
   split at e
   ·rename_i ys cs2 hy
    simp only[aa,ar]at e
    obtain⟨rfl,rfl⟩:=e
    obtain⟨u,v,rfl,hu,hv⟩:=hp _ _ _ _ h hx
    obtain⟨hl,u',v',rfl,hu',hv'⟩:=m9 hp n _ _ _ _ hv hy
    exact⟨by simp[hl],u++u',v',by simp,⟨u,u',rfl,hu,hu'⟩,hv'⟩
   ·simp at e
  ·simp at e
theorem js:∀(τ:Ty) (cs cs':List PV) (vs:List Value) (x:τ.den),aj S σ w cs vs→eK τ cs=some (x,cs')→∃u v,vs=u++v∧aw S w τ x u∧aj S σ w cs' v
 | .unit,cs,cs',vs,x,h,e=>by
  simp only[eK,aa,ar]at e
  obtain⟨_,rfl⟩:=e
  exact⟨[],vs,rfl,rfl,h⟩
 | .bool,cs,cs',vs,x,h,e=>by
  simp only[eK]at e
  split at e
  ·simp only[aa,ar]at e
   obtain⟨rfl,rfl⟩:=e
   obtain⟨u,v,rfl,hu,hv⟩:=h
   exact⟨u,v,rfl,hu,hv⟩
  ·simp at e
 | .str,cs,cs',vs,x,h,e=>by
  simp only[eK]at e
  split at e
  ·simp only[aa,ar]at e
   obtain⟨rfl,rfl⟩:=e
   obtain⟨u,v,rfl,hu,hv⟩:=h
   exact⟨u,v,rfl,hu,hv⟩
  ·simp at e
 | .int k,cs,cs',vs,x,h,e=>by
  simp only[eK]at e
  split at e
  ·split at e
   ·rename_i hk _
    simp only[aa,ar]at e
    obtain⟨rfl,rfl⟩:=e
    obtain⟨u,v,rfl,hu,hv⟩:=h
    subst hk
    exact⟨u,v,rfl,hu,hv⟩
   ·simp at e
  ·simp at e
 | .list e',cs,cs',vs,x,h,e=>by
  simp only[eK]at e
  split at e
  ·split at e
   ·rename_i hk _
    simp only[aa,ar]at e
    obtain⟨rfl,rfl⟩:=e
    obtain⟨u,v,rfl,hu,hv⟩:=h
    exact⟨u,v,rfl,wa hk hu,hv⟩
   ·simp at e
  ·simp only[aa,ar]at e
   obtain⟨rfl,rfl⟩:=e
   obtain⟨u,v,rfl,hu,hv⟩:=h
   simp only[aP]at hu
   subst hu
   exact⟨_,v,rfl,⟨none,0,rfl,Nat.le_refl _,.inl ⟨rfl,fun _=>rfl⟩⟩,hv⟩
  ·simp at e
 | .arr e' n,cs,cs',vs,x,h,e=>by
  simp only[eK]at e
  split at e
  ·split at e
   ·rename_i hk hn _ _
    simp only[aa,ar]at e
    obtain⟨rfl,rfl⟩:=e
    obtain⟨u,v,rfl,hu,hv⟩:=h
    subst hn
    exact⟨u,v,rfl,yO hk hu,hv⟩
   ·simp at e
  ·obtain⟨hl,u,v,rfl,hu,hv⟩:=m9 (fun cs cs' vs x h e=>js e' cs cs' vs x h e) _ _ _ _ _ h e
   exact⟨u,v,rfl,⟨hl,hu⟩,hv⟩
 | .opt e',cs,cs',vs,x,h,e=>by
  simp only[eK]at e
  split at e
  ·simp only[aa,ar]at e
   obtain⟨rfl,rfl⟩:=e
   obtain⟨u,v,rfl,hu,hv⟩:=h
   exact⟨u,v,rfl,.inl ⟨rfl,hu⟩,hv⟩
  ·split at e
   ·rename_i hk _
    simp only[aa,ar]at e
    obtain⟨rfl,rfl⟩:=e
    obtain⟨u,v,rfl,hu,hv⟩:=h
    subst hk
    exact⟨u,v,rfl,hu,hv⟩
   ·simp at e
  ·simp at e
 | .pair a b,cs,cs',vs,x,h,e=>by
  simp only[eK]at e
  split at e
  ·rename_i y cs1 hy
   split at e
   ·rename_i z cs2 hz
    simp only[aa,ar]at e
    obtain⟨rfl,rfl⟩:=e
    obtain⟨u,v,rfl,hu,hv⟩:=js a _ _ _ _ h hy
    obtain⟨u',v',rfl,hu',hv'⟩:=js b _ _ _ _ hv hz
    exact⟨u++u',v',by simp,⟨u,u',rfl,hu,hu'⟩,hv'⟩
   ·simp at e
  ·simp at e
theorem bE {τ:Ty} {cs:List PV} {vs:List Value} {x:τ.den} (h:aj S σ w cs vs) (e:be τ cs=some x):aw S w τ x vs:=by
 unfold be at e
 split at e
 ·rename_i y hy
  simp only[aa]at e
  subst e
  obtain⟨u,v,rfl,hu,hv⟩:=js _ _ _ _ _ h hy
  cases hv
  simpa using hu
 ·simp at e
theorem jX {cs:List PV} {vs:List Value} {o m:Nat} {e:Ty} {xs:List e.den} (h:aj S σ w cs vs) (he:m4 cs o e m=some xs):
  aw S w (.arr e m) xs ((vs.drop o).take (m*e.size))∧o+m*e.size≤vs.length:=by
 unfold m4 at he
 split at he
 ·rename_i c hc
  have:=aj.cut h hc
  exact⟨bE this.1 he,this.2.2⟩
 ·simp at he
theorem fm {α:Type} (l:List α) (d:α) (i:Nat) (h:i<l.length):l.getD i d=l[i]:=by simp[List.getD_eq_getElem?_getD,h]
theorem tX:∀(cs:List PV) (t:List PV) (k:Nat),bm cs k=some t→k≤bq cs:=by
 intro cs
 induction cs with
 |nil=>intro t k hk;cases k with
  |zero=>exact Nat.le_refl _
  |succ k=>simp[bm]at hk
 |cons p cs ih=>intro t k hk;cases k with
  |zero=>exact Nat.zero_le _
  |succ k=>
   simp only[bm]at hk
   cases hle:Nat.ble p.width (k+1)with
   |false=>rw[hle]at hk;simp at hk
   |true=>rw[hle]at hk;have:=ih _ _ hk;simp only[bq];have:=bi hle;omega
theorem nQ {cs cs' new:List PV} {off n:Nat} (e:mm cs off n new=some cs'):off+n≤bq cs:=by
 unfold mm at e
 cases hd:bm cs (off+n)with
 |none=>rw[hd]at e;split at e<;>simp_all
 |some t=>exact tX _ _ _ hd
theorem CH {α:Type} (vs:List α) (o a z q n M:Nat) (h1:a+z≤M) (h2:q+n≤z):(((((vs.drop o).take M).drop a).take z).drop q).take n=(vs.drop (o+a+q)).take n:=by
 simp only[List.drop_take,List.drop_drop,List.take_take]
 rw[show min n (min z (M-a)-q)=n by omega]
theorem kv {α:Type} (vs us:List α) (o a z q n M:Nat) (h1:a+z≤M) (h2:q+n≤z):
  vs.take o++((((vs.drop o).take M).take a++((((((vs.drop o).take M).drop a).take z).take q++(us++((((vs.drop o).take M).drop a).take z).drop (q+n)))++((vs.drop o).take M).drop (a+z)))++vs.drop (o+M))=vs.take (o+a+q)++(us++vs.drop (o+a+q+n)):=by
 have e1:vs.take (o+a+q)=vs.take o++((vs.drop o).take a++(vs.drop (o+a)).take q):=by rw[←aZ,←List.take_add,←List.take_add]
 have e2:((((vs.drop o).take M).drop a).take z).drop (q+n)++(((vs.drop o).take M).drop (a+z)++vs.drop (o+M))=vs.drop (o+a+q+n):=by
  have h3:((vs.drop o).take M).drop (a+z)++vs.drop (o+M)=vs.drop (o+a+z):=by
   rw[List.drop_take,List.drop_drop,show o+M=o+(a+z)+(M-(a+z)) by omega,←List.drop_drop (i:=M-(a+z)),List.take_append_drop,Nat.add_assoc]
  rw[h3]
  simp only[List.drop_take,List.drop_drop,List.take_take]
  rw[show min z (M-a)-(q+n)=z-(q+n) by omega,show o+a+z=o+a+(q+n)+(z-(q+n)) by omega,←List.drop_drop (i:=z-(q+n)),List.take_append_drop]
  congr 1;omega
 rw[e1,←e2]
 simp only[List.drop_take,List.drop_drop,List.take_take,aZ]
 rw[show min a M=a by omega,show min q (min z (M-a))=q by omega]
theorem iq {cs cs':List PV} {vs:List Value} {q:dK} {n:Nat} (h:aj S σ w cs vs) (hq:q.ok) (e:ik cs q n=some cs'):
  aj S σ w cs' ((vs.drop q.off).take n)∧bq cs'=n∧q.off+n≤vs.length:=by
 cases q with
 | «at»o=>exact aj.cut h e
 |arr o e' m j q=>
  simp only[ik]at e
  cases hx:m4 cs o e' m with
  |none=>rw[hx]at e;simp at e
  |some xs=>
   rw[hx]at e
   obtain⟨⟨h1,h2⟩,h3⟩:=jX h hx
   obtain⟨j0,jm⟩:=hq
   have hj:j.toNat<xs.length:=by omega
   have h4:=an.get (aw.length e') h2 _ hj
   have h5:=aj.cut (cD (σ:=σ) _ _ _ h4) (by rw[←fm _ e'.dflt _ hj];exact e)
   have hm:(j.toNat+1)*e'.size≤m*e'.size:=Nat.mul_le_mul_right _ (by omega)
   rw[Nat.add_mul,Nat.one_mul]at hm
   have hl:=aw.length _ _ _ h4
   have h6:=h5.2.2
   rw[hl]at h6
   refine⟨?_,h5.2.1,by simp only[dK.off];omega⟩
   have:=h5.1
   rw[CH _ _ _ _ _ _ _ hm h6]at this
   exact this
theorem iS {dat:PV→PV} {cs cs' new:List PV} {vs us:List Value} {q:dK} {n:Nat} (h:aj S σ w cs vs) (hq:q.ok) (e:gT dat cs q n new=some cs') (hn:aj S σ w new us) (hd:aj S σ w (new.map dat) us) (hl:us.length=n):
  aj S σ w cs' (vs.take q.off++(us++vs.drop (q.off+n)))∧q.off+n≤vs.length:=by
 cases q with
 | «at»o=>exact⟨aj.put h e hn hl,by rw[aj.length h];exact nQ e⟩
 |arr o e' m j q=>
  simp only[gT]at e
  cases hx:m4 cs o e' m with
  |none=>rw[hx]at e;simp at e
  |some xs=>
   rw[hx]at e
   obtain⟨⟨h1,h2⟩,h3⟩:=jX h hx
   obtain⟨j0,jm⟩:=hq
   have hj:j.toNat<xs.length:=by omega
   have h4:=an.get (aw.length e') h2 _ hj
   have hlz:=aw.length _ _ _ h4
   have hm:(j.toNat+1)*e'.size≤m*e'.size:=Nat.mul_le_mul_right _ (by omega)
   rw[Nat.add_mul,Nat.one_mul]at hm
   simp only[rd,fm _ e'.dflt _ hj]at e
   cases hp:mm (inj e' xs[j.toNat]) q n (new.map dat)with
   |none=>rw[hp]at e;simp at e
   |some c=>
    rw[hp]at e
    simp only at e
    cases hc:be e' c with
    |none=>rw[hc]at e;simp at e
    |some x=>
     rw[hc]at e
     have h4':=cD (σ:=σ) _ _ _ h4
     have hle:=nQ hp
     rw[←aj.length h4',hlz]at hle
     have h5:=bE (aj.put h4' hp hd hl) hc
     have h6:=an.set (aw.length e') h2 _ _ _ hj h5
     have h7:aw S w (.arr e' m) (xs.set j.toNat x) _:=⟨by simp[h1],h6⟩
     have hl7:=aw.length _ _ _ h7
     have h8:=aj.put h e (aj.one (σ:=σ) (p:= .seg e' m (xs.set j.toNat x)) h7) hl7
     refine⟨?_,by simp only[dK.off];omega⟩
     rw[kv _ _ _ _ _ _ _ _ hm hle]at h8
     exact h8
end Go.Ps
