import Derived.Test.YtfgjcohcpehcjaaGreatPsD
import Derived.Laws.Sem
import Derived.Laws.Entries
import Derived.Laws.OwnMore
import Derived.Laws.StructEq
import Derived.Laws.Small
namespace Go.Ps
set_option linter.unusedVariables false
variable {S S':Nat→Prop} {σ σ':Sg} {w w':World}
def tc {α:Type} (f:α→Option (List Value)):List α→Option (List Value)
 | []=>some []
 |x::xs=>match f x,tc f xs with
  |some u,some v=>some (u++v)
  |_,_=>none
def ic:(τ:Ty)→τ.den→Option (List Value)
 | .unit,_=>some []
 | .bool,b=>some [.bool b]
 | .str,s=>some [.string s]
 | .int k,n=>some [.int k n]
 | .pair a b,x=>match ic a x.1,ic b x.2 with
  |some u,some v=>some (u++v)
  |_,_=>none
 | .arr e n,xs=>bif Nat.beq xs.length n then tc (ic e) xs else none
 |_,_=>none
theorem qz {α:Type} {f:α→Option (List Value)} {R:α→List Value→Prop} (hf:∀x us,f x=some us→R x us):∀{xs:List α} {us:List Value},tc f xs=some us→an R xs us
 | [],us,h=>by simp only[tc,aa]at h;exact h.symm
 |x::xs,us,h=>by
  simp only[tc]at h
  split at h
  ·rename_i u v h1 h2
   simp only[aa]at h
   exact⟨u,v,h.symm,hf _ _ h1,qz hf h2⟩
  ·simp at h
theorem yi:∀(τ:Ty) (x:τ.den) (us:List Value),ic τ x=some us→aw S w τ x us:=by
 intro τ
 induction τ with
 |unit=>intro x us h;simp only[ic,aa]at h;exact h.symm
 |bool=>intro x us h;simp only[ic,aa]at h;exact h.symm
 |str=>intro x us h;simp only[ic,aa]at h;exact h.symm
 |int k=>intro x us h;simp only[ic,aa]at h;exact h.symm
 |list e=>intro x us h;simp[ic]at h
 |opt e=>intro x us h;simp[ic]at h
 |pair a b iha ihb=>
  intro x us h
  simp only[ic]at h
  split at h
  ·rename_i u v h1 h2
   simp only[aa]at h
   exact⟨u,v,h.symm,iha _ _ h1,ihb _ _ h2⟩
  ·simp at h
 |arr e n ih=>
  intro x us h
  simp only[ic]at h
  cases hb:Nat.beq x.length n with
  |false=>rw[hb]at h;simp at h
  |true=>rw[hb]at h;exact⟨aG hb,qz ih h⟩
def PV.same:PV→Value→Bool
 | .bool a,.bool b=>a==b
 | .int k n,.int k' n'=>decide (k=k')&&decide (n=n')
 | .str s,.string t=>s.data.toList==t.data.toList
 | .nils,.slice none 0 0=>true
 | .nilp,.pointer none=>true
 |_,_=>false
def xl:Value→Value→Bool
 | .bool a,.bool b=>a==b
 | .int k n,.int k' n'=>decide (k=k')&&decide (n=n')
 | .string s,.string t=>s.data.toList==t.data.toList
 |_,_=>false
def qA:List Value→List Value→Option (List Value)
 | [],vs=>some vs
 |u::us,v::vs=>bif xl u v then qA us vs else none
 |_,_=>none
def fj:List PV→List Value→Bool
 | [],[]=>true
 | [],_::_=>false
 | .seg e n xs::ps,vs=>match ic (.arr e n) xs with
  |some us=>match qA us vs with
   |some vs=>fj ps vs
   |none=>false
  |none=>false
 |p::ps,v::vs=>p.same v&&fj ps vs
 |_,_=>false
theorem td {s t:ByteArray} (h:(s.data.toList==t.data.toList)=true):s=t:=by
 simp only[beq_iff_eq]at h
 cases s;cases t;simp only[ByteArray.mk.injEq];exact Array.toList_inj.1 h
theorem Ap {p:PV} {v:Value} (h:p.same v=true):aP S σ w p [v]:=by
 unfold PV.same at h
 split at h
 ·simp only[beq_iff_eq]at h;subst h;rfl
 ·simp only[aB,bh]at h;obtain⟨rfl,rfl⟩:=h;rfl
 ·have:=td h;subst this;rfl
 ·rfl
 ·rfl
 ·simp at h
theorem Aq {u v:Value} (h:xl u v=true):u=v:=by
 unfold xl at h
 split at h
 ·simp only[beq_iff_eq]at h;subst h;rfl
 ·simp only[aB,bh]at h;obtain⟨rfl,rfl⟩:=h;rfl
 ·have:=td h;subst this;rfl
 ·simp at h
theorem te:∀{us vs t:List Value},qA us vs=some t→vs=us++t
 | [],_,_,h=>by simp only[qA,aa]at h;subst h;rfl
 |u::us,v::vs,t,h=>by
  simp only[qA]at h
  cases hb:xl u v with
  |false=>rw[hb]at h;simp at h
  |true=>rw[hb]at h;rw[Aq hb,te h];rfl
 |_::_,[],_,h=>by simp[qA]at h
theorem jg:∀{ps:List PV} {vs:List Value},fj ps vs=true→aj S σ w ps vs:=by
 intro ps
 induction ps with
 |nil=>intro vs h;cases vs with
  |nil=>rfl
  |cons _ _=>simp[fj]at h
 |cons p ps ih=>
  intro vs h
  have gen:∀{v vs},(p.same v&&fj ps vs)=true→aj S σ w (p::ps) (v::vs):=fun{v vs} h=>by
   simp only[aB]at h;exact⟨[v],vs,rfl,Ap h.1,ih h.2⟩
  cases p with
  |seg e n xs=>
   simp only[fj]at h
   split at h
   ·rename_i us hu
    split at h
    ·rename_i t ht
     exact⟨us,t,te ht,yi (.arr e n) xs us hu,ih h⟩
    ·simp at h
   ·simp at h
  |_=>cases vs with
   |nil=>simp[fj]at h
   |cons v vs=>exact gen (by simpa[fj]using h)
inductive dr {α β:Type} (Q:α→β→Prop):List α→List β→Prop where
 |nil:dr Q [] []
 |cons {x:α} {y:β} {xs:List α} {ys:List β} (h:Q x y) (t:dr Q xs ys):dr Q (x::xs) (y::ys)
theorem dr.get {α β:Type} {Q:α→β→Prop}:∀{xs:List α} {ys:List β},dr Q xs ys→∀{i:Nat} {y:β},ys[i]? =some y→∃x,xs[i]? =some x∧Q x y
 |_,_,.nil,i,y,h=>by simp at h
 |_,_,.cons h t,0,y,e=>by simp only[List.getElem?_cons_zero,aa]at e;subst e;exact⟨_,by simp,h⟩
 |_,_,.cons h t,i+1,y,e=>by simp only[List.getElem?_cons_succ]at e⊢;exact t.get e
def vv (q:TypeId→Ty→Bool):List Field→Nat→Ty→Bool
 | [],_,τ=>(match τ with| .unit=>true|_=>false)
 | [f],o,τ=>f.name != "_" &&Nat.beq f.offset o&&q f.type τ
 |f::fs,o,τ=>(match τ with
  | .pair a b=>f.name != "_" &&Nat.beq f.offset o&&q f.type a&&vv q fs (o+a.size) b
  |_=>false)
def mb (P:Program):Nat→TypeId→Ty→Bool
 |0,_,_=>false
 |n+1,t,τ=>match P.underlying t with
  |some .bool=>(match τ with| .bool=>true|_=>false)
  |some (.int k)=>(match τ with| .int k'=>decide (k'=k)|_=>false)
  |some .string=>(match τ with| .str=>true|_=>false)
  |some (.struct fs)=> !P.stoodInHeld t&&(match P.info? t with|some i=>Nat.beq i.size τ.size|none=>false)&&vv (mb P n) fs.toList 0 τ
  |some (.array m e)=>(match τ with
   | .arr (.int k) m'=>Nat.ble 1 n&&Nat.beq m m'&&(match P.underlying e with|some (.int k')=>decide (k'=k)|_=>false)&&(match P.info? e with|some i=>Nat.beq i.size 1|none=>false)&&(match P.info? t with|some i=>Nat.beq i.size τ.size|none=>false)
   |_=>false)
  |_=>false
structure DL (P:Program) (t:TypeId) (I:TI):Prop where
 info:∃i z,P.info? t=some i∧i.size=I.size∧i.bytes=I.bytes∧i.zero=some z∧fj I.zero z.cells.toList=true∧z.cells.size=I.size
 under:∃d,P.underlying t=some d∧d.isRow=I.isAgg∧
  (match I.sh with
  | .slice e=>d= .slice e
  | .struct fs ags _=>∃l:List Field,d= .struct l.toArray∧dr (fun(f:Field) (x:Nat×Nat)=>f.offset=x.1∧∃i,P.info? f.type=some i∧i.size=x.2) l fs∧dr (fun(f:Field) (b:Bool)=>∃d,P.underlying f.type=some d∧d.isRow=b) l ags
  | .array n e=>d= .array n e
  |_=>True)∧
  (match I.ty with
  | .bool=>d= .bool
  | .int k=>d= .int k
  | .str=>d= .string
  |_=>True)
 size:I.ty.size=I.size
 eq:I.eq=true→mb P 20 t I.ty=true∧P.eqGuardType P.depth t=false
structure b9.OK (C:b9):Prop where
 ti:∀t I,C.ti t=some I→DL C.P t I
 fn:∀f F,C.fn f=some F→C.P.funcs[C.real f]? =some F
 call:∀f sg,C.sig f=some sg→∃F,C.P.funcs[C.real f]? =some F∧F.body.isSome=true∧(F.name== "runtime.NumGoroutine")=false
 slots:∀f sg F,C.sig f=some sg→C.fn f=some F→sg.params.length≤F.ntmps
 alts:∀f g,g∈C.alts f→C.real g=f
 draws:C.P.follows .mixedOrders=true
theorem vw (v:Value) (h:v.oneCell'=true):aP S σ w (nN v) [v]:=by
 unfold nN
 split<;>first|rfl|exact⟨v,rfl,h⟩
theorem tf (v:Value):aC S σ w (sb v) v:=by
 unfold sb
 split
 ·rename_i cs
  cases h:cs.toList.all (fun v=>match v with| .agg _| .tuple _=>false|_=>true)with
  |false=>trivial
  |true=>
   have h:∀c∈cs.toList,c.oneCell'=true:=fun c hc=>by
    have:=List.all_eq_true.1 h c hc
    cases c<;>first|rfl|simp at this
   refine⟨cs.toList,by simp, ?_⟩
   generalize cs.toList=l at h
   induction l with
   |nil=>rfl
   |cons c l ih=>exact⟨[c],l,rfl,vw c (h c (by simp)),ih fun q hq=>h q (by simp[hq])⟩
 ·rename_i hne
  cases v<;>first|exact aC.v rfl|trivial|skip
  case slice a l c=>cases a<;>cases l<;>cases c<;>first|trivial|exact aC.v rfl
  case pointer a=>cases a<;>first|trivial|exact aC.v rfl
theorem cH {E:En} {G:Gh} {s:St} {a:Act} (h:aK E G s a w) (x:Operand):aC G.S G.σ w (s.ev x) (a.eval x):=by
 cases x with
 |tmp t=>exact h.tmp t
 |const v=>exact tf v
 |global g=>trivial
 |func f=>exact aC.v ⟨[],rfl,rfl⟩
section
variable {P:Program} {R:Type} {k:PV→Option R} {r:R}
theorem eR {x:PV} {n:Int} {kd:IntKind} {v:Value} (h:aP S σ w (.int kd n) [v]):v= .int kd n:=by simpa[aP]using h
theorem kI {t:ByteArray} {v:Value} (h:aP S σ w (.str t) [v]):v= .string t:=by simpa[aP]using h
theorem gz {b:Bool} {v:Value} (h:aP S σ w (.bool b) [v]):v= .bool b:=by simpa[aP]using h
theorem ab {α:Type} {c:Bool} {x y:Option α} {r:α} (h:(bif c then x else y)=some r):(c=true∧x=some r)∨(c=false∧y=some r):=by
 cases c<;>simp_all
theorem tg (op:BinOp) (t:TypeId) (x y:Operand) (a b:Int) (i j:IntKind):(eqGuard op t x y (.int i a) (.int j b)).run P w= .ok () w:=by
 unfold eqGuard;cases op<;>simp
theorem th (op:BinOp) (t:TypeId) (x y:Operand) (a b:ByteArray):(eqGuard op t x y (.string a) (.string b)).run P w= .ok () w:=by
 unfold eqGuard;cases op<;>simp
theorem rN (op:BinOp) (t:TypeId) (x y:Operand) (a b:Bool):(eqGuard op t x y (.bool a) (.bool b)).run P w= .ok () w:=by
 unfold eqGuard;cases op<;>simp
theorem cB {kd:IntKind} {n:Int} {X:Sem Value} (h:k (.int kd n)=some r) (hrun:X.run P w= .ok (.int kd n) w):∃p v,X.run P w= .ok v w∧aP S σ w p [v]∧k p=some r:=⟨.int kd n,_,hrun,rfl,h⟩
theorem df {b:Bool} {X:Sem Value} (h:k (.bool b)=some r) (hrun:X.run P w= .ok (.bool b) w):∃p v,X.run P w= .ok v w∧aP S σ w p [v]∧k p=some r:=⟨.bool b,_,hrun,rfl,h⟩
theorem rO {b:ByteArray} {X:Sem Value} (h:k (.str b)=some r) (hrun:X.run P w= .ok (.string b) w):∃p v,X.run P w= .ok v w∧aP S σ w p [v]∧k p=some r:=⟨.str b,_,hrun,rfl,h⟩
theorem vz {op:BinOp} (t:TypeId) {a:IntKind} {m n:Int} (hs:op≠ .shl∧op≠ .shr) (h:yP op a m n k=some r):
  ∃p v,(binOp op t (.int a m) (.int a n)).run P w= .ok v w∧aP S σ w p [v]∧k p=some r:=by
 cases op<;>simp only[yP]at h<;>try (simp at hs;done)
 case add=>exact cB h (by simp[binOp,Op.intArith])
 case sub=>exact cB h (by simp[binOp,Op.intArith])
 case mul=>exact cB h (by simp[binOp,Op.intArith])
 case and=>exact cB h (by simp only[binOp];rw[ak (by simp)];rfl)
 case or=>exact cB h (by simp only[binOp];rw[ak (by simp)];rfl)
 case xor=>exact cB h (by simp only[binOp];rw[ak (by simp)];rfl)
 case andNot=>exact cB h (by simp only[binOp];rw[ak (by simp)];rfl)
 case quo=>
  rcases ab h with⟨_,h⟩|⟨hc,h⟩
  ·simp at h
  ·exact cB h (by simp[binOp,Op.intDiv,of_decide_eq_false hc])
 case rem=>
  rcases ab h with⟨_,h⟩|⟨hc,h⟩
  ·simp at h
  ·exact cB h (by simp[binOp,Op.intDiv,of_decide_eq_false hc])
 case eql=>exact df h (by simp only[binOp];rw[ak (by simp)];rfl)
 case neq=>exact df h (by simp only[binOp];rw[ak (by simp)];rfl)
 case lss=>exact df h (by simp[binOp,Op.intCmp])
 case leq=>exact df h (by simp[binOp,Op.intCmp])
 case gtr=>exact df h (by simp[binOp,Op.intCmp])
 case geq=>exact df h (by simp[binOp,Op.intCmp])
theorem vA {op:BinOp} (t:TypeId) (xo yo:Operand) {x y:PV} {vx vy:Value} (hx:aP S σ w x [vx]) (hy:aP S σ w y [vy]) (h:so op x y k=some r):
  ∃p v,(do eqGuard op t xo yo vx vy;binOp op t vx vy:Sem Value).run P w= .ok v w∧aP S σ w p [v]∧k p=some r:=by
 cases x<;>cases y<;>simp only[so]at h<;>try (simp at h;done)
 case int.int a m b n=>
  have:=eR (x:= .undef) hx;subst this
  have:=eR (x:= .undef) hy;subst this
  simp only[Sem.run_bind,tg,Result.andThen_ok]
  split at h
  ·rcases ab h with⟨_,h⟩|⟨hc,h⟩
   ·simp at h
   ·exact cB h (by simp[binOp,Op.shift,cT,of_decide_eq_false hc])
  ·rcases ab h with⟨_,h⟩|⟨hc,h⟩
   ·simp at h
   ·exact cB h (by simp[binOp,Op.shift,lA,of_decide_eq_false hc])
  ·rename_i h1 h2
   split at h
   ·simp at h
   ·rename_i hab _
    subst hab
    exact vz t ⟨fun e=>h1 e,fun e=>h2 e⟩ h
 case str.str a b=>
  have:=kI hx;subst this
  have:=kI hy;subst this
  simp only[Sem.run_bind,th,Result.andThen_ok]
  cases op<;>simp only[]at h<;>try (simp at h;done)
  case add=>
   rcases ab h with⟨hc,h⟩|⟨_,h⟩
   ·have hc:=of_decide_eq_true hc
    refine rO h ?_
    simp only[binOp,Op.stringOp]
    rw[ak (by simp only[IntKind.max,IntKind.bits,IntKind.signed];omega)]
    rfl
   ·simp at h
  all_goals exact df h (by simp[binOp,Op.stringOp,dd,tY])
theorem yj {op:UnOp} {x:PV} {vx:Value} (hx:aP S σ w x [vx]) (h:DT op x k=some r):
  ∃p v,(Op.unary op vx).run P w= .ok v w∧aP S σ w p [v]∧k p=some r:=by
 unfold DT at h
 split at h
 ·have:=eR (x:= .undef) hx;subst this
  exact cB h (by simp[Op.unary,Op.intArith])
 ·have:=eR (x:= .undef) hx;subst this
  exact cB h (by simp only[Op.unary];rfl)
 ·have:=gz hx;subst this
  exact df h (by simp[Op.unary])
 ·simp at h
theorem tj {C:b9} (hC:C.OK) {op:BinOp} {t:TypeId} (xo yo:Operand) {x y:Bool} {vx vy:Value} (hx:aP S σ w (.bool x) [vx]) (hy:aP S σ w (.bool y) [vy]) (h:qO C op t x y k=some r):
  ∃p v,(do eqGuard op t xo yo vx vy;binOp op t vx vy:Sem Value).run C.P w= .ok v w∧aP S σ w p [v]∧k p=some r:=by
 have:=gz hx;subst this
 have:=gz hy;subst this
 unfold qO at h
 split at h
 ·rename_i I hI
  split at h
  ·rename_i hty
   obtain⟨d,hu,_,_,hd⟩:=(hC.ti t I hI).under
   rw[hty]at hd
   simp only at hd
   subst hd
   simp only[Sem.run_bind,rN,Result.andThen_ok]
   cases op<;>simp only[]at h<;>try (simp at h;done)
   all_goals exact df h (by simp[binOp,run_equal_bool w t x y hu])
  ·simp at h
 ·simp at h
end
def co (E:En) (a:Act) (P:Program) (X:Sem Value) (w:World) (s:St) {R:Type} (k:SV→List bJ→List Nat→Option R) (r:R):Prop:=
 ∃x v us rs G' w',X.run P w= .ok v w'∧aC (Gh.S G') (Gh.σ G') w' x v∧aK E G' (s.upds us) a w'∧k x us rs=some r
section
variable {E:En} {G:Gh} {s:St} {a:Act} {C:b9} {R:Type} {r:R}
theorem co.pure {P:Program} {X:Sem Value} {x:SV} {v:Value} {k:SV→List bJ→List Nat→Option R} {rs:List Nat} (h:aK E G s a w) (hr:X.run P w= .ok v w) (hx:aC G.S G.σ w x v) (hk:k x [] rs=some r):co E a P X w s k r:=
 ⟨x,v,[],rs,G,w,hr,hx,h,hk⟩
theorem co.ofPV {P:Program} {X:Sem Value} {k:SV→List bJ→List Nat→Option R} {rs:List Nat} (h:aK E G s a w) (e:∃p v,X.run P w= .ok v w∧aP G.S G.σ w p [v]∧k (.v p) [] rs=some r):co E a P X w s k r:=by
 obtain⟨p,v,hr,hp,hk⟩:=e
 exact co.pure h hr (aC.v hp) hk
theorem bC {b o:Nat} {vs:List Value} (h:w.rangeAt b o vs) (off n:Nat):w.rangeAt b (o+off) ((vs.drop off).take n):=by
 intro j v hv
 rw[List.getElem?_take]at hv
 split at hv
 ·rw[List.getElem?_drop]at hv
  have:=h _ _ hv
  rwa [←Nat.add_assoc]at this
 ·simp at hv
theorem cI {T:TypeId} {z n:Nat} {b c:Nat} {us:List Value} (h:w.ownsRow 0 T z (.slice (some ⟨b,0,none⟩) n c) n us):w.rangeAt b 0 us:=by
 intro j u hu
 have hj:j<us.length:=(List.getElem?_eq_some_iff.1 hu).1
 rw[Nat.zero_add,h.cellAt j (by have:=h.1;omega),hu]
theorem ie (h:aK E G s a w) {id:Nat} {e:Ty} {xs:List e.den} (ha:s.asList (.own id)=some ⟨e,xs⟩):∃L,G.σ id=some L∧L.z=e.size∧0<e.size∧aw (fun b=>G.S b∨b∈G.β id) w (.list e) xs [L.v]∧yz L.v xs.length:=by
 simp only[St.asList]at ha
 split at ha
 ·rename_i T e' f ys hm
  simp only[aa,Sigma.mk.injEq]at ha
  obtain⟨rfl,ha⟩:=ha
  cases eq_of_heq ha
  obtain⟨L,hL,hB,hz⟩:=h.mem id _ hm
  exact⟨L,hL,hz,hB.1,aU.data (fun _=> .inl) _ _ _ _ _ (fun _=> .inr) hB,by obtain⟨_,v,vs,B1,e1,_,ho,_⟩:=hB;simp only[ay,and_true]at e1;rw[e1];exact yz.ofF ho⟩
 ·rename_i e' ys hm
  simp only[aa,Sigma.mk.injEq]at ha
  obtain⟨rfl,ha⟩:=ha
  cases eq_of_heq ha
  obtain⟨L,hL,hB,ht,hz,hp,h0⟩:=h.mem id _ hm
  exact⟨L,hL,hz,hp,aw.keep (fun _=> .inl) (fun _ _=>rfl) _ _ _ ht,h0⟩
 ·simp at ha
theorem rP {e:Ty} {xs:List e.den} {p:Option Addr} {cap z:Nat} {l h:Int} (hx:aw S w (.list e) xs [.slice p xs.length cap]) (hz:z=e.size) (h0:0≤l) (h1:l≤h) (h2:h≤(xs.length:Int)):
  aw S w (.list e) ((xs.take h.toNat).drop l.toNat) [.slice (if cap=l.toNat then p else p.map (·.add (l.toNat*z))) (h.toNat-l.toNat) (cap-l.toNat)]:=by
 obtain⟨p',cap',hv,hc,hh⟩:=hx
 simp only[ay,Value.slice.injEq,and_true,true_and]at hv
 obtain⟨rfl,rfl⟩:=hv
 have hlen:((xs.take h.toNat).drop l.toNat).length=h.toNat-l.toNat:=by simp;omega
 refine⟨_,cap-l.toNat,by rw[hlen],by rw[hlen];omega, ?_⟩
 rcases hh with⟨rfl,hp⟩|⟨b,o,us,rfl,hS,hr,hrows⟩
 ·left
  refine⟨by simp,fun hn=> ?_⟩
  have hlz:l.toNat=0:=by simp at h2;omega
  split at hn
  ·omega
  ·cases p with
   |none=>rw[hp rfl];omega
   |some a=>simp at hn
 ·by_cases hcl:cap=l.toNat
  ·left
   rw[av hcl]
   refine⟨List.eq_nil_of_length_eq_zero (by rw[hlen];omega),fun hn=>by simp at hn⟩
  ·right
   rw[ak hcl]
   refine⟨b,o+l.toNat*e.size,_,by simp[Addr.add_mid,hz],hS, ?_,an.drop (aw.length e) (an.take (aw.length e) hrows h.toNat) l.toNat⟩
   intro j u hu
   rw[List.getElem?_drop,List.getElem?_take]at hu
   split at hu
   ·have:=hr _ _ hu;rwa [←Nat.add_assoc]at this
   ·simp at hu
theorem eS (h:aK E G s a w) {p:PV} {e:Ty} {xs:List e.den} {v:Value} (hp:aP G.S G.σ w p [v]) (e1:s.asList p=some ⟨e,xs⟩):aw (fun b=>G.S b∨∃i∈p.owns,b∈G.β i) w (.list e) xs [v]:=by
 cases p with
 |list e' ys=>
  simp only[St.asList,aa,Sigma.mk.injEq]at e1
  obtain⟨rfl,e1⟩:=e1
  cases eq_of_heq e1
  exact aw.keep (fun _=> .inl) (fun _ _=>rfl) _ _ _ hp
 |own id=>
  obtain⟨L,hL,_,_,ht,_⟩:=ie h e1
  obtain⟨L',p,n,c,hL',_,hv⟩:=hp
  rw[hL]at hL'
  simp only[aa]at hL'
  subst hL'
  rw[hv]
  exact aw.keep (fun b hb=>hb.imp (fun x=>x) fun x=>⟨id,by simp[PV.owns],x⟩) (fun _ _=>rfl) _ _ _ ht
 |view id l h'=>
  have key:∃ys:List e.den,s.asList (.own id)=some ⟨e,ys⟩∧xs=(ys.take h'.toNat).drop l.toNat:=by
   simp only[St.asList]at e1⊢
   split at e1
   ·rename_i T e' f ys hm
    simp only[aa,Sigma.mk.injEq]at e1
    obtain⟨rfl,e2⟩:=e1
    cases eq_of_heq e2
    exact⟨ys,rfl,rfl⟩
   ·rename_i e' ys hm
    simp only[aa,Sigma.mk.injEq]at e1
    obtain⟨rfl,e2⟩:=e1
    cases eq_of_heq e2
    exact⟨ys,rfl,rfl⟩
   ·simp at e1
  obtain⟨ys,ha,rfl⟩:=key
  obtain⟨L,hL,hz,_,ht,_⟩:=ie h ha
  obtain⟨L',p,n,c,hL',hLv,⟨h0,h1,h2⟩,hv⟩:=hp
  rw[hL]at hL'
  simp only[aa]at hL'
  subst hL'
  rw[hLv]at ht
  have ht2:=ht
  obtain⟨p0,c0,hv0,_⟩:=ht2
  simp only[ay,Value.slice.injEq,and_true]at hv0
  obtain⟨rfl,rfl,rfl⟩:=hv0
  rw[hv]
  exact aw.keep (fun b hb=>hb.imp (fun x=>x) fun x=>⟨id,by simp[PV.owns],x⟩) (fun _ _=>rfl) _ _ _ (rP ht hz h0 h1 h2)
 |_=>simp[St.asList]at e1
theorem tk (h:aK E G s a w) {id:Nat} {e:Ty} {xs:List e.den} (ha:s.asRow (.own id)=some ⟨e,xs⟩):∃L,G.σ id=some L∧L.z=e.size∧yz L.v xs.length:=by
 simp only[St.asRow]at ha
 split at ha
 ·rename_i T e' f ys i cs hm
  simp only[aa,Sigma.mk.injEq]at ha
  obtain⟨rfl,ha⟩:=ha
  cases eq_of_heq ha
  obtain⟨L,hL,_,_,_,hz,u,pre,post,B1,B2,hr,_⟩:=h.mem id _ hm
  exact⟨L,hL,hz,yz.ofF hr⟩
 ·obtain⟨L,hL,hz,_,_,h0⟩:=ie h ha
  exact⟨L,hL,hz,h0⟩
theorem Cq (h:aK E G s a w) {p:PV} {e:Ty} {xs:List e.den} {v:Value} (hp:aP G.S G.σ w p [v]) (e1:s.asRow p=some ⟨e,xs⟩):∃q cap,v= .slice q xs.length cap:=by
 have other:s.asList p=some ⟨e,xs⟩→∃q cap,v= .slice q xs.length cap:=fun e1=>by
  obtain⟨q,cap,hv,_⟩:=eS h hp e1
  simp only[ay,and_true]at hv
  exact⟨q,cap,hv⟩
 cases p with
 |own id=>
  obtain⟨L,hL,_,h0⟩:=tk h e1
  obtain⟨L',_,_,_,hL',_,hv⟩:=hp
  rw[hL]at hL'
  simp only[aa]at hL'
  subst hL'
  simp only[ay,and_true]at hv
  rw[hv]
  rcases h0 with⟨h0,h1⟩|⟨b,c,h0⟩
  ·exact⟨none,0,by rw[h0,h1]⟩
  ·exact⟨_,c,h0⟩
 |list e' ys=>exact other e1
 |view id l h'=>exact other e1
 |_=>simp[St.asRow,St.asList]at e1
theorem fo:∀{cs:List PV} {vs:List Value},fW cs=true→aj S σ w cs vs→aj S' σ' w cs vs
 | [],_,_,h=>h
 |p::cs,_,hn,⟨u,v,e,h,k⟩=>by
  cases p with
  |bool b=>exact⟨u,v,e,h,fo (by simpa[fW]using hn) k⟩
  |int b c=>exact⟨u,v,e,h,fo (by simpa[fW]using hn) k⟩
  |str b=>exact⟨u,v,e,h,fo (by simpa[fW]using hn) k⟩
  |seg e' n xs=>
   simp only[fW,aB,Bool.not_eq_true']at hn
   exact⟨u,v,e,aw.free (.arr e' n) hn.1 _ _ h,fo hn.2 k⟩
  |_=>simp[fW]at hn
theorem vB {e:Ty} {xs:List e.den} {b m c:Nat} (h:aw S w (.list e) xs [.slice (some ⟨b,0,none⟩) m c]):m=xs.length∧(∀i:Nat,i<xs.length→∃us,w.rangeAt b (i*e.size) us∧aw S w e (xs.getD i e.dflt) us):=by
 obtain⟨p,cap,hv,hc,hh⟩:=h
 simp only[ay,Value.slice.injEq,and_true]at hv
 obtain⟨rfl,rfl,rfl⟩:=hv
 refine⟨rfl,fun i hi=> ?_⟩
 rcases hh with⟨rfl,_⟩|⟨b',o,us,hp,hS,hr,hrows⟩
 ·simp at hi
 ·simp only[aa,Addr.mk.injEq,and_true]at hp
  obtain⟨rfl,rfl⟩:=hp
  have:=an.get (aw.length e) hrows i hi
  rw[←fm _ e.dflt _ hi]at this
  have h2:=bC hr (i*e.size) e.size
  rw[Nat.zero_add]at h2
  exact⟨_,h2,this⟩
theorem kJ (h:aK E G s a w) {p:PV} {v:Value} {n:Nat} {cs:List PV} (hp:aP G.S G.σ w p [v]) (e:s.look p n=some cs):
  ∃b o vs,v= .pointer (some ⟨b,o,none⟩)∧w.rangeAt b o vs∧aj G.S G.σ w cs vs∧vs.length=n∧(G.S b∨∃i∈p.leads,b∈G.β i):=by
 cases p with
 |ptr id q=>
  obtain⟨L,b,o,hL,hv,hq,hx⟩:=hp
  simp only[ay,and_true]at hx
  have box:∀{cs0:List PV},(∃b' o' vs,L.v= .pointer (some ⟨b',o',none⟩)∧aj G.S G.σ w cs0 vs∧w.rangeAt b' o' vs∧(G.S b'∨b'∈G.β id))→ik cs0 q n=some cs→∃b o vs,v= .pointer (some ⟨b,o,none⟩)∧w.rangeAt b o vs∧aj G.S G.σ w cs vs∧vs.length=n∧(G.S b∨∃i∈(PV.ptr id q).leads,b∈G.β i):=by
   rintro cs0 ⟨b',o',vs,hv',hc,hr,hw⟩ e
   rw[hv]at hv'
   simp only[Value.pointer.injEq,aa,Addr.mk.injEq,and_true]at hv'
   obtain⟨rfl,rfl⟩:=hv'
   have:=iq hc hq e
   exact⟨b,o+q.off,_,hx,bC hr q.off n,this.1,by rw[List.length_take,List.length_drop];omega,hw.imp (fun x=>x) fun x=>⟨id,by simp[PV.leads],x⟩⟩
  simp only[St.look]at e
  split at e
  ·rename_i cs0 hm
   obtain⟨L',hL',b',o',vs,h1,h2,h3,_,h4⟩:=h.mem id _ hm
   rw[hL]at hL';simp only[aa]at hL';subst hL'
   exact box ⟨b',o',vs,h1,h2,h3,.inr (by simp[h4])⟩ e
  ·rename_i cs0 hm
   obtain⟨L',hL',_,b',o',vs,h1,h4,h2,h3⟩:=h.mem id _ hm
   rw[hL]at hL';simp only[aa]at hL';subst hL'
   exact box ⟨b',o',vs,h1,h2,h3,.inl h4⟩ e
  ·simp at e
 |elt id i q=>
  obtain⟨L,b,m,c,hL,hv,h0,hlt,hq,hx⟩:=hp
  simp only[ay,and_true]at hx
  have row:∀{S':Nat→Prop} {e':Ty} {xs:List e'.den} {cs':List PV},L.z=e'.size→aw S' w (.list e') xs [L.v]→ik (inj e' (rd xs i)) q n=some cs'→∃o vs,v= .pointer (some ⟨b,o,none⟩)∧w.rangeAt b o vs∧aj S' G.σ w cs' vs∧vs.length=n∧S' b:=by
   intro S' e' xs cs' hz ht e
   have ht0:=ht
   rw[hv]at ht
   obtain⟨rfl,hel⟩:=vB ht
   obtain⟨us,hr,he⟩:=hel i.toNat (by omega)
   have:=iq (cD (σ:=G.σ) _ _ _ he) hq e
   refine⟨i.toNat*L.z+q.off,_,hx, ?_,this.1,by rw[List.length_take,List.length_drop];omega, ?_⟩
   ·rw[hz];exact bC hr q.off n
   ·rw[hv]at ht0
    obtain⟨p,cap,hv2,_,hh⟩:=ht0
    simp only[ay,Value.slice.injEq,and_true]at hv2
    rcases hh with⟨rfl,_⟩|⟨b',o,us,hp,hS,_⟩
    ·simp at hlt;omega
    ·rw[←hv2.1]at hp
     simp only[aa,Addr.mk.injEq]at hp
     rw[hp.1];exact hS
  simp only[St.look]at e
  split at e
  ·rename_i T e' f xs hm
   have hv0:=ie h (id:=id) (e:=e') (xs:=xs) (by simp only[St.asList,hm])
   obtain⟨L',hL',hz,_,ht,_⟩:=hv0
   rw[hL]at hL';simp only[aa]at hL';subst hL'
   split at e
   ·rename_i cs1 h1
    rcases ab e with⟨hc,e⟩|⟨_,e⟩
    ·simp only[aa]at e
     subst e
     simp only[Bool.or_eq_true]at hc
     rcases hc with hc|hc
     ·obtain⟨L',hL',hB,_⟩:=h.mem id _ hm
      rw[hL]at hL';simp only[aa]at hL';subst hL'
      have hf:f= .no:=by cases f<;>first|rfl|simp[Fl.isNo]at hc
      subst hf
      obtain⟨hp,v',vs,B1,e1,_,ho,hrw⟩:=hB
      simp only[ay,and_true]at e1
      subst e1
      obtain⟨hrw,_⟩:=cC.1 hrw
      have ho:=gA (by simp) ho
      rw[hv]at ho
      have hm':m=xs.length:=by
       rcases ho.2 with⟨hh,_⟩|⟨g,cap,cur,hh,_⟩
       ·simp at hh
       ·simp only[Value.slice.injEq]at hh;exact hh.2.1
      subst hm'
      have hi:i.toNat<xs.length:=by omega
      have hel:=an.get (aw.length e') hrw _ hi
      rw[←fm _ e'.dflt _ hi]at hel
      have:=iq (cD (σ:=G.σ) _ _ _ hel) hq h1
      have h2:=bC (cI ho) (i.toNat*e'.size) e'.size
      rw[Nat.zero_add]at h2
      refine⟨b,i.toNat*L.z+q.off,_,hx, ?_,this.1,by rw[List.length_take,List.length_drop];omega,(row hz ht h1).elim fun _ h2=>h2.elim fun _ h3=>h3.2.2.2.2.imp (fun x=>x) fun x=>⟨id,by simp[PV.leads],x⟩⟩
      rw[hz];exact bC h2 q.off n
     ·obtain⟨o1,vs,e1,e2,e3,e4,e5⟩:=row hz ht h1
      exact⟨b,o1,vs,e1,e2,fo hc e3,e4,e5.imp (fun x=>x) fun x=>⟨id,by simp[PV.leads],x⟩⟩
    ·simp at e
   ·simp at e
  ·rename_i e' xs hm
   obtain⟨L',hL',_,ht,hz,_⟩:=h.mem id _ hm
   rw[hL]at hL';simp only[aa]at hL';subst hL'
   obtain⟨o1,vs,e1,e2,e3,e4,e5⟩:=row hz ht e
   exact⟨b,o1,vs,e1,e2,e3,e4,.inl e5⟩
  ·simp at e
 |cptr τ x off=>
  obtain⟨b,o,us,hS,hr,ht,hv⟩:=hp
  simp only[ay,and_true]at hv
  simp only[St.look]at e
  have:=aj.cut (cD (σ:=G.σ) _ _ _ ht) e
  exact⟨b,o+off,_,hv,bC hr off n,this.1,by rw[List.length_take,List.length_drop];omega,.inl hS⟩
 |cell id=>
  obtain⟨L,b,o,q,p,hL,hv,hS,hr,hvs⟩:=hp
  simp only[ay,and_true]at hvs
  simp only[St.look]at e
  rcases ab e with⟨hb,e⟩|⟨_,e⟩
  ·simp only[aa]at e;subst e
   have hn:=aG hb
   exact⟨q,p,[L.v],hvs,hr,⟨[L.v],[],rfl,⟨L,b,o,hL,hv,by trivial,by rw[hv];rfl⟩,rfl⟩,by simp[hn],.inl hS⟩
  ·simp at e
 |_=>simp[St.look]at e
theorem eT {P:Program} {t:TypeId} {d:TypeDesc} (h:P.underlying t=some d) (w:World):(isAgg t).run P w= .ok d.isRow w:=by
 unfold isAgg
 rw[Sem.run_bind,run_underlying h w]
 cases d<;>rfl
theorem rQ {P:Program} {t:TypeId} {d:TypeDesc} {b o:Nat} {v:Value} (hu:P.underlying t=some d) (hd:d.isRow=false) (hc:w.cell? ⟨b,o,none⟩=some v):
  (Instr.loadAt t (.pointer (some ⟨b,o,none⟩))).run P w= .ok v w:=by
 simp only[Instr.loadAt,Instr.sureAddr,loadVar,Sem.run_bind,Sem.run_pure,Result.andThen_ok,eT hu,hd]
 simp[hc]
theorem tl (hC:C.OK) {t:TypeId} {I:TI} (hI:C.ti t=some I) {b o:Nat} {vs:List Value} {cs:List PV} (hr:w.rangeAt b o vs) (hc:aj S σ w cs vs) (hl:vs.length=I.size):
  (I.isAgg=true→(Instr.loadAt t (.pointer (some ⟨b,o,none⟩))).run C.P w= .ok (.agg vs.toArray) w)∧
  (I.isAgg=false→∀c,cs=[c]→c.width=1→∃v,vs=[v]∧(Instr.loadAt t (.pointer (some ⟨b,o,none⟩))).run C.P w= .ok v w):=by
 obtain⟨⟨i,z,hi,hs,_⟩,⟨d,hu,hd,_⟩,_⟩:=hC.ti t I hI
 refine⟨fun ha=>run_loadAt_mid w b o t vs d hr hu (by rw[hd,ha]) (by rw[hi];simp[hs,hl]),fun ha c hcs hw=> ?_⟩
 subst hcs
 obtain⟨u,v,rfl,hu1,hv⟩:=hc
 cases hv
 have hlen:=aP.length hu1
 rw[hw]at hlen
 obtain⟨x,rfl⟩:=List.length_eq_one_iff.1 hlen
 exact⟨x,by simp,rQ hu (by rw[hd,ha]) (by have:=hr 0 x (by simp);simpa using this)⟩
theorem mc {I:TI} {cs:List PV} {k:SV→Option R} (e:qd I cs k=some r):(I.isAgg=true∧k (.agg cs)=some r)∨(I.isAgg=false∧∃c,cs=[c]∧c.width=1∧k (.v c)=some r):=by
 unfold qd at e
 rcases ab e with⟨ha,e⟩|⟨ha,e⟩
 ·exact .inl ⟨ha,e⟩
 ·match cs,e with
  | [c],e=>
   rcases ab e with⟨hw,e⟩|⟨_,e⟩
   ·exact .inr ⟨ha,c,rfl,aG hw,e⟩
   ·simp at e
  | [],e=>simp at e
  |_::_::_,e=>simp at e
end
end Go.Ps
