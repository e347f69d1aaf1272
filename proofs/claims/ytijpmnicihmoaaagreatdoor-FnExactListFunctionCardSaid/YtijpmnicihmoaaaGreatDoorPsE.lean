import Derived.Test.YtijpmnicihmoaaaGreatDoorPsD
import Derived.Laws.Sem
import Derived.Laws.Entries
import Derived.Laws.OwnMore
import Derived.Laws.StructEq
import Derived.Laws.Small
namespace Go.Ps
set_option linter.unusedVariables false
variable {S S':Nat→Prop} {σ σ':Sg} {w w':World}
def vU {α:Type} (f:α→Option (List Value)):List α→Option (List Value)
 | []=>some []
 |x::xs=>match f x,vU f xs with
  |some u,some v=>some (u++v)
  |_,_=>none
def iE:(τ:Ty)→τ.den→Option (List Value)
 | .unit,_=>some []
 | .bool,b=>some [.bool b]
 | .str,s=>some [.string s]
 | .int k,n=>some [.int k n]
 | .pair a b,x=>match iE a x.1,iE b x.2 with
  |some u,some v=>some (u++v)
  |_,_=>none
 | .arr e n,xs=>bif Nat.beq xs.length n then vU (iE e) xs else none
 |_,_=>none
theorem sX {α:Type} {f:α→Option (List Value)} {R:α→List Value→Prop} (hf:∀x us,f x=some us→R x us):∀{xs:List α} {us:List Value},vU f xs=some us→av R xs us
 | [],us,h=>by simp only[vU,aa]at h;exact h.symm
 |x::xs,us,h=>by
  simp only[vU]at h
  split at h
  ·rename_i u v h1 h2
   simp only[aa]at h
   exact⟨u,v,h.symm,hf _ _ h1,sX hf h2⟩
  ·simp at h
theorem BR:∀(τ:Ty) (x:τ.den) (us:List Value),iE τ x=some us→aE S w τ x us:=by
 intro τ
 induction τ with
 |unit=>intro x us h;simp only[iE,aa]at h;exact h.symm
 |bool=>intro x us h;simp only[iE,aa]at h;exact h.symm
 |str=>intro x us h;simp only[iE,aa]at h;exact h.symm
 |int k=>intro x us h;simp only[iE,aa]at h;exact h.symm
 |list e=>intro x us h;simp[iE]at h
 |opt e=>intro x us h;simp[iE]at h
 |pair a b iha ihb=>
  intro x us h
  simp only[iE]at h
  split at h
  ·rename_i u v h1 h2
   simp only[aa]at h
   exact⟨u,v,h.symm,iha _ _ h1,ihb _ _ h2⟩
  ·simp at h
 |arr e n ih=>
  intro x us h
  simp only[iE]at h
  cases hb:Nat.beq x.length n with
  |false=>rw[hb]at h;simp at h
  |true=>rw[hb]at h;exact⟨aQ hb,sX ih h⟩
def PV.same:PV→Value→Bool
 | .bool a,.bool b=>a==b
 | .int k n,.int k' n'=>decide (k=k')&&decide (n=n')
 | .str s,.string t=>s.data.toList==t.data.toList
 | .nils,.slice none 0 0=>true
 | .nilp,.pointer none=>true
 |_,_=>false
def AO:Value→Value→Bool
 | .bool a,.bool b=>a==b
 | .int k n,.int k' n'=>decide (k=k')&&decide (n=n')
 | .string s,.string t=>s.data.toList==t.data.toList
 |_,_=>false
def sY:List Value→List Value→Option (List Value)
 | [],vs=>some vs
 |u::us,v::vs=>bif AO u v then sY us vs else none
 |_,_=>none
def fB:List PV→List Value→Bool
 | [],[]=>true
 | [],_::_=>false
 | .seg e n xs::ps,vs=>match iE (.arr e n) xs with
  |some us=>match sY us vs with
   |some vs=>fB ps vs
   |none=>false
  |none=>false
 |p::ps,v::vs=>p.same v&&fB ps vs
 |_,_=>false
theorem vV {s t:ByteArray} (h:(s.data.toList==t.data.toList)=true):s=t:=by
 simp only[beq_iff_eq]at h
 cases s;cases t;simp only[ByteArray.mk.injEq];exact Array.toList_inj.1 h
theorem FN {p:PV} {v:Value} (h:p.same v=true):bc S σ w p [v]:=by
 unfold PV.same at h
 split at h
 ·simp only[beq_iff_eq]at h;subst h;rfl
 ·simp only[ay,aT]at h;obtain⟨rfl,rfl⟩:=h;rfl
 ·have:=vV h;subst this;rfl
 ·rfl
 ·rfl
 ·simp at h
theorem FO {u v:Value} (h:AO u v=true):u=v:=by
 unfold AO at h
 split at h
 ·simp only[beq_iff_eq]at h;subst h;rfl
 ·simp only[ay,aT]at h;obtain⟨rfl,rfl⟩:=h;rfl
 ·have:=vV h;subst this;rfl
 ·simp at h
theorem vW:∀{us vs t:List Value},sY us vs=some t→vs=us++t
 | [],_,_,h=>by simp only[sY,aa]at h;subst h;rfl
 |u::us,v::vs,t,h=>by
  simp only[sY]at h
  cases hb:AO u v with
  |false=>rw[hb]at h;simp at h
  |true=>rw[hb]at h;rw[FO hb,vW h];rfl
 |_::_,[],_,h=>by simp[sY]at h
theorem jS:∀{ps:List PV} {vs:List Value},fB ps vs=true→ar S σ w ps vs:=by
 intro ps
 induction ps with
 |nil=>intro vs h;cases vs with
  |nil=>rfl
  |cons _ _=>simp[fB]at h
 |cons p ps ih=>
  intro vs h
  have gen:∀{v vs},(p.same v&&fB ps vs)=true→ar S σ w (p::ps) (v::vs):=fun{v vs} h=>by
   simp only[ay]at h;exact⟨[v],vs,rfl,FN h.1,ih h.2⟩
  cases p with
  |seg e n xs=>
   simp only[fB]at h
   split at h
   ·rename_i us hu
    split at h
    ·rename_i t ht
     exact⟨us,t,vW ht,BR (.arr e n) xs us hu,ih h⟩
    ·simp at h
   ·simp at h
  |_=>cases vs with
   |nil=>simp[fB]at h
   |cons v vs=>exact gen (by simpa[fB]using h)
inductive dK {α β:Type} (Q:α→β→Prop):List α→List β→Prop where
 |nil:dK Q [] []
 |cons {x:α} {y:β} {xs:List α} {ys:List β} (h:Q x y) (t:dK Q xs ys):dK Q (x::xs) (y::ys)
theorem dK.get {α β:Type} {Q:α→β→Prop}:∀{xs:List α} {ys:List β},dK Q xs ys→∀{i:Nat} {y:β},ys[i]? =some y→∃x,xs[i]? =some x∧Q x y
 |_,_,.nil,i,y,h=>by simp at h
 |_,_,.cons h t,0,y,e=>by simp only[List.getElem?_cons_zero,aa]at e;subst e;exact⟨_,by simp,h⟩
 |_,_,.cons h t,i+1,y,e=>by simp only[List.getElem?_cons_succ]at e⊢;exact t.get e
def yu (q:TypeId→Ty→Bool):List Field→Nat→Ty→Bool
 | [],_,τ=>(match τ with| .unit=>true|_=>false)
 | [f],o,τ=>f.name != "_" &&Nat.beq f.offset o&&q f.type τ
 |f::fs,o,τ=>(match τ with
  | .pair a b=>f.name != "_" &&Nat.beq f.offset o&&q f.type a&&yu q fs (o+a.size) b
  |_=>false)
def m9 (P:Program):Nat→TypeId→Ty→Bool
 |0,_,_=>false
 |n+1,t,τ=>match P.underlying t with
  |some .bool=>(match τ with| .bool=>true|_=>false)
  |some (.int k)=>(match τ with| .int k'=>decide (k'=k)|_=>false)
  |some .string=>(match τ with| .str=>true|_=>false)
  |some (.struct fs)=> !P.stoodInHeld t&&(match P.info? t with|some i=>Nat.beq i.size τ.size|none=>false)&&yu (m9 P n) fs.toList 0 τ
  |some (.array m e)=>(match τ with
   | .arr (.int k) m'=>Nat.ble 1 n&&Nat.beq m m'&&(match P.underlying e with|some (.int k')=>decide (k'=k)|_=>false)&&(match P.info? e with|some i=>Nat.beq i.size 1|none=>false)&&(match P.info? t with|some i=>Nat.beq i.size τ.size|none=>false)
   |_=>false)
  |_=>false
structure Kw (P:Program) (t:TypeId) (I:TI):Prop where
 info:∃i z,P.info? t=some i∧i.size=I.size∧i.bytes=I.bytes∧i.zero=some z∧fB I.zero z.cells.toList=true∧z.cells.size=I.size
 under:∃d,P.underlying t=some d∧d.isRow=I.isAgg∧
  (match I.sh with
  | .slice e=>d= .slice e
  | .struct fs ags _=>∃l:List Field,d= .struct l.toArray∧dK (fun(f:Field) (x:Nat×Nat)=>f.offset=x.1∧∃i,P.info? f.type=some i∧i.size=x.2) l fs∧dK (fun(f:Field) (b:Bool)=>∃d,P.underlying f.type=some d∧d.isRow=b) l ags
  | .array n e=>d= .array n e
  |_=>True)∧
  (match I.ty with
  | .bool=>d= .bool
  | .int k=>d= .int k
  | .str=>d= .string
  |_=>True)
 size:I.ty.size=I.size
 eq:I.eq=true→m9 P 20 t I.ty=true∧P.eqGuardType P.depth t=false
structure co.OK (C:co):Prop where
 ti:∀t I,C.ti t=some I→Kw C.P t I
 fn:∀f F,C.fn f=some F→C.P.funcs[C.real f]? =some F
 call:∀f sg,C.sig f=some sg→∃F,C.P.funcs[C.real f]? =some F∧F.body.isSome=true∧(F.name== "runtime.NumGoroutine")=false
 slots:∀f sg F,C.sig f=some sg→C.fn f=some F→sg.params.length≤F.ntmps
 alts:∀f g,g∈C.alts f→C.real g=f
 draws:C.P.follows .mixedOrders=true
theorem yw (v:Value) (h:v.oneCell'=true):bc S σ w (oT v) [v]:=by
 unfold oT
 split<;>first|rfl|exact⟨v,rfl,h⟩
theorem vX (v:Value):aK S σ w (uD v) v:=by
 unfold uD
 split
 ·rename_i cs
  cases h:cs.toList.all (fun v=>match v with| .agg _| .tuple _=>false|_=>true)with
  |false=>trivial
  |true=>
   have h:∀c∈cs.toList,c.oneCell'=true:=fun c hc=>by
    have:=List.all_eq_true.1 h c hc
    cases c<;>first|rfl|simp at this
   refine⟨cs.toList,by simp, ?_⟩
   generalize cs.toList=l at h
   induction l with
   |nil=>rfl
   |cons c l ih=>exact⟨[c],l,rfl,yw c (h c (by simp)),ih fun q hq=>h q (by simp[hq])⟩
 ·rename_i hne
  cases v<;>first|exact aK.v rfl|trivial|skip
  case slice a l c=>cases a<;>cases l<;>cases c<;>first|trivial|exact aK.v rfl
  case pointer a=>cases a<;>first|trivial|exact aK.v rfl
theorem db {E:En} {G:Gh} {s:St} {a:Act} (h:aV E G s a w) (x:Operand):aK G.S G.σ w (s.ev x) (a.eval x):=by
 cases x with
 |tmp t=>exact h.tmp t
 |const v=>exact vX v
 |global g=>trivial
 |func f=>exact aK.v ⟨[],rfl,rfl⟩
section
variable {P:Program} {R:Type} {k:PV→Option R} {r:R}
theorem fj {x:PV} {n:Int} {kd:IntKind} {v:Value} (h:bc S σ w (.int kd n) [v]):v= .int kd n:=by simpa[bc]using h
theorem lG {t:ByteArray} {v:Value} (h:bc S σ w (.str t) [v]):v= .string t:=by simpa[bc]using h
theorem gU {b:Bool} {v:Value} (h:bc S σ w (.bool b) [v]):v= .bool b:=by simpa[bc]using h
theorem ah {α:Type} {c:Bool} {x y:Option α} {r:α} (h:(bif c then x else y)=some r):(c=true∧x=some r)∨(c=false∧y=some r):=by
 cases c<;>simp_all
theorem vY (op:BinOp) (t:TypeId) (x y:Operand) (a b:Int) (i j:IntKind):(eqGuard op t x y (.int i a) (.int j b)).run P w= .ok () w:=by
 unfold eqGuard;cases op<;>simp
theorem vZ (op:BinOp) (t:TypeId) (x y:Operand) (a b:ByteArray):(eqGuard op t x y (.string a) (.string b)).run P w= .ok () w:=by
 unfold eqGuard;cases op<;>simp
theorem ur (op:BinOp) (t:TypeId) (x y:Operand) (a b:Bool):(eqGuard op t x y (.bool a) (.bool b)).run P w= .ok () w:=by
 unfold eqGuard;cases op<;>simp
theorem cN {kd:IntKind} {n:Int} {X:Sem Value} (h:k (.int kd n)=some r) (hrun:X.run P w= .ok (.int kd n) w):∃p v,X.run P w= .ok v w∧bc S σ w p [v]∧k p=some r:=⟨.int kd n,_,hrun,rfl,h⟩
theorem dB {b:Bool} {X:Sem Value} (h:k (.bool b)=some r) (hrun:X.run P w= .ok (.bool b) w):∃p v,X.run P w= .ok v w∧bc S σ w p [v]∧k p=some r:=⟨.bool b,_,hrun,rfl,h⟩
theorem ut {b:ByteArray} {X:Sem Value} (h:k (.str b)=some r) (hrun:X.run P w= .ok (.string b) w):∃p v,X.run P w= .ok v w∧bc S σ w p [v]∧k p=some r:=⟨.str b,_,hrun,rfl,h⟩
theorem yx {op:BinOp} (t:TypeId) {a:IntKind} {m n:Int} (hs:op≠ .shl∧op≠ .shr) (h:Cn op a m n k=some r):
  ∃p v,(binOp op t (.int a m) (.int a n)).run P w= .ok v w∧bc S σ w p [v]∧k p=some r:=by
 cases op<;>simp only[Cn]at h<;>try (simp at hs;done)
 case add=>exact cN h (by simp[binOp,Op.intArith])
 case sub=>exact cN h (by simp[binOp,Op.intArith])
 case mul=>exact cN h (by simp[binOp,Op.intArith])
 case and=>exact cN h (by simp only[binOp];rw[ap (by simp)];rfl)
 case or=>exact cN h (by simp only[binOp];rw[ap (by simp)];rfl)
 case xor=>exact cN h (by simp only[binOp];rw[ap (by simp)];rfl)
 case andNot=>exact cN h (by simp only[binOp];rw[ap (by simp)];rfl)
 case quo=>
  rcases ah h with⟨_,h⟩|⟨hc,h⟩
  ·simp at h
  ·exact cN h (by simp[binOp,Op.intDiv,of_decide_eq_false hc])
 case rem=>
  rcases ah h with⟨_,h⟩|⟨hc,h⟩
  ·simp at h
  ·exact cN h (by simp[binOp,Op.intDiv,of_decide_eq_false hc])
 case eql=>exact dB h (by simp only[binOp];rw[ap (by simp)];rfl)
 case neq=>exact dB h (by simp only[binOp];rw[ap (by simp)];rfl)
 case lss=>exact dB h (by simp[binOp,Op.intCmp])
 case leq=>exact dB h (by simp[binOp,Op.intCmp])
 case gtr=>exact dB h (by simp[binOp,Op.intCmp])
 case geq=>exact dB h (by simp[binOp,Op.intCmp])
theorem yy {op:BinOp} (t:TypeId) (xo yo:Operand) {x y:PV} {vx vy:Value} (hx:bc S σ w x [vx]) (hy:bc S σ w y [vy]) (h:uK op x y k=some r):
  ∃p v,(do eqGuard op t xo yo vx vy;binOp op t vx vy:Sem Value).run P w= .ok v w∧bc S σ w p [v]∧k p=some r:=by
 cases x<;>cases y<;>simp only[uK]at h<;>try (simp at h;done)
 case int.int a m b n=>
  have:=fj (x:= .undef) hx;subst this
  have:=fj (x:= .undef) hy;subst this
  simp only[Sem.run_bind,vY,Result.andThen_ok]
  split at h
  ·rcases ah h with⟨_,h⟩|⟨hc,h⟩
   ·simp at h
   ·exact cN h (by simp[binOp,Op.shift,dc,of_decide_eq_false hc])
  ·rcases ah h with⟨_,h⟩|⟨hc,h⟩
   ·simp at h
   ·exact cN h (by simp[binOp,Op.shift,mq,of_decide_eq_false hc])
  ·rename_i h1 h2
   split at h
   ·simp at h
   ·rename_i hab _
    subst hab
    exact yx t ⟨fun e=>h1 e,fun e=>h2 e⟩ h
 case str.str a b=>
  have:=lG hx;subst this
  have:=lG hy;subst this
  simp only[Sem.run_bind,vZ,Result.andThen_ok]
  cases op<;>simp only[]at h<;>try (simp at h;done)
  case add=>
   rcases ah h with⟨hc,h⟩|⟨_,h⟩
   ·have hc:=of_decide_eq_true hc
    refine ut h ?_
    simp only[binOp,Op.stringOp]
    rw[ap (by simp only[IntKind.max,IntKind.bits,IntKind.signed];omega)]
    rfl
   ·simp at h
  all_goals exact dB h (by simp[binOp,Op.stringOp,bM,wN])
theorem BS {op:UnOp} {x:PV} {vx:Value} (hx:bc S σ w x [vx]) (h:KE op x k=some r):
  ∃p v,(Op.unary op vx).run P w= .ok v w∧bc S σ w p [v]∧k p=some r:=by
 unfold KE at h
 split at h
 ·have:=fj (x:= .undef) hx;subst this
  exact cN h (by simp[Op.unary,Op.intArith])
 ·have:=fj (x:= .undef) hx;subst this
  exact cN h (by simp only[Op.unary];rfl)
 ·have:=gU hx;subst this
  exact dB h (by simp[Op.unary])
 ·simp at h
theorem v7 {C:co} (hC:C.OK) {op:BinOp} {t:TypeId} (xo yo:Operand) {x y:Bool} {vx vy:Value} (hx:bc S σ w (.bool x) [vx]) (hy:bc S σ w (.bool y) [vy]) (h:tr C op t x y k=some r):
  ∃p v,(do eqGuard op t xo yo vx vy;binOp op t vx vy:Sem Value).run C.P w= .ok v w∧bc S σ w p [v]∧k p=some r:=by
 have:=gU hx;subst this
 have:=gU hy;subst this
 unfold tr at h
 split at h
 ·rename_i I hI
  split at h
  ·rename_i hty
   obtain⟨d,hu,_,_,hd⟩:=(hC.ti t I hI).under
   rw[hty]at hd
   simp only at hd
   subst hd
   simp only[Sem.run_bind,ur,Result.andThen_ok]
   cases op<;>simp only[]at h<;>try (simp at h;done)
   all_goals exact dB h (by simp[binOp,run_equal_bool w t x y hu])
  ·simp at h
 ·simp at h
end
def cO (E:En) (a:Act) (P:Program) (X:Sem Value) (w:World) (s:St) {R:Type} (k:SV→List ca→List Nat→Option R) (r:R):Prop:=
 ∃x v us rs G' w',X.run P w= .ok v w'∧aK (Gh.S G') (Gh.σ G') w' x v∧aV E G' (s.upds us) a w'∧k x us rs=some r
section
variable {E:En} {G:Gh} {s:St} {a:Act} {C:co} {R:Type} {r:R}
theorem cO.pure {P:Program} {X:Sem Value} {x:SV} {v:Value} {k:SV→List ca→List Nat→Option R} {rs:List Nat} (h:aV E G s a w) (hr:X.run P w= .ok v w) (hx:aK G.S G.σ w x v) (hk:k x [] rs=some r):cO E a P X w s k r:=
 ⟨x,v,[],rs,G,w,hr,hx,h,hk⟩
theorem cO.ofPV {P:Program} {X:Sem Value} {k:SV→List ca→List Nat→Option R} {rs:List Nat} (h:aV E G s a w) (e:∃p v,X.run P w= .ok v w∧bc G.S G.σ w p [v]∧k (.v p) [] rs=some r):cO E a P X w s k r:=by
 obtain⟨p,v,hr,hp,hk⟩:=e
 exact cO.pure h hr (aK.v hp) hk
theorem bO {b o:Nat} {vs:List Value} (h:w.rangeAt b o vs) (off n:Nat):w.rangeAt b (o+off) ((vs.drop off).take n):=by
 intro j v hv
 rw[List.getElem?_take]at hv
 split at hv
 ·rw[List.getElem?_drop]at hv
  have:=h _ _ hv
  rwa [←Nat.add_assoc]at this
 ·simp at hv
theorem fC {T:TypeId} {z n:Nat} {b c:Nat} {us:List Value} (h:w.ownsRow 0 T z (.slice (some ⟨b,0,none⟩) n c) n us):w.rangeAt b 0 us:=by
 intro j u hu
 have hj:j<us.length:=(List.getElem?_eq_some_iff.1 hu).1
 rw[Nat.zero_add,h.cellAt j (by have:=h.1;omega),hu]
theorem mb (h:aV E G s a w) {id:Nat} {e:Ty} {xs:List e.den} (ha:s.asList (.own id)=some ⟨e,xs⟩):∃L,G.σ id=some L∧L.z=e.size∧0<e.size∧aE (fun b=>G.S b∨b∈G.β id) w (.list e) xs [L.v]∧B9 L.v xs.length:=by
 simp only[St.asList]at ha
 split at ha
 ·rename_i T e' f ys hm
  simp only[aa,Sigma.mk.injEq]at ha
  obtain⟨rfl,ha⟩:=ha
  cases eq_of_heq ha
  obtain⟨L,hL,hB,hz⟩:=h.mem id _ hm
  exact⟨L,hL,hz,hB.1,bi.data (fun _=> .inl) _ _ _ _ _ (fun _=> .inr) hB,by obtain⟨_,v,vs,B1,e1,_,ho,_⟩:=hB;simp only[aD,and_true]at e1;rw[e1];exact B9.ofF ho⟩
 ·rename_i e' ys hm
  simp only[aa,Sigma.mk.injEq]at ha
  obtain⟨rfl,ha⟩:=ha
  cases eq_of_heq ha
  obtain⟨L,hL,hB,ht,hz,hp,h0⟩:=h.mem id _ hm
  exact⟨L,hL,hz,hp,aE.keep (fun _=> .inl) (fun _ _=>rfl) _ _ _ ht,h0⟩
 ·simp at ha
theorem jb (h:aV E G s a w) {p:PV} {e:Ty} {xs:List e.den} {v:Value} (hp:bc G.S G.σ w p [v]) (e1:s.asList p=some ⟨e,xs⟩):aE (fun b=>G.S b∨∃i∈p.owns,b∈G.β i) w (.list e) xs [v]:=by
 cases p with
 |list e' ys=>
  simp only[St.asList,aa,Sigma.mk.injEq]at e1
  obtain⟨rfl,e1⟩:=e1
  cases eq_of_heq e1
  exact aE.keep (fun _=> .inl) (fun _ _=>rfl) _ _ _ hp
 |own id=>
  obtain⟨L,hL,_,_,ht,_⟩:=mb h e1
  obtain⟨L',p,n,c,hL',_,hv⟩:=hp
  rw[hL]at hL'
  simp only[aa]at hL'
  subst hL'
  rw[hv]
  exact aE.keep (fun b hb=>hb.imp (fun x=>x) fun x=>⟨id,by simp[PV.owns],x⟩) (fun _ _=>rfl) _ _ _ ht
 |_=>simp[St.asList]at e1
theorem v8 (h:aV E G s a w) {id:Nat} {e:Ty} {xs:List e.den} (ha:s.asRow (.own id)=some ⟨e,xs⟩):∃L,G.σ id=some L∧L.z=e.size∧B9 L.v xs.length:=by
 simp only[St.asRow]at ha
 split at ha
 ·rename_i T e' f ys i cs hm
  simp only[aa,Sigma.mk.injEq]at ha
  obtain⟨rfl,ha⟩:=ha
  cases eq_of_heq ha
  obtain⟨L,hL,_,_,_,hz,u,pre,post,B1,B2,hr,_⟩:=h.mem id _ hm
  exact⟨L,hL,hz,B9.ofF hr⟩
 ·obtain⟨L,hL,hz,_,_,h0⟩:=mb h ha
  exact⟨L,hL,hz,h0⟩
theorem IP (h:aV E G s a w) {p:PV} {e:Ty} {xs:List e.den} {v:Value} (hp:bc G.S G.σ w p [v]) (e1:s.asRow p=some ⟨e,xs⟩):∃q cap,v= .slice q xs.length cap:=by
 have other:s.asList p=some ⟨e,xs⟩→∃q cap,v= .slice q xs.length cap:=fun e1=>by
  obtain⟨q,cap,hv,_⟩:=jb h hp e1
  simp only[aD,and_true]at hv
  exact⟨q,cap,hv⟩
 cases p with
 |own id=>
  obtain⟨L,hL,_,h0⟩:=v8 h e1
  obtain⟨L',_,_,_,hL',_,hv⟩:=hp
  rw[hL]at hL'
  simp only[aa]at hL'
  subst hL'
  simp only[aD,and_true]at hv
  rw[hv]
  rcases h0 with⟨h0,h1⟩|⟨b,c,h0⟩
  ·exact⟨none,0,by rw[h0,h1]⟩
  ·exact⟨_,c,h0⟩
 |list e' ys=>exact other e1
 |_=>simp[St.asRow,St.asList]at e1
theorem fJ:∀{cs:List PV} {vs:List Value},gD cs=true→ar S σ w cs vs→ar S' σ' w cs vs
 | [],_,_,h=>h
 |p::cs,_,hn,⟨u,v,e,h,k⟩=>by
  cases p with
  |bool b=>exact⟨u,v,e,h,fJ (by simpa[gD]using hn) k⟩
  |int b c=>exact⟨u,v,e,h,fJ (by simpa[gD]using hn) k⟩
  |str b=>exact⟨u,v,e,h,fJ (by simpa[gD]using hn) k⟩
  |seg e' n xs=>
   simp only[gD,ay,Bool.not_eq_true']at hn
   exact⟨u,v,e,aE.free (.arr e' n) hn.1 _ _ h,fJ hn.2 k⟩
  |_=>simp[gD]at hn
theorem yz {e:Ty} {xs:List e.den} {b m c:Nat} (h:aE S w (.list e) xs [.slice (some ⟨b,0,none⟩) m c]):m=xs.length∧(∀i:Nat,i<xs.length→∃us,w.rangeAt b (i*e.size) us∧aE S w e (xs.getD i e.dflt) us):=by
 obtain⟨p,cap,hv,hc,hh⟩:=h
 simp only[aD,Value.slice.injEq,and_true]at hv
 obtain⟨rfl,rfl,rfl⟩:=hv
 refine⟨rfl,fun i hi=> ?_⟩
 rcases hh with⟨rfl,_⟩|⟨b',o,us,hp,hS,hr,hrows⟩
 ·simp at hi
 ·simp only[aa,Addr.mk.injEq,and_true]at hp
  obtain⟨rfl,rfl⟩:=hp
  have:=av.get (aE.length e) hrows i hi
  rw[←fF _ e.dflt _ hi]at this
  have h2:=bO hr (i*e.size) e.size
  rw[Nat.zero_add]at h2
  exact⟨_,h2,this⟩
theorem lH (h:aV E G s a w) {p:PV} {v:Value} {n:Nat} {cs:List PV} (hp:bc G.S G.σ w p [v]) (e:s.look p n=some cs):
  ∃b o vs,v= .pointer (some ⟨b,o,none⟩)∧w.rangeAt b o vs∧ar G.S G.σ w cs vs∧vs.length=n∧(G.S b∨∃i∈p.leads,b∈G.β i):=by
 cases p with
 |ptr id q=>
  obtain⟨L,b,o,hL,hv,hq,hx⟩:=hp
  simp only[aD,and_true]at hx
  have box:∀{cs0:List PV},(∃b' o' vs,L.v= .pointer (some ⟨b',o',none⟩)∧ar G.S G.σ w cs0 vs∧w.rangeAt b' o' vs∧(G.S b'∨b'∈G.β id))→iJ cs0 q n=some cs→∃b o vs,v= .pointer (some ⟨b,o,none⟩)∧w.rangeAt b o vs∧ar G.S G.σ w cs vs∧vs.length=n∧(G.S b∨∃i∈(PV.ptr id q).leads,b∈G.β i):=by
   rintro cs0 ⟨b',o',vs,hv',hc,hr,hw⟩ e
   rw[hv]at hv'
   simp only[Value.pointer.injEq,aa,Addr.mk.injEq,and_true]at hv'
   obtain⟨rfl,rfl⟩:=hv'
   have:=iM hc hq e
   exact⟨b,o+q.off,_,hx,bO hr q.off n,this.1,by rw[List.length_take,List.length_drop];omega,hw.imp (fun x=>x) fun x=>⟨id,by simp[PV.leads],x⟩⟩
  simp only[St.look]at e
  split at e
  ·rename_i cs0 hm
   obtain⟨L',hL',b',o',vs,h1,h2,h3,_,h4⟩:=h.mem id _ hm
   rw[hL]at hL';simp only[aa]at hL';subst hL'
   exact box ⟨b',o',vs,h1,h2,h3,.inr (by simp[h4])⟩ e
  ·rename_i cs0 hm
   obtain⟨L',hL',_,b',o',vs,h1,h4,h2,h3⟩:=h.mem id _ hm
   rw[hL]at hL';simp only[aa]at hL';subst hL'
   exact box ⟨b',o',vs,h1,h2,h3,.inl h4⟩ e
  ·simp at e
 |elt id i q=>
  obtain⟨L,b,m,c,hL,hv,h0,hlt,hq,hx⟩:=hp
  simp only[aD,and_true]at hx
  have row:∀{S':Nat→Prop} {e':Ty} {xs:List e'.den} {cs':List PV},L.z=e'.size→aE S' w (.list e') xs [L.v]→iJ (inj e' (rd xs i)) q n=some cs'→∃o vs,v= .pointer (some ⟨b,o,none⟩)∧w.rangeAt b o vs∧ar S' G.σ w cs' vs∧vs.length=n∧S' b:=by
   intro S' e' xs cs' hz ht e
   have ht0:=ht
   rw[hv]at ht
   obtain⟨rfl,hel⟩:=yz ht
   obtain⟨us,hr,he⟩:=hel i.toNat (by omega)
   have:=iM (cH (σ:=G.σ) _ _ _ he) hq e
   refine⟨i.toNat*L.z+q.off,_,hx, ?_,this.1,by rw[List.length_take,List.length_drop];omega, ?_⟩
   ·rw[hz];exact bO hr q.off n
   ·rw[hv]at ht0
    obtain⟨p,cap,hv2,_,hh⟩:=ht0
    simp only[aD,Value.slice.injEq,and_true]at hv2
    rcases hh with⟨rfl,_⟩|⟨b',o,us,hp,hS,_⟩
    ·simp at hlt;omega
    ·rw[←hv2.1]at hp
     simp only[aa,Addr.mk.injEq]at hp
     rw[hp.1];exact hS
  simp only[St.look]at e
  split at e
  ·rename_i T e' f xs hm
   have hv0:=mb h (id:=id) (e:=e') (xs:=xs) (by simp only[St.asList,hm])
   obtain⟨L',hL',hz,_,ht,_⟩:=hv0
   rw[hL]at hL';simp only[aa]at hL';subst hL'
   split at e
   ·rename_i cs1 h1
    rcases ah e with⟨hc,e⟩|⟨_,e⟩
    ·simp only[aa]at e
     subst e
     simp only[Bool.or_eq_true]at hc
     rcases hc with hc|hc
     ·obtain⟨L',hL',hB,_⟩:=h.mem id _ hm
      rw[hL]at hL';simp only[aa]at hL';subst hL'
      have hf:f= .no:=by cases f<;>first|rfl|simp[Fl.isNo]at hc
      subst hf
      obtain⟨hp,v',vs,B1,e1,_,ho,hrw⟩:=hB
      simp only[aD,and_true]at e1
      subst e1
      obtain⟨hrw,_⟩:=dD.1 hrw
      have ho:=mf (by simp) ho
      rw[hv]at ho
      have hm':m=xs.length:=by
       rcases ho.2 with⟨hh,_⟩|⟨g,cap,cur,hh,_⟩
       ·simp at hh
       ·simp only[Value.slice.injEq]at hh;exact hh.2.1
      subst hm'
      have hi:i.toNat<xs.length:=by omega
      have hel:=av.get (aE.length e') hrw _ hi
      rw[←fF _ e'.dflt _ hi]at hel
      have:=iM (cH (σ:=G.σ) _ _ _ hel) hq h1
      have h2:=bO (fC ho) (i.toNat*e'.size) e'.size
      rw[Nat.zero_add]at h2
      refine⟨b,i.toNat*L.z+q.off,_,hx, ?_,this.1,by rw[List.length_take,List.length_drop];omega,(row hz ht h1).elim fun _ h2=>h2.elim fun _ h3=>h3.2.2.2.2.imp (fun x=>x) fun x=>⟨id,by simp[PV.leads],x⟩⟩
      rw[hz];exact bO h2 q.off n
     ·obtain⟨o1,vs,e1,e2,e3,e4,e5⟩:=row hz ht h1
      exact⟨b,o1,vs,e1,e2,fJ hc e3,e4,e5.imp (fun x=>x) fun x=>⟨id,by simp[PV.leads],x⟩⟩
    ·simp at e
   ·simp at e
  ·rename_i e' xs hm
   obtain⟨L',hL',_,ht,hz,_⟩:=h.mem id _ hm
   rw[hL]at hL';simp only[aa]at hL';subst hL'
   obtain⟨o1,vs,e1,e2,e3,e4,e5⟩:=row hz ht e
   exact⟨b,o1,vs,e1,e2,e3,e4,.inl e5⟩
  ·simp at e
 |cptr τ x off=>
  obtain⟨b,o,us,hS,hr,ht,hv⟩:=hp
  simp only[aD,and_true]at hv
  simp only[St.look]at e
  have:=ar.cut (cH (σ:=G.σ) _ _ _ ht) e
  exact⟨b,o+off,_,hv,bO hr off n,this.1,by rw[List.length_take,List.length_drop];omega,.inl hS⟩
 |_=>simp[St.look]at e
theorem fk {P:Program} {t:TypeId} {d:TypeDesc} (h:P.underlying t=some d) (w:World):(isAgg t).run P w= .ok d.isRow w:=by
 unfold isAgg
 rw[Sem.run_bind,run_underlying h w]
 cases d<;>rfl
theorem uu {P:Program} {t:TypeId} {d:TypeDesc} {b o:Nat} {v:Value} (hu:P.underlying t=some d) (hd:d.isRow=false) (hc:w.cell? ⟨b,o,none⟩=some v):
  (Instr.loadAt t (.pointer (some ⟨b,o,none⟩))).run P w= .ok v w:=by
 simp only[Instr.loadAt,Instr.sureAddr,loadVar,Sem.run_bind,Sem.run_pure,Result.andThen_ok,fk hu,hd]
 simp[hc]
theorem wa (hC:C.OK) {t:TypeId} {I:TI} (hI:C.ti t=some I) {b o:Nat} {vs:List Value} {cs:List PV} (hr:w.rangeAt b o vs) (hc:ar S σ w cs vs) (hl:vs.length=I.size):
  (I.isAgg=true→(Instr.loadAt t (.pointer (some ⟨b,o,none⟩))).run C.P w= .ok (.agg vs.toArray) w)∧
  (I.isAgg=false→∀c,cs=[c]→c.width=1→∃v,vs=[v]∧(Instr.loadAt t (.pointer (some ⟨b,o,none⟩))).run C.P w= .ok v w):=by
 obtain⟨⟨i,z,hi,hs,_⟩,⟨d,hu,hd,_⟩,_⟩:=hC.ti t I hI
 refine⟨fun ha=>run_loadAt_mid w b o t vs d hr hu (by rw[hd,ha]) (by rw[hi];simp[hs,hl]),fun ha c hcs hw=> ?_⟩
 subst hcs
 obtain⟨u,v,rfl,hu1,hv⟩:=hc
 cases hv
 have hlen:=bc.length hu1
 rw[hw]at hlen
 obtain⟨x,rfl⟩:=List.length_eq_one_iff.1 hlen
 exact⟨x,by simp,uu hu (by rw[hd,ha]) (by have:=hr 0 x (by simp);simpa using this)⟩
theorem na {I:TI} {cs:List PV} {k:SV→Option R} (e:sr I cs k=some r):(I.isAgg=true∧k (.agg cs)=some r)∨(I.isAgg=false∧∃c,cs=[c]∧c.width=1∧k (.v c)=some r):=by
 unfold sr at e
 rcases ah e with⟨ha,e⟩|⟨ha,e⟩
 ·exact .inl ⟨ha,e⟩
 ·match cs,e with
  | [c],e=>
   rcases ah e with⟨hw,e⟩|⟨_,e⟩
   ·exact .inr ⟨ha,c,rfl,aQ hw,e⟩
   ·simp at e
  | [],e=>simp at e
  |_::_::_,e=>simp at e
end
end Go.Ps
