import Derived.Test.YtijpmnicihmoaaaGreatDoorPsV
namespace Go.Ps
set_option linter.unusedVariables false
variable {P:Program}
def kP (P:Program):List Field→List (Nat×Nat)→Bool
 | [],[]=>true
 |f::l,(o,z)::r=>Nat.beq f.offset o&&(match P.info? f.type with|some i=>Nat.beq i.size z|none=>false)&&kP P l r
 |_,_=>false
def Ce (P:Program):List Field→List Bool→Bool
 | [],[]=>true
 |f::l,b::r=>(match P.underlying f.type with|some d=>d.isRow==b|none=>false)&&Ce P l r
 |_,_=>false
theorem qk:∀{l:List Field} {fs:List (Nat×Nat)},kP P l fs=true→dM (fun(f:Field) (x:Nat×Nat)=>f.offset=x.1∧∃i,P.info? f.type=some i∧i.size=x.2) l fs
 | [],[],_=> .nil
 |f::l,(o,z)::r,h=>by
  simp only[kP,ay]at h
  refine .cons ⟨aQ h.1.1, ?_⟩ (qk h.2)
  have:=h.1.2
  split at this
  ·rename_i i hi;exact⟨i,hi,aQ this⟩
  ·simp at this
 | [],_::_,h=>by simp[kP]at h
 |_::_,[],h=>by simp[kP]at h
theorem AS:∀{l:List Field} {fs:List Bool},Ce P l fs=true→dM (fun(f:Field) (b:Bool)=>∃d,P.underlying f.type=some d∧d.isRow=b) l fs
 | [],[],_=> .nil
 |f::l,b::r,h=>by
  simp only[Ce,ay]at h
  refine .cons ?_ (AS h.2)
  have:=h.1
  split at this
  ·rename_i d hd;exact⟨d,hd,by simpa using this⟩
  ·simp at this
 | [],_::_,h=>by simp[Ce]at h
 |_::_,[],h=>by simp[Ce]at h
def FY (P:Program) (d:TypeDesc):Kh→Bool
 | .slice e=>match d with| .slice e'=>Nat.beq e' e|_=>false
 | .struct fs ags _=>match d with| .struct l=>kP P l.toList fs&&Ce P l.toList ags|_=>false
 | .array n e=>match d with| .array n' e'=>Nat.beq n' n&&Nat.beq e' e|_=>false
 |_=>true
def T4 (d:TypeDesc):Ty→Bool
 | .bool=>match d with| .bool=>true|_=>false
 | .int k=>match d with| .int k'=>decide (k'=k)|_=>false
 | .str=>match d with| .string=>true|_=>false
 |_=>true
def SW (P:Program) (t:TypeId) (I:TI):Bool:=
 (match P.info? t with
 |some i=>Nat.beq i.size I.size&&Nat.beq i.bytes I.bytes&&(match i.zero with
   |some z=>fy I.zero z.cells.toList&&Nat.beq z.cells.toList.length I.size
   |none=>false)
 |none=>false)&&
 (match P.underlying t with
 |some d=>(d.isRow==I.isAgg)&&FY P d I.sh&&T4 d I.ty
 |none=>false)&&
 Nat.beq I.ty.size I.size&&(!I.eq|| (na P 20 t I.ty&& !P.eqGuardType P.depth t))
theorem KH {t:TypeId} {I:TI} (h:SW P t I=true):KC P t I:=by
 simp only[SW,ay]at h
 obtain⟨⟨⟨h1,h2⟩,h3⟩,h4⟩:=h
 refine⟨?_, ?_,aQ h3,fun he=>by rw[he]at h4;simpa using h4⟩
 ·split at h1
  ·rename_i i hi
   simp only[ay]at h1
   obtain⟨⟨a,b⟩,c⟩:=h1
   split at c
   ·rename_i z hz
    simp only[ay]at c
    exact⟨i,z,hi,aQ a,aQ b,hz,c.1,by rw[←Array.length_toList];exact aQ c.2⟩
   ·simp at c
  ·simp at h1
 ·split at h2
  ·rename_i d hd
   simp only[ay]at h2
   obtain⟨⟨a,b⟩,c⟩:=h2
   refine⟨d,hd,by simpa using a, ?_, ?_⟩
   ·cases hs:I.sh<;>rw[hs]at b<;>simp only[FY]at b<;>simp only[]
    case slice e=>
      split at b; · simp only[aQ b]
      ·simp at b
    case struct fs ags tys=>
     split at b
     ·rename_i l
      simp only[ay]at b
      exact⟨l.toList,by simp,qk b.1,AS b.2⟩
     ·simp at b
    case array n e=>
     split at b
     ·simp only[ay]at b;rw[aQ b.1,aQ b.2]
     ·simp at b
   ·cases hs:I.ty<;>rw[hs]at c<;>simp only[T4]at c<;>simp only[]
    case bool=>
      split at c; · rfl
      ·simp at c
    case str=>
      split at c; · rfl
      ·simp at c
    case int k=>
      split at c; · simp only[of_decide_eq_true c]
      ·simp at c
  ·simp at h2
def I1 (P:Program):List (Nat×TI)→Bool
 | []=>true
 |(t,I)::r=>SW P t I&&I1 P r
theorem AT:∀{l:List (Nat×TI)},I1 P l=true→∀t I,my l t=some I→KC P t I
 |(j,x)::r,h,t,I,e=>by
  simp only[I1,ay]at h
  simp only[my]at e
  rcases ai e with⟨hj,e⟩|⟨_,e⟩
  ·simp only[aa]at e;subst e;rw[aQ hj];exact KH h.1
  ·exact AT h.2 t I e
 | [],_,t,I,e=>by simp[my]at e
def jU (rl:List (Nat×Nat)) (g:Nat):Nat:=match my rl g with
 |some f=>f
 |none=>g
def uO (al:List (Nat×List Nat)) (rl:List (Nat×Nat)) (f:Nat):List Nat:=match my al f with
 |some gs=>gs
 |none=>match my rl f with
  |some _=>[]
  |none=>[f]
def wE (rl:List (Nat×Nat)):List (Nat×List Nat)→Bool
 | []=>true
 |(f,gs)::r=>gs.all (fun g=>Nat.beq (jU rl g) f)&&wE rl r
theorem wF {rl:List (Nat×Nat)}:∀{al:List (Nat×List Nat)},wE rl al=true→∀f gs,my al f=some gs→∀g∈gs,jU rl g=f
 |(j,x)::r,h,f,gs,e,g,hg=>by
  simp only[wE,ay]at h
  simp only[my]at e
  rcases ai e with⟨hj,e⟩|⟨_,e⟩
  ·simp only[aa]at e;subst e;rw[aQ hj];exact aQ (List.all_eq_true.1 h.1 g hg)
  ·exact wF h.2 f gs e g hg
 | [],_,f,gs,e,_,_=>by simp[my]at e
theorem Cf {al:List (Nat×List Nat)} {rl:List (Nat×Nat)} (h:wE rl al=true) (f g:Nat) (hg:g∈uO al rl f):jU rl g=f:=by
 unfold uO at hg
 split at hg
 ·rename_i gs hgs;exact wF h f gs hgs g hg
 ·split at hg
  ·cases hg
  ·rename_i hn
   simp only[List.mem_singleton]at hg
   subst hg
   unfold jU;rw[hn]
def tr (P:Program) (rl:List (Nat×Nat)):List (Nat×Func)→Prop
 | []=>True
 |(f,F)::r=>P.funcs[jU rl f]? =some F∧tr P rl r
theorem tr.get {rl:List (Nat×Nat)}:∀{l:List (Nat×Func)},tr P rl l→∀f F,my l f=some F→P.funcs[jU rl f]? =some F
 |(j,x)::r,h,t,I,e=>by
  simp only[my]at e
  rcases ai e with⟨hj,e⟩|⟨_,e⟩
  ·simp only[aa]at e;subst e;rw[aQ hj];exact h.1
  ·exact tr.get h.2 t I e
 | [],_,t,I,e=>by simp[my]at e
def AU (fns:List (Nat×Func)):List (Nat×jL)→Bool
 | []=>true
 |(f,sg)::r=>(match my fns f with
  |some F=>F.body.isSome&& !(F.name== "runtime.NumGoroutine")&&Nat.ble sg.params.length F.ntmps
  |none=>false)&&AU fns r
theorem ql {fns:List (Nat×Func)}:∀{l:List (Nat×jL)},AU fns l=true→∀f sg,my l f=some sg→∃F,my fns f=some F∧F.body.isSome=true∧(F.name== "runtime.NumGoroutine")=false∧sg.params.length≤F.ntmps
 |(j,x)::r,h,t,I,e=>by
  simp only[AU,ay]at h
  simp only[my]at e
  rcases ai e with⟨hj,e⟩|⟨_,e⟩
  ·simp only[aa]at e;subst e;rw[aQ hj]
   have h1:=h.1
   split at h1
   ·rename_i F hF
    simp only[ay,Bool.not_eq_true']at h1
    exact⟨F,hF,h1.1.1,h1.1.2,bB h1.2⟩
   ·simp at h1
  ·exact ql h.2 t I e
 | [],_,t,I,e=>by simp[my]at e
theorem cr.OK.of {C:cr} {tis:List (Nat×TI)} {fns:List (Nat×Func)} {sigs:List (Nat×jL)} {rl:List (Nat×Nat)} {al:List (Nat×List Nat)} (h1:C.ti=my tis) (h2:C.fn=my fns) (h3:C.sig=my sigs) (h4:C.real=jU rl) (h5:C.alts=uO al rl)
  (ht:I1 C.P tis=true) (hf:tr C.P rl fns) (hs:AU fns sigs=true) (ha:wE rl al=true) (hd:C.P.follows .mixedOrders=true):C.OK where
 ti:=by rw[h1];exact AT ht
 fn:=by rw[h2,h4];exact hf.get
 call:=by
  rw[h3,h4]
  intro f sg e
  obtain⟨F,a,b,c,_⟩:=ql hs f sg e
  exact⟨F,hf.get f F a,b,c⟩
 slots:=by
  rw[h3,h2]
  intro f sg F e e'
  obtain⟨F',a,_,_,d⟩:=ql hs f sg e
  rw[a]at e'
  simp only[aa]at e'
  subst e';exact d
 alts:=by
  rw[h4,h5]
  exact fun f g hg=>Cf ha f g hg
 draws:=hd
end Go.Ps
