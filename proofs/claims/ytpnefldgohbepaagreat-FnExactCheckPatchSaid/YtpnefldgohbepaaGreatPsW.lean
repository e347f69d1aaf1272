import Derived.Test.YtpnefldgohbepaaGreatPsV
namespace Go.Ps
set_option linter.unusedVariables false
variable {P:Program}
def lf (P:Program):List Field→List (Nat×Nat)→Bool
 | [],[]=>true
 |f::l,(o,z)::r=>Nat.beq f.offset o&&(match P.info? f.type with|some i=>Nat.beq i.size z|none=>false)&&lf P l r
 |_,_=>false
def C9 (P:Program):List Field→List Bool→Bool
 | [],[]=>true
 |f::l,b::r=>(match P.underlying f.type with|some d=>d.isRow==b|none=>false)&&C9 P l r
 |_,_=>false
theorem qT:∀{l:List Field} {fs:List (Nat×Nat)},lf P l fs=true→dZ (fun(f:Field) (x:Nat×Nat)=>f.offset=x.1∧∃i,P.info? f.type=some i∧i.size=x.2) l fs
 | [],[],_=> .nil
 |f::l,(o,z)::r,h=>by
  simp only[lf,az]at h
  refine .cons ⟨aM h.1.1, ?_⟩ (qT h.2)
  have:=h.1.2
  split at this
  ·rename_i i hi;exact⟨i,hi,aM this⟩
  ·simp at this
 | [],_::_,h=>by simp[lf]at h
 |_::_,[],h=>by simp[lf]at h
theorem BN:∀{l:List Field} {fs:List Bool},C9 P l fs=true→dZ (fun(f:Field) (b:Bool)=>∃d,P.underlying f.type=some d∧d.isRow=b) l fs
 | [],[],_=> .nil
 |f::l,b::r,h=>by
  simp only[C9,az]at h
  refine .cons ?_ (BN h.2)
  have:=h.1
  split at this
  ·rename_i d hd;exact⟨d,hd,by simpa using this⟩
  ·simp at this
 | [],_::_,h=>by simp[C9]at h
 |_::_,[],h=>by simp[C9]at h
def G5 (P:Program) (d:TypeDesc):Ll→Bool
 | .slice e=>match d with| .slice e'=>Nat.beq e' e|_=>false
 | .struct fs ags _=>match d with| .struct l=>lf P l.toList fs&&C9 P l.toList ags|_=>false
 | .array n e=>match d with| .array n' e'=>Nat.beq n' n&&Nat.beq e' e|_=>false
 |_=>true
def Wa (d:TypeDesc):Ty→Bool
 | .bool=>match d with| .bool=>true|_=>false
 | .int k=>match d with| .int k'=>decide (k'=k)|_=>false
 | .str=>match d with| .string=>true|_=>false
 |_=>true
def UY (P:Program) (t:TypeId) (I:TI):Bool:=
 (match P.info? t with
 |some i=>Nat.beq i.size I.size&&Nat.beq i.bytes I.bytes&&(match i.zero with
   |some z=>fM I.zero z.cells.toList&&Nat.beq z.cells.toList.length I.size
   |none=>false)
 |none=>false)&&
 (match P.underlying t with
 |some d=>(d.isRow==I.isAgg)&&G5 P d I.sh&&Wa d I.ty
 |none=>false)&&
 Nat.beq I.ty.size I.size&&(!I.eq|| (nH P 20 t I.ty&& !P.eqGuardType P.depth t))
theorem LU {t:TypeId} {I:TI} (h:UY P t I=true):LP P t I:=by
 simp only[UY,az]at h
 obtain⟨⟨⟨h1,h2⟩,h3⟩,h4⟩:=h
 refine⟨?_, ?_,aM h3,fun he=>by rw[he]at h4;simpa using h4⟩
 ·split at h1
  ·rename_i i hi
   simp only[az]at h1
   obtain⟨⟨a,b⟩,c⟩:=h1
   split at c
   ·rename_i z hz
    simp only[az]at c
    exact⟨i,z,hi,aM a,aM b,hz,c.1,by rw[←Array.length_toList];exact aM c.2⟩
   ·simp at c
  ·simp at h1
 ·split at h2
  ·rename_i d hd
   simp only[az]at h2
   obtain⟨⟨a,b⟩,c⟩:=h2
   refine⟨d,hd,by simpa using a, ?_, ?_⟩
   ·cases hs:I.sh<;>rw[hs]at b<;>simp only[G5]at b<;>simp only[]
    case slice e=>
      split at b; · simp only[aM b]
      ·simp at b
    case struct fs ags tys=>
     split at b
     ·rename_i l
      simp only[az]at b
      exact⟨l.toList,by simp,qT b.1,BN b.2⟩
     ·simp at b
    case array n e=>
     split at b
     ·simp only[az]at b;rw[aM b.1,aM b.2]
     ·simp at b
   ·cases hs:I.ty<;>rw[hs]at c<;>simp only[Wa]at c<;>simp only[]
    case bool=>
      split at c; · rfl
      ·simp at c
    case str=>
      split at c; · rfl
      ·simp at c
    case int k=>
      split at c; · simp only[of_decide_eq_true c]
      ·simp at c
  ·simp at h2
def J4 (P:Program):List (Nat×TI)→Bool
 | []=>true
 |(t,I)::r=>UY P t I&&J4 P r
theorem BO:∀{l:List (Nat×TI)},J4 P l=true→∀t I,mW l t=some I→LP P t I
 |(j,x)::r,h,t,I,e=>by
  simp only[J4,az]at h
  simp only[mW]at e
  rcases ah e with⟨hj,e⟩|⟨_,e⟩
  ·simp only[aa]at e;subst e;rw[aM hj];exact LU h.1
  ·exact BO h.2 t I e
 | [],_,t,I,e=>by simp[mW]at e
def kx (rl:List (Nat×Nat)) (g:Nat):Nat:=match mW rl g with
 |some f=>f
 |none=>g
def vr (al:List (Nat×List Nat)) (rl:List (Nat×Nat)) (f:Nat):List Nat:=match mW al f with
 |some gs=>gs
 |none=>match mW rl f with
  |some _=>[]
  |none=>[f]
def wY (rl:List (Nat×Nat)):List (Nat×List Nat)→Bool
 | []=>true
 |(f,gs)::r=>gs.all (fun g=>Nat.beq (kx rl g) f)&&wY rl r
theorem wZ {rl:List (Nat×Nat)}:∀{al:List (Nat×List Nat)},wY rl al=true→∀f gs,mW al f=some gs→∀g∈gs,kx rl g=f
 |(j,x)::r,h,f,gs,e,g,hg=>by
  simp only[wY,az]at h
  simp only[mW]at e
  rcases ah e with⟨hj,e⟩|⟨_,e⟩
  ·simp only[aa]at e;subst e;rw[aM hj];exact aM (List.all_eq_true.1 h.1 g hg)
  ·exact wZ h.2 f gs e g hg
 | [],_,f,gs,e,_,_=>by simp[mW]at e
theorem Da {al:List (Nat×List Nat)} {rl:List (Nat×Nat)} (h:wY rl al=true) (f g:Nat) (hg:g∈vr al rl f):kx rl g=f:=by
 unfold vr at hg
 split at hg
 ·rename_i gs hgs;exact wZ h f gs hgs g hg
 ·split at hg
  ·cases hg
  ·rename_i hn
   simp only[List.mem_singleton]at hg
   subst hg
   unfold kx;rw[hn]
def tV (P:Program) (rl:List (Nat×Nat)):List (Nat×Func)→Prop
 | []=>True
 |(f,F)::r=>P.funcs[kx rl f]? =some F∧tV P rl r
theorem tV.get {rl:List (Nat×Nat)}:∀{l:List (Nat×Func)},tV P rl l→∀f F,mW l f=some F→P.funcs[kx rl f]? =some F
 |(j,x)::r,h,t,I,e=>by
  simp only[mW]at e
  rcases ah e with⟨hj,e⟩|⟨_,e⟩
  ·simp only[aa]at e;subst e;rw[aM hj];exact h.1
  ·exact tV.get h.2 t I e
 | [],_,t,I,e=>by simp[mW]at e
def BP (fns:List (Nat×Func)):List (Nat×ki)→Bool
 | []=>true
 |(f,sg)::r=>(match mW fns f with
  |some F=>F.body.isSome&& !(F.name== "runtime.NumGoroutine")&&Nat.ble sg.params.length F.ntmps
  |none=>false)&&BP fns r
theorem qU {fns:List (Nat×Func)}:∀{l:List (Nat×ki)},BP fns l=true→∀f sg,mW l f=some sg→∃F,mW fns f=some F∧F.body.isSome=true∧(F.name== "runtime.NumGoroutine")=false∧sg.params.length≤F.ntmps
 |(j,x)::r,h,t,I,e=>by
  simp only[BP,az]at h
  simp only[mW]at e
  rcases ah e with⟨hj,e⟩|⟨_,e⟩
  ·simp only[aa]at e;subst e;rw[aM hj]
   have h1:=h.1
   split at h1
   ·rename_i F hF
    simp only[az,Bool.not_eq_true']at h1
    exact⟨F,hF,h1.1.1,h1.1.2,bC h1.2⟩
   ·simp at h1
  ·exact qU h.2 t I e
 | [],_,t,I,e=>by simp[mW]at e
theorem cv.OK.of {C:cv} {tis:List (Nat×TI)} {fns:List (Nat×Func)} {sigs:List (Nat×ki)} {rl:List (Nat×Nat)} {al:List (Nat×List Nat)} (h1:C.ti=mW tis) (h2:C.fn=mW fns) (h3:C.sig=mW sigs) (h4:C.real=kx rl) (h5:C.alts=vr al rl)
  (ht:J4 C.P tis=true) (hf:tV C.P rl fns) (hs:BP fns sigs=true) (ha:wY rl al=true) (hd:C.P.follows .mixedOrders=true):C.OK where
 ti:=by rw[h1];exact BO ht
 fn:=by rw[h2,h4];exact hf.get
 call:=by
  rw[h3,h4]
  intro f sg e
  obtain⟨F,a,b,c,_⟩:=qU hs f sg e
  exact⟨F,hf.get f F a,b,c⟩
 slots:=by
  rw[h3,h2]
  intro f sg F e e'
  obtain⟨F',a,_,_,d⟩:=qU hs f sg e
  rw[a]at e'
  simp only[aa]at e'
  subst e';exact d
 alts:=by
  rw[h4,h5]
  exact fun f g hg=>Da ha f g hg
 draws:=hd
end Go.Ps
