import Derived.Test.YtijpmnicihmoaaaGreatDoorPsV
namespace Go.Ps
set_option linter.unusedVariables false
variable {P:Program}
def kP (P:Program):List Field→List (Nat×Nat)→Bool
 | [],[]=>true
 |f::l,(o,z)::r=>Nat.beq f.offset o&&(match P.info? f.type with|some i=>Nat.beq i.size z|none=>false)&&kP P l r
 |_,_=>false
def Cg (P:Program):List Field→List Bool→Bool
 | [],[]=>true
 |f::l,b::r=>(match P.underlying f.type with|some d=>d.isRow==b|none=>false)&&Cg P l r
 |_,_=>false
theorem qj:∀{l:List Field} {fs:List (Nat×Nat)},kP P l fs=true→dK (fun(f:Field) (x:Nat×Nat)=>f.offset=x.1∧∃i,P.info? f.type=some i∧i.size=x.2) l fs
 | [],[],_=> .nil
 |f::l,(o,z)::r,h=>by
  simp only[kP,ay]at h
  refine .cons ⟨aQ h.1.1, ?_⟩ (qj h.2)
  have:=h.1.2
  split at this
  ·rename_i i hi;exact⟨i,hi,aQ this⟩
  ·simp at this
 | [],_::_,h=>by simp[kP]at h
 |_::_,[],h=>by simp[kP]at h
theorem AX:∀{l:List Field} {fs:List Bool},Cg P l fs=true→dK (fun(f:Field) (b:Bool)=>∃d,P.underlying f.type=some d∧d.isRow=b) l fs
 | [],[],_=> .nil
 |f::l,b::r,h=>by
  simp only[Cg,ay]at h
  refine .cons ?_ (AX h.2)
  have:=h.1
  split at this
  ·rename_i d hd;exact⟨d,hd,by simpa using this⟩
  ·simp at this
 | [],_::_,h=>by simp[Cg]at h
 |_::_,[],h=>by simp[Cg]at h
def F3 (P:Program) (d:TypeDesc):Kd→Bool
 | .slice e=>match d with| .slice e'=>Nat.beq e' e|_=>false
 | .struct fs ags _=>match d with| .struct l=>kP P l.toList fs&&Cg P l.toList ags|_=>false
 | .array n e=>match d with| .array n' e'=>Nat.beq n' n&&Nat.beq e' e|_=>false
 |_=>true
def TL (d:TypeDesc):Ty→Bool
 | .bool=>match d with| .bool=>true|_=>false
 | .int k=>match d with| .int k'=>decide (k'=k)|_=>false
 | .str=>match d with| .string=>true|_=>false
 |_=>true
def SE (P:Program) (t:TypeId) (I:TI):Bool:=
 (match P.info? t with
 |some i=>Nat.beq i.size I.size&&Nat.beq i.bytes I.bytes&&(match i.zero with
   |some z=>fB I.zero z.cells.toList&&Nat.beq z.cells.toList.length I.size
   |none=>false)
 |none=>false)&&
 (match P.underlying t with
 |some d=>(d.isRow==I.isAgg)&&F3 P d I.sh&&TL d I.ty
 |none=>false)&&
 Nat.beq I.ty.size I.size&&(!I.eq|| (m9 P 20 t I.ty&& !P.eqGuardType P.depth t))
theorem KB {t:TypeId} {I:TI} (h:SE P t I=true):Kw P t I:=by
 simp only[SE,ay]at h
 obtain⟨⟨⟨h1,h2⟩,h3⟩,h4⟩:=h
 refine⟨?_, ?_,aQ h3,fun he=>by rw[he]at h4;simpa using h4⟩
 ·split at h1
  ·rename_i i hi
   simp only[ay]at h1
   obtain⟨⟨a,b⟩,c⟩:=h1
   split at c
   ·rename_i z hz
    simp only[ay]at c
    exact⟨i,z,hi,aQ a,aQ b,hz,c.1,by rw[←Array.length_toList];exact aQ c.2⟩
   ·simp at c
  ·simp at h1
 ·split at h2
  ·rename_i d hd
   simp only[ay]at h2
   obtain⟨⟨a,b⟩,c⟩:=h2
   refine⟨d,hd,by simpa using a, ?_, ?_⟩
   ·cases hs:I.sh<;>rw[hs]at b<;>simp only[F3]at b<;>simp only[]
    case slice e=>
      split at b; · simp only[aQ b]
      ·simp at b
    case struct fs ags tys=>
     split at b
     ·rename_i l
      simp only[ay]at b
      exact⟨l.toList,by simp,qj b.1,AX b.2⟩
     ·simp at b
    case array n e=>
     split at b
     ·simp only[ay]at b;rw[aQ b.1,aQ b.2]
     ·simp at b
   ·cases hs:I.ty<;>rw[hs]at c<;>simp only[TL]at c<;>simp only[]
    case bool=>
      split at c; · rfl
      ·simp at c
    case str=>
      split at c; · rfl
      ·simp at c
    case int k=>
      split at c; · simp only[of_decide_eq_true c]
      ·simp at c
  ·simp at h2
def I0 (P:Program):List (Nat×TI)→Bool
 | []=>true
 |(t,I)::r=>SE P t I&&I0 P r
theorem AY:∀{l:List (Nat×TI)},I0 P l=true→∀t I,mw l t=some I→Kw P t I
 |(j,x)::r,h,t,I,e=>by
  simp only[I0,ay]at h
  simp only[mw]at e
  rcases ah e with⟨hj,e⟩|⟨_,e⟩
  ·simp only[aa]at e;subst e;rw[aQ hj];exact KB h.1
  ·exact AY h.2 t I e
 | [],_,t,I,e=>by simp[mw]at e
def jX (rl:List (Nat×Nat)) (g:Nat):Nat:=match mw rl g with
 |some f=>f
 |none=>g
def uI (al:List (Nat×List Nat)) (rl:List (Nat×Nat)) (f:Nat):List Nat:=match mw al f with
 |some gs=>gs
 |none=>match mw rl f with
  |some _=>[]
  |none=>[f]
def wE (rl:List (Nat×Nat)):List (Nat×List Nat)→Bool
 | []=>true
 |(f,gs)::r=>gs.all (fun g=>Nat.beq (jX rl g) f)&&wE rl r
theorem wF {rl:List (Nat×Nat)}:∀{al:List (Nat×List Nat)},wE rl al=true→∀f gs,mw al f=some gs→∀g∈gs,jX rl g=f
 |(j,x)::r,h,f,gs,e,g,hg=>by
  simp only[wE,ay]at h
  simp only[mw]at e
  rcases ah e with⟨hj,e⟩|⟨_,e⟩
  ·simp only[aa]at e;subst e;rw[aQ hj];exact aQ (List.all_eq_true.1 h.1 g hg)
  ·exact wF h.2 f gs e g hg
 | [],_,f,gs,e,_,_=>by simp[mw]at e
theorem Ch {al:List (Nat×List Nat)} {rl:List (Nat×Nat)} (h:wE rl al=true) (f g:Nat) (hg:g∈uI al rl f):jX rl g=f:=by
 unfold uI at hg
 split at hg
 ·rename_i gs hgs;exact wF h f gs hgs g hg
 ·split at hg
  ·cases hg
  ·rename_i hn
   simp only[List.mem_singleton]at hg
   subst hg
   unfold jX;rw[hn]
def tk (P:Program) (rl:List (Nat×Nat)):List (Nat×Func)→Prop
 | []=>True
 |(f,F)::r=>P.funcs[jX rl f]? =some F∧tk P rl r
theorem tk.get {rl:List (Nat×Nat)}:∀{l:List (Nat×Func)},tk P rl l→∀f F,mw l f=some F→P.funcs[jX rl f]? =some F
 |(j,x)::r,h,t,I,e=>by
  simp only[mw]at e
  rcases ah e with⟨hj,e⟩|⟨_,e⟩
  ·simp only[aa]at e;subst e;rw[aQ hj];exact h.1
  ·exact tk.get h.2 t I e
 | [],_,t,I,e=>by simp[mw]at e
def AZ (fns:List (Nat×Func)):List (Nat×jO)→Bool
 | []=>true
 |(f,sg)::r=>(match mw fns f with
  |some F=>F.body.isSome&& !(F.name== "runtime.NumGoroutine")&&Nat.ble sg.params.length F.ntmps
  |none=>false)&&AZ fns r
theorem qk {fns:List (Nat×Func)}:∀{l:List (Nat×jO)},AZ fns l=true→∀f sg,mw l f=some sg→∃F,mw fns f=some F∧F.body.isSome=true∧(F.name== "runtime.NumGoroutine")=false∧sg.params.length≤F.ntmps
 |(j,x)::r,h,t,I,e=>by
  simp only[AZ,ay]at h
  simp only[mw]at e
  rcases ah e with⟨hj,e⟩|⟨_,e⟩
  ·simp only[aa]at e;subst e;rw[aQ hj]
   have h1:=h.1
   split at h1
   ·rename_i F hF
    simp only[ay,Bool.not_eq_true']at h1
    exact⟨F,hF,h1.1.1,h1.1.2,bz h1.2⟩
   ·simp at h1
  ·exact qk h.2 t I e
 | [],_,t,I,e=>by simp[mw]at e
theorem co.OK.of {C:co} {tis:List (Nat×TI)} {fns:List (Nat×Func)} {sigs:List (Nat×jO)} {rl:List (Nat×Nat)} {al:List (Nat×List Nat)} (h1:C.ti=mw tis) (h2:C.fn=mw fns) (h3:C.sig=mw sigs) (h4:C.real=jX rl) (h5:C.alts=uI al rl)
  (ht:I0 C.P tis=true) (hf:tk C.P rl fns) (hs:AZ fns sigs=true) (ha:wE rl al=true) (hd:C.P.follows .mixedOrders=true):C.OK where
 ti:=by rw[h1];exact AY ht
 fn:=by rw[h2,h4];exact hf.get
 call:=by
  rw[h3,h4]
  intro f sg e
  obtain⟨F,a,b,c,_⟩:=qk hs f sg e
  exact⟨F,hf.get f F a,b,c⟩
 slots:=by
  rw[h3,h2]
  intro f sg F e e'
  obtain⟨F',a,_,_,d⟩:=qk hs f sg e
  rw[a]at e'
  simp only[aa]at e'
  subst e';exact d
 alts:=by
  rw[h4,h5]
  exact fun f g hg=>Ch ha f g hg
 draws:=hd
end Go.Ps
