import Derived.Test.YtiahcgampoehdaaGreatDoorPsV
namespace Go.Ps
set_option linter.unusedVariables false
variable {P:Program}
def jY (P:Program):List Field→List (Nat×Nat)→Bool
 | [],[]=>true
 |f::l,(o,z)::r=>Nat.beq f.offset o&&(match P.info? f.type with|some i=>Nat.beq i.size z|none=>false)&&jY P l r
 |_,_=>false
def AU (P:Program):List Field→List Bool→Bool
 | [],[]=>true
 |f::l,b::r=>(match P.underlying f.type with|some d=>d.isRow==b|none=>false)&&AU P l r
 |_,_=>false
theorem pn:∀{l:List Field} {fs:List (Nat×Nat)},jY P l fs=true→dg (fun(f:Field) (x:Nat×Nat)=>f.offset=x.1∧∃i,P.info? f.type=some i∧i.size=x.2) l fs
 | [],[],_=> .nil
 |f::l,(o,z)::r,h=>by
  simp only[jY,Bool.and_eq_true]at h
  refine .cons ⟨Nat.eq_of_beq_eq_true h.1.1, ?_⟩ (pn h.2)
  have:=h.1.2
  split at this
  ·rename_i i hi;exact⟨i,hi,Nat.eq_of_beq_eq_true this⟩
  ·simp at this
 | [],_::_,h=>by simp[jY]at h
 |_::_,[],h=>by simp[jY]at h
theorem zA:∀{l:List Field} {fs:List Bool},AU P l fs=true→dg (fun(f:Field) (b:Bool)=>∃d,P.underlying f.type=some d∧d.isRow=b) l fs
 | [],[],_=> .nil
 |f::l,b::r,h=>by
  simp only[AU,Bool.and_eq_true]at h
  refine .cons ?_ (zA h.2)
  have:=h.1
  split at this
  ·rename_i d hd;exact⟨d,hd,by simpa using this⟩
  ·simp at this
 | [],_::_,h=>by simp[AU]at h
 |_::_,[],h=>by simp[AU]at h
def Eu (P:Program) (d:TypeDesc):IB→Bool
 | .slice e=>match d with| .slice e'=>Nat.beq e' e|_=>false
 | .struct fs ags _=>match d with| .struct l=>jY P l.toList fs&&AU P l.toList ags|_=>false
 | .array n e=>match d with| .array n' e'=>Nat.beq n' n&&Nat.beq e' e|_=>false
 |_=>true
def R0 (d:TypeDesc):Ty→Bool
 | .bool=>match d with| .bool=>true|_=>false
 | .int k=>match d with| .int k'=>decide (k'=k)|_=>false
 | .str=>match d with| .string=>true|_=>false
 |_=>true
def Q0 (P:Program) (t:TypeId) (I:TI):Bool:=
 (match P.info? t with
 |some i=>Nat.beq i.size I.size&&Nat.beq i.bytes I.bytes&&(match i.zero with
   |some z=>eK I.zero z.cells.toList&&Nat.beq z.cells.toList.length I.size
   |none=>false)
 |none=>false)&&
 (match P.underlying t with
 |some d=>(d.isRow==I.isAgg)&&Eu P d I.sh&&R0 d I.ty
 |none=>false)&&
 Nat.beq I.ty.size I.size&&(!I.eq|| (mn P 20 t I.ty&& !P.eqGuardType P.depth t))
theorem I1 {t:TypeId} {I:TI} (h:Q0 P t I=true):IW P t I:=by
 simp only[Q0,Bool.and_eq_true]at h
 obtain⟨⟨⟨h1,h2⟩,h3⟩,h4⟩:=h
 refine⟨?_, ?_,Nat.eq_of_beq_eq_true h3,fun he=>by rw[he]at h4;simpa using h4⟩
 ·split at h1
  ·rename_i i hi
   simp only[Bool.and_eq_true]at h1
   obtain⟨⟨a,b⟩,c⟩:=h1
   split at c
   ·rename_i z hz
    simp only[Bool.and_eq_true]at c
    exact⟨i,z,hi,Nat.eq_of_beq_eq_true a,Nat.eq_of_beq_eq_true b,hz,c.1,by rw[←Array.length_toList];exact Nat.eq_of_beq_eq_true c.2⟩
   ·simp at c
  ·simp at h1
 ·split at h2
  ·rename_i d hd
   simp only[Bool.and_eq_true]at h2
   obtain⟨⟨a,b⟩,c⟩:=h2
   refine⟨d,hd,by simpa using a, ?_, ?_⟩
   ·cases hs:I.sh<;>rw[hs]at b<;>simp only[Eu]at b<;>simp only[]
    case slice e=>
      split at b; · simp only[Nat.eq_of_beq_eq_true b]
      ·simp at b
    case struct fs ags tys=>
     split at b
     ·rename_i l
      simp only[Bool.and_eq_true]at b
      exact⟨l.toList,by simp,pn b.1,zA b.2⟩
     ·simp at b
    case array n e=>
     split at b
     ·simp only[Bool.and_eq_true]at b;rw[Nat.eq_of_beq_eq_true b.1,Nat.eq_of_beq_eq_true b.2]
     ·simp at b
   ·cases hs:I.ty<;>rw[hs]at c<;>simp only[R0]at c<;>simp only[]
    case bool=>
      split at c; · rfl
      ·simp at c
    case str=>
      split at c; · rfl
      ·simp at c
    case int k=>
      split at c; · simp only[of_decide_eq_true c]
      ·simp at c
  ·simp at h2
def Hq (P:Program):List (Nat×TI)→Bool
 | []=>true
 |(t,I)::r=>Q0 P t I&&Hq P r
theorem zB:∀{l:List (Nat×TI)},Hq P l=true→∀t I,lM l t=some I→IW P t I
 |(j,x)::r,h,t,I,e=>by
  simp only[Hq,Bool.and_eq_true]at h
  simp only[lM]at e
  rcases ac e with⟨hj,e⟩|⟨_,e⟩
  ·simp only[Option.some.injEq]at e;subst e;rw[Nat.eq_of_beq_eq_true hj];exact I1 h.1
  ·exact zB h.2 t I e
 | [],_,t,I,e=>by simp[lM]at e
def jn (rl:List (Nat×Nat)) (g:Nat):Nat:=match lM rl g with
 |some f=>f
 |none=>g
def tA (al:List (Nat×List Nat)) (rl:List (Nat×Nat)) (f:Nat):List Nat:=match lM al f with
 |some gs=>gs
 |none=>match lM rl f with
  |some _=>[]
  |none=>[f]
def vh (rl:List (Nat×Nat)):List (Nat×List Nat)→Bool
 | []=>true
 |(f,gs)::r=>gs.all (fun g=>Nat.beq (jn rl g) f)&&vh rl r
theorem vj {rl:List (Nat×Nat)}:∀{al:List (Nat×List Nat)},vh rl al=true→∀f gs,lM al f=some gs→∀g∈gs,jn rl g=f
 |(j,x)::r,h,f,gs,e,g,hg=>by
  simp only[vh,Bool.and_eq_true]at h
  simp only[lM]at e
  rcases ac e with⟨hj,e⟩|⟨_,e⟩
  ·simp only[Option.some.injEq]at e;subst e;rw[Nat.eq_of_beq_eq_true hj];exact Nat.eq_of_beq_eq_true (List.all_eq_true.1 h.1 g hg)
  ·exact vj h.2 f gs e g hg
 | [],_,f,gs,e,_,_=>by simp[lM]at e
theorem AV {al:List (Nat×List Nat)} {rl:List (Nat×Nat)} (h:vh rl al=true) (f g:Nat) (hg:g∈tA al rl f):jn rl g=f:=by
 unfold tA at hg
 split at hg
 ·rename_i gs hgs;exact vj h f gs hgs g hg
 ·split at hg
  ·cases hg
  ·rename_i hn
   simp only[List.mem_singleton]at hg
   subst hg
   unfold jn;rw[hn]
def rX (P:Program) (rl:List (Nat×Nat)):List (Nat×Func)→Prop
 | []=>True
 |(f,F)::r=>P.funcs[jn rl f]? =some F∧rX P rl r
theorem rX.get {rl:List (Nat×Nat)}:∀{l:List (Nat×Func)},rX P rl l→∀f F,lM l f=some F→P.funcs[jn rl f]? =some F
 |(j,x)::r,h,t,I,e=>by
  simp only[lM]at e
  rcases ac e with⟨hj,e⟩|⟨_,e⟩
  ·simp only[Option.some.injEq]at e;subst e;rw[Nat.eq_of_beq_eq_true hj];exact h.1
  ·exact rX.get h.2 t I e
 | [],_,t,I,e=>by simp[lM]at e
def zC (fns:List (Nat×Func)):List (Nat×je)→Bool
 | []=>true
 |(f,sg)::r=>(match lM fns f with
  |some F=>F.body.isSome&& !(F.name== "runtime.NumGoroutine")&&Nat.ble sg.params.length F.ntmps
  |none=>false)&&zC fns r
theorem po {fns:List (Nat×Func)}:∀{l:List (Nat×je)},zC fns l=true→∀f sg,lM l f=some sg→∃F,lM fns f=some F∧F.body.isSome=true∧(F.name== "runtime.NumGoroutine")=false∧sg.params.length≤F.ntmps
 |(j,x)::r,h,t,I,e=>by
  simp only[zC,Bool.and_eq_true]at h
  simp only[lM]at e
  rcases ac e with⟨hj,e⟩|⟨_,e⟩
  ·simp only[Option.some.injEq]at e;subst e;rw[Nat.eq_of_beq_eq_true hj]
   have h1:=h.1
   split at h1
   ·rename_i F hF
    simp only[Bool.and_eq_true,Bool.not_eq_true']at h1
    exact⟨F,hF,h1.1.1,h1.1.2,Nat.le_of_ble_eq_true h1.2⟩
   ·simp at h1
  ·exact po h.2 t I e
 | [],_,t,I,e=>by simp[lM]at e
theorem bP.OK.of {C:bP} {tis:List (Nat×TI)} {fns:List (Nat×Func)} {sigs:List (Nat×je)} {rl:List (Nat×Nat)} {al:List (Nat×List Nat)} (h1:C.ti=lM tis) (h2:C.fn=lM fns) (h3:C.sig=lM sigs) (h4:C.real=jn rl) (h5:C.alts=tA al rl)
  (ht:Hq C.P tis=true) (hf:rX C.P rl fns) (hs:zC fns sigs=true) (ha:vh rl al=true) (hd:C.P.follows .mixedOrders=true):C.OK where
 ti:=by rw[h1];exact zB ht
 fn:=by rw[h2,h4];exact hf.get
 call:=by
  rw[h3,h4]
  intro f sg e
  obtain⟨F,a,b,c,_⟩:=po hs f sg e
  exact⟨F,hf.get f F a,b,c⟩
 slots:=by
  rw[h3,h2]
  intro f sg F e e'
  obtain⟨F',a,_,_,d⟩:=po hs f sg e
  rw[a]at e'
  simp only[Option.some.injEq]at e'
  subst e';exact d
 alts:=by
  rw[h4,h5]
  exact fun f g hg=>AV ha f g hg
 draws:=hd
end Go.Ps
