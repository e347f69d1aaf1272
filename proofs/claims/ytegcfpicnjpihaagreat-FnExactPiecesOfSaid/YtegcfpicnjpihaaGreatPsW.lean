import Derived.Test.YtegcfpicnjpihaaGreatPsV
namespace Go.Ps
set_option linter.unusedVariables false
variable {P:Program}
def jO (P:Program):List Field→List (Nat×Nat)→Bool
 | [],[]=>true
 |f::l,(o,z)::r=>Nat.beq f.offset o&&(match P.info? f.type with|some i=>Nat.beq i.size z|none=>false)&&jO P l r
 |_,_=>false
def Ae (P:Program):List Field→List Bool→Bool
 | [],[]=>true
 |f::l,b::r=>(match P.underlying f.type with|some d=>d.isRow==b|none=>false)&&Ae P l r
 |_,_=>false
theorem oZ:∀{l:List Field} {fs:List (Nat×Nat)},jO P l fs=true→db (fun(f:Field) (x:Nat×Nat)=>f.offset=x.1∧∃i,P.info? f.type=some i∧i.size=x.2) l fs
 | [],[],_=> .nil
 |f::l,(o,z)::r,h=>by
  simp only[jO,Bool.and_eq_true]at h
  refine .cons ⟨Nat.eq_of_beq_eq_true h.1.1, ?_⟩ (oZ h.2)
  have:=h.1.2
  split at this
  ·rename_i i hi;exact⟨i,hi,Nat.eq_of_beq_eq_true this⟩
  ·simp at this
 | [],_::_,h=>by simp[jO]at h
 |_::_,[],h=>by simp[jO]at h
theorem yP:∀{l:List Field} {fs:List Bool},Ae P l fs=true→db (fun(f:Field) (b:Bool)=>∃d,P.underlying f.type=some d∧d.isRow=b) l fs
 | [],[],_=> .nil
 |f::l,b::r,h=>by
  simp only[Ae,Bool.and_eq_true]at h
  refine .cons ?_ (yP h.2)
  have:=h.1
  split at this
  ·rename_i d hd;exact⟨d,hd,by simpa using this⟩
  ·simp at this
 | [],_::_,h=>by simp[Ae]at h
 |_::_,[],h=>by simp[Ae]at h
def DN (P:Program) (d:TypeDesc):HX→Bool
 | .slice e=>match d with| .slice e'=>Nat.beq e' e|_=>false
 | .struct fs ags _=>match d with| .struct l=>jO P l.toList fs&&Ae P l.toList ags|_=>false
 | .array n e=>match d with| .array n' e'=>Nat.beq n' n&&Nat.beq e' e|_=>false
 |_=>true
def Q8 (d:TypeDesc):Ty→Bool
 | .bool=>match d with| .bool=>true|_=>false
 | .int k=>match d with| .int k'=>decide (k'=k)|_=>false
 | .str=>match d with| .string=>true|_=>false
 |_=>true
def Qa (P:Program) (t:TypeId) (I:TI):Bool:=
 (match P.info? t with
 |some i=>Nat.beq i.size I.size&&Nat.beq i.bytes I.bytes&&(match i.zero with
   |some z=>eG I.zero z.cells.toList&&Nat.beq z.cells.toList.length I.size
   |none=>false)
 |none=>false)&&
 (match P.underlying t with
 |some d=>(d.isRow==I.isAgg)&&DN P d I.sh&&Q8 d I.ty
 |none=>false)&&
 Nat.beq I.ty.size I.size&&(!I.eq|| (l8 P 20 t I.ty&& !P.eqGuardType P.depth t))
theorem In {t:TypeId} {I:TI} (h:Qa P t I=true):Ii P t I:=by
 simp only[Qa,Bool.and_eq_true]at h
 obtain⟨⟨⟨h1,h2⟩,h3⟩,h4⟩:=h
 refine⟨?_, ?_,Nat.eq_of_beq_eq_true h3,fun he=>by rw[he]at h4;simpa using h4⟩
 ·split at h1
  ·rename_i i hi
   simp only[Bool.and_eq_true]at h1
   obtain⟨⟨a,b⟩,c⟩:=h1
   split at c
   ·rename_i z hz
    simp only[Bool.and_eq_true]at c
    exact⟨i,z,hi,Nat.eq_of_beq_eq_true a,Nat.eq_of_beq_eq_true b,hz,c.1,by rw[←Array.length_toList];exact Nat.eq_of_beq_eq_true c.2⟩
   ·simp at c
  ·simp at h1
 ·split at h2
  ·rename_i d hd
   simp only[Bool.and_eq_true]at h2
   obtain⟨⟨a,b⟩,c⟩:=h2
   refine⟨d,hd,by simpa using a, ?_, ?_⟩
   ·cases hs:I.sh<;>rw[hs]at b<;>simp only[DN]at b<;>simp only[]
    case slice e=>
      split at b; · simp only[Nat.eq_of_beq_eq_true b]
      ·simp at b
    case struct fs ags tys=>
     split at b
     ·rename_i l
      simp only[Bool.and_eq_true]at b
      exact⟨l.toList,by simp,oZ b.1,yP b.2⟩
     ·simp at b
    case array n e=>
     split at b
     ·simp only[Bool.and_eq_true]at b;rw[Nat.eq_of_beq_eq_true b.1,Nat.eq_of_beq_eq_true b.2]
     ·simp at b
   ·cases hs:I.ty<;>rw[hs]at c<;>simp only[Q8]at c<;>simp only[]
    case bool=>
      split at c; · rfl
      ·simp at c
    case str=>
      split at c; · rfl
      ·simp at c
    case int k=>
      split at c; · simp only[of_decide_eq_true c]
      ·simp at c
  ·simp at h2
def GK (P:Program):List (Nat×TI)→Bool
 | []=>true
 |(t,I)::r=>Qa P t I&&GK P r
theorem yQ:∀{l:List (Nat×TI)},GK P l=true→∀t I,lA l t=some I→Ii P t I
 |(j,x)::r,h,t,I,e=>by
  simp only[GK,Bool.and_eq_true]at h
  simp only[lA]at e
  rcases ac e with⟨hj,e⟩|⟨_,e⟩
  ·simp only[Option.some.injEq]at e;subst e;rw[Nat.eq_of_beq_eq_true hj];exact In h.1
  ·exact yQ h.2 t I e
 | [],_,t,I,e=>by simp[lA]at e
def i9 (rl:List (Nat×Nat)) (g:Nat):Nat:=match lA rl g with
 |some f=>f
 |none=>g
def sP (al:List (Nat×List Nat)) (rl:List (Nat×Nat)) (f:Nat):List Nat:=match lA al f with
 |some gs=>gs
 |none=>match lA rl f with
  |some _=>[]
  |none=>[f]
def uD (rl:List (Nat×Nat)):List (Nat×List Nat)→Bool
 | []=>true
 |(f,gs)::r=>gs.all (fun g=>Nat.beq (i9 rl g) f)&&uD rl r
theorem uE {rl:List (Nat×Nat)}:∀{al:List (Nat×List Nat)},uD rl al=true→∀f gs,lA al f=some gs→∀g∈gs,i9 rl g=f
 |(j,x)::r,h,f,gs,e,g,hg=>by
  simp only[uD,Bool.and_eq_true]at h
  simp only[lA]at e
  rcases ac e with⟨hj,e⟩|⟨_,e⟩
  ·simp only[Option.some.injEq]at e;subst e;rw[Nat.eq_of_beq_eq_true hj];exact Nat.eq_of_beq_eq_true (List.all_eq_true.1 h.1 g hg)
  ·exact uE h.2 f gs e g hg
 | [],_,f,gs,e,_,_=>by simp[lA]at e
theorem Af {al:List (Nat×List Nat)} {rl:List (Nat×Nat)} (h:uD rl al=true) (f g:Nat) (hg:g∈sP al rl f):i9 rl g=f:=by
 unfold sP at hg
 split at hg
 ·rename_i gs hgs;exact uE h f gs hgs g hg
 ·split at hg
  ·cases hg
  ·rename_i hn
   simp only[List.mem_singleton]at hg
   subst hg
   unfold i9;rw[hn]
def ru (P:Program) (rl:List (Nat×Nat)):List (Nat×Func)→Prop
 | []=>True
 |(f,F)::r=>P.funcs[i9 rl f]? =some F∧ru P rl r
theorem ru.get {rl:List (Nat×Nat)}:∀{l:List (Nat×Func)},ru P rl l→∀f F,lA l f=some F→P.funcs[i9 rl f]? =some F
 |(j,x)::r,h,t,I,e=>by
  simp only[lA]at e
  rcases ac e with⟨hj,e⟩|⟨_,e⟩
  ·simp only[Option.some.injEq]at e;subst e;rw[Nat.eq_of_beq_eq_true hj];exact h.1
  ·exact ru.get h.2 t I e
 | [],_,t,I,e=>by simp[lA]at e
def yR (fns:List (Nat×Func)):List (Nat×i5)→Bool
 | []=>true
 |(f,sg)::r=>(match lA fns f with
  |some F=>F.body.isSome&& !(F.name== "runtime.NumGoroutine")&&Nat.ble sg.params.length F.ntmps
  |none=>false)&&yR fns r
theorem o3 {fns:List (Nat×Func)}:∀{l:List (Nat×i5)},yR fns l=true→∀f sg,lA l f=some sg→∃F,lA fns f=some F∧F.body.isSome=true∧(F.name== "runtime.NumGoroutine")=false∧sg.params.length≤F.ntmps
 |(j,x)::r,h,t,I,e=>by
  simp only[yR,Bool.and_eq_true]at h
  simp only[lA]at e
  rcases ac e with⟨hj,e⟩|⟨_,e⟩
  ·simp only[Option.some.injEq]at e;subst e;rw[Nat.eq_of_beq_eq_true hj]
   have h1:=h.1
   split at h1
   ·rename_i F hF
    simp only[Bool.and_eq_true,Bool.not_eq_true']at h1
    exact⟨F,hF,h1.1.1,h1.1.2,Nat.le_of_ble_eq_true h1.2⟩
   ·simp at h1
  ·exact o3 h.2 t I e
 | [],_,t,I,e=>by simp[lA]at e
theorem bP.OK.of {C:bP} {tis:List (Nat×TI)} {fns:List (Nat×Func)} {sigs:List (Nat×i5)} {rl:List (Nat×Nat)} {al:List (Nat×List Nat)} (h1:C.ti=lA tis) (h2:C.fn=lA fns) (h3:C.sig=lA sigs) (h4:C.real=i9 rl) (h5:C.alts=sP al rl)
  (ht:GK C.P tis=true) (hf:ru C.P rl fns) (hs:yR fns sigs=true) (ha:uD rl al=true) (hd:C.P.follows .mixedOrders=true):C.OK where
 ti:=by rw[h1];exact yQ ht
 fn:=by rw[h2,h4];exact hf.get
 call:=by
  rw[h3,h4]
  intro f sg e
  obtain⟨F,a,b,c,_⟩:=o3 hs f sg e
  exact⟨F,hf.get f F a,b,c⟩
 slots:=by
  rw[h3,h2]
  intro f sg F e e'
  obtain⟨F',a,_,_,d⟩:=o3 hs f sg e
  rw[a]at e'
  simp only[Option.some.injEq]at e'
  subst e';exact d
 alts:=by
  rw[h4,h5]
  exact fun f g hg=>Af ha f g hg
 draws:=hd
end Go.Ps
