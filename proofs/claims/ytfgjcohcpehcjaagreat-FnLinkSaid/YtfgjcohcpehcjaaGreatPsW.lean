import Derived.Test.YtfgjcohcpehcjaaGreatPsV
namespace Go.Ps
set_option linter.unusedVariables false
variable {P:Program}
def jV (P:Program):List Field→List (Nat×Nat)→Bool
 | [],[]=>true
 |f::l,(o,z)::r=>Nat.beq f.offset o&&(match P.info? f.type with|some i=>Nat.beq i.size z|none=>false)&&jV P l r
 |_,_=>false
def yH (P:Program):List Field→List Bool→Bool
 | [],[]=>true
 |f::l,b::r=>(match P.underlying f.type with|some d=>d.isRow==b|none=>false)&&yH P l r
 |_,_=>false
theorem oS:∀{l:List Field} {fs:List (Nat×Nat)},jV P l fs=true→dr (fun(f:Field) (x:Nat×Nat)=>f.offset=x.1∧∃i,P.info? f.type=some i∧i.size=x.2) l fs
 | [],[],_=> .nil
 |f::l,(o,z)::r,h=>by
  simp only[jV,aB]at h
  refine .cons ⟨aG h.1.1, ?_⟩ (oS h.2)
  have:=h.1.2
  split at this
  ·rename_i i hi;exact⟨i,hi,aG this⟩
  ·simp at this
 | [],_::_,h=>by simp[jV]at h
 |_::_,[],h=>by simp[jV]at h
theorem xy:∀{l:List Field} {fs:List Bool},yH P l fs=true→dr (fun(f:Field) (b:Bool)=>∃d,P.underlying f.type=some d∧d.isRow=b) l fs
 | [],[],_=> .nil
 |f::l,b::r,h=>by
  simp only[yH,aB]at h
  refine .cons ?_ (xy h.2)
  have:=h.1
  split at this
  ·rename_i d hd;exact⟨d,hd,by simpa using this⟩
  ·simp at this
 | [],_::_,h=>by simp[yH]at h
 |_::_,[],h=>by simp[yH]at h
def AE (P:Program) (d:TypeDesc):Dv→Bool
 | .slice e=>match d with| .slice e'=>Nat.beq e' e|_=>false
 | .struct fs ags _=>match d with| .struct l=>jV P l.toList fs&&yH P l.toList ags|_=>false
 | .array n e=>match d with| .array n' e'=>Nat.beq n' n&&Nat.beq e' e|_=>false
 |_=>true
def II (d:TypeDesc):Ty→Bool
 | .bool=>match d with| .bool=>true|_=>false
 | .int k=>match d with| .int k'=>decide (k'=k)|_=>false
 | .str=>match d with| .string=>true|_=>false
 |_=>true
def H4 (P:Program) (t:TypeId) (I:TI):Bool:=
 (match P.info? t with
 |some i=>Nat.beq i.size I.size&&Nat.beq i.bytes I.bytes&&(match i.zero with
   |some z=>fj I.zero z.cells.toList&&Nat.beq z.cells.toList.length I.size
   |none=>false)
 |none=>false)&&
 (match P.underlying t with
 |some d=>(d.isRow==I.isAgg)&&AE P d I.sh&&II d I.ty
 |none=>false)&&
 Nat.beq I.ty.size I.size&&(!I.eq|| (mb P 20 t I.ty&& !P.eqGuardType P.depth t))
theorem DQ {t:TypeId} {I:TI} (h:H4 P t I=true):DL P t I:=by
 simp only[H4,aB]at h
 obtain⟨⟨⟨h1,h2⟩,h3⟩,h4⟩:=h
 refine⟨?_, ?_,aG h3,fun he=>by rw[he]at h4;simpa using h4⟩
 ·split at h1
  ·rename_i i hi
   simp only[aB]at h1
   obtain⟨⟨a,b⟩,c⟩:=h1
   split at c
   ·rename_i z hz
    simp only[aB]at c
    exact⟨i,z,hi,aG a,aG b,hz,c.1,by rw[←Array.length_toList];exact aG c.2⟩
   ·simp at c
  ·simp at h1
 ·split at h2
  ·rename_i d hd
   simp only[aB]at h2
   obtain⟨⟨a,b⟩,c⟩:=h2
   refine⟨d,hd,by simpa using a, ?_, ?_⟩
   ·cases hs:I.sh<;>rw[hs]at b<;>simp only[AE]at b<;>simp only[]
    case slice e=>
      split at b; · simp only[aG b]
      ·simp at b
    case struct fs ags tys=>
     split at b
     ·rename_i l
      simp only[aB]at b
      exact⟨l.toList,by simp,oS b.1,xy b.2⟩
     ·simp at b
    case array n e=>
     split at b
     ·simp only[aB]at b;rw[aG b.1,aG b.2]
     ·simp at b
   ·cases hs:I.ty<;>rw[hs]at c<;>simp only[II]at c<;>simp only[]
    case bool=>
      split at c; · rfl
      ·simp at c
    case str=>
      split at c; · rfl
      ·simp at c
    case int k=>
      split at c; · simp only[of_decide_eq_true c]
      ·simp at c
  ·simp at h2
def CB (P:Program):List (Nat×TI)→Bool
 | []=>true
 |(t,I)::r=>H4 P t I&&CB P r
theorem xz:∀{l:List (Nat×TI)},CB P l=true→∀t I,lG l t=some I→DL P t I
 |(j,x)::r,h,t,I,e=>by
  simp only[CB,aB]at h
  simp only[lG]at e
  rcases ab e with⟨hj,e⟩|⟨_,e⟩
  ·simp only[aa]at e;subst e;rw[aG hj];exact DQ h.1
  ·exact xz h.2 t I e
 | [],_,t,I,e=>by simp[lG]at e
def jo (rl:List (Nat×Nat)) (g:Nat):Nat:=match lG rl g with
 |some f=>f
 |none=>g
def si (al:List (Nat×List Nat)) (rl:List (Nat×Nat)) (f:Nat):List Nat:=match lG al f with
 |some gs=>gs
 |none=>match lG rl f with
  |some _=>[]
  |none=>[f]
def tQ (rl:List (Nat×Nat)):List (Nat×List Nat)→Bool
 | []=>true
 |(f,gs)::r=>gs.all (fun g=>Nat.beq (jo rl g) f)&&tQ rl r
theorem tR {rl:List (Nat×Nat)}:∀{al:List (Nat×List Nat)},tQ rl al=true→∀f gs,lG al f=some gs→∀g∈gs,jo rl g=f
 |(j,x)::r,h,f,gs,e,g,hg=>by
  simp only[tQ,aB]at h
  simp only[lG]at e
  rcases ab e with⟨hj,e⟩|⟨_,e⟩
  ·simp only[aa]at e;subst e;rw[aG hj];exact aG (List.all_eq_true.1 h.1 g hg)
  ·exact tR h.2 f gs e g hg
 | [],_,f,gs,e,_,_=>by simp[lG]at e
theorem yI {al:List (Nat×List Nat)} {rl:List (Nat×Nat)} (h:tQ rl al=true) (f g:Nat) (hg:g∈si al rl f):jo rl g=f:=by
 unfold si at hg
 split at hg
 ·rename_i gs hgs;exact tR h f gs hgs g hg
 ·split at hg
  ·cases hg
  ·rename_i hn
   simp only[List.mem_singleton]at hg
   subst hg
   unfold jo;rw[hn]
def qJ (P:Program) (rl:List (Nat×Nat)):List (Nat×Func)→Prop
 | []=>True
 |(f,F)::r=>P.funcs[jo rl f]? =some F∧qJ P rl r
theorem qJ.get {rl:List (Nat×Nat)}:∀{l:List (Nat×Func)},qJ P rl l→∀f F,lG l f=some F→P.funcs[jo rl f]? =some F
 |(j,x)::r,h,t,I,e=>by
  simp only[lG]at e
  rcases ab e with⟨hj,e⟩|⟨_,e⟩
  ·simp only[aa]at e;subst e;rw[aG hj];exact h.1
  ·exact qJ.get h.2 t I e
 | [],_,t,I,e=>by simp[lG]at e
def xA (fns:List (Nat×Func)):List (Nat×ki)→Bool
 | []=>true
 |(f,sg)::r=>(match lG fns f with
  |some F=>F.body.isSome&& !(F.name== "runtime.NumGoroutine")&&Nat.ble sg.params.length F.ntmps
  |none=>false)&&xA fns r
theorem oT {fns:List (Nat×Func)}:∀{l:List (Nat×ki)},xA fns l=true→∀f sg,lG l f=some sg→∃F,lG fns f=some F∧F.body.isSome=true∧(F.name== "runtime.NumGoroutine")=false∧sg.params.length≤F.ntmps
 |(j,x)::r,h,t,I,e=>by
  simp only[xA,aB]at h
  simp only[lG]at e
  rcases ab e with⟨hj,e⟩|⟨_,e⟩
  ·simp only[aa]at e;subst e;rw[aG hj]
   have h1:=h.1
   split at h1
   ·rename_i F hF
    simp only[aB,Bool.not_eq_true']at h1
    exact⟨F,hF,h1.1.1,h1.1.2,bi h1.2⟩
   ·simp at h1
  ·exact oT h.2 t I e
 | [],_,t,I,e=>by simp[lG]at e
theorem b9.OK.of {C:b9} {tis:List (Nat×TI)} {fns:List (Nat×Func)} {sigs:List (Nat×ki)} {rl:List (Nat×Nat)} {al:List (Nat×List Nat)} (h1:C.ti=lG tis) (h2:C.fn=lG fns) (h3:C.sig=lG sigs) (h4:C.real=jo rl) (h5:C.alts=si al rl)
  (ht:CB C.P tis=true) (hf:qJ C.P rl fns) (hs:xA fns sigs=true) (ha:tQ rl al=true) (hd:C.P.follows .mixedOrders=true):C.OK where
 ti:=by rw[h1];exact xz ht
 fn:=by rw[h2,h4];exact hf.get
 call:=by
  rw[h3,h4]
  intro f sg e
  obtain⟨F,a,b,c,_⟩:=oT hs f sg e
  exact⟨F,hf.get f F a,b,c⟩
 slots:=by
  rw[h3,h2]
  intro f sg F e e'
  obtain⟨F',a,_,_,d⟩:=oT hs f sg e
  rw[a]at e'
  simp only[aa]at e'
  subst e';exact d
 alts:=by
  rw[h4,h5]
  exact fun f g hg=>yI ha f g hg
 draws:=hd
end Go.Ps
