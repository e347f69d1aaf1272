import Derived.Calls
import Derived.KernelRfl
namespace Go.Ps
theorem aa {α:Type _} (a b:α):(some a=some b)=(a=b):=Option.some.injEq a b
theorem ab {p:Prop} [Decidable p] (h:p):decide p=true:=decide_eq_true h
theorem am {p:Prop} [Decidable p] (h:¬p):decide p=false:=decide_eq_false h
theorem af {α β:Type _} (a:α) (f:α→Option β):(some a).bind f=f a:=rfl
theorem ac {α:Sort _} (a b:α):cond false a b=b:=rfl
theorem ae {α:Sort _} (a b:α):cond true a b=a:=rfl
theorem az (n:Nat):¬n<n:=Nat.lt_irrefl n
theorem ay (a b:Bool):((a&&b)=true)=(a=true∧b=true):=Bool.and_eq_true a b
theorem aQ {n m:Nat} (h:Nat.beq n m=true):n=m:=Nat.eq_of_beq_eq_true h
theorem aB (n:Nat):((n:Nat):Int).toNat=n:=Int.toNat_natCast n
theorem aM:(!true)=false:=rfl
theorem ap {c:Prop} {h:Decidable c} (hc:¬c) {α:Sort _} {t e:α}:ite c t e=e:=if_neg hc
theorem au {c:Prop} {h:Decidable c} (hc:c) {α:Sort _} {t e:α}:ite c t e=t:=if_pos hc
theorem ax {α β:Type _} (a:α) (b:β) (c:α) (d:β):((a,b)=(c,d))=(a=c∧b=d):=Prod.mk.injEq a b c d
theorem aD {α:Type _} (a:α) (l:List α) (b:α) (m:List α):(a::l=b::m)=(a=b∧l=m):=List.cons.injEq a l b m
theorem aT {p:Prop} [Decidable p]:(decide p=true)=p:=decide_eq_true_eq
theorem bz {n m:Nat} (h:Nat.ble n m=true):n≤m:=Nat.le_of_ble_eq_true h
theorem bl {α:Type _} (a b c:List α):a++b++c=a++(b++c):=List.append_assoc a b c
set_option linter.unusedVariables false
inductive Ty where
 |unit|bool|str
 |int (k:IntKind)
 |list (e:Ty)
 |arr (e:Ty) (n:Nat)
 |pair (a b:Ty)
 |opt (e:Ty)
 deriving DecidableEq
@[reducible] def Ty.den:Ty→Type
 | .unit=>Unit
 | .bool=>Bool
 | .str=>ByteArray
 | .int _=>Int
 | .list e=>List e.den
 | .arr e _=>List e.den
 | .pair a b=>a.den×b.den
 | .opt e=>Option e.den
def Ty.size:Ty→Nat
 | .unit=>0
 | .arr e n=>n*e.size
 | .pair a b=>a.size+b.size
 |_=>1
def Ty.dflt:(τ:Ty)→τ.den
 | .unit=>()
 | .bool=>false
 | .str=>ByteArray.empty
 | .int _=>0
 | .list _=>[]
 | .arr e n=>List.replicate n e.dflt
 | .pair a b=>(a.dflt,b.dflt)
 | .opt _=>none
def Ty.lists:Ty→Bool
 | .list _=>true
 | .opt _=>true
 | .arr e _=>e.lists
 | .pair a b=>a.lists||b.lists
 |_=>false
def Ty.tup:List Ty→Ty
 | []=> .unit
 | [a]=>a
 |a::b=> .pair a (Ty.tup b)
inductive Fl where
 |no
 |own (T:TypeId) (f:Fl)
 |box
 |pair (a b:Fl)
 deriving DecidableEq
def Fl.tup:List Fl→Fl
 | []=> .no
 | [a]=>a
 |a::b=> .pair a (Fl.tup b)
def Fl.isNo:Fl→Bool
 | .no=>true
 |_=>false
def Fl.flat:Fl→Ty→Bool
 | .no,_=>true
 | .box,.int _=>true
 |_,_=>false
def Ty.shares:Ty→Fl→Bool
 | .list e,.own _ f=>e.shares f
 | .list _,_=>true
 | .opt e,.box=>e.shares .no
 | .opt _,_=>true
 | .arr e _,_=>e.shares .no
 | .pair a b,.pair f g=>a.shares f||b.shares g
 | .pair a b,_=>a.shares .no||b.shares .no
 |_,_=>false
inductive dZ where
 |at(n:Nat)
 |arr (o:Nat) (e:Ty) (m:Nat) (j:Int) (n:Nat)
inductive rQ where
 |dat (τ:Ty) (x:τ.den)
 |agg (τ:Ty) (x:τ.den)
 |cref (τ:Ty) (x:τ.den)
 |ref (id:Nat)
inductive PV where
 |undef
 |bool (b:Bool)
 |int (k:IntKind) (n:Int)
 |str (s:ByteArray)
 |nils
 |nilp
 |list (e:Ty) (xs:List e.den)
 |seg (e:Ty) (n:Nat) (xs:List e.den)
 |own (id:Nat)
 |ptr (id:Nat) (p:dZ)
 |elt (id:Nat) (i:Int) (p:dZ)
 |cptr (τ:Ty) (x:τ.den) (off:Nat)
 |fn (f:FuncId) (caps:List rQ)
 |dopt (e:Ty) (x:Option e.den)
inductive SV where
 |v (p:PV)
 |agg (cs:List PV)
 |tup (cs:List PV) (sh:List (Nat×Bool))
inductive cx where
 |box (cs:List PV)
 |rows (T:TypeId) (e:Ty) (f:Fl) (xs:List e.den)
 |fbox (cs:List PV)
 |frows (e:Ty) (xs:List e.den)
 |dead
 |opn (T:TypeId) (e:Ty) (f:Fl) (xs:List e.den) (i:Int) (cs:List PV)
def cx.frz:cx→cx
 | .box cs=> .fbox cs
 | .rows _ e _ xs=> .frows e xs
 | .opn _ _ _ _ _ _=> .dead
 |b=>b
structure St where
 n:Nat
 tmps:Nat→SV
 mem:Nat→Option cx
inductive ca where
 |frz (id:Nat)
 |set (id:Nat) (b:cx)
def St.put (s:St) (d:Nat) (x:SV):St:={s with tmps:=fun t=>bif Nat.beq t d then x else s.tmps t}
def St.setM (s:St) (id:Nat) (b:Option cx):St:={s with mem:=fun t=>bif Nat.beq t id then b else s.mem t}
def St.upd (s:St):ca→St
 | .frz id=>s.setM id ((s.mem id).map cx.frz)
 | .set id b=>s.setM id (some b)
def St.upds (s:St):List ca→St
 | []=>s
 |u::us=>(s.upd u).upds us
def PV.width:PV→Nat
 | .seg e n _=>n*e.size
 |_=>1
def inj:(τ:Ty)→τ.den→List PV
 | .unit,_=>[]
 | .bool,b=>[.bool b]
 | .str,s=>[.str s]
 | .int k,n=>[.int k n]
 | .list e,xs=>[.list e xs]
 | .arr e n,xs=>[.seg e n xs]
 | .pair a b,x=>inj a x.1++inj b x.2
 | .opt e,x=>[.dopt e x]
def Kc {e e':Ty} (h:e'=e) (x:Option e'.den):Option e.den:=h▸x
def bT {e e':Ty} (h:e'=e) (xs:List e'.den):List e.den:=h▸xs
def mh {α:Type} (p:List PV→Option (α×List PV)):Nat→List PV→Option (List α×List PV)
 |0,cs=>some ([],cs)
 |n+1,cs=>match p cs with
  |some (x,cs)=>match mh p n cs with
   |some (xs,cs)=>some (x::xs,cs)
   |none=>none
  |none=>none
def eW:(τ:Ty)→List PV→Option (τ.den×List PV)
 | .unit,cs=>some ((),cs)
 | .bool,cs=>match cs with
  | .bool b::cs=>some (b,cs)
  |_=>none
 | .str,cs=>match cs with
  | .str s::cs=>some (s,cs)
  |_=>none
 | .int k,cs=>match cs with
  | .int k' n::cs=>match decEq k' k with
   | .isTrue _=>some (n,cs)
   | .isFalse _=>none
  |_=>none
 | .list e,cs=>match cs with
  | .list e' xs::cs=>match decEq e' e with
   | .isTrue h=>some (bT h xs,cs)
   | .isFalse _=>none
  | .nils::cs=>some ([],cs)
  |_=>none
 | .arr e n,cs=>match cs with
  | .seg e' n' xs::cs=>match decEq e' e,decEq n' n with
   | .isTrue h,.isTrue _=>some (bT h xs,cs)
   |_,_=>none
  |cs=>mh (eW e) n cs
 | .pair a b,cs=>match eW a cs with
  |some (x,cs)=>match eW b cs with
   |some (y,cs)=>some ((x,y),cs)
   |none=>none
  |none=>none
 | .opt e,cs=>match cs with
  | .nilp::cs=>some (none,cs)
  | .dopt e' x::cs=>match decEq e' e with
   | .isTrue h=>some (Kc h x,cs)
   | .isFalse _=>none
  |_=>none
def bj (τ:Ty) (cs:List PV):Option τ.den:=
 match eW τ cs with
 |some (x,[])=>some x
 |_=>none
def bu:List PV→Nat→Option (List PV)
 |cs,0=>some cs
 | [],_+1=>none
 |p::cs,n+1=>bif Nat.ble p.width (n+1)then bu cs (n+1-p.width)else none
def eH:List PV→Nat→Option (List PV)
 |_,0=>some []
 | [],_+1=>none
 |p::cs,n+1=>bif Nat.ble p.width (n+1)then(match eH cs (n+1-p.width)with|some t=>some (p::t)|none=>none)else none
def mi (cs:List PV) (off n:Nat):Option (List PV):=
 match bu cs off with
 |some t=>eH t n
 |none=>none
def ni (cs:List PV) (off n:Nat) (new:List PV):Option (List PV):=
 match eH cs off,bu cs (off+n)with
 |some a,some b=>some (a++(new++b))
 |_,_=>none
def bH:List PV→Nat
 | []=>0
 |p::cs=>p.width+bH cs
def rd {τ:Ty} (xs:List τ.den) (i:Int):τ.den:=xs.getD i.toNat τ.dflt
def aA (i:Int) (n:Nat):Bool:=decide (0≤i)&&decide (i< (n:Int))
def n7 (cs:List PV) (o:Nat) (e:Ty) (m:Nat):Option (List e.den):=
 match mi cs o (m*e.size)with
 |some c=>bj (.arr e m) c
 |none=>none
def iJ (cs:List PV) (p:dZ) (n:Nat):Option (List PV):=
 match p with
 | .at o=>mi cs o n
 | .arr o e m j q=>match n7 cs o e m with
  |some xs=>mi (inj e (rd xs j)) q n
  |none=>none
def ib (dat:PV→PV) (cs:List PV) (p:dZ) (n:Nat) (new:List PV):Option (List PV):=
 match p with
 | .at o=>ni cs o n new
 | .arr o e m j q=>match n7 cs o e m with
  |some xs=>match ni (inj e (rd xs j)) q n (new.map dat)with
   |some c=>match bj e c with
    |some x=>ni cs o (m*e.size) [.seg e m (xs.set j.toNat x)]
    |none=>none
   |none=>none
  |none=>none
inductive Kd where
 |scalar
 |slice (e:TypeId)
 |struct (fs:List (Nat×Nat)) (ags:List Bool) (tys:List TypeId)
 |array (n:Nat) (e:TypeId)
 |other
structure TI where
 sh:Kd
 size:Nat
 bytes:Nat
 zero:List PV
 ty:Ty
 eq:Bool
def TI.isAgg (t:TI):Bool:=match t.sh with| .struct _ _ _| .array _ _=>true|_=>false
inductive PK where
 |raw
 |val (τ:Ty)
 |give (τ:Ty) (f:Fl)
 |lend (τ:Ty) (f:Fl)
 |ro (τ:Ty)
 |var (τ:Ty) (f:Fl)
def yD:Ty→Fl→Ty
 | .list e,.own _ _=> .list e
 | .pair a b,.pair f g=> .pair (yD a f) (yD b g)
 |_,_=> .unit
def yE:Ty→Fl→Fl
 | .list _,.own T f=> .own T f
 | .pair a b,.pair f g=> .pair (yE a f) (yE b g)
 |_,_=> .no
structure jO where
 params:List PK
 res:List (Ty×Bool)
 outs:List Fl
def PK.back:PK→List (Ty×Fl)
 | .var τ f=>[(τ,f)]
 | .lend τ f=>[(yD τ f,yE τ f)]
 |_=>[]
def jO.back (s:jO):List (Ty×Fl):=s.params.flatMap PK.back
def jO.resTy (s:jO):Ty:=Ty.tup (s.res.map (·.1)++s.back.map (·.1))
def jO.resFl (s:jO):Fl:=Fl.tup (s.outs++s.back.map (·.2))
inductive LK where
 |val (τ:Ty) (f:Fl)
 |agg (τ:Ty) (f:Fl)
 |box (τ:Ty) (f:Fl)
 |par (τ:Ty) (f:Fl)
 |pown (T:TypeId) (e:Ty) (f:Fl)
 |ro (τ:Ty)
 |keep
 |same (t0:Nat) (k:Option Nat)
 |clos (ts:List Nat)
 |sub (t0:Nat) (k:Nat)
structure co where
 P:Program
 ti:TypeId→Option TI
 fn:Nat→Option Func
 real:Nat→FuncId
 alts:FuncId→List Nat
 sig:Nat→Option jO
 loop:Nat→Nat→Option (List (Nat×LK))
 elf:Nat→Nat→Fl
 prim:Nat→Option (List SV→Option (List PV))
def co.resTy (C:co) (f:Nat):Ty:=match C.sig f with|some s=>s.resTy|none=> .unit
@[reducible] def co.Res (C:co) (f:Nat):Type:=(C.resTy f).den
@[reducible] def co.Env (C:co):Type:=(f:Nat)→List SV→Option (C.Res f)
def oT:Value→PV
 | .bool b=> .bool b
 | .int k n=> .int k n
 | .string s=> .str s
 | .slice none 0 0=> .nils
 | .pointer none=> .nilp
 |_=> .undef
def uD:Value→SV
 | .agg cs=>bif cs.toList.all (fun v=>match v with| .agg _| .tuple _=>false|_=>true)then .agg (cs.toList.map oT)else .v .undef
 |v=> .v (oT v)
def St.ev (s:St):Operand→SV
 | .tmp t=>s.tmps t
 | .const v=>uD v
 | .func f=> .v (.fn f [])
 | .global _=> .v .undef
def St.asList (s:St):PV→Option ((e:Ty)×List e.den)
 | .list e xs=>some ⟨e,xs⟩
 | .own id=>match s.mem id with
  |some (.rows _ e _ xs)=>some ⟨e,xs⟩
  |some (.frows e xs)=>some ⟨e,xs⟩
  |_=>none
 |_=>none
def St.asRow (s:St):PV→Option ((e:Ty)×List e.den)
 | .own id=>match s.mem id with
  |some (.opn _ e _ xs _ _)=>some ⟨e,xs⟩
  |_=>s.asList (.own id)
 |p=>s.asList p
def St.dat (s:St):PV→PV
 | .own id=>match s.asList (.own id)with
  |some ⟨e,xs⟩=> .list e xs
  |none=> .undef
 | .ptr _ _=> .undef
 | .elt _ _ _=> .undef
 | .fn f caps=>bif caps.all (fun c=>match c with| .ref _=>false|_=>true)then .fn f caps else .undef
 |p=>p
def PV.owns:PV→List Nat
 | .own id=>[id]
 |_=>[]
def aZ (cs:List PV):List Nat:=cs.flatMap PV.owns
def Ca (cs:List PV):List ca:=(aZ cs).map .frz
def PV.closed:PV→Bool
 | .own _| .ptr _ _| .elt _ _ _=>false
 | .fn _ caps=>caps.all fun c=>match c with| .ref _=>false|_=>true
 |_=>true
end Go.Ps
