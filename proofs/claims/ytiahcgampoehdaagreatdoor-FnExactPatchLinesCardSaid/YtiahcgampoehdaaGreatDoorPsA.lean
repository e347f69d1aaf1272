import Derived.Calls
import Derived.KernelRfl
namespace Go.Ps
set_option linter.unusedVariables false
inductive Ty where
 |unit|bool|str
 |int (k:IntKind)
 |list (e:Ty)
 |arr (e:Ty) (n:Nat)
 |pair (a b:Ty)
 |opt (e:Ty)
 deriving DecidableEq
@[reducible] def Ty.den:Ty→Type
 | .unit=>Unit
 | .bool=>Bool
 | .str=>ByteArray
 | .int _=>Int
 | .list e=>List e.den
 | .arr e _=>List e.den
 | .pair a b=>a.den×b.den
 | .opt e=>Option e.den
def Ty.size:Ty→Nat
 | .unit=>0
 | .arr e n=>n*e.size
 | .pair a b=>a.size+b.size
 |_=>1
def Ty.dflt:(τ:Ty)→τ.den
 | .unit=>()
 | .bool=>false
 | .str=>ByteArray.empty
 | .int _=>0
 | .list _=>[]
 | .arr e n=>List.replicate n e.dflt
 | .pair a b=>(a.dflt,b.dflt)
 | .opt _=>none
def Ty.lists:Ty→Bool
 | .list _=>true
 | .opt _=>true
 | .arr e _=>e.lists
 | .pair a b=>a.lists||b.lists
 |_=>false
def Ty.tup:List Ty→Ty
 | []=> .unit
 | [a]=>a
 |a::b=> .pair a (Ty.tup b)
inductive Fl where
 |no
 |own (T:TypeId) (f:Fl)
 |box
 |pair (a b:Fl)
 deriving DecidableEq
def Fl.tup:List Fl→Fl
 | []=> .no
 | [a]=>a
 |a::b=> .pair a (Fl.tup b)
def Fl.isNo:Fl→Bool
 | .no=>true
 |_=>false
def Fl.flat:Fl→Ty→Bool
 | .no,_=>true
 | .box,.int _=>true
 |_,_=>false
def Ty.shares:Ty→Fl→Bool
 | .list e,.own _ f=>e.shares f
 | .list _,_=>true
 | .opt e,.box=>e.shares .no
 | .opt _,_=>true
 | .arr e _,_=>e.shares .no
 | .pair a b,.pair f g=>a.shares f||b.shares g
 | .pair a b,_=>a.shares .no||b.shares .no
 |_,_=>false
inductive dA where
 |at(n:Nat)
 |arr (o:Nat) (e:Ty) (m:Nat) (j:Int) (n:Nat)
inductive qK where
 |dat (τ:Ty) (x:τ.den)
 |agg (τ:Ty) (x:τ.den)
 |cref (τ:Ty) (x:τ.den)
 |ref (id:Nat)
inductive PV where
 |undef
 |bool (b:Bool)
 |int (k:IntKind) (n:Int)
 |str (s:ByteArray)
 |nils
 |nilp
 |list (e:Ty) (xs:List e.den)
 |seg (e:Ty) (n:Nat) (xs:List e.den)
 |own (id:Nat)
 |ptr (id:Nat) (p:dA)
 |elt (id:Nat) (i:Int) (p:dA)
 |cptr (τ:Ty) (x:τ.den) (off:Nat)
 |fn (f:FuncId) (caps:List qK)
 |dopt (e:Ty) (x:Option e.den)
inductive SV where
 |v (p:PV)
 |agg (cs:List PV)
 |tup (cs:List PV) (sh:List (Nat×Bool))
inductive bV where
 |box (cs:List PV)
 |rows (T:TypeId) (e:Ty) (f:Fl) (xs:List e.den)
 |fbox (cs:List PV)
 |frows (e:Ty) (xs:List e.den)
 |dead
 |opn (T:TypeId) (e:Ty) (f:Fl) (xs:List e.den) (i:Int) (cs:List PV)
def bV.frz:bV→bV
 | .box cs=> .fbox cs
 | .rows _ e _ xs=> .frows e xs
 | .opn _ _ _ _ _ _=> .dead
 |b=>b
structure St where
 n:Nat
 tmps:Nat→SV
 mem:Nat→Option bV
inductive bE where
 |frz (id:Nat)
 |set (id:Nat) (b:bV)
def St.put (s:St) (d:Nat) (x:SV):St:={s with tmps:=fun t=>bif Nat.beq t d then x else s.tmps t}
def St.setM (s:St) (id:Nat) (b:Option bV):St:={s with mem:=fun t=>bif Nat.beq t id then b else s.mem t}
def St.upd (s:St):bE→St
 | .frz id=>s.setM id ((s.mem id).map bV.frz)
 | .set id b=>s.setM id (some b)
def St.upds (s:St):List bE→St
 | []=>s
 |u::us=>(s.upd u).upds us
def PV.width:PV→Nat
 | .seg e n _=>n*e.size
 |_=>1
def inj:(τ:Ty)→τ.den→List PV
 | .unit,_=>[]
 | .bool,b=>[.bool b]
 | .str,s=>[.str s]
 | .int k,n=>[.int k n]
 | .list e,xs=>[.list e xs]
 | .arr e n,xs=>[.seg e n xs]
 | .pair a b,x=>inj a x.1++inj b x.2
 | .opt e,x=>[.dopt e x]
def IA {e e':Ty} (h:e'=e) (x:Option e'.den):Option e.den:=h▸x
def bw {e e':Ty} (h:e'=e) (xs:List e'.den):List e.den:=h▸xs
def lB {α:Type} (p:List PV→Option (α×List PV)):Nat→List PV→Option (List α×List PV)
 |0,cs=>some ([],cs)
 |n+1,cs=>match p cs with
  |some (x,cs)=>match lB p n cs with
   |some (xs,cs)=>some (x::xs,cs)
   |none=>none
  |none=>none
def eh:(τ:Ty)→List PV→Option (τ.den×List PV)
 | .unit,cs=>some ((),cs)
 | .bool,cs=>match cs with
  | .bool b::cs=>some (b,cs)
  |_=>none
 | .str,cs=>match cs with
  | .str s::cs=>some (s,cs)
  |_=>none
 | .int k,cs=>match cs with
  | .int k' n::cs=>match decEq k' k with
   | .isTrue _=>some (n,cs)
   | .isFalse _=>none
  |_=>none
 | .list e,cs=>match cs with
  | .list e' xs::cs=>match decEq e' e with
   | .isTrue h=>some (bw h xs,cs)
   | .isFalse _=>none
  | .nils::cs=>some ([],cs)
  |_=>none
 | .arr e n,cs=>match cs with
  | .seg e' n' xs::cs=>match decEq e' e,decEq n' n with
   | .isTrue h,.isTrue _=>some (bw h xs,cs)
   |_,_=>none
  |cs=>lB (eh e) n cs
 | .pair a b,cs=>match eh a cs with
  |some (x,cs)=>match eh b cs with
   |some (y,cs)=>some ((x,y),cs)
   |none=>none
  |none=>none
 | .opt e,cs=>match cs with
  | .nilp::cs=>some (none,cs)
  | .dopt e' x::cs=>match decEq e' e with
   | .isTrue h=>some (IA h x,cs)
   | .isFalse _=>none
  |_=>none
def aQ (τ:Ty) (cs:List PV):Option τ.den:=
 match eh τ cs with
 |some (x,[])=>some x
 |_=>none
def aY:List PV→Nat→Option (List PV)
 |cs,0=>some cs
 | [],_+1=>none
 |p::cs,n+1=>bif Nat.ble p.width (n+1)then aY cs (n+1-p.width)else none
def dT:List PV→Nat→Option (List PV)
 |_,0=>some []
 | [],_+1=>none
 |p::cs,n+1=>bif Nat.ble p.width (n+1)then(match dT cs (n+1-p.width)with|some t=>some (p::t)|none=>none)else none
def lC (cs:List PV) (off n:Nat):Option (List PV):=
 match aY cs off with
 |some t=>dT t n
 |none=>none
def mA (cs:List PV) (off n:Nat) (new:List PV):Option (List PV):=
 match dT cs off,aY cs (off+n)with
 |some a,some b=>some (a++(new++b))
 |_,_=>none
def bh:List PV→Nat
 | []=>0
 |p::cs=>p.width+bh cs
def rd {τ:Ty} (xs:List τ.den) (i:Int):τ.den:=xs.getD i.toNat τ.dflt
def ao (i:Int) (n:Nat):Bool:=decide (0≤i)&&decide (i< (n:Int))
def nk (cs:List PV) (o:Nat) (e:Ty) (m:Nat):Option (List e.den):=
 match lC cs o (m*e.size)with
 |some c=>aQ (.arr e m) c
 |none=>none
def hJ (cs:List PV) (p:dA) (n:Nat):Option (List PV):=
 match p with
 | .at o=>lC cs o n
 | .arr o e m j q=>match nk cs o e m with
  |some xs=>lC (inj e (rd xs j)) q n
  |none=>none
def gz (dat:PV→PV) (cs:List PV) (p:dA) (n:Nat) (new:List PV):Option (List PV):=
 match p with
 | .at o=>mA cs o n new
 | .arr o e m j q=>match nk cs o e m with
  |some xs=>match mA (inj e (rd xs j)) q n (new.map dat)with
   |some c=>match aQ e c with
    |some x=>mA cs o (m*e.size) [.seg e m (xs.set j.toNat x)]
    |none=>none
   |none=>none
  |none=>none
inductive IB where
 |scalar
 |slice (e:TypeId)
 |struct (fs:List (Nat×Nat)) (ags:List Bool) (tys:List TypeId)
 |array (n:Nat) (e:TypeId)
 |other
structure TI where
 sh:IB
 size:Nat
 bytes:Nat
 zero:List PV
 ty:Ty
 eq:Bool
def TI.isAgg (t:TI):Bool:=match t.sh with| .struct _ _ _| .array _ _=>true|_=>false
inductive PK where
 |raw
 |val (τ:Ty)
 |give (τ:Ty) (f:Fl)
 |lend (τ:Ty) (f:Fl)
 |ro (τ:Ty)
 |var (τ:Ty) (f:Fl)
def xk:Ty→Fl→Ty
 | .list e,.own _ _=> .list e
 | .pair a b,.pair f g=> .pair (xk a f) (xk b g)
 |_,_=> .unit
def xl:Ty→Fl→Fl
 | .list _,.own T f=> .own T f
 | .pair a b,.pair f g=> .pair (xl a f) (xl b g)
 |_,_=> .no
structure je where
 params:List PK
 res:List (Ty×Bool)
 outs:List Fl
def PK.back:PK→List (Ty×Fl)
 | .var τ f=>[(τ,f)]
 | .lend τ f=>[(xk τ f,xl τ f)]
 |_=>[]
def je.back (s:je):List (Ty×Fl):=s.params.flatMap PK.back
def je.resTy (s:je):Ty:=Ty.tup (s.res.map (·.1)++s.back.map (·.1))
def je.resFl (s:je):Fl:=Fl.tup (s.outs++s.back.map (·.2))
inductive LK where
 |val (τ:Ty) (f:Fl)
 |agg (τ:Ty) (f:Fl)
 |box (τ:Ty) (f:Fl)
 |par (τ:Ty) (f:Fl)
 |pown (T:TypeId) (e:Ty) (f:Fl)
 |ro (τ:Ty)
 |keep
 |same (t0:Nat) (k:Option Nat)
 |clos (ts:List Nat)
 |sub (t0:Nat) (k:Nat)
structure bP where
 P:Program
 ti:TypeId→Option TI
 fn:Nat→Option Func
 real:Nat→FuncId
 alts:FuncId→List Nat
 sig:Nat→Option je
 loop:Nat→Nat→Option (List (Nat×LK))
 elf:Nat→Nat→Fl
 prim:Nat→Option (List SV→Option (List PV))
def bP.resTy (C:bP) (f:Nat):Ty:=match C.sig f with|some s=>s.resTy|none=> .unit
@[reducible] def bP.Res (C:bP) (f:Nat):Type:=(C.resTy f).den
@[reducible] def bP.Env (C:bP):Type:=(f:Nat)→List SV→Option (C.Res f)
def n7:Value→PV
 | .bool b=> .bool b
 | .int k n=> .int k n
 | .string s=> .str s
 | .slice none 0 0=> .nils
 | .pointer none=> .nilp
 |_=> .undef
def tu:Value→SV
 | .agg cs=>bif cs.toList.all (fun v=>match v with| .agg _| .tuple _=>false|_=>true)then .agg (cs.toList.map n7)else .v .undef
 |v=> .v (n7 v)
def St.ev (s:St):Operand→SV
 | .tmp t=>s.tmps t
 | .const v=>tu v
 | .func f=> .v (.fn f [])
 | .global _=> .v .undef
def St.asList (s:St):PV→Option ((e:Ty)×List e.den)
 | .list e xs=>some ⟨e,xs⟩
 | .own id=>match s.mem id with
  |some (.rows _ e _ xs)=>some ⟨e,xs⟩
  |some (.frows e xs)=>some ⟨e,xs⟩
  |_=>none
 |_=>none
def St.asRow (s:St):PV→Option ((e:Ty)×List e.den)
 | .own id=>match s.mem id with
  |some (.opn _ e _ xs _ _)=>some ⟨e,xs⟩
  |_=>s.asList (.own id)
 |p=>s.asList p
def St.dat (s:St):PV→PV
 | .own id=>match s.asList (.own id)with
  |some ⟨e,xs⟩=> .list e xs
  |none=> .undef
 | .ptr _ _=> .undef
 | .elt _ _ _=> .undef
 | .fn f caps=>bif caps.all (fun c=>match c with| .ref _=>false|_=>true)then .fn f caps else .undef
 |p=>p
def PV.owns:PV→List Nat
 | .own id=>[id]
 |_=>[]
def aF (cs:List PV):List Nat:=cs.flatMap PV.owns
def AO (cs:List PV):List bE:=(aF cs).map .frz
def PV.closed:PV→Bool
 | .own _| .ptr _ _| .elt _ _ _=>false
 | .fn _ caps=>caps.all fun c=>match c with| .ref _=>false|_=>true
 |_=>true
end Go.Ps
