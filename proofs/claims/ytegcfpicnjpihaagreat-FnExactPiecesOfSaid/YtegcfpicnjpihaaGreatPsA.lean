import Derived.Calls
import Derived.KernelRfl
namespace Go.Ps
set_option linter.unusedVariables false
inductive Ty where
 |unit|bool|str
 |int (k:IntKind)
 |list (e:Ty)
 |arr (e:Ty) (n:Nat)
 |pair (a b:Ty)
 |opt (e:Ty)
 deriving DecidableEq
@[reducible] def Ty.den:Ty→Type
 | .unit=>Unit
 | .bool=>Bool
 | .str=>ByteArray
 | .int _=>Int
 | .list e=>List e.den
 | .arr e _=>List e.den
 | .pair a b=>a.den×b.den
 | .opt e=>Option e.den
def Ty.size:Ty→Nat
 | .unit=>0
 | .arr e n=>n*e.size
 | .pair a b=>a.size+b.size
 |_=>1
def Ty.dflt:(τ:Ty)→τ.den
 | .unit=>()
 | .bool=>false
 | .str=>ByteArray.empty
 | .int _=>0
 | .list _=>[]
 | .arr e n=>List.replicate n e.dflt
 | .pair a b=>(a.dflt,b.dflt)
 | .opt _=>none
def Ty.lists:Ty→Bool
 | .list _=>true
 | .opt _=>true
 | .arr e _=>e.lists
 | .pair a b=>a.lists||b.lists
 |_=>false
def Ty.tup:List Ty→Ty
 | []=> .unit
 | [a]=>a
 |a::b=> .pair a (Ty.tup b)
inductive Fl where
 |no
 |own (T:TypeId) (f:Fl)
 |box
 |pair (a b:Fl)
 deriving DecidableEq
def Fl.tup:List Fl→Fl
 | []=> .no
 | [a]=>a
 |a::b=> .pair a (Fl.tup b)
def Fl.isNo:Fl→Bool
 | .no=>true
 |_=>false
def Fl.flat:Fl→Ty→Bool
 | .no,_=>true
 | .box,.int _=>true
 |_,_=>false
def Ty.shares:Ty→Fl→Bool
 | .list e,.own _ f=>e.shares f
 | .list _,_=>true
 | .opt e,.box=>e.shares .no
 | .opt _,_=>true
 | .arr e _,_=>e.shares .no
 | .pair a b,.pair f g=>a.shares f||b.shares g
 | .pair a b,_=>a.shares .no||b.shares .no
 |_,_=>false
inductive dr where
 |at(n:Nat)
 |arr (o:Nat) (e:Ty) (m:Nat) (j:Int) (n:Nat)
inductive qh where
 |dat (τ:Ty) (x:τ.den)
 |agg (τ:Ty) (x:τ.den)
 |cref (τ:Ty) (x:τ.den)
 |ref (id:Nat)
inductive PV where
 |undef
 |bool (b:Bool)
 |int (k:IntKind) (n:Int)
 |str (s:ByteArray)
 |nils
 |nilp
 |list (e:Ty) (xs:List e.den)
 |seg (e:Ty) (n:Nat) (xs:List e.den)
 |own (id:Nat)
 |ptr (id:Nat) (p:dr)
 |elt (id:Nat) (i:Int) (p:dr)
 |cptr (τ:Ty) (x:τ.den) (off:Nat)
 |fn (f:FuncId) (caps:List qh)
 |dopt (e:Ty) (x:Option e.den)
inductive SV where
 |v (p:PV)
 |agg (cs:List PV)
 |tup (cs:List PV) (sh:List (Nat×Bool))
inductive bW where
 |box (cs:List PV)
 |rows (T:TypeId) (e:Ty) (f:Fl) (xs:List e.den)
 |fbox (cs:List PV)
 |frows (e:Ty) (xs:List e.den)
 |dead
 |opn (T:TypeId) (e:Ty) (f:Fl) (xs:List e.den) (i:Int) (cs:List PV)
def bW.frz:bW→bW
 | .box cs=> .fbox cs
 | .rows _ e _ xs=> .frows e xs
 | .opn _ _ _ _ _ _=> .dead
 |b=>b
structure St where
 n:Nat
 tmps:Nat→SV
 mem:Nat→Option bW
inductive bD where
 |frz (id:Nat)
 |set (id:Nat) (b:bW)
def St.put (s:St) (d:Nat) (x:SV):St:={s with tmps:=fun t=>bif Nat.beq t d then x else s.tmps t}
def St.setM (s:St) (id:Nat) (b:Option bW):St:={s with mem:=fun t=>bif Nat.beq t id then b else s.mem t}
def St.upd (s:St):bD→St
 | .frz id=>s.setM id ((s.mem id).map bW.frz)
 | .set id b=>s.setM id (some b)
def St.upds (s:St):List bD→St
 | []=>s
 |u::us=>(s.upd u).upds us
def PV.width:PV→Nat
 | .seg e n _=>n*e.size
 |_=>1
def inj:(τ:Ty)→τ.den→List PV
 | .unit,_=>[]
 | .bool,b=>[.bool b]
 | .str,s=>[.str s]
 | .int k,n=>[.int k n]
 | .list e,xs=>[.list e xs]
 | .arr e n,xs=>[.seg e n xs]
 | .pair a b,x=>inj a x.1++inj b x.2
 | .opt e,x=>[.dopt e x]
def HW {e e':Ty} (h:e'=e) (x:Option e'.den):Option e.den:=h▸x
def br {e e':Ty} (h:e'=e) (xs:List e'.den):List e.den:=h▸xs
def li {α:Type} (p:List PV→Option (α×List PV)):Nat→List PV→Option (List α×List PV)
 |0,cs=>some ([],cs)
 |n+1,cs=>match p cs with
  |some (x,cs)=>match li p n cs with
   |some (xs,cs)=>some (x::xs,cs)
   |none=>none
  |none=>none
def d9:(τ:Ty)→List PV→Option (τ.den×List PV)
 | .unit,cs=>some ((),cs)
 | .bool,cs=>match cs with
  | .bool b::cs=>some (b,cs)
  |_=>none
 | .str,cs=>match cs with
  | .str s::cs=>some (s,cs)
  |_=>none
 | .int k,cs=>match cs with
  | .int k' n::cs=>match decEq k' k with
   | .isTrue _=>some (n,cs)
   | .isFalse _=>none
  |_=>none
 | .list e,cs=>match cs with
  | .list e' xs::cs=>match decEq e' e with
   | .isTrue h=>some (br h xs,cs)
   | .isFalse _=>none
  | .nils::cs=>some ([],cs)
  |_=>none
 | .arr e n,cs=>match cs with
  | .seg e' n' xs::cs=>match decEq e' e,decEq n' n with
   | .isTrue h,.isTrue _=>some (br h xs,cs)
   |_,_=>none
  |cs=>li (d9 e) n cs
 | .pair a b,cs=>match d9 a cs with
  |some (x,cs)=>match d9 b cs with
   |some (y,cs)=>some ((x,y),cs)
   |none=>none
  |none=>none
 | .opt e,cs=>match cs with
  | .nilp::cs=>some (none,cs)
  | .dopt e' x::cs=>match decEq e' e with
   | .isTrue h=>some (HW h x,cs)
   | .isFalse _=>none
  |_=>none
def aQ (τ:Ty) (cs:List PV):Option τ.den:=
 match d9 τ cs with
 |some (x,[])=>some x
 |_=>none
def aY:List PV→Nat→Option (List PV)
 |cs,0=>some cs
 | [],_+1=>none
 |p::cs,n+1=>bif Nat.ble p.width (n+1)then aY cs (n+1-p.width)else none
def dP:List PV→Nat→Option (List PV)
 |_,0=>some []
 | [],_+1=>none
 |p::cs,n+1=>bif Nat.ble p.width (n+1)then(match dP cs (n+1-p.width)with|some t=>some (p::t)|none=>none)else none
def lj (cs:List PV) (off n:Nat):Option (List PV):=
 match aY cs off with
 |some t=>dP t n
 |none=>none
def mh (cs:List PV) (off n:Nat) (new:List PV):Option (List PV):=
 match dP cs off,aY cs (off+n)with
 |some a,some b=>some (a++(new++b))
 |_,_=>none
def bg:List PV→Nat
 | []=>0
 |p::cs=>p.width+bg cs
def rd {τ:Ty} (xs:List τ.den) (i:Int):τ.den:=xs.getD i.toNat τ.dflt
def ao (i:Int) (n:Nat):Bool:=decide (0≤i)&&decide (i< (n:Int))
def m4 (cs:List PV) (o:Nat) (e:Ty) (m:Nat):Option (List e.den):=
 match lj cs o (m*e.size)with
 |some c=>aQ (.arr e m) c
 |none=>none
def gU (cs:List PV) (p:dr) (n:Nat):Option (List PV):=
 match p with
 | .at o=>lj cs o n
 | .arr o e m j q=>match m4 cs o e m with
  |some xs=>lj (inj e (rd xs j)) q n
  |none=>none
def gt (dat:PV→PV) (cs:List PV) (p:dr) (n:Nat) (new:List PV):Option (List PV):=
 match p with
 | .at o=>mh cs o n new
 | .arr o e m j q=>match m4 cs o e m with
  |some xs=>match mh (inj e (rd xs j)) q n (new.map dat)with
   |some c=>match aQ e c with
    |some x=>mh cs o (m*e.size) [.seg e m (xs.set j.toNat x)]
    |none=>none
   |none=>none
  |none=>none
inductive HX where
 |scalar
 |slice (e:TypeId)
 |struct (fs:List (Nat×Nat)) (ags:List Bool) (tys:List TypeId)
 |array (n:Nat) (e:TypeId)
 |other
structure TI where
 sh:HX
 size:Nat
 bytes:Nat
 zero:List PV
 ty:Ty
 eq:Bool
def TI.isAgg (t:TI):Bool:=match t.sh with| .struct _ _ _| .array _ _=>true|_=>false
inductive PK where
 |raw
 |val (τ:Ty)
 |give (τ:Ty) (f:Fl)
 |lend (τ:Ty) (f:Fl)
 |ro (τ:Ty)
 |var (τ:Ty) (f:Fl)
def wH:Ty→Fl→Ty
 | .list e,.own _ _=> .list e
 | .pair a b,.pair f g=> .pair (wH a f) (wH b g)
 |_,_=> .unit
def wI:Ty→Fl→Fl
 | .list _,.own T f=> .own T f
 | .pair a b,.pair f g=> .pair (wI a f) (wI b g)
 |_,_=> .no
structure i5 where
 params:List PK
 res:List (Ty×Bool)
 outs:List Fl
def PK.back:PK→List (Ty×Fl)
 | .var τ f=>[(τ,f)]
 | .lend τ f=>[(wH τ f,wI τ f)]
 |_=>[]
def i5.back (s:i5):List (Ty×Fl):=s.params.flatMap PK.back
def i5.resTy (s:i5):Ty:=Ty.tup (s.res.map (·.1)++s.back.map (·.1))
def i5.resFl (s:i5):Fl:=Fl.tup (s.outs++s.back.map (·.2))
inductive LK where
 |val (τ:Ty) (f:Fl)
 |agg (τ:Ty) (f:Fl)
 |box (τ:Ty) (f:Fl)
 |par (τ:Ty) (f:Fl)
 |pown (T:TypeId) (e:Ty) (f:Fl)
 |ro (τ:Ty)
 |keep
 |same (t0:Nat) (k:Option Nat)
 |clos (ts:List Nat)
 |sub (t0:Nat) (k:Nat)
structure bP where
 P:Program
 ti:TypeId→Option TI
 fn:Nat→Option Func
 real:Nat→FuncId
 alts:FuncId→List Nat
 sig:Nat→Option i5
 loop:Nat→Nat→Option (List (Nat×LK))
 elf:Nat→Nat→Fl
 prim:Nat→Option (List SV→Option (List PV))
def bP.resTy (C:bP) (f:Nat):Ty:=match C.sig f with|some s=>s.resTy|none=> .unit
@[reducible] def bP.Res (C:bP) (f:Nat):Type:=(C.resTy f).den
@[reducible] def bP.Env (C:bP):Type:=(f:Nat)→List SV→Option (C.Res f)
def nN:Value→PV
 | .bool b=> .bool b
 | .int k n=> .int k n
 | .string s=> .str s
 | .slice none 0 0=> .nils
 | .pointer none=> .nilp
 |_=> .undef
def sL:Value→SV
 | .agg cs=>bif cs.toList.all (fun v=>match v with| .agg _| .tuple _=>false|_=>true)then .agg (cs.toList.map nN)else .v .undef
 |v=> .v (nN v)
def St.ev (s:St):Operand→SV
 | .tmp t=>s.tmps t
 | .const v=>sL v
 | .func f=> .v (.fn f [])
 | .global _=> .v .undef
def St.asList (s:St):PV→Option ((e:Ty)×List e.den)
 | .list e xs=>some ⟨e,xs⟩
 | .own id=>match s.mem id with
  |some (.rows _ e _ xs)=>some ⟨e,xs⟩
  |some (.frows e xs)=>some ⟨e,xs⟩
  |_=>none
 |_=>none
def St.asRow (s:St):PV→Option ((e:Ty)×List e.den)
 | .own id=>match s.mem id with
  |some (.opn _ e _ xs _ _)=>some ⟨e,xs⟩
  |_=>s.asList (.own id)
 |p=>s.asList p
def St.dat (s:St):PV→PV
 | .own id=>match s.asList (.own id)with
  |some ⟨e,xs⟩=> .list e xs
  |none=> .undef
 | .ptr _ _=> .undef
 | .elt _ _ _=> .undef
 | .fn f caps=>bif caps.all (fun c=>match c with| .ref _=>false|_=>true)then .fn f caps else .undef
 |p=>p
def PV.owns:PV→List Nat
 | .own id=>[id]
 |_=>[]
def aE (cs:List PV):List Nat:=cs.flatMap PV.owns
def zZ (cs:List PV):List bD:=(aE cs).map .frz
def PV.closed:PV→Bool
 | .own _| .ptr _ _| .elt _ _ _=>false
 | .fn _ caps=>caps.all fun c=>match c with| .ref _=>false|_=>true
 |_=>true
end Go.Ps
