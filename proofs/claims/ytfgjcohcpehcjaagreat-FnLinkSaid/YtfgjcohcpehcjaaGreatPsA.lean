import Derived.Calls
import Derived.KernelRfl
namespace Go.Ps
theorem aa {α:Type _} (a b:α):(some a=some b)=(a=b):=Option.some.injEq a b
theorem ah {p:Prop} [Decidable p] (h:p):decide p=true:=decide_eq_true h
theorem ai {p:Prop} [Decidable p] (h:¬p):decide p=false:=decide_eq_false h
theorem ae {α β:Type _} (a:α) (f:α→Option β):(some a).bind f=f a:=rfl
theorem af {α:Sort _} (a b:α):cond false a b=b:=rfl
theorem ac {α:Sort _} (a b:α):cond true a b=a:=rfl
theorem a9 (n:Nat):¬n<n:=Nat.lt_irrefl n
theorem aB (a b:Bool):((a&&b)=true)=(a=true∧b=true):=Bool.and_eq_true a b
theorem aG {n m:Nat} (h:Nat.beq n m=true):n=m:=Nat.eq_of_beq_eq_true h
theorem aT (n:Nat):((n:Nat):Int).toNat=n:=Int.toNat_natCast n
theorem aV:(!true)=false:=rfl
theorem ak {c:Prop} {h:Decidable c} (hc:¬c) {α:Sort _} {t e:α}:ite c t e=e:=if_neg hc
theorem av {c:Prop} {h:Decidable c} (hc:c) {α:Sort _} {t e:α}:ite c t e=t:=if_pos hc
theorem ar {α β:Type _} (a:α) (b:β) (c:α) (d:β):((a,b)=(c,d))=(a=c∧b=d):=Prod.mk.injEq a b c d
theorem ay {α:Type _} (a:α) (l:List α) (b:α) (m:List α):(a::l=b::m)=(a=b∧l=m):=List.cons.injEq a l b m
theorem bh {p:Prop} [Decidable p]:(decide p=true)=p:=decide_eq_true_eq
theorem bi {n m:Nat} (h:Nat.ble n m=true):n≤m:=Nat.le_of_ble_eq_true h
theorem aZ {α:Type _} (a b c:List α):a++b++c=a++(b++c):=List.append_assoc a b c
set_option linter.unusedVariables false
inductive Ty where
 |unit|bool|str
 |int (k:IntKind)
 |list (e:Ty)
 |arr (e:Ty) (n:Nat)
 |pair (a b:Ty)
 |opt (e:Ty)
 deriving DecidableEq
@[reducible] def Ty.den:Ty→Type
 | .unit=>Unit
 | .bool=>Bool
 | .str=>ByteArray
 | .int _=>Int
 | .list e=>List e.den
 | .arr e _=>List e.den
 | .pair a b=>a.den×b.den
 | .opt e=>Option e.den
def Ty.size:Ty→Nat
 | .unit=>0
 | .arr e n=>n*e.size
 | .pair a b=>a.size+b.size
 |_=>1
def Ty.dflt:(τ:Ty)→τ.den
 | .unit=>()
 | .bool=>false
 | .str=>ByteArray.empty
 | .int _=>0
 | .list _=>[]
 | .arr e n=>List.replicate n e.dflt
 | .pair a b=>(a.dflt,b.dflt)
 | .opt _=>none
def Ty.lists:Ty→Bool
 | .list _=>true
 | .opt _=>true
 | .arr e _=>e.lists
 | .pair a b=>a.lists||b.lists
 |_=>false
def Ty.tup:List Ty→Ty
 | []=> .unit
 | [a]=>a
 |a::b=> .pair a (Ty.tup b)
inductive Fl where
 |no
 |own (T:TypeId) (f:Fl)
 |box
 |pair (a b:Fl)
 deriving DecidableEq
def Fl.tup:List Fl→Fl
 | []=> .no
 | [a]=>a
 |a::b=> .pair a (Fl.tup b)
def Fl.isNo:Fl→Bool
 | .no=>true
 |_=>false
def Fl.flat:Fl→Ty→Bool
 | .no,_=>true
 | .box,.int _=>true
 |_,_=>false
def Ty.shares:Ty→Fl→Bool
 | .list e,.own _ f=>e.shares f
 | .list _,_=>true
 | .opt e,.box=>e.shares .no
 | .opt _,_=>true
 | .arr e _,_=>e.shares .no
 | .pair a b,.pair f g=>a.shares f||b.shares g
 | .pair a b,_=>a.shares .no||b.shares .no
 |_,_=>false
inductive dK where
 |at(n:Nat)
 |arr (o:Nat) (e:Ty) (m:Nat) (j:Int) (n:Nat)
inductive pS where
 |dat (τ:Ty) (x:τ.den)
 |agg (τ:Ty) (x:τ.den)
 |cref (τ:Ty) (x:τ.den)
 |ref (id:Nat)
inductive PV where
 |undef
 |bool (b:Bool)
 |int (k:IntKind) (n:Int)
 |str (s:ByteArray)
 |nils
 |nilp
 |list (e:Ty) (xs:List e.den)
 |seg (e:Ty) (n:Nat) (xs:List e.den)
 |own (id:Nat)
 |ptr (id:Nat) (p:dK)
 |elt (id:Nat) (i:Int) (p:dK)
 |cptr (τ:Ty) (x:τ.den) (off:Nat)
 |fn (f:FuncId) (caps:List pS)
 |dopt (e:Ty) (x:Option e.den)
 |cell (id:Nat)
 |view (id:Nat) (l h:Int)
inductive SV where
 |v (p:PV)
 |agg (cs:List PV)
 |tup (cs:List PV) (sh:List (Nat×Bool))
inductive cj where
 |box (cs:List PV)
 |rows (T:TypeId) (e:Ty) (f:Fl) (xs:List e.den)
 |fbox (cs:List PV)
 |frows (e:Ty) (xs:List e.den)
 |dead
 |opn (T:TypeId) (e:Ty) (f:Fl) (xs:List e.den) (i:Int) (cs:List PV)
def cj.frz:cj→cj
 | .box cs=> .fbox cs
 | .rows _ e _ xs=> .frows e xs
 | .opn _ _ _ _ _ _=> .dead
 |b=>b
structure St where
 n:Nat
 tmps:Nat→SV
 mem:Nat→Option cj
inductive bJ where
 |frz (id:Nat)
 |set (id:Nat) (b:cj)
def St.put (s:St) (d:Nat) (x:SV):St:={s with tmps:=fun t=>bif Nat.beq t d then x else s.tmps t}
def St.setM (s:St) (id:Nat) (b:Option cj):St:={s with mem:=fun t=>bif Nat.beq t id then b else s.mem t}
def St.upd (s:St):bJ→St
 | .frz id=>s.setM id ((s.mem id).map cj.frz)
 | .set id b=>s.setM id (some b)
def St.upds (s:St):List bJ→St
 | []=>s
 |u::us=>(s.upd u).upds us
def PV.width:PV→Nat
 | .seg e n _=>n*e.size
 |_=>1
def inj:(τ:Ty)→τ.den→List PV
 | .unit,_=>[]
 | .bool,b=>[.bool b]
 | .str,s=>[.str s]
 | .int k,n=>[.int k n]
 | .list e,xs=>[.list e xs]
 | .arr e n,xs=>[.seg e n xs]
 | .pair a b,x=>inj a x.1++inj b x.2
 | .opt e,x=>[.dopt e x]
def Du {e e':Ty} (h:e'=e) (x:Option e'.den):Option e.den:=h▸x
def bQ {e e':Ty} (h:e'=e) (xs:List e'.den):List e.den:=h▸xs
def lw {α:Type} (p:List PV→Option (α×List PV)):Nat→List PV→Option (List α×List PV)
 |0,cs=>some ([],cs)
 |n+1,cs=>match p cs with
  |some (x,cs)=>match lw p n cs with
   |some (xs,cs)=>some (x::xs,cs)
   |none=>none
  |none=>none
def eK:(τ:Ty)→List PV→Option (τ.den×List PV)
 | .unit,cs=>some ((),cs)
 | .bool,cs=>match cs with
  | .bool b::cs=>some (b,cs)
  |_=>none
 | .str,cs=>match cs with
  | .str s::cs=>some (s,cs)
  |_=>none
 | .int k,cs=>match cs with
  | .int k' n::cs=>match decEq k' k with
   | .isTrue _=>some (n,cs)
   | .isFalse _=>none
  |_=>none
 | .list e,cs=>match cs with
  | .list e' xs::cs=>match decEq e' e with
   | .isTrue h=>some (bQ h xs,cs)
   | .isFalse _=>none
  | .nils::cs=>some ([],cs)
  |_=>none
 | .arr e n,cs=>match cs with
  | .seg e' n' xs::cs=>match decEq e' e,decEq n' n with
   | .isTrue h,.isTrue _=>some (bQ h xs,cs)
   |_,_=>none
  |cs=>lw (eK e) n cs
 | .pair a b,cs=>match eK a cs with
  |some (x,cs)=>match eK b cs with
   |some (y,cs)=>some ((x,y),cs)
   |none=>none
  |none=>none
 | .opt e,cs=>match cs with
  | .nilp::cs=>some (none,cs)
  | .dopt e' x::cs=>match decEq e' e with
   | .isTrue h=>some (Du h x,cs)
   | .isFalse _=>none
  |_=>none
def be (τ:Ty) (cs:List PV):Option τ.den:=
 match eK τ cs with
 |some (x,[])=>some x
 |_=>none
def bm:List PV→Nat→Option (List PV)
 |cs,0=>some cs
 | [],_+1=>none
 |p::cs,n+1=>bif Nat.ble p.width (n+1)then bm cs (n+1-p.width)else none
def d9:List PV→Nat→Option (List PV)
 |_,0=>some []
 | [],_+1=>none
 |p::cs,n+1=>bif Nat.ble p.width (n+1)then(match d9 cs (n+1-p.width)with|some t=>some (p::t)|none=>none)else none
def kP (cs:List PV) (off n:Nat):Option (List PV):=
 match bm cs off with
 |some t=>d9 t n
 |none=>none
def mm (cs:List PV) (off n:Nat) (new:List PV):Option (List PV):=
 match d9 cs off,bm cs (off+n)with
 |some a,some b=>some (a++(new++b))
 |_,_=>none
def bq:List PV→Nat
 | []=>0
 |p::cs=>p.width+bq cs
def rd {τ:Ty} (xs:List τ.den) (i:Int):τ.den:=xs.getD i.toNat τ.dflt
def aH (i:Int) (n:Nat):Bool:=decide (0≤i)&&decide (i< (n:Int))
def m4 (cs:List PV) (o:Nat) (e:Ty) (m:Nat):Option (List e.den):=
 match kP cs o (m*e.size)with
 |some c=>be (.arr e m) c
 |none=>none
def ik (cs:List PV) (p:dK) (n:Nat):Option (List PV):=
 match p with
 | .at o=>kP cs o n
 | .arr o e m j q=>match m4 cs o e m with
  |some xs=>kP (inj e (rd xs j)) q n
  |none=>none
def gT (dat:PV→PV) (cs:List PV) (p:dK) (n:Nat) (new:List PV):Option (List PV):=
 match p with
 | .at o=>mm cs o n new
 | .arr o e m j q=>match m4 cs o e m with
  |some xs=>match mm (inj e (rd xs j)) q n (new.map dat)with
   |some c=>match be e c with
    |some x=>mm cs o (m*e.size) [.seg e m (xs.set j.toNat x)]
    |none=>none
   |none=>none
  |none=>none
inductive Dv where
 |scalar
 |slice (e:TypeId)
 |struct (fs:List (Nat×Nat)) (ags:List Bool) (tys:List TypeId)
 |array (n:Nat) (e:TypeId)
 |other
structure TI where
 sh:Dv
 size:Nat
 bytes:Nat
 zero:List PV
 ty:Ty
 eq:Bool
def TI.isAgg (t:TI):Bool:=match t.sh with| .struct _ _ _| .array _ _=>true|_=>false
inductive PK where
 |raw
 |val (τ:Ty)
 |give (τ:Ty) (f:Fl)
 |lend (τ:Ty) (f:Fl)
 |ro (τ:Ty)
 |var (τ:Ty) (f:Fl)
 |dvar (τ:Ty) (f:Fl)
def vJ:Ty→Fl→Ty
 | .list e,.own _ _=> .list e
 | .pair a b,.pair f g=> .pair (vJ a f) (vJ b g)
 |_,_=> .unit
def vK:Ty→Fl→Fl
 | .list _,.own T f=> .own T f
 | .pair a b,.pair f g=> .pair (vK a f) (vK b g)
 |_,_=> .no
structure ki where
 params:List PK
 res:List (Ty×Bool)
 outs:List Fl
def PK.back:PK→List (Ty×Fl)
 | .var τ f=>[(τ,f)]
 | .dvar τ f=>[(τ,f)]
 | .lend τ f=>[(vJ τ f,vK τ f)]
 |_=>[]
def ki.back (s:ki):List (Ty×Fl):=s.params.flatMap PK.back
def ki.resTy (s:ki):Ty:=Ty.tup (s.res.map (·.1)++s.back.map (·.1))
def ki.resFl (s:ki):Fl:=Fl.tup (s.outs++s.back.map (·.2))
inductive LK where
 |val (τ:Ty) (f:Fl)
 |agg (τ:Ty) (f:Fl)
 |box (τ:Ty) (f:Fl)
 |par (τ:Ty) (f:Fl)
 |pown (T:TypeId) (e:Ty) (f:Fl)
 |ro (τ:Ty)
 |keep
 |same (t0:Nat) (k:Option Nat)
 |clos (ts:List Nat)
 |sub (t0:Nat) (k:Nat)
structure b9 where
 P:Program
 ti:TypeId→Option TI
 fn:Nat→Option Func
 real:Nat→FuncId
 alts:FuncId→List Nat
 sig:Nat→Option ki
 loop:Nat→Nat→Option (List (Nat×LK))
 elf:Nat→Nat→Fl
 prim:Nat→Option (List SV→Option (List PV))
def b9.resTy (C:b9) (f:Nat):Ty:=match C.sig f with|some s=>s.resTy|none=> .unit
@[reducible] def b9.Res (C:b9) (f:Nat):Type:=(C.resTy f).den
@[reducible] def b9.Env (C:b9):Type:=(f:Nat)→List SV→Option (C.Res f)
def nN:Value→PV
 | .bool b=> .bool b
 | .int k n=> .int k n
 | .string s=> .str s
 | .slice none 0 0=> .nils
 | .pointer none=> .nilp
 |_=> .undef
def sb:Value→SV
 | .agg cs=>bif cs.toList.all (fun v=>match v with| .agg _| .tuple _=>false|_=>true)then .agg (cs.toList.map nN)else .v .undef
 |v=> .v (nN v)
def St.ev (s:St):Operand→SV
 | .tmp t=>s.tmps t
 | .const v=>sb v
 | .func f=> .v (.fn f [])
 | .global _=> .v .undef
def St.asList (s:St):PV→Option ((e:Ty)×List e.den)
 | .list e xs=>some ⟨e,xs⟩
 | .own id=>match s.mem id with
  |some (.rows _ e _ xs)=>some ⟨e,xs⟩
  |some (.frows e xs)=>some ⟨e,xs⟩
  |_=>none
 | .view id l h=>match s.mem id with
  |some (.rows _ e _ xs)=>some ⟨e,(xs.take h.toNat).drop l.toNat⟩
  |some (.frows e xs)=>some ⟨e,(xs.take h.toNat).drop l.toNat⟩
  |_=>none
 |_=>none
def St.asRow (s:St):PV→Option ((e:Ty)×List e.den)
 | .own id=>match s.mem id with
  |some (.opn _ e _ xs _ _)=>some ⟨e,xs⟩
  |_=>s.asList (.own id)
 |p=>s.asList p
def St.dat (s:St):PV→PV
 | .own id=>match s.asList (.own id)with
  |some ⟨e,xs⟩=> .list e xs
  |none=> .undef
 | .view id l h=>match s.asList (.view id l h)with
  |some ⟨e,xs⟩=> .list e xs
  |none=> .undef
 | .ptr _ _=> .undef
 | .elt _ _ _=> .undef
 | .cell _=> .undef
 | .fn f caps=>bif caps.all (fun c=>match c with| .ref _=>false|_=>true)then .fn f caps else .undef
 |p=>p
def PV.owns:PV→List Nat
 | .own id=>[id]
 | .view id _ _=>[id]
 |_=>[]
def aM (cs:List PV):List Nat:=cs.flatMap PV.owns
def yA (cs:List PV):List bJ:=(aM cs).map .frz
def PV.closed:PV→Bool
 | .own _| .ptr _ _| .elt _ _ _| .cell _| .view _ _ _=>false
 | .fn _ caps=>caps.all fun c=>match c with| .ref _=>false|_=>true
 |_=>true
end Go.Ps
