import Derived.Test.YtijpmnicihmoaaaGreatDoorPsA
import Derived.Orders
namespace Go.Ps
set_option linter.unusedVariables false
def andI (k:IntKind) (x y:Int):Int:=k.wrap ((BitVec.ofInt k.bits x&&&BitVec.ofInt k.bits y).toNat)
def iC (k:IntKind) (x y:Int):Int:=k.wrap ((BitVec.ofInt k.bits x|||BitVec.ofInt k.bits y).toNat)
def Qs (k:IntKind) (x y:Int):Int:=k.wrap ((BitVec.ofInt k.bits x^^^BitVec.ofInt k.bits y).toNat)
def uJ (k:IntKind) (x y:Int):Int:=k.wrap ((BitVec.ofInt k.bits x&&& ~~~BitVec.ofInt k.bits y).toNat)
def dc (k:IntKind) (x y:Int):Int:=k.wrap (x*2^(min y.toNat k.bits))
def mq (k:IntKind) (x y:Int):Int:=x.fdiv (2^(min y.toNat k.bits))
def bM (a b:ByteArray):Bool:=a.toList==b.toList
def wN (a b:ByteArray):Bool:=Op.bytesLess a.toList b.toList
def bt (s:ByteArray) (i:Int):Int:=((s.data.getD i.toNat 0).toNat:Int)
section
variable {R:Type}
def Cn (op:BinOp) (a:IntKind) (m n:Int) (k:PV→Option R):Option R:=
 match op with
 | .add=>k (.int a (a.wrap (m+n)))
 | .sub=>k (.int a (a.wrap (m-n)))
 | .mul=>k (.int a (a.wrap (m*n)))
 | .quo=>bif decide (n=0)then none else k (.int a (a.wrap (m.tdiv n)))
 | .rem=>bif decide (n=0)then none else k (.int a (m.tmod n))
 | .and=>k (.int a (andI a m n))
 | .or=>k (.int a (iC a m n))
 | .xor=>k (.int a (Qs a m n))
 | .andNot=>k (.int a (uJ a m n))
 | .eql=>k (.bool (decide (m=n)))
 | .neq=>k (.bool (!decide (m=n)))
 | .lss=>k (.bool (decide (m<n)))
 | .leq=>k (.bool (decide (m≤n)))
 | .gtr=>k (.bool (decide (m>n)))
 | .geq=>k (.bool (decide (m≥n)))
 |_=>none
def uK (op:BinOp) (x y:PV) (k:PV→Option R):Option R:=
 match x,y with
 | .int a m,.int b n=>
  match op with
  | .shl=>bif decide (n<0)then none else k (.int a (dc a m n))
  | .shr=>bif decide (n<0)then none else k (.int a (mq a m n))
  |op=>match decEq a b with
   | .isFalse _=>none
   | .isTrue _=>Cn op a m n k
 | .str a,.str b=>
  match op with
  | .add=>bif decide (a.size+b.size≤9223372036854775807)then k (.str (a++b))else none
  | .eql=>k (.bool (bM a b))
  | .neq=>k (.bool (!bM a b))
  | .lss=>k (.bool (wN a b))
  | .leq=>k (.bool (wN a b||bM a b))
  | .gtr=>k (.bool (!(wN a b||bM a b)))
  | .geq=>k (.bool (!wN a b))
  |_=>none
 |_,_=>none
def KE (op:UnOp) (x:PV) (k:PV→Option R):Option R:=
 match op,x with
 | .neg,.int a n=>k (.int a (a.wrap (0-n)))
 | .xor,.int a n=>k (.int a (Qs a (if a.signed then-1 else a.max) n))
 | .not,.bool b=>k (.bool (!b))
 |_,_=>none
def tq (c a b:SV) (k:SV→Option R):Option R:=
 match c with
 | .v (.bool c)=>match a,b with
  | .v (.bool x),.v (.bool y)=>k (.v (.bool (bif c then x else y)))
  |a,b=>bif c then k a else k b
 |_=>none
def tr (C:co) (op:BinOp) (t:TypeId) (a b:Bool) (k:PV→Option R):Option R:=
 match C.ti t with
 |some I=>match I.ty with
  | .bool=>match op with
   | .eql=>k (.bool (a==b))
   | .neq=>k (.bool (!(a==b)))
   |_=>none
  |_=>none
 |none=>none
def Rt:Ty→Bool
 | .unit| .bool| .str| .int _=>true
 | .arr e _=>Rt e
 | .pair a b=>Rt a&&Rt b
 |_=>false
def kR:(τ:Ty)→τ.den→τ.den→Bool
 | .bool,a,b=>a==b
 | .str,a,b=>bM a b
 | .int _,a,b=>decide (a=b)
 | .arr e _,xs,ys=>(xs.zip ys).all fun p=>kR e p.1 p.2
 | .pair a b,x,y=>kR a x.1 y.1&&kR b x.2 y.2
 |_,_,_=>true
def Qc (C:co) (op:BinOp) (t:TypeId) (x y:List PV) (k:PV→Option R):Option R:=
 match C.ti t with
 |some I=>bif I.eq&&I.isAgg&&Rt I.ty then match bj I.ty x,bj I.ty y with
  |some x,some y=>match op with
   | .eql=>k (.bool (kR I.ty x y))
   | .neq=>k (.bool (!kR I.ty x y))
   |_=>none
  |_,_=>none
  else none
 |none=>none
def SV.cells:SV→Option (List PV)
 | .v .undef=>none
 | .v p=>some [p]
 | .agg cs=>some cs
 | .tup _ _=>none
def SV.pv:SV→PV
 | .v p=>p
 |_=> .undef
def gD:List PV→Bool
 | []=>true
 | .bool _::cs=>gD cs
 | .int _ _::cs=>gD cs
 | .str _::cs=>gD cs
 | .seg e _ _::cs=> !e.lists&&gD cs
 |_::_=>false
def PV.leads:PV→List Nat
 | .own id=>[id]
 | .ptr id _=>[id]
 | .elt id _ _=>[id]
 |_=>[]
def St.look (s:St) (p:PV) (n:Nat):Option (List PV):=
 match p with
 | .ptr id q=>match s.mem id with
  |some (.box cs)=>iJ cs q n
  |some (.fbox cs)=>iJ cs q n
  |_=>none
 | .elt id i q=>match s.mem id with
  |some (.rows _ e f xs)=>match iJ (inj e (rd xs i)) q n with
   |some cs=>bif f.isNo||gD cs then some cs else none
   |none=>none
  |some (.frows e xs)=>iJ (inj e (rd xs i)) q n
  |_=>none
 | .cptr τ x off=>mi (inj τ x) off n
 |_=>none
def sr (I:TI) (cs:List PV) (k:SV→Option R):Option R:=
 bif I.isAgg then k (.agg cs)else match cs with
  | [c]=>bif Nat.beq c.width 1 then k (.v c)else none
  |_=>none
def aX (id:Nat):(τ:Ty)→Fl→τ.den→Nat→List PV×List (Nat×cx)×Nat
 | .list e,.own T g,xs,j=>([.own (id+j)],[(id+j,.rows T e g xs)],j+1)
 | .opt e,.box,x,j=>match x with
  |none=>([.nilp],[],j+1)
  |some y=>([.ptr (id+j) (.at 0)],[(id+j,.box (inj e y))],j+1)
 | .pair a b,.pair f g,x,j=>((aX id a f x.1 j).1++(aX id b g x.2 (aX id a f x.1 j).2.2).1,(aX id a f x.1 j).2.1++(aX id b g x.2 (aX id a f x.1 j).2.2).2.1,(aX id b g x.2 (aX id a f x.1 j).2.2).2.2)
 |τ,_,x,j=>(inj τ x,[],j)
def dE:List Nat→Bool
 | []=>true
 |i::l=> !l.any (Nat.beq i)&&dE l
def gE (s:St) (l:List (Nat×cx)):Bool:=l.all fun p=>match s.mem p.1 with|none=>true|some _=>false
def cQ (l:List (Nat×cx)):List ca:=l.map fun p=> .set p.1 p.2
def qn (s:St) (id:Nat) (I:TI) (p:PV) (k:SV→List ca→Option R):Option R:=
 match p with
 | .elt j i q=>match s.mem j with
  |some (.rows T e f xs)=>bif Nat.ble (aX id e f (rd xs i) 0).2.2 32&&gE s (aX id e f (rd xs i) 0).2.1 then
    match iJ (aX id e f (rd xs i) 0).1 q I.size with
    |some cs=>sr I cs fun x=>k x (.set j .dead::(cQ (aX id e f (rd xs i) 0).2.1++[.set j (.opn T e f xs i (aX id e f (rd xs i) 0).1)]))
    |none=>none
   else none
  |some (.opn _ _ _ _ i' cs)=>bif decide (i=i')then match iJ cs q I.size with
    |some cs=>sr I cs fun x=>k x []
    |none=>none
   else none
  |_=>none
 |_=>none
def lm (C:co) (s:St) (id:Nat) (t:TypeId) (p:PV) (k:SV→List ca→Option R):Option R:=
 match C.ti t with
 |some I=>match s.look p I.size with
  |some cs=>sr I cs fun x=>k x []
  |none=>qn s id I p k
 |none=>none
def dZ.lo:dZ→Nat
 | .at o=>o
 | .arr o _ _ _ _=>o
def dZ.span (n:Nat):dZ→Nat
 | .at _=>n
 | .arr _ e m _ _=>m*e.size
def dZ.down (k:Nat):dZ→dZ
 | .at o=> .at (o-k)
 | .arr o e m j q=> .arr (o-k) e m j q
def ie:(e:Ty)→Fl→e.den→dZ→Nat→List PV→Option e.den
 | .pair a b,.pair f g,x,q,n,new=>
   bif Nat.ble (q.lo+q.span n) a.size then(match ie a f x.1 q n new with
    |some y=>some (y,x.2)
    |none=>none)
   else bif Nat.ble a.size q.lo then(match ie b g x.2 (q.down a.size) n new with
    |some y=>some (x.1,y)
    |none=>none)
   else none
 |e,.no,x,q,n,new=>match ib (fun p=>p) (inj e x) q n new with
   |some cs=>bj e cs
   |none=>none
 |_,_,_,_,_,_=>none
def Fl.isBox:Fl→Bool
 | .box=>true
 |_=>false
def uL:Ty→Fl→List PV→Option (List PV)
 | .list _,.own _ _,cs=>match cs with
  | .own _::r=>some r
  | .nils::r=>some r
  |_=>none
 | .pair a b,.pair f g,cs=>match uL a f cs with
  |some r=>uL b g r
  |none=>none
 |τ,.no,cs=>bu cs τ.size
 |_,_,_=>none
def mr:Ty→Fl→List PV→Option (List PV)
 | .list e,.own _ _,cs=>match cs with
  | .nils::r=>bif Nat.ble 1 e.size then some r else none
  |_=>none
 | .pair a b,.pair f g,cs=>match mr a f cs with
  |some r=>mr b g r
  |none=>none
 |τ,.no,cs=>(eW τ cs).map (·.2)
 |_,_,_=>none
def yU (f:Fl) (τ:Ty) (cs:List PV):Fl:=match mr τ f cs with
 |some []=>bif f.isBox then .no else f
 |_=> .no
def ig (C:co) (s:St) (t:TypeId) (p:PV) (x:SV) (k:List ca→List Nat→Option R):Option R:=
 match C.ti t,x.cells with
 |some I,some new=>bif Nat.beq (bH new) I.size then
   match p with
   | .ptr id q=>match s.mem id with
    |some (.box cs)=>match q with
     | .at o=>match ni cs o I.size new with
      |some cs'=>k [.set id (.box cs')] []
      |none=>none
     |q=>bif (aZ new).isEmpty then match ib s.dat cs q I.size new with
      |some cs'=>k [.set id (.box cs')] []
      |none=>none
      else none
    |_=>none
   | .elt id i q=>match s.mem id with
    |some (.rows T e f xs)=>bif f.flat e&& !(aZ new).any (Nat.beq id)then match ib s.dat (inj e (rd xs i)) q I.size (new.map s.dat)with
     |some cs'=>match bj e cs' with
      |some x'=>k (Ca new++[.set id (.rows T e f (xs.set i.toNat x'))]) (aZ new)
      |none=>none
     |none=>none
     else match(bif (aZ new).isEmpty then ie e f (rd xs i) q I.size (new.map s.dat)else none)with
     |some x'=>k [.set id (.rows T e f (xs.set i.toNat x'))] []
     |none=>match q with
      | .at 0=>bif Nat.beq I.size e.size then match uL e f new with
       |some []=>k [.set id (.opn T e f xs i new)] []
       |_=>none
       else none
      |_=>none
    |some (.opn T e f xs i' cs)=>bif decide (i=i')then match q with
     | .at o=>match ni cs o I.size new with
      |some cs'=>k [.set id (.opn T e f xs i' cs')] []
      |none=>none
     |q=>bif (aZ new).isEmpty then match ib s.dat cs q I.size new with
      |some cs'=>k [.set id (.opn T e f xs i' cs')] []
      |none=>none
      else none
     else none
    |_=>none
   |_=>none
  else none
 |_,_=>none
def wO (place:Nat→Option (Nat×Nat)) (cs:List PV):List (Nat×SV)→Option (List PV)
 | []=>some cs
 |(i,x)::rest=>match place i,x.cells with
  |some (off,size),some new=>bif Nat.beq (bH new) size then
    match ni cs off size new with
    |some cs=>wO place cs rest
    |none=>none
   else none
  |_,_=>none
def nr (C:co) (t:TypeId) (ps:List (Nat×SV)) (k:List PV→Option R):Option R:=
 match C.ti t with
 |some ⟨.struct fs _ _,_,_,z,_,_⟩=>match wO (fun i=>fs[i]?) z ps with
  |some cs=>k cs
  |none=>none
 |_=>none
def St.evs (s:St) (ps:List (Nat×Operand)):List (Nat×SV):=ps.map fun p=>(p.1,s.ev p.2)
def jn (e:Ty) (s:St):Nat→List (Nat×SV)→Option (List e.den)
 |_,[]=>some []
 |i,(j,x)::ps=>bif Nat.beq i j then
   match x.cells with
   |some c=>match bj e (c.map s.dat),jn e s (i+1) ps with
    |some x,some xs=>some (x::xs)
    |_,_=>none
   |none=>none
  else none
def bC:List (Nat×SV)→List PV
 | []=>[]
 |(_,x)::r=>(x.cells.getD [])++bC r
def F7 (f:Fl) (e:TypeId) (τ:Ty) (ps:List (Nat×SV)):Option cx:=
 bif f.isNo then none else match ps with
 | []=>some (.rows e τ f [])
 | [(0,x)]=>match x.cells with
  |some c=>match uL τ f c with
   |some []=>bif Nat.beq (bH c) τ.size then some (.opn e τ f [τ.dflt] 0 c)else none
   |_=>none
  |none=>none
 |_=>none
def aS (xs:List Int):ByteArray:=⟨(xs.map fun n=>UInt8.ofNat n.toNat).toArray⟩
def fY (s:ByteArray):List Int:=s.data.toList.map fun b=>(b.toNat:Int)
def mt (C:co) (t:TypeId):Bool:=match C.ti t with
 |some I=>(match I.sh with| .slice _=>true|_=>false)
 |none=>false
def ob (C:co) (t:TypeId):Bool:=match C.ti t with
 |some I=>(match I.ty with| .str=>true|_=>false)
 |none=>false
def iN (C:co) (t:TypeId) (e:Ty):Bool:=match C.ti t with
 |some I=>(match I.sh with
  | .slice q=>(match C.ti q with
   |some E=>Nat.beq E.size e.size
   |none=>false)
  |_=>false)
 |none=>false
def ss (C:co) (s:St) (t:TypeId) (x:PV) (k:PV→Option R):Option R:=
 match x with
 | .str u=>bif ob C t then k (.int .i64 (u.size:Int))else none
 | .nils=>bif mt C t then k (.int .i64 0)else none
 |p=>match s.asRow p with
  |some ⟨_,xs⟩=>bif mt C t then k (.int .i64 (xs.length:Int))else none
  |none=>none
def lQ (s:St) (e:Ty) (y:PV):Option (List e.den):=
 match y with
 | .nils=>some []
 |p=>match s.asList p with
  |some ⟨e',xs⟩=>match decEq e' e with
   | .isTrue h=>some (bT h xs)
   | .isFalse _=>none
  |none=>none
def lq (s:St) (y:PV):List ca:=
 match y with
 | .own id=>match s.mem id with
  |some (.rows _ _ f _)=>bif f.isNo then[]else[.frz id]
  |_=>[]
 |_=>[]
def cX (s:St) (id:Nat) (x:Option R):Option R:=match s.mem id with
 |none=>x
 |some _=>none
def aH (n b:Nat):Bool:=decide (n*b≤140737488355328)&&decide (n≤9223372036854775807)
def oF (s:St) (id:Nat) (e:TypeId) (τ:Ty) (x y:PV):Option (Nat×List ca):=
 match y with
 | .own j=>match s.mem j with
  |some (.opn T f0 f ys i cs)=>bif Nat.beq T e&& !f.isBox then match decEq f0 τ with
   | .isTrue h=>match x with
    | .nils=>some (ys.length,[.set j .dead,.set id (.opn e τ f (bT h ys) i cs)])
    | .own l=>match s.mem l with
     |some (.rows T' e' f' xs)=>bif Nat.beq T' e&&decide (f'=f)&& !Nat.beq l j then match decEq e' τ with
      | .isTrue h'=>some (xs.length+ys.length,[.set l .dead,.set j .dead,.set id (.opn e τ f (bT h' xs++bT h ys) ((xs.length:Int)+i) cs)])
      | .isFalse _=>none
      else none
     |_=>none
    |_=>none
   | .isFalse _=>none
   else none
  |some (.rows T f0 f ys)=>bif Nat.beq T e&& !f.isBox&& !f.isNo then match decEq f0 τ with
   | .isTrue h=>match x with
    | .own l=>match s.mem l with
     |some (.rows T' e' f' xs)=>bif Nat.beq T' e&&decide (f'=f)&& !Nat.beq l j then match decEq e' τ with
      | .isTrue h'=>some (xs.length+ys.length,[.set l .dead,.set j .dead,.set id (.rows e τ f (bT h' xs++bT h ys))])
      | .isFalse _=>none
      else none
     |_=>none
    |_=>none
   | .isFalse _=>none
   else none
  |_=>none
 |_=>none
def ei (C:co) (s:St) (id:Nat) (sl:TypeId) (x y:PV) (k:PV→List ca→Option R):Option R:=
 match C.ti sl with
 |some ⟨.slice e,_,_,_,_,_⟩=>match C.ti e with
  |some E=>bif Nat.ble 1 E.size then match oF s id e E.ty x y with
   |some (m,us)=>cX s id (bif aH m E.bytes then k (.own id) us else none)
   |none=>match lQ s E.ty y with
   |some ys=>match x with
    | .nils=>cX s id (bif aH ys.length E.bytes then k (.own id) (lq s y++[.set id (.rows e E.ty .no ys)])else none)
    | .own j=>match s.mem j with
     |some (.rows T e' f xs)=>bif Nat.beq T e&&f.isNo then match decEq e' E.ty with
      | .isTrue h=>cX s id (bif aH (xs.length+ys.length) E.bytes then k (.own id) (lq s y++[.set j .dead,.set id (.rows e E.ty .no (bT h xs++ys))])else none)
      | .isFalse _=>none
      else none
     |_=>none
    |_=>none
   |none=>none
   else none
  |none=>none
 |_=>none
def jo (x:Option PV) (dflt:Int) (k:Int→Option R):Option R:=
 match x with
 |none=>k dflt
 |some (.int _ n)=>k n
 |_=>none
def ii (C:co) (s:St) (t:TypeId) (x:PV) (lo hi:Option PV) (k:PV→List ca→Option R):Option R:=
 match x with
 | .str u=>bif ob C t then jo lo 0 fun l=>jo hi (u.size:Int) fun h=>
   bif decide (0≤l)&&decide (l≤h)&&decide (h≤(u.size:Int))then k (.str (u.extract l.toNat h.toNat)) []else none
  else none
 |p=>match s.asList p with
  |some ⟨e,xs⟩=>bif iN C t e then jo lo 0 fun l=>jo hi (xs.length:Int) fun h=>
    bif decide (0≤l)&&decide (l≤h)&&decide (h≤(xs.length:Int))then k (.list e ((xs.take h.toNat).drop l.toNat)) (p.owns.map .frz)else none
   else none
  |none=>none
def iO (C:co) (t:TypeId):Option (TypeId×Ty):=match C.ti t with
 |some I=>(match I.sh with
  | .slice q=>(match C.ti q with
   |some E=>some (q,E.ty)
   |none=>none)
  |_=>none)
 |none=>none
def lr (C:co) (s:St) (src dst:TypeId) (x:PV) (k:PV→Option R):Option R:=
 match C.ti src,C.ti dst,x with
 |some _,some D,.int _ n=>match D.ty with
  | .int kd=>k (.int kd (kd.wrap n))
  |_=>none
 |some I,some D,.str t=>match I.ty,D.ty with
  | .str,.str=>k (.str t)
  |_,_=>none
 |some _,some D,x=>match D.ty,iO C src,s.asList x with
  | .str,some (_,.int .u8),some ⟨.int .u8,xs⟩=>k (.str (aS xs))
  |_,_,_=>none
 |_,_,_=>none
def ij (C:co) (s:St) (id:Nat) (src dst:TypeId) (x:PV) (k:PV→List ca→Option R):Option R:=
 match x with
 | .str t=>bif ob C src then match iO C dst with
   |some (q,.int .u8)=>cX s id (bif decide (t.size≤9223372036854775807)then k (.own id) [.set id (.rows q (.int .u8) .box (fY t))]else none)
   |_=>none
  else none
 |_=>none
def Kg:Operand→Operand→Bool
 | .tmp a,.tmp b=>Nat.beq a b
 | .const (.int a m),.const (.int b n)=>decide (a=b)&&decide (m=n)
 |_,_=>false
def cR (C:co) (s:St) (id:Nat) (t:TypeId) (n:PV) (k:PV→List ca→Option R):Option R:=
 match C.ti t,n with
 |some ⟨.slice e,_,_,_,_,_⟩,.int .i64 n=>match C.ti e with
  |some E=>match bj E.ty E.zero with
   |some z=>bif Nat.ble 1 E.size then cX s id (bif decide (0≤n)&&aH n.toNat E.bytes then k (.own id) [.set id (.rows e E.ty (yU (C.elf t id) E.ty E.zero) (List.replicate n.toNat z))]else none)else none
   |none=>none
  |none=>none
 |_,_=>none
def iP (C:co) (t:TypeId) (f:Nat):Option (Nat×Nat):=
 match C.ti t with
 |some ⟨.struct fs _ _,_,_,_,_,_⟩=>fs[f]?
 |_=>none
def mu (C:co) (t:TypeId) (f:Nat):Option Bool:=
 match C.ti t with
 |some ⟨.struct _ ags _,_,_,_,_,_⟩=>ags[f]?
 |_=>none
def dZ.move (n:Nat):dZ→dZ
 | .at o=> .at (o+n)
 | .arr o e m j q=> .arr o e m j (q+n)
def oX (p:PV) (n:Nat):Option PV:=
 match p with
 | .ptr id q=>some (.ptr id (q.move n))
 | .elt id i q=>some (.elt id i (q.move n))
 | .cptr τ x off=>some (.cptr τ x (off+n))
 |_=>none
def wP (C:co) (t:TypeId):Option (Nat×Ty):=match C.ti t with
 |some I=>(match I.sh with
  | .array n e=>(match C.ti e with
   |some E=>some (n,E.ty)
   |none=>none)
  |_=>none)
 |none=>none
def oc (s:St) (id:Nat):Option (List PV):=match s.mem id with
 |some (.box cs)=>some cs
 |some (.fbox cs)=>some cs
 |_=>none
def cD (C:co) (s:St) (t:TypeId) (x i:PV) (k:PV→Option R):Option R:=
 match i with
 | .int _ n=>match x with
  | .list e xs=>bif iN C t e then(bif aA n xs.length then k (.cptr e (rd xs n) 0)else none)else none
  | .own id=>match s.asRow (.own id)with
   |some ⟨e,xs⟩=>bif iN C t e then(bif aA n xs.length then k (.elt id n (.at 0))else none)else none
   |none=>none
  | .ptr id (.at o)=>match wP C t with
   |some (m,e)=>bif aA n m then k (.ptr id (.arr o e m n 0))else none
   |none=>none
  | .elt id j (.at o)=>match wP C t with
   |some (m,e)=>bif aA n m then k (.elt id j (.arr o e m n 0))else none
   |none=>none
  | .cptr τ x o=>match wP C t with
   |some (m,e)=>match n7 (inj τ x) o e m with
    |some xs=>bif aA n m then k (.cptr e (rd xs n) 0)else none
    |none=>none
   |none=>none
  |_=>none
 |_=>none
def lR (C:co) (t:TypeId) (x:SV) (i:PV) (k:SV→Option R):Option R:=
 match i with
 | .int _ n=>match x with
  | .v (.str u)=>bif ob C t then(bif aA n u.size then k (.v (.int .u8 (bt u n)))else none)else none
  | .agg cs=>match C.ti t with
   |some ⟨.array m e,_,_,_,_,_⟩=>match C.ti e with
    |some E=>match n7 cs 0 E.ty m with
     |some xs=>bif aA n m then sr E (inj E.ty (rd xs n)) k else none
     |none=>none
    |none=>none
   |_=>none
  |_=>none
 |_=>none
def yV (k:IntKind) (x:Int):List PV→Option PV
 | []=>some (.int k x)
 | .int _ y::r=>yV k (if y>x then y else x) r
 |_=>none
def yW (k:IntKind) (x:Int):List PV→Option PV
 | []=>some (.int k x)
 | .int _ y::r=>yW k (if y<x then y else x) r
 |_=>none
def I6:List PV→Option PV
 | .int k x::r=>yV k x r
 |_=>none
def I7:List PV→Option PV
 | .int k x::r=>yW k x r
 |_=>none
def iQ (x:SV) (i:Nat) (k:SV→Option R):Option R:=
 match x with
 | .tup cs sh=>match sh[i]? with
  |some (n,agg)=>match mi cs ((sh.take i).foldr (fun a b=>a.1+b) 0) n with
   |some c=>bif agg then k (.agg c)else match c with
    | [c]=>k (.v c)
    |_=>none
   |none=>none
  |none=>none
 |_=>none
def bU (s:St):(τ:Ty)→Fl→List PV→Option (τ.den×List PV×List Nat×List Nat)
 | .list e,.own T g,cs=>match cs with
  | .own i::cs=>match s.mem i with
   |some (.rows T' e' g' xs)=>bif Nat.beq T' T&&decide (g'=g)then match decEq e' e with
    | .isTrue h=>some (bT h xs,cs,[i],[])
    | .isFalse _=>none
    else none
   |_=>none
  | .nils::cs=>bif Nat.ble 1 e.size then some ([],cs,[],[])else none
  |_=>none
 | .opt e,.box,cs=>match cs with
  | .nilp::cs=>some (none,cs,[],[])
  | .ptr i (.at 0)::cs=>match s.mem i with
   |some (.box bs)=>bif Nat.blt (i%128) 127 then match bj e (bs.map s.dat)with
    |some x=>some (some x,cs,[i],aZ bs)
    |none=>none
    else none
   |_=>none
  |_=>none
 | .pair a b,.pair f g,cs=>match bU s a f cs with
  |some (x,cs,U,V)=>match bU s b g cs with
   |some (y,cs,U',V')=>some ((x,y),cs,U++U',V++V')
   |none=>none
  |none=>none
 |τ,_,cs=>match eH cs τ.size,bu cs τ.size with
  |some a,some b=>match bj τ (a.map s.dat)with
   |some x=>some (x,b,[],aZ a)
   |none=>none
  |_,_=>none
def ik (U V:List Nat):Bool:=U.all fun i=> !(V.any (Nat.beq i))
def kj (τ:Ty) (agg:Bool) (x:τ.den):Option SV:=
 bif agg then some (.agg (inj τ x))else match inj τ x with
  | [c]=>bif Nat.beq c.width 1 then some (.v c)else none
  |_=>none
def SV.isA:SV→Bool
 | .agg _=>true
 |_=>false
inductive Bk where
 |var (p:PV) (τ:Ty)
 |lend (cs:List PV) (τ:Ty) (f:Fl)
structure Ar where
 as:List SV
 U:List Nat
 V:List Nat
 P:List Nat
 bk:List Bk
def rQ.sv:rQ→Option SV
 | .dat τ x=>kj τ false x
 | .agg τ x=>some (.agg (inj τ x))
 | .cref τ x=>some (.v (.cptr τ x 0))
 | .ref id=>some (.v (.ptr id (.at 0)))
def fb (s:St) (p:PK) (x:SV):Option Ar:=
 match p with
 | .raw=>match x with
  | .v p=>some ⟨[.v (s.dat p)],[],p.owns,[],[]⟩
  |_=>none
 | .val τ=>match x.cells with
  |some cs=>match bj τ (cs.map s.dat)with
   |some d=>match kj τ x.isA d with
    |some y=>some ⟨[y],[],aZ cs,[],[]⟩
    |none=>none
   |none=>none
  |none=>none
 | .give τ f=>match x.cells with
  |some cs=>match bU s τ f cs with
   |some (d,[],U,V)=>match kj τ x.isA d with
    |some y=>some ⟨[y],U,V,[],[]⟩
    |none=>none
   |_=>none
  |none=>none
 | .lend τ f=>match x.cells with
  |some cs=>match bU s τ f cs with
   |some (d,[],U,V)=>match kj τ x.isA d with
    |some y=>some ⟨[y],U,V,[],[.lend cs τ f]⟩
    |none=>none
   |_=>none
  |none=>none
 | .ro τ=>match s.look x.pv τ.size with
  |some cs=>match bj τ (cs.map s.dat)with
   |some d=>some ⟨[.v (.cptr τ d 0)],[],x.pv.leads++aZ cs,[],[]⟩
   |none=>none
  |none=>none
 | .var τ f=>match x.pv with
  | .ptr id (.at o)=>match s.mem id with
   |some (.box bs)=>match mi bs o τ.size with
    |some cs=>match bU s τ f cs with
     |some (d,[],U,V)=>some ⟨[.agg (inj τ d)],U,V,[id],[.var (.ptr id (.at o)) τ]⟩
     |_=>none
    |none=>none
   |_=>none
  |_=>none
def cJ (s:St):List PK→List SV→Option Ar
 | [],[]=>some ⟨[],[],[],[],[]⟩
 |p::ps,x::xs=>match fb s p x,cJ s ps xs with
  |some a,some b=>some ⟨a.as++b.as,a.U++b.U,a.V++b.V,a.P++b.P,a.bk++b.bk⟩
  |_,_=>none
 |_,_=>none
def wQ (sh:List (Ty×Bool)) (cs:List PV):Option SV:=
 match sh with
 | []=>some (.tup [] [])
 | [(τ,true)]=>match eH cs τ.size with|some a=>some (.agg a)|none=>none
 | [(τ,false)]=>match eH cs τ.size with|some [c]=>some (.v c)|_=>none
 |sh=>match eH cs ((sh.map (·.1.size)).foldr (· + ·) 0)with
  |some a=>some (.tup a (sh.map fun x=>(x.1.size,x.2)))
  |none=>none
def F8 (id:Nat):(τ:Ty)→Fl→τ.den→Nat→(List PV→List (Nat×cx)→Nat→Option R)→Option R
 | .list e,.own T g,xs,j,k=>k [.own (id+j)] [(id+j,.rows T e g xs)] (j+1)
 | .opt e,.box,x,j,k=>match x with
  |none=>k [.nilp] [] (j+1)
  |some y=>k [.ptr (id+j) (.at 0)] [(id+j,.box (inj e y))] (j+1)
 | .pair a b,.pair f g,x,j,k=>F8 id a f x.1 j fun c u j=>F8 id b g x.2 j fun c' u' j=>k (c++c') (u++u') j
 |τ,_,x,j,k=>k (inj τ x) [] j
def ao:List (Nat×cx)→Nat→Option cx
 | [],_=>none
 |(j,x)::r,t=>bif Nat.beq t j then some x else ao r t
def tt (nw:List (Nat×cx)):(τ:Ty)→Fl→List PV→List PV→Option (List ca×List PV×List PV)
 | .list e,.own _ _,old,new=>match old,new with
  | .own i::old,.own j::new=>match ao nw j with
   |some (.rows T e' g xs)=>match decEq e' e with
    | .isTrue _=>some ([.set j .dead,.set i (.rows T e' g xs)],old,new)
    | .isFalse _=>none
   |_=>none
  | .nils::old,.own _::new=>some ([],old,new)
  |_,_=>none
 | .pair a b,.pair f g,old,new=>match tt nw a f old new with
  |some (u,old,new)=>match tt nw b g old new with
   |some (u',old,new)=>some (u++u',old,new)
   |none=>none
  |none=>none
 |τ,_,old,new=>match bu old τ.size with
  |some old=>some ([],old,new)
  |none=>none
def fe (s:St) (nw:List (Nat×cx)):List Bk→List PV→Option (List ca)
 | [],[]=>some []
 | .var (.ptr id (.at o)) τ::bs,cs=>match eH cs τ.size,bu cs τ.size with
  |some a,some b=>match s.mem id with
   |some (.box old)=>match ni old o τ.size a with
    |some new=>match fe s nw bs b with
     |some us=>some (.set id (.box new)::us)
     |none=>none
    |none=>none
   |_=>none
  |_,_=>none
 | .lend old τ f::bs,cs=>match tt nw τ f old cs with
  |some (us,[],cs)=>match fe s nw bs cs with
   |some vs=>some (us++vs)
   |none=>none
  |_=>none
 |_,_=>none
def kk:(τ:Ty)→Fl→List PV→List Nat
 | .list _,.own _ _,cs=>match cs with
  | .own i::_=>[i]
  |_=>[]
 | .pair a b,.pair f g,cs=>kk a f cs++match bu cs a.size with
  |some cs=>kk b g cs
  |none=>[]
 |_,_,_=>[]
def qo:List Bk→List Nat
 | []=>[]
 | .var (.ptr id _) _::bs=>id::qo bs
 | .var _ _::bs=>qo bs
 | .lend cs τ f::bs=>kk τ f cs++qo bs
def A3 (l:List Nat):Bool:=l.all fun i=>Nat.blt (i%128) 127
def od (C:co) (env:C.Env) (id:Nat) (s:St) (g:Nat) (sg:jO) (A:Ar) (k:SV→List ca→List Nat→Option R):Option R:=
 bif dE (A.U++A.P)&&ik (A.U++A.P) A.V&&(!(C.resTy g).shares sg.resFl||A3 A.V)&&dE (qo A.bk)&&(qo A.bk).all (fun i=>(A.U++A.P).any (Nat.beq i))then
  (env g A.as).bind fun r=>F8 id (C.resTy g) sg.resFl r 0 fun cs new j=>
   match wQ sg.res cs,bu cs ((sg.res.map (·.1.size)).foldr (· + ·) 0)with
   |some x,some back=>bif Nat.ble j 32&&gE s new&&dE (new.map (·.1))&&dE (aZ back)then
     match fe s new A.bk back with
     |some us=>k x ((bif (C.resTy g).shares sg.resFl then A.V.map .frz else[])++((A.U++A.P).map (.set · .dead)++cQ new)++us) A.V
     |none=>none
    else none
   |_,_=>none
 else none
def km (C:co) (env:C.Env) (id:Nat) (s:St) (xs:List SV) (k:SV→List ca→List Nat→Option R):List Nat→Option R
 | []=>none
 |g::gs=>match C.sig g with
  |some sg=>match cJ s sg.params xs with
   |some A=>od C env id s g sg A k
   |none=>km C env id s xs k gs
  |none=>km C env id s xs k gs
def jK (C:co) (env:C.Env) (id:Nat) (s:St) (f:FuncId) (xs:List SV) (k:SV→List ca→List Nat→Option R):Option R:=
 km C env id s xs k (C.alts f)
def nt:List rQ→Option (List SV)
 | []=>some []
 |c::cs=>match c.sv,nt cs with
  |some x,some xs=>some (x::xs)
  |_,_=>none
def IF (C:co) (env:C.Env) (id:Nat) (s:St) (x:SV) (xs:List SV) (k:SV→List ca→List Nat→Option R):Option R:=
 match x with
 | .v (.fn f caps)=>match nt caps with
  |some ys=>bif Nat.ble (C.alts f).length 1 then jK C env id s f (xs++ys) k else none
  |none=>none
 |_=>none
def tu (s:St) (p:PK) (x:SV):Option (rQ×List Nat):=
 match p with
 | .val τ=>match x.cells with
  |some cs=>match bj τ (cs.map s.dat)with
   |some d=>match kj τ x.isA d with
    |some _=>some (bif x.isA then .agg τ d else .dat τ d,aZ cs)
    |none=>none
   |none=>none
  |none=>none
 | .ro τ=>match x.pv with
  | .ptr id (.at 0)=>match oc s id with
   |some cs=>match bj τ (cs.map s.dat)with
    |some d=>some (.cref τ d,id::aZ cs)
    |none=>none
   |none=>none
  | .cptr τ' d 0=>some (.cref τ' d,[])
  |_=>none
 | .var _ _=>match x.pv with
  | .ptr id (.at 0)=>some (.ref id,[])
  |_=>none
 |_=>none
def fZ (s:St):List PK→List SV→Option (List rQ×List Nat)
 | [],[]=>some ([],[])
 |p::ps,x::xs=>match tu s p x,fZ s ps xs with
  |some (c,i),some (cs,is)=>some (c::cs,i++is)
  |_,_=>none
 |_,_=>none
def dN (C:co) (s:St) (f:FuncId) (xs:List SV) (k:PV→List ca→List Nat→Option R):Option R:=
 match C.alts f with
 |g::_=>match C.sig g with
  |some sg=>match fZ s (sg.params.drop (sg.params.length-xs.length)) xs with
   |some (cs,is)=>bif A3 is then k (.fn f cs) (is.map .frz) is else none
   |none=>none
  |none=>none
 | []=>match xs with
  | []=>k (.fn f []) [] []
  |_=>none
def yX (C:co) (env:C.Env) (id:Nat) (op:Op) (s:St) (k:SV→List ca→List Nat→Option R):Option R:=
 match op with
 | .move x| .assign x=>k (s.ev x) [] []
 | .pick c a b=>tq (s.ev c) (s.ev a) (s.ev b) fun x=>k x [] []
 | .binOp op t x y _=>match s.ev x,s.ev y with
  | .v (.bool x),.v (.bool y)=>tr C op t x y fun r=>k (.v r) [] []
  | .v x,.v y=>uK op x y fun r=>k (.v r) [] []
  | .agg x,.agg y=>Qc C op t x y fun r=>k (.v r) [] []
  |_,_=>none
 | .unOp op _ x=>match s.ev x with
  | .v x=>KE op x fun r=>k (.v r) [] []
  |_=>none
 | .alloc t=>match C.ti t with
  |some I=>cX s id (k (.v (.ptr id (.at 0))) [.set id (.box I.zero)] [])
  |none=>none
 | .box t x=>match C.ti t,(s.ev x).cells with
  |some I,some cs=>bif Nat.beq (bH cs) I.size then cX s id (k (.v (.ptr id (.at 0))) [.set id (.box cs)] [])else none
  |_,_=>none
 | .build t ps=>nr C t (s.evs ps.toList) fun cs=>k (.agg cs) [] []
 | .buildSlice t n ps=>match C.ti t with
  |some ⟨.slice e,_,_,_,_,_⟩=>match C.ti e with
   |some E=>match F7 (C.elf t id) e E.ty (s.evs ps.toList)with
    |some b=>bif Nat.beq ps.toList.length n&&Nat.ble 1 E.size&&Nat.ble (n*E.size) 16777216 then cX s id (k (.v (.own id)) [.set id b] [])else none
    |none=>match jn E.ty s 0 (s.evs ps.toList)with
    |some xs=>bif Nat.beq ps.toList.length n&&Nat.ble 1 E.size&&Nat.ble (n*E.size) 16777216 then
      cX s id (k (.v (.own id)) (Ca (bC (s.evs ps.toList))++[.set id (.rows e E.ty .no xs)]) (aZ (bC (s.evs ps.toList))))else none
    |none=>none
   |none=>none
  |_=>none
 | .makeSlice t n c=>bif Kg n c then cR C s id t (s.ev n).pv fun p us=>k (.v p) us []else none
 | .load t a=>match s.ev a with
  | .v p=>lm C s id t p fun x us=>k x us p.leads
  |_=>none
 | .store t a x=>match s.ev a with
  | .v p=>ig C s t p (s.ev x) fun us rs=>k (.v .undef) us rs
  |_=>none
 | .fieldAddr t x f=>match s.ev x,iP C t f with
  | .v p,some (off,size)=>bif Nat.ble 1 size then(match oX p off with|some p=>k (.v p) [] []|none=>none)else none
  |_,_=>none
 | .field t x f=>match s.ev x,iP C t f,mu C t f with
  | .agg cs,some (off,size),some agg=>match mi cs off size with
   |some c=>bif agg then k (.agg c) [] []else match c with
    | [c]=>bif Nat.beq c.width 1 then k (.v c) [] []else none
    |_=>none
   |none=>none
  |_,_,_=>none
 | .indexAddr t x i=>cD C s t (s.ev x).pv (s.ev i).pv fun p=>k (.v p) [] (s.ev x).pv.owns
 | .index t x i=>lR C t (s.ev x) (s.ev i).pv fun x=>k x [] []
 | .nilCheck x=>match s.ev x with
  | .v (.ptr a b)=>k (.v (.ptr a b)) [] []
  | .v (.elt a b c)=>k (.v (.elt a b c)) [] []
  | .v (.cptr a b c)=>k (.v (.cptr a b c)) [] []
  |_=>none
 | .slice t x lo hi none=>ii C s t (s.ev x).pv (lo.map fun o=>(s.ev o).pv) (hi.map fun o=>(s.ev o).pv) fun p us=>k (.v p) us []
 | .convert src dst x=>match s.ev x with
  | .v p=>bif ob C src&&mt C dst then ij C s id src dst p (fun p us=>k (.v p) us [])else lr C s src dst p fun q=>k (.v q) [] p.owns
  |_=>none
 | .extract t i=>iQ (s.ev t) i fun x=>k x [] []
 | .makeFunc (.func f) first captured=>match first.toList with
  | []=>dN C s f (captured.toList.map s.ev) fun p us rs=>k (.v p) us rs
  |_=>none
 | .call c=>match c.callee with
  | .value (.func f)=>jK C env id s f (c.args.toList.map s.ev) k
  | .value f=>IF C env id s (s.ev f) (c.args.toList.map s.ev) k
  | .builtin .len=>match c.args.toList,c.argTypes.toList with
   | [x],[t]=>ss C s t (s.ev x).pv fun p=>k (.v p) [] (s.ev x).pv.owns
   |_,_=>none
  | .builtin .append=>match c.args.toList,c.argTypes.toList with
   | [x,y],[t,t']=>bif Nat.beq t t' then ei C s id t (s.ev x).pv (s.ev y).pv fun p us=>k (.v p) us (s.ev y).pv.owns else none
   |_,_=>none
  | .builtin .max=>match I6 (c.args.toList.map fun x=>(s.ev x).pv)with
   |some p=>k (.v p) [] []
   |none=>none
  | .builtin .min=>match I7 (c.args.toList.map fun x=>(s.ev x).pv)with
   |some p=>k (.v p) [] []
   |none=>none
  |_=>none
 |_=>none
structure dA where
 w:List Nat
 f:List Nat
 r:List Nat
def bA:List ca→List Nat
 | []=>[]
 | .set id _::us=>id::bA us
 |_::us=>bA us
def updF:List ca→List Nat
 | []=>[]
 | .frz id::us=>id::updF us
 |_::us=>updF us
def bQ (s:St) (id:Nat):Bool:=match s.mem id with
 |some (.rows _ _ f _)=> !f.isNo
 |some (.opn _ _ _ _ _ _)=>true
 |_=>false
def kn (s:St) (us:List ca) (rs:List Nat):dA:=⟨bA us++(updF us).filter (bQ s),(updF us).filter (fun i=> !bQ s i),rs⟩
def oG (o:Oper) (k:St→dA→Option R) (F:dA) (x:SV) (s:St):Option R:=
 match o.dst with
 |none=>k s F
 |some d=>bif Nat.blt d s.n then k (s.put d x) F else none
def gd (ops:Array Oper) (o:Oper) (s:St) (yes no:St→Option R):Option R:=
 match o.guard with
 |none=>yes s
 |some (j,want)=>match(ops[j]?).bind (·.dst)with
  |none=>none
  |some d=>match s.tmps d with
   | .v (.bool c)=>bif c then(bif want then yes (s.put d (.v (.bool true)))else no (s.put d (.v (.bool true))))
     else(bif want then no (s.put d (.v (.bool false)))else yes (s.put d (.v (.bool false))))
   | .tup _ _=>no s
   |_=>none
def gf (C:co) (env:C.Env) (ops:Array Oper) (o:Oper) (s:St) (k:St→dA→Option R):Option R:=
 gd ops o s (fun s=>yX C env (128*o.dst.getD 0) o.op s fun x us rs=>oG o k (kn s us rs) x (s.upds us)) (oG o k ⟨[],[],[]⟩ (.tup [] []))
def closeU (s:St) (id:Nat):List ca:=match s.mem id with
 |some (.opn T e f xs i cs)=>match bU s e f cs with
  |some (x,[],U,V)=>bif dE (id::U)&&ik (id::U) V then V.map .frz++((id::U).map (.set · .dead)++[.set id (.rows T e f (xs.set i.toNat x))])else[]
  |_=>[]
 |_=>[]
def closeS:List Nat→St→St
 | [],s=>s
 |id::r,s=>closeS r (s.upds (closeU s id))
def qp (s:St):SV→List Nat
 | .v (.own id)=>[id]
 | .v (.ptr id _)=>match s.mem id with
  |some (.box cs)=>aZ cs
  |_=>[]
 | .agg cs=>aZ cs
 |_=>[]
def Kh (s:St):Op→List Nat
 | .call c=>match c.callee with
  | .builtin .append=>match c.args.toList with
   |x::_=>qp s (s.ev x)
   | []=>[]
  | .value _=>c.args.toList.flatMap fun x=>qp s (s.ev x)
  |_=>[]
 | .slice _ x _ _ _=>qp s (s.ev x)
 |_=>[]
def Co (C:co) (env:C.Env) (ops:Array Oper):List Oper→St→(St→Option R)→Option R
 | [],s,k=>k s
 |o::r,s,k=>gf C env ops o (closeS (Kh s o.op) s) fun s _=>Co C env ops r s k
def oH (C:co) (env:C.Env) (ops:Array Oper):List Oper→St→(St→List dA→Option R)→Option R
 | [],s,k=>k s []
 |o::r,s,k=>gf C env ops o s fun s F=>oH C env ops r s fun s Fs=>k s (F::Fs)
def dA.free (F G:dA):Bool:=ik F.w (G.w++(G.f++G.r))&&ik G.w (F.f++F.r)
def gF (ms:List Nat) (i:Nat):Nat:=ms.getD i 0
def tv (ms:List Nat) (i:Nat):List Edge→Option Nat
 | []=>some 0
 |e::es=>bif Region.binds .any e then(bif Nat.blt e.on i then match tv ms i es with
   |some m=>some (Nat.lor (Nat.lor (Nat.shiftLeft 1 e.on) (gF ms e.on)) m)
   |none=>none
  else none)else tv ms i es
def wR:List Oper→Nat→List Nat→Option (List Nat)
 | [],_,ms=>some ms
 |o::r,i,ms=>match tv ms i o.after.toList with
  |some m=>wR r (i+1) (ms++[m])
  |none=>none
def iR (C:co) (op:Op):Bool:=match op with
 | .call c=>match c.callee with
  | .value (.func f)=>Nat.ble (C.alts f).length 1
  |_=>true
 |_=>true
def tw (C:co) (ops:Array Oper) (i:Nat) (oi:Oper) (Fi:dA):List Oper→List Nat→List dA→Bool
 |oj::os,mj::ms,Fj::Fs=>(Nat.testBit mj i|| (iR C oi.op&&iR C oj.op&&oi.apart ops oj&&Fi.free Fj))&&tw C ops i oi Fi os ms Fs
 | [],[],[]=>true
 |_,_,_=>false
def Qt (C:co) (ops:Array Oper):Nat→List Oper→List Nat→List dA→Bool
 |i,oi::os,_::ms,Fi::Fs=>tw C ops i oi Fi os ms Fs&&Qt C ops (i+1) os ms Fs
 |_,[],[],[]=>true
 |_,_,_,_=>false
def Qu (C:co) (ops:Array Oper) (Fs:List dA):Bool:=match wR ops.toList 0 []with
 |some ms=>Qt C ops 0 ops.toList ms Fs
 |none=>false
abbrev ew (R:Type):=Exit→St→Option R
def Qv (d:ew R→St→Option R) (K:ew R):ew R:=fun e s=>match e with
 | .normal=>d K s
 |e=>K e s
def uM (id:Nat) (K:ew R):ew R:=fun e s=>match e with
 | .exit j=>bif Nat.beq j id then K .normal s else K (.exit j) s
 |e=>K e s
def ko:Code→Nat
 | .region id _ _=>id
 | .seq a _=>ko a
 | .block _ b=>ko b
 | .loop b=>ko b
 | .cond _ a _=>ko a
 |_=>0
def ak:List (Nat×SV)→Nat→SV
 | [],_=> .v .undef
 |(j,x)::r,t=>bif Nat.beq t j then x else ak r t
structure HS where
 x:SV
 ms:List (Nat×cx)
 U:List Nat
 V:List Nat
def oY (s:St) (t:Nat) (k:LK):Option HS:=
 match k,s.tmps t with
 | .val τ f,.v p=>match p with
  | .undef=>none
  |p=>match bU s τ f [p]with
   |some (x,[],U,V)=>match aX (128*t+32) τ f x 0 with
    |([c],ms,j)=>bif Nat.ble j 30 then some ⟨.v c,ms,U,V⟩else none
    |_=>none
   |_=>none
 | .agg τ f,.agg cs=>match bU s τ f cs with
  |some (x,[],U,V)=>match aX (128*t+32) τ f x 0 with
   |(cs,ms,j)=>bif Nat.ble j 30 then some ⟨.agg cs,ms,U,V⟩else none
  |_=>none
 | .box τ f,.v (.ptr id (.at 0))=>match s.mem id with
  |some (.box cs)=>match bU s τ f cs with
   |some (x,[],U,V)=>match aX (128*t+32) τ f x 0 with
    |(cs,ms,j)=>bif Nat.ble j 30&&Nat.blt (id%128) 64 then some ⟨.v (.ptr (128*t+63) (.at 0)),ms++[(128*t+63,.box cs)],id::U,V⟩else none
   |_=>none
  |_=>none
 | .par τ f,.v (.ptr id (.at 0))=>match s.mem id with
  |some (.box cs)=>match bU s τ f cs with
   |some (x,[],U,V)=>match aX (128*t+32) τ f x 0 with
    |(cs,ms,j)=>bif Nat.ble j 30&&Nat.beq (id%128) 127 then some ⟨.v (.ptr id (.at 0)),ms++[(id,.box cs)],id::U,V⟩else none
   |_=>none
  |_=>none
 | .pown T e g,.v (.own id)=>match s.mem id with
  |some (.rows T' e' g' xs)=>bif Nat.beq T' T&&decide (g'=g)&&Nat.ble 64 (id%128)then match decEq e' e with
   | .isTrue h=>some ⟨.v (.own id),[(id,.rows T e g (bT h xs))],[id],[]⟩
   | .isFalse _=>none
   else none
  |_=>none
 | .ro τ,.v (.cptr τ' x 0)=>match decEq τ' τ with
  | .isTrue _=>some ⟨.v (.cptr τ' x 0),[],[],[]⟩
  | .isFalse _=>none
 | .keep,.v p=>match p with
  | .undef=>none
  |p=>bif p.closed then some ⟨.v p,[],[],[]⟩else none
 |_,_=>none
def g7 (s:St):List (Nat×LK)→Nat→Option (List (Nat×SV)×List (Nat×cx)×List Nat×List Nat)
 | [],_=>some ([],[],[],[])
 |(t,k)::r,lo=>bif Nat.ble lo t then
   match oY s t k with
   |some H=>match g7 s r (t+1)with
    |some (ts,ms,U,V)=>some ((t,H.x)::ts,H.ms++ms,H.U++U,H.V++V)
    |none=>none
   |none=>none
  else none
def canon0 (s:St) (ls:List (Nat×LK)):Option St:=
 match g7 s ls 0 with
 |some (ts,ms,U,V)=>bif dE U&&ik U V&&dE (ms.map (·.1))then some ⟨s.n,ak ts,ao ms⟩else none
 |none=>none
def wS (s:St) (t0:Nat):Option Nat→SV
 |none=>s.tmps t0
 |some k=>match s.tmps t0 with
  | .agg cs=>match mi cs k 1 with
   |some [c]=> .v c
   |_=> .v .undef
  | .v (.ptr id (.at 0))=>match s.mem id with
   |some (.box cs)=>match mi cs k 1 with
    |some [c]=> .v c
    |_=> .v .undef
   |_=> .v .undef
  |_=> .v .undef
def kq (s q:St):List rQ→List Nat→Option (List rQ)
 | [],[]=>some []
 | .ref i::cs,t0::ts=>match s.tmps t0,q.tmps t0,kq s q cs ts with
  | .v (.ptr j (.at 0)),.v (.ptr m (.at 0)),some r=>bif Nat.beq i j then some (.ref m::r)else none
  |_,_,_=>none
 |_,_=>none
def sames (s:St):List (Nat×LK)→St→Option St
 | [],q=>some q
 |(t,.same t0 k)::r,q=>match s.tmps t,wS s t0 k,wS q t0 k with
  | .v (.own i),.v (.own j),.v (.own m)=>bif Nat.beq i j then sames s r (q.put t (.v (.own m)))else none
  | .v (.ptr i (.at 0)),.v (.ptr j (.at 0)),.v (.ptr m (.at 0))=>bif Nat.beq i j then sames s r (q.put t (.v (.ptr m (.at 0))))else none
  |_,_,_=>none
 |(t,.clos ts)::r,q=>match s.tmps t with
  | .v (.fn f caps)=>match kq s q caps ts with
   |some caps=>sames s r (q.put t (.v (.fn f caps)))
   |none=>none
  |_=>none
 |_::r,q=>sames s r q
def qr:List (Nat×LK)→List (Nat×LK)
 | []=>[]
 |(_,.sub _ _)::r=>qr r
 |(_,.same _ _)::r=>qr r
 |(_,.clos _)::r=>qr r
 |p::r=>p::qr r
def canon (s:St) (ls:List (Nat×LK)):Option St:=
 match canon0 s (qr ls)with
 |some q=>sames s ls q
 |none=>none
def subs (s:St):List (Nat×LK)→St→Option St
 | [],q=>some q
 |(t,.sub t0 k)::r,q=>match s.tmps t,s.tmps t0,q.tmps t0 with
  | .v (.own i),.v (.own p),.v (.own p')=>match s.mem p,q.mem p' with
   |some (.opn _ e _ _ n cs),some (.rows T' e' f' ys)=>match mi cs k 1,mi (aX (128*t+32) e' f' (rd ys n) 0).1 k 1 with
    |some [.own j],some [.own m]=>bif Nat.beq i j&&Nat.beq e.size e'.size&&Nat.ble (aX (128*t+32) e' f' (rd ys n) 0).2.2 30&&gE q (aX (128*t+32) e' f' (rd ys n) 0).2.1 then
      subs s r ((q.upds (.set p' .dead::(cQ (aX (128*t+32) e' f' (rd ys n) 0).2.1++[.set p' (.opn T' e' f' ys n (aX (128*t+32) e' f' (rd ys n) 0).1)]))).put t (.v (.own m)))
     else none
    |_,_=>none
   |_,_=>none
  |_,_,_=>none
 |_::r,q=>subs s r q
def A4 (s:St) (ls:List (Nat×LK)):List Nat:=ls.flatMap fun p=>match p.2 with
 | .sub _ _=>[]
 |_=>qp s (s.tmps p.1)
def nu (C:co) (f:Nat) (b:Code) (s:St):Option St:=
 match C.loop f (ko b)with
 |some ls=>match canon (closeS (A4 s ls) s) ls with
  |some q=>subs s ls q
  |none=>none
 |none=>none
def den (C:co) (f:Nat) (env:C.Env) (lp:Code→ew R→St→Option R):Code→ew R→St→Option R
 | .skip,K,s=>K .normal s
 | .ret,K,s=>K .ret s
 | .exit id,K,s=>K (.exit id) s
 | .region _ ops draw,K,s=>bif draw then oH C env ops ops.toList s fun s Fs=>bif Qu C ops Fs then K .normal s else none
  else Co C env ops ops.toList s (K .normal)
 | .seq a b,K,s=>den C f env lp a (Qv (den C f env lp b) K) s
 | .cond c a b,K,s=>match s.ev c with
  | .v (.bool c)=>bif c then den C f env lp a K s else den C f env lp b K s
  |_=>none
 | .block id b,K,s=>den C f env lp b (uM id K) s
 | .loop b,K,s=>match nu C f b s with
  |some s=>lp b K s
  |none=>none
 |_,_,_=>none
def lw (C:co) (f:Nat) (b:Code) (L:St→Option R) (K:ew R):ew R:=fun e s=>match e with
 | .normal=>match nu C f b s with
  |some s=>L s
  |none=>none
 |e=>K e s
def nv (C:co) (f:Nat) (env:C.Env):Nat→Code→ew R→St→Option R
 |0,_,_,_=>none
 |n+1,b,K,s=>den C f env (nv C f env n) b (lw C f b (nv C f env n b K) K) s
def fG (i:Nat) (τ:Ty) (f:Fl) (cs:List PV):Option (List PV×List (Nat×cx)):=match bj τ cs with
 |some x=>match aX (128*i+64) τ f x 0 with
  |(cs,ms,j)=>bif Nat.ble j 60 then some (cs,ms)else none
 |none=>none
def enter:List PK→List SV→Nat→List (Nat×SV)→List (Nat×cx)→Option (List (Nat×SV)×List (Nat×cx))
 | [],[],_,ts,ms=>some (ts,ms)
 | .var τ f::ps,.agg cs::xs,i,ts,ms=>match fG i τ f cs with
  |some (cs,m)=>enter ps xs (i+1) ((i,.v (.ptr (128*i+127) (.at 0)))::ts) ((128*i+127,.box cs)::(m++ms))
  |none=>none
 | .give τ f::ps,x::xs,i,ts,ms| .lend τ f::ps,x::xs,i,ts,ms=>match x with
  | .v c=>match fG i τ f [c]with
   |some ([c],m)=>enter ps xs (i+1) ((i,.v c)::ts) (m++ms)
   |_=>none
  | .agg cs=>match fG i τ f cs with
   |some (cs,m)=>enter ps xs (i+1) ((i,.agg cs)::ts) (m++ms)
   |none=>none
  |_=>none
 |_::ps,x::xs,i,ts,ms=>enter ps xs (i+1) ((i,x)::ts) ms
 |_,_,_,_,_=>none
def Qw:List PV→Bool
 | [c]=>Nat.beq c.width 1
 |_=>false
def dF (C:co) (s:St):List ResultVar→List (Ty×Bool)→Option (List PV)
 | [],[]=>some []
 | .tmp t::rs,(τ,agg)::ts=>match s.tmps t,dF C s rs ts with
  | .v .undef,_=>none
  | .v p,some r=>bif agg then none else(bif Nat.beq τ.size 1 then some (p::r)else none)
  | .agg cs,some r=>bif agg&&Nat.beq (bH cs) τ.size then some (cs++r)else none
  |_,_=>none
 | .cell a t::rs,(τ,agg)::ts=>match C.ti t,s.tmps a,dF C s rs ts with
  |some I,.v p,some r=>match s.look p I.size with
   |some cs=>bif Nat.beq I.size τ.size then(bif agg then(bif I.isAgg then some (cs++r)else none)else(bif I.isAgg|| !Qw cs then none else some (cs++r)))else none
   |none=>none
  |_,_,_=>none
 |_,_=>none
def kr (id:Nat):(τ:Ty)→Fl→Nat→List PV×Nat
 | .list _,.own _ _,j=>([.own (id+j)],j+1)
 | .pair a b,.pair f g,j=>match kr id a f j with
  |(c,j)=>match kr id b g j with
   |(c',j)=>(c++c',j)
 | .opt _,.box,j=>([],j+1)
 |_,_,j=>([],j)
def F9 (s:St) (i:Nat):Bool:=match s.mem i with
 |some (.rows _ _ _ _)=>true
 |_=>false
def dn (s:St):List PK→Nat→Option (List PV)
 | [],_=>some []
 | .var τ _::ps,i=>match s.mem (128*i+127),dn s ps (i+1)with
  |some (.box cs),some r=>bif Nat.beq (bH cs) τ.size then some (cs++r)else none
  |_,_=>none
 | .lend τ f::ps,i=>match dn s ps (i+1)with
  |some r=>bif (aZ (kr (128*i+64) τ f 0).1).all (F9 s)then some ((kr (128*i+64) τ f 0).1++r)else none
  |none=>none
 |_::ps,i=>dn s ps (i+1)
def oZ (s:St):List PK→Nat→List Nat
 | [],_=>[]
 | .var _ _::ps,i=>qp s (.v (.ptr (128*i+127) (.at 0)))++oZ s ps (i+1)
 | .lend τ f::ps,i=>aZ (kr (128*i+64) τ f 0).1++oZ s ps (i+1)
 |_::ps,i=>oZ s ps (i+1)
def yY (s:St) (rs:List ResultVar) (ps:List PK):List Nat:=(rs.flatMap fun r=>match r with
 | .tmp t=>qp s (s.tmps t)
 | .cell a _=>qp s (s.tmps a))++oZ s ps 0
def Qx (C:co) (f:Nat) (sg:jO) (rs:List ResultVar) (s:St):Option (C.Res f):=
 match dF C s rs sg.res,dn s sg.params 0 with
  |some a,some b=>match bU s (C.resTy f) sg.resFl (a++b)with
   |some (x,[],U,V)=>bif dE U&&ik U V then some x else none
   |_=>none
  |_,_=>none
def KF (C:co) (f:Nat) (sg:jO) (rs:List ResultVar):ew (C.Res f):=fun e s=>match e with
 | .normal| .ret=>Qx C f sg rs (closeS (yY s rs sg.params) s)
 |_=>none
def Ga (C:co) (env:C.Env) (lp:(f:Nat)→Code→ew (C.Res f)→St→Option (C.Res f)) (f:Nat) (args:List SV):Option (C.Res f):=
 match C.fn f,C.sig f with
 |some F,some sg=>match F.body,enter sg.params args 0 [] []with
  |some c,some (ts,ms)=>den C f env (lp f) c (KF C f sg F.results.toList) ⟨F.ntmps,ak ts,ao ms⟩
  |_,_=>none
 |_,_=>none
def Cp (C:co) (env:C.Env) (lp:(f:Nat)→Code→ew (C.Res f)→St→Option (C.Res f)) (f:Nat) (args:List SV):Option (C.Res f):=
 match C.prim f with
 |some p=>(p args).bind (bj (C.resTy f))
 |none=>Ga C env lp f args
def ny (C:co):Nat→C.Env
 |0=>fun _ _=>none
 |n+1=>fun f args=>Cp C (ny C n) (fun f=>nv C f (ny C n) n) f args
open Classical in
noncomputable def lim {α:Type} (F:Nat→Option α):Option α:=
 if h:∃r n,F n=some r then some (Classical.choose h)else none
noncomputable def aF (C:co):C.Env:=fun f args=>lim fun n=>ny C n f args
noncomputable def Lp (C:co) (f:Nat) (b:Code) (K:ew R) (s:St):Option R:=lim fun n=>nv C f (aF C) n b K s
def yZ:List Nat→Code→Code
 |0::p,.seq a _=>yZ p a
 |_::p,.seq _ b=>yZ p b
 |0::p,.cond _ a _=>yZ p a
 |_::p,.cond _ _ b=>yZ p b
 |_::p,.block _ b=>yZ p b
 |_::p,.loop b=>yZ p b
 |_,c=>c
noncomputable def qt (C:co) (f:Nat):List Nat→Code→ew R→ew R
 |0::p,.seq a b,K=>qt C f p a (Qv (den C f (aF C) (Lp C f) b) K)
 |_::p,.seq _ b,K=>qt C f p b K
 |0::p,.cond _ a _,K=>qt C f p a K
 |_::p,.cond _ _ b,K=>qt C f p b K
 |_::p,.block id b,K=>qt C f p b (uM id K)
 |_::p,.loop b,K=>qt C f p b (lw C f b (Lp C f b K) K)
 |_,_,K=>K
noncomputable def SF (C:co) (f:Nat) (c:Code) (rs:List ResultVar) (sg:jO) (p:List Nat) (s:St):Option (C.Res f):=
 match yZ p c with
 | .loop b=>Lp C f b (qt C f p c (KF C f sg rs)) s
 |_=>none
end
def mw {α:Type}:List (Nat×α)→Nat→Option α
 | [],_=>none
 |(j,x)::r,t=>bif Nat.beq t j then some x else mw r t
def Qy {α:Type} (l:List (Nat×List (Nat×α))) (f r:Nat):Option α:=match mw l f with|some m=>mw m r|none=>none
end Go.Ps
