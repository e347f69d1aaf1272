import Derived.Test.YtpnefldgohbepaaGreatPsA
import Derived.Orders
namespace Go.Ps
set_option linter.unusedVariables false
def andI (k:IntKind) (x y:Int):Int:=k.wrap ((BitVec.ofInt k.bits x&&&BitVec.ofInt k.bits y).toNat)
def iU (k:IntKind) (x y:Int):Int:=k.wrap ((BitVec.ofInt k.bits x|||BitVec.ofInt k.bits y).toNat)
def Sq (k:IntKind) (x y:Int):Int:=k.wrap ((BitVec.ofInt k.bits x^^^BitVec.ofInt k.bits y).toNat)
def vu (k:IntKind) (x y:Int):Int:=k.wrap ((BitVec.ofInt k.bits x&&& ~~~BitVec.ofInt k.bits y).toNat)
def dl (k:IntKind) (x y:Int):Int:=k.wrap (x*2^(min y.toNat k.bits))
def mR (k:IntKind) (x y:Int):Int:=x.fdiv (2^(min y.toNat k.bits))
def bM (a b:ByteArray):Bool:=a.toList==b.toList
def xd (a b:ByteArray):Bool:=Op.bytesLess a.toList b.toList
def bt (s:ByteArray) (i:Int):Int:=((s.data.getD i.toNat 0).toNat:Int)
section
variable {R:Type}
def Dg (op:BinOp) (a:IntKind) (m n:Int) (k:PV→Option R):Option R:=
 match op with
 | .add=>k (.int a (a.wrap (m+n)))
 | .sub=>k (.int a (a.wrap (m-n)))
 | .mul=>k (.int a (a.wrap (m*n)))
 | .quo=>bif decide (n=0)then none else k (.int a (a.wrap (m.tdiv n)))
 | .rem=>bif decide (n=0)then none else k (.int a (m.tmod n))
 | .and=>k (.int a (andI a m n))
 | .or=>k (.int a (iU a m n))
 | .xor=>k (.int a (Sq a m n))
 | .andNot=>k (.int a (vu a m n))
 | .eql=>k (.bool (decide (m=n)))
 | .neq=>k (.bool (!decide (m=n)))
 | .lss=>k (.bool (decide (m<n)))
 | .leq=>k (.bool (decide (m≤n)))
 | .gtr=>k (.bool (decide (m>n)))
 | .geq=>k (.bool (decide (m≥n)))
 |_=>none
def vv (op:BinOp) (x y:PV) (k:PV→Option R):Option R:=
 match x,y with
 | .int a m,.int b n=>
  match op with
  | .shl=>bif decide (n<0)then none else k (.int a (dl a m n))
  | .shr=>bif decide (n<0)then none else k (.int a (mR a m n))
  |op=>match decEq a b with
   | .isFalse _=>none
   | .isTrue _=>Dg op a m n k
 | .str a,.str b=>
  match op with
  | .add=>bif decide (a.size+b.size≤9223372036854775807)then k (.str (a++b))else none
  | .eql=>k (.bool (bM a b))
  | .neq=>k (.bool (!bM a b))
  | .lss=>k (.bool (xd a b))
  | .leq=>k (.bool (xd a b||bM a b))
  | .gtr=>k (.bool (!(xd a b||bM a b)))
  | .geq=>k (.bool (!xd a b))
  |_=>none
 |_,_=>none
def LX (op:UnOp) (x:PV) (k:PV→Option R):Option R:=
 match op,x with
 | .neg,.int a n=>k (.int a (a.wrap (0-n)))
 | .xor,.int a n=>k (.int a (Sq a (if a.signed then-1 else a.max) n))
 | .not,.bool b=>k (.bool (!b))
 |_,_=>none
def tZ (c a b:SV) (k:SV→Option R):Option R:=
 match c with
 | .v (.bool c)=>match a,b with
  | .v (.bool x),.v (.bool y)=>k (.v (.bool (bif c then x else y)))
  |a,b=>bif c then k a else k b
 |_=>none
def t4 (C:cv) (op:BinOp) (t:TypeId) (a b:Bool) (k:PV→Option R):Option R:=
 match C.ti t with
 |some I=>match I.ty with
  | .bool=>match op with
   | .eql=>k (.bool (a==b))
   | .neq=>k (.bool (!(a==b)))
   |_=>none
  |_=>none
 |none=>none
def TH:Ty→Bool
 | .unit| .bool| .str| .int _=>true
 | .arr e _=>TH e
 | .pair a b=>TH a&&TH b
 |_=>false
def li:(τ:Ty)→τ.den→τ.den→Bool
 | .bool,a,b=>a==b
 | .str,a,b=>bM a b
 | .int _,a,b=>decide (a=b)
 | .arr e _,xs,ys=>(xs.zip ys).all fun p=>li e p.1 p.2
 | .pair a b,x,y=>li a x.1 y.1&&li b x.2 y.2
 |_,_,_=>true
def R8 (C:cv) (op:BinOp) (t:TypeId) (x y:List PV) (k:PV→Option R):Option R:=
 match C.ti t with
 |some I=>bif I.eq&&I.isAgg&&TH I.ty then match bn I.ty x,bn I.ty y with
  |some x,some y=>match op with
   | .eql=>k (.bool (li I.ty x y))
   | .neq=>k (.bool (!li I.ty x y))
   |_=>none
  |_,_=>none
  else none
 |none=>none
def SV.cells:SV→Option (List PV)
 | .v .undef=>none
 | .v p=>some [p]
 | .agg cs=>some cs
 | .tup _ _=>none
def SV.pv:SV→PV
 | .v p=>p
 |_=> .undef
def gO:List PV→Bool
 | []=>true
 | .bool _::cs=>gO cs
 | .int _ _::cs=>gO cs
 | .str _::cs=>gO cs
 | .seg e _ _::cs=> !e.lists&&gO cs
 |_::_=>false
def PV.leads:PV→List Nat
 | .own id=>[id]
 | .ptr id _=>[id]
 | .elt id _ _=>[id]
 |_=>[]
def St.look (s:St) (p:PV) (n:Nat):Option (List PV):=
 match p with
 | .ptr id q=>match s.mem id with
  |some (.box cs)=>i7 cs q n
  |some (.fbox cs)=>i7 cs q n
  |_=>none
 | .elt id i q=>match s.mem id with
  |some (.rows _ e f xs)=>match i7 (inj e (rd xs i)) q n with
   |some cs=>bif f.isNo||gO cs then some cs else none
   |none=>none
  |some (.frows e xs)=>i7 (inj e (rd xs i)) q n
  |_=>none
 | .cptr τ x off=>mh (inj τ x) off n
 | .cell id=>bif Nat.beq n 1 then some [.ptr id (.at 0)]else none
 |_=>none
def s9 (I:TI) (cs:List PV) (k:SV→Option R):Option R:=
 bif I.isAgg then k (.agg cs)else match cs with
  | [c]=>bif Nat.beq c.width 1 then k (.v c)else none
  |_=>none
def aZ (id:Nat):(τ:Ty)→Fl→τ.den→Nat→List PV×List (Nat×cF)×Nat
 | .list e,.own T g,xs,j=>([.own (id+j)],[(id+j,.rows T e g xs)],j+1)
 | .opt e,.box,x,j=>match x with
  |none=>([.nilp],[],j+1)
  |some y=>([.ptr (id+j) (.at 0)],[(id+j,.box (inj e y))],j+1)
 | .pair a b,.pair f g,x,j=>((aZ id a f x.1 j).1++(aZ id b g x.2 (aZ id a f x.1 j).2.2).1,(aZ id a f x.1 j).2.1++(aZ id b g x.2 (aZ id a f x.1 j).2.2).2.1,(aZ id b g x.2 (aZ id a f x.1 j).2.2).2.2)
 |τ,_,x,j=>(inj τ x,[],j)
def dP:List Nat→Bool
 | []=>true
 |i::l=> !l.any (Nat.beq i)&&dP l
def gP (s:St) (l:List (Nat×cF)):Bool:=l.all fun p=>match s.mem p.1 with|none=>true|some _=>false
def cY (l:List (Nat×cF)):List cj:=l.map fun p=> .set p.1 p.2
def qX (s:St) (id:Nat) (I:TI) (p:PV) (k:SV→List cj→Option R):Option R:=
 match p with
 | .elt j i q=>match s.mem j with
  |some (.rows T e f xs)=>bif Nat.ble (aZ id e f (rd xs i) 0).2.2 32&&gP s (aZ id e f (rd xs i) 0).2.1 then
    match i7 (aZ id e f (rd xs i) 0).1 q I.size with
    |some cs=>s9 I cs fun x=>k x (.set j .dead::(cY (aZ id e f (rd xs i) 0).2.1++[.set j (.opn T e f xs i (aZ id e f (rd xs i) 0).1)]))
    |none=>none
   else none
  |some (.opn _ _ _ _ i' cs)=>bif decide (i=i')then match i7 cs q I.size with
    |some cs=>s9 I cs fun x=>k x []
    |none=>none
   else none
  |_=>none
 |_=>none
def lO (C:cv) (s:St) (id:Nat) (t:TypeId) (p:PV) (k:SV→List cj→Option R):Option R:=
 match C.ti t with
 |some I=>match s.look p I.size with
  |some cs=>s9 I cs fun x=>k x []
  |none=>qX s id I p k
 |none=>none
def eu.lo:eu→Nat
 | .at o=>o
 | .arr o _ _ _ _=>o
def eu.span (n:Nat):eu→Nat
 | .at _=>n
 | .arr _ e m _ _=>m*e.size
def eu.down (k:Nat):eu→eu
 | .at o=> .at (o-k)
 | .arr o e m j q=> .arr (o-k) e m j q
def iE:(e:Ty)→Fl→e.den→eu→Nat→List PV→Option e.den
 | .pair a b,.pair f g,x,q,n,new=>
   bif Nat.ble (q.lo+q.span n) a.size then(match iE a f x.1 q n new with
    |some y=>some (y,x.2)
    |none=>none)
   else bif Nat.ble a.size q.lo then(match iE b g x.2 (q.down a.size) n new with
    |some y=>some (x.1,y)
    |none=>none)
   else none
 |e,.no,x,q,n,new=>match iC (fun p=>p) (inj e x) q n new with
   |some cs=>bn e cs
   |none=>none
 |_,_,_,_,_,_=>none
def Fl.isBox:Fl→Bool
 | .box=>true
 |_=>false
def vw:Ty→Fl→List PV→Option (List PV)
 | .list _,.own _ _,cs=>match cs with
  | .own _::r=>some r
  | .nils::r=>some r
  |_=>none
 | .pair a b,.pair f g,cs=>match vw a f cs with
  |some r=>vw b g r
  |none=>none
 |τ,.no,cs=>bA cs τ.size
 |_,_,_=>none
def mS:Ty→Fl→List PV→Option (List PV)
 | .list e,.own _ _,cs=>match cs with
  | .nils::r=>bif Nat.ble 1 e.size then some r else none
  |_=>none
 | .pair a b,.pair f g,cs=>match mS a f cs with
  |some r=>mS b g r
  |none=>none
 |τ,.no,cs=>(fq τ cs).map (·.2)
 |_,_,_=>none
def zE (f:Fl) (τ:Ty) (cs:List PV):Fl:=match mS τ f cs with
 |some []=>bif f.isBox then .no else f
 |_=> .no
def iF (C:cv) (s:St) (t:TypeId) (p:PV) (x:SV) (k:List cj→List Nat→Option R):Option R:=
 match C.ti t,x.cells with
 |some I,some new=>bif Nat.beq (bJ new) I.size then
   match p with
   | .ptr id q=>match s.mem id with
    |some (.box cs)=>match q with
     | .at o=>match nQ cs o I.size new with
      |some cs'=>k [.set id (.box cs')] []
      |none=>none
     |q=>bif (a7 new).isEmpty then match iC s.dat cs q I.size new with
      |some cs'=>k [.set id (.box cs')] []
      |none=>none
      else none
    |_=>none
   | .elt id i q=>match s.mem id with
    |some (.rows T e f xs)=>bif f.flat e&& !(a7 new).any (Nat.beq id)then match iC s.dat (inj e (rd xs i)) q I.size (new.map s.dat)with
     |some cs'=>match bn e cs' with
      |some x'=>k (C0 new++[.set id (.rows T e f (xs.set i.toNat x'))]) (a7 new)
      |none=>none
     |none=>none
     else match(bif (a7 new).isEmpty then iE e f (rd xs i) q I.size (new.map s.dat)else none)with
     |some x'=>k [.set id (.rows T e f (xs.set i.toNat x'))] []
     |none=>match q with
      | .at 0=>bif Nat.beq I.size e.size then match vw e f new with
       |some []=>k [.set id (.opn T e f xs i new)] []
       |_=>none
       else none
      |_=>none
    |some (.opn T e f xs i' cs)=>bif decide (i=i')then match q with
     | .at o=>match nQ cs o I.size new with
      |some cs'=>k [.set id (.opn T e f xs i' cs')] []
      |none=>none
     |q=>bif (a7 new).isEmpty then match iC s.dat cs q I.size new with
      |some cs'=>k [.set id (.opn T e f xs i' cs')] []
      |none=>none
      else none
     else none
    |_=>none
   |_=>none
  else none
 |_,_=>none
def xe (place:Nat→Option (Nat×Nat)) (cs:List PV):List (Nat×SV)→Option (List PV)
 | []=>some cs
 |(i,x)::rest=>match place i,x.cells with
  |some (off,size),some new=>bif Nat.beq (bJ new) size then
    match nQ cs off size new with
    |some cs=>xe place cs rest
    |none=>none
   else none
  |_,_=>none
def nV (C:cv) (t:TypeId) (ps:List (Nat×SV)) (k:List PV→Option R):Option R:=
 match C.ti t with
 |some ⟨.struct fs _ _,_,_,z,_,_⟩=>match xe (fun i=>fs[i]?) z ps with
  |some cs=>k cs
  |none=>none
 |_=>none
def St.evs (s:St) (ps:List (Nat×Operand)):List (Nat×SV):=ps.map fun p=>(p.1,s.ev p.2)
def jC (e:Ty) (s:St):Nat→List (Nat×SV)→Option (List e.den)
 |_,[]=>some []
 |i,(j,x)::ps=>bif Nat.beq i j then
   match x.cells with
   |some c=>match bn e (c.map s.dat),jC e s (i+1) ps with
    |some x,some xs=>some (x::xs)
    |_,_=>none
   |none=>none
  else none
def bK:List (Nat×SV)→List PV
 | []=>[]
 |(_,x)::r=>(x.cells.getD [])++bK r
def G9 (f:Fl) (e:TypeId) (τ:Ty) (ps:List (Nat×SV)):Option cF:=
 bif f.isNo then none else match ps with
 | []=>some (.rows e τ f [])
 | [(0,x)]=>match x.cells with
  |some c=>match vw τ f c with
   |some []=>bif Nat.beq (bJ c) τ.size then some (.opn e τ f [τ.dflt] 0 c)else none
   |_=>none
  |none=>none
 |_=>none
def aT (xs:List Int):ByteArray:=⟨(xs.map fun n=>UInt8.ofNat n.toNat).toArray⟩
def gp (s:ByteArray):List Int:=s.data.toList.map fun b=>(b.toNat:Int)
def mT (C:cv) (t:TypeId):Bool:=match C.ti t with
 |some I=>(match I.sh with| .slice _=>true|_=>false)
 |none=>false
def oO (C:cv) (t:TypeId):Bool:=match C.ti t with
 |some I=>(match I.ty with| .str=>true|_=>false)
 |none=>false
def jc (C:cv) (t:TypeId) (e:Ty):Bool:=match C.ti t with
 |some I=>(match I.sh with
  | .slice q=>(match C.ti q with
   |some E=>Nat.beq E.size e.size
   |none=>false)
  |_=>false)
 |none=>false
def tb (C:cv) (s:St) (t:TypeId) (x:PV) (k:PV→Option R):Option R:=
 match x with
 | .str u=>bif oO C t then k (.int .i64 (u.size:Int))else none
 | .nils=>bif mT C t then k (.int .i64 0)else none
 |p=>match s.asRow p with
  |some ⟨_,xs⟩=>bif mT C t then k (.int .i64 (xs.length:Int))else none
  |none=>none
def mn (s:St) (e:Ty) (y:PV):Option (List e.den):=
 match y with
 | .nils=>some []
 |p=>match s.asList p with
  |some ⟨e',xs⟩=>match decEq e' e with
   | .isTrue h=>some (cc h xs)
   | .isFalse _=>none
  |none=>none
def lP (s:St) (y:PV):List cj:=
 match y with
 | .own id=>match s.mem id with
  |some (.rows _ _ f _)=>bif f.isNo then[]else[.frz id]
  |_=>[]
 |_=>[]
def dc (s:St) (id:Nat) (x:Option R):Option R:=match s.mem id with
 |none=>x
 |some _=>none
def aw (n b:Nat):Bool:=decide (n*b≤140737488355328)&&decide (n≤9223372036854775807)
def pp (s:St) (id:Nat) (e:TypeId) (τ:Ty) (x y:PV):Option (Nat×List cj):=
 match y with
 | .own j=>match s.mem j with
  |some (.opn T f0 f ys i cs)=>bif Nat.beq T e&& !f.isBox then match decEq f0 τ with
   | .isTrue h=>match x with
    | .nils=>some (ys.length,[.set j .dead,.set id (.opn e τ f (cc h ys) i cs)])
    | .own l=>match s.mem l with
     |some (.rows T' e' f' xs)=>bif Nat.beq T' e&&decide (f'=f)&& !Nat.beq l j then match decEq e' τ with
      | .isTrue h'=>some (xs.length+ys.length,[.set l .dead,.set j .dead,.set id (.opn e τ f (cc h' xs++cc h ys) ((xs.length:Int)+i) cs)])
      | .isFalse _=>none
      else none
     |_=>none
    |_=>none
   | .isFalse _=>none
   else none
  |some (.rows T f0 f ys)=>bif Nat.beq T e&& !f.isBox&& !f.isNo then match decEq f0 τ with
   | .isTrue h=>match x with
    | .own l=>match s.mem l with
     |some (.rows T' e' f' xs)=>bif Nat.beq T' e&&decide (f'=f)&& !Nat.beq l j then match decEq e' τ with
      | .isTrue h'=>some (xs.length+ys.length,[.set l .dead,.set j .dead,.set id (.rows e τ f (cc h' xs++cc h ys))])
      | .isFalse _=>none
      else none
     |_=>none
    |_=>none
   | .isFalse _=>none
   else none
  |_=>none
 |_=>none
def eJ (C:cv) (s:St) (id:Nat) (sl:TypeId) (x y:PV) (k:PV→List cj→Option R):Option R:=
 match C.ti sl with
 |some ⟨.slice e,_,_,_,_,_⟩=>match C.ti e with
  |some E=>bif Nat.ble 1 E.size then match pp s id e E.ty x y with
   |some (m,us)=>dc s id (bif aw m E.bytes then k (.own id) us else none)
   |none=>match mn s E.ty y with
   |some ys=>match x with
    | .nils=>dc s id (bif aw ys.length E.bytes then k (.own id) (lP s y++[.set id (.rows e E.ty .no ys)])else none)
    | .own j=>match s.mem j with
     |some (.rows T e' f xs)=>bif Nat.beq T e&&f.isNo then match decEq e' E.ty with
      | .isTrue h=>dc s id (bif aw (xs.length+ys.length) E.bytes then k (.own id) (lP s y++[.set j .dead,.set id (.rows e E.ty .no (cc h xs++ys))])else none)
      | .isFalse _=>none
      else none
     |_=>none
    |_=>none
   |none=>none
   else none
  |none=>none
 |_=>none
def jD (x:Option PV) (dflt:Int) (k:Int→Option R):Option R:=
 match x with
 |none=>k dflt
 |some (.int _ n)=>k n
 |_=>none
def iG (C:cv) (s:St) (t:TypeId) (x:PV) (lo hi:Option PV) (k:PV→List cj→Option R):Option R:=
 match x with
 | .str u=>bif oO C t then jD lo 0 fun l=>jD hi (u.size:Int) fun h=>
   bif decide (0≤l)&&decide (l≤h)&&decide (h≤(u.size:Int))then k (.str (u.extract l.toNat h.toNat)) []else none
  else none
 |p=>match s.asList p with
  |some ⟨e,xs⟩=>bif jc C t e then jD lo 0 fun l=>jD hi (xs.length:Int) fun h=>
    bif decide (0≤l)&&decide (l≤h)&&decide (h≤(xs.length:Int))then k (.list e ((xs.take h.toNat).drop l.toNat)) (p.owns.map .frz)else none
   else none
  |none=>none
def jd (C:cv) (t:TypeId):Option (TypeId×Ty):=match C.ti t with
 |some I=>(match I.sh with
  | .slice q=>(match C.ti q with
   |some E=>some (q,E.ty)
   |none=>none)
  |_=>none)
 |none=>none
def lQ (C:cv) (s:St) (src dst:TypeId) (x:PV) (k:PV→Option R):Option R:=
 match C.ti src,C.ti dst,x with
 |some _,some D,.int _ n=>match D.ty with
  | .int kd=>k (.int kd (kd.wrap n))
  |_=>none
 |some I,some D,.str t=>match I.ty,D.ty with
  | .str,.str=>k (.str t)
  |_,_=>none
 |some _,some D,x=>match D.ty,jd C src,s.asList x with
  | .str,some (_,.int .u8),some ⟨.int .u8,xs⟩=>k (.str (aT xs))
  |_,_,_=>none
 |_,_,_=>none
def iH (C:cv) (s:St) (id:Nat) (src dst:TypeId) (x:PV) (k:PV→List cj→Option R):Option R:=
 match x with
 | .str t=>bif oO C src then match jd C dst with
   |some (q,.int .u8)=>dc s id (bif decide (t.size≤9223372036854775807)then k (.own id) [.set id (.rows q (.int .u8) .box (gp t))]else none)
   |_=>none
  else none
 |_=>none
def Lo:Operand→Operand→Bool
 | .tmp a,.tmp b=>Nat.beq a b
 | .const (.int a m),.const (.int b n)=>decide (a=b)&&decide (m=n)
 |_,_=>false
def cZ (C:cv) (s:St) (id:Nat) (t:TypeId) (n:PV) (k:PV→List cj→Option R):Option R:=
 match C.ti t,n with
 |some ⟨.slice e,_,_,_,_,_⟩,.int .i64 n=>match C.ti e with
  |some E=>match bn E.ty E.zero with
   |some z=>bif Nat.ble 1 E.size then dc s id (bif decide (0≤n)&&aw n.toNat E.bytes then k (.own id) [.set id (.rows e E.ty (zE (C.elf t id) E.ty E.zero) (List.replicate n.toNat z))]else none)else none
   |none=>none
  |none=>none
 |_,_=>none
def je (C:cv) (t:TypeId) (f:Nat):Option (Nat×Nat):=
 match C.ti t with
 |some ⟨.struct fs _ _,_,_,_,_,_⟩=>fs[f]?
 |_=>none
def mU (C:cv) (t:TypeId) (f:Nat):Option Bool:=
 match C.ti t with
 |some ⟨.struct _ ags _,_,_,_,_,_⟩=>ags[f]?
 |_=>none
def eu.move (n:Nat):eu→eu
 | .at o=> .at (o+n)
 | .arr o e m j q=> .arr o e m j (q+n)
def pM (p:PV) (n:Nat):Option PV:=
 match p with
 | .ptr id q=>some (.ptr id (q.move n))
 | .elt id i q=>some (.elt id i (q.move n))
 | .cptr τ x off=>some (.cptr τ x (off+n))
 |_=>none
def xf (C:cv) (t:TypeId):Option (Nat×Ty):=match C.ti t with
 |some I=>(match I.sh with
  | .array n e=>(match C.ti e with
   |some E=>some (n,E.ty)
   |none=>none)
  |_=>none)
 |none=>none
def lR (s:St) (id:Nat):Option (List PV):=match s.mem id with
 |some (.box cs)=>some cs
 |some (.fbox cs)=>some cs
 |_=>none
def cK (C:cv) (s:St) (t:TypeId) (x i:PV) (k:PV→Option R):Option R:=
 match i with
 | .int _ n=>match x with
  | .list e xs=>bif jc C t e then(bif aG n xs.length then k (.cptr e (rd xs n) 0)else none)else none
  | .own id=>match s.asRow (.own id)with
   |some ⟨e,xs⟩=>bif jc C t e then(bif aG n xs.length then k (.elt id n (.at 0))else none)else none
   |none=>none
  | .ptr id (.at o)=>match xf C t with
   |some (m,e)=>bif aG n m then k (.ptr id (.arr o e m n 0))else none
   |none=>none
  | .elt id j (.at o)=>match xf C t with
   |some (m,e)=>bif aG n m then k (.elt id j (.arr o e m n 0))else none
   |none=>none
  | .cptr τ x o=>match xf C t with
   |some (m,e)=>match oK (inj τ x) o e m with
    |some xs=>bif aG n m then k (.cptr e (rd xs n) 0)else none
    |none=>none
   |none=>none
  |_=>none
 |_=>none
def mo (C:cv) (t:TypeId) (x:SV) (i:PV) (k:SV→Option R):Option R:=
 match i with
 | .int _ n=>match x with
  | .v (.str u)=>bif oO C t then(bif aG n u.size then k (.v (.int .u8 (bt u n)))else none)else none
  | .agg cs=>match C.ti t with
   |some ⟨.array m e,_,_,_,_,_⟩=>match C.ti e with
    |some E=>match oK cs 0 E.ty m with
     |some xs=>bif aG n m then s9 E (inj E.ty (rd xs n)) k else none
     |none=>none
    |none=>none
   |_=>none
  |_=>none
 |_=>none
def zG (k:IntKind) (x:Int):List PV→Option PV
 | []=>some (.int k x)
 | .int _ y::r=>zG k (if y>x then y else x) r
 |_=>none
def zH (k:IntKind) (x:Int):List PV→Option PV
 | []=>some (.int k x)
 | .int _ y::r=>zH k (if y<x then y else x) r
 |_=>none
def Ka:List PV→Option PV
 | .int k x::r=>zG k x r
 |_=>none
def Kb:List PV→Option PV
 | .int k x::r=>zH k x r
 |_=>none
def jf (x:SV) (i:Nat) (k:SV→Option R):Option R:=
 match x with
 | .tup cs sh=>match sh[i]? with
  |some (n,agg)=>match mh cs ((sh.take i).foldr (fun a b=>a.1+b) 0) n with
   |some c=>bif agg then k (.agg c)else match c with
    | [c]=>k (.v c)
    |_=>none
   |none=>none
  |none=>none
 |_=>none
def bZ (s:St):(τ:Ty)→Fl→List PV→Option (τ.den×List PV×List Nat×List Nat)
 | .list e,.own T g,cs=>match cs with
  | .own i::cs=>match s.mem i with
   |some (.rows T' e' g' xs)=>bif Nat.beq T' T&&decide (g'=g)then match decEq e' e with
    | .isTrue h=>some (cc h xs,cs,[i],[])
    | .isFalse _=>none
    else none
   |_=>none
  | .nils::cs=>bif Nat.ble 1 e.size then some ([],cs,[],[])else none
  |_=>none
 | .opt e,.box,cs=>match cs with
  | .nilp::cs=>some (none,cs,[],[])
  | .ptr i (.at 0)::cs=>match s.mem i with
   |some (.box bs)=>bif Nat.blt (i%128) 127 then match bn e (bs.map s.dat)with
    |some x=>some (some x,cs,[i],a7 bs)
    |none=>none
    else none
   |_=>none
  |_=>none
 | .pair a b,.pair f g,cs=>match bZ s a f cs with
  |some (x,cs,U,V)=>match bZ s b g cs with
   |some (y,cs,U',V')=>some ((x,y),cs,U++U',V++V')
   |none=>none
  |none=>none
 |τ,_,cs=>match eU cs τ.size,bA cs τ.size with
  |some a,some b=>match bn τ (a.map s.dat)with
   |some x=>some (x,b,[],a7 a)
   |none=>none
  |_,_=>none
def iI (U V:List Nat):Bool:=U.all fun i=> !(V.any (Nat.beq i))
def kD (τ:Ty) (agg:Bool) (x:τ.den):Option SV:=
 bif agg then some (.agg (inj τ x))else match inj τ x with
  | [c]=>bif Nat.beq c.width 1 then some (.v c)else none
  |_=>none
def SV.isA:SV→Bool
 | .agg _=>true
 |_=>false
inductive Bk where
 |var (p:PV) (τ:Ty)
 |lend (cs:List PV) (τ:Ty) (f:Fl)
structure Ar where
 as:List SV
 U:List Nat
 V:List Nat
 P:List Nat
 bk:List Bk
def sL.sv:sL→Option SV
 | .dat τ x=>kD τ false x
 | .agg τ x=>some (.agg (inj τ x))
 | .cref τ x=>some (.v (.cptr τ x 0))
 | .ref id=>some (.v (.ptr id (.at 0)))
def eW (s:St) (p:PK) (x:SV):Option Ar:=
 match p with
 | .raw=>match x with
  | .v p=>some ⟨[.v (s.dat p)],[],p.owns,[],[]⟩
  |_=>none
 | .val τ=>match x.cells with
  |some cs=>match bn τ (cs.map s.dat)with
   |some d=>match kD τ x.isA d with
    |some y=>some ⟨[y],[],a7 cs,[],[]⟩
    |none=>none
   |none=>none
  |none=>none
 | .give τ f=>match x.cells with
  |some cs=>match bZ s τ f cs with
   |some (d,[],U,V)=>match kD τ x.isA d with
    |some y=>some ⟨[y],U,V,[],[]⟩
    |none=>none
   |_=>none
  |none=>none
 | .lend τ f=>match x.cells with
  |some cs=>match bZ s τ f cs with
   |some (d,[],U,V)=>match kD τ x.isA d with
    |some y=>some ⟨[y],U,V,[],[.lend cs τ f]⟩
    |none=>none
   |_=>none
  |none=>none
 | .ro τ=>match s.look x.pv τ.size with
  |some cs=>match bn τ (cs.map s.dat)with
   |some d=>some ⟨[.v (.cptr τ d 0)],[],x.pv.leads++a7 cs,[],[]⟩
   |none=>none
  |none=>none
 | .var τ f=>match x.pv with
  | .ptr id (.at o)=>match s.mem id with
   |some (.box bs)=>match mh bs o τ.size with
    |some cs=>match bZ s τ f cs with
     |some (d,[],U,V)=>some ⟨[.agg (inj τ d)],U,V,[id],[.var (.ptr id (.at o)) τ]⟩
     |_=>none
    |none=>none
   |_=>none
  |_=>none
 | .dvar τ f=>match x.pv with
  | .ptr i0 (.at 0)=>match lR s i0 with
   |some [.ptr id (.at 0)]=>match s.mem id with
    |some (.box bs)=>match mh bs 0 τ.size with
     |some cs=>match bZ s τ f cs with
      |some (d,[],U,V)=>some ⟨[.agg (inj τ d)],U,i0::V,[id],[.var (.ptr id (.at 0)) τ]⟩
      |_=>none
     |none=>none
    |_=>none
   |_=>none
  |_=>none
def cQ (s:St):List PK→List SV→Option Ar
 | [],[]=>some ⟨[],[],[],[],[]⟩
 |p::ps,x::xs=>match eW s p x,cQ s ps xs with
  |some a,some b=>some ⟨a.as++b.as,a.U++b.U,a.V++b.V,a.P++b.P,a.bk++b.bk⟩
  |_,_=>none
 |_,_=>none
def xg (sh:List (Ty×Bool)) (cs:List PV):Option SV:=
 match sh with
 | []=>some (.tup [] [])
 | [(τ,true)]=>match eU cs τ.size with|some a=>some (.agg a)|none=>none
 | [(τ,false)]=>match eU cs τ.size with|some [c]=>some (.v c)|_=>none
 |sh=>match eU cs ((sh.map (·.1.size)).foldr (· + ·) 0)with
  |some a=>some (.tup a (sh.map fun x=>(x.1.size,x.2)))
  |none=>none
def Ha (id:Nat):(τ:Ty)→Fl→τ.den→Nat→(List PV→List (Nat×cF)→Nat→Option R)→Option R
 | .list e,.own T g,xs,j,k=>k [.own (id+j)] [(id+j,.rows T e g xs)] (j+1)
 | .opt e,.box,x,j,k=>match x with
  |none=>k [.nilp] [] (j+1)
  |some y=>k [.ptr (id+j) (.at 0)] [(id+j,.box (inj e y))] (j+1)
 | .pair a b,.pair f g,x,j,k=>Ha id a f x.1 j fun c u j=>Ha id b g x.2 j fun c' u' j=>k (c++c') (u++u') j
 |τ,_,x,j,k=>k (inj τ x) [] j
def ao:List (Nat×cF)→Nat→Option cF
 | [],_=>none
 |(j,x)::r,t=>bif Nat.beq t j then some x else ao r t
def t5 (nw:List (Nat×cF)):(τ:Ty)→Fl→List PV→List PV→Option (List cj×List PV×List PV)
 | .list e,.own _ _,old,new=>match old,new with
  | .own i::old,.own j::new=>match ao nw j with
   |some (.rows T e' g xs)=>match decEq e' e with
    | .isTrue _=>some ([.set j .dead,.set i (.rows T e' g xs)],old,new)
    | .isFalse _=>none
   |_=>none
  | .nils::old,.own _::new=>some ([],old,new)
  |_,_=>none
 | .pair a b,.pair f g,old,new=>match t5 nw a f old new with
  |some (u,old,new)=>match t5 nw b g old new with
   |some (u',old,new)=>some (u++u',old,new)
   |none=>none
  |none=>none
 |τ,_,old,new=>match bA old τ.size with
  |some old=>some ([],old,new)
  |none=>none
def fy (s:St) (nw:List (Nat×cF)):List Bk→List PV→Option (List cj)
 | [],[]=>some []
 | .var (.ptr id (.at o)) τ::bs,cs=>match eU cs τ.size,bA cs τ.size with
  |some a,some b=>match s.mem id with
   |some (.box old)=>match nQ old o τ.size a with
    |some new=>match fy s nw bs b with
     |some us=>some (.set id (.box new)::us)
     |none=>none
    |none=>none
   |_=>none
  |_,_=>none
 | .lend old τ f::bs,cs=>match t5 nw τ f old cs with
  |some (us,[],cs)=>match fy s nw bs cs with
   |some vs=>some (us++vs)
   |none=>none
  |_=>none
 |_,_=>none
def kE:(τ:Ty)→Fl→List PV→List Nat
 | .list _,.own _ _,cs=>match cs with
  | .own i::_=>[i]
  |_=>[]
 | .pair a b,.pair f g,cs=>kE a f cs++match bA cs a.size with
  |some cs=>kE b g cs
  |none=>[]
 |_,_,_=>[]
def qY:List Bk→List Nat
 | []=>[]
 | .var (.ptr id _) _::bs=>id::qY bs
 | .var _ _::bs=>qY bs
 | .lend cs τ f::bs=>kE τ f cs++qY bs
def BR (l:List Nat):Bool:=l.all fun i=>Nat.blt (i%128) 127
def oP (C:cv) (env:C.Env) (id:Nat) (s:St) (g:Nat) (sg:ki) (A:Ar) (k:SV→List cj→List Nat→Option R):Option R:=
 bif dP (A.U++A.P)&&iI (A.U++A.P) A.V&&(!(C.resTy g).shares sg.resFl||BR A.V)&&dP (qY A.bk)&&(qY A.bk).all (fun i=>(A.U++A.P).any (Nat.beq i))then
  (env g A.as).bind fun r=>Ha id (C.resTy g) sg.resFl r 0 fun cs new j=>
   match xg sg.res cs,bA cs ((sg.res.map (·.1.size)).foldr (· + ·) 0)with
   |some x,some back=>bif Nat.ble j 32&&gP s new&&dP (new.map (·.1))&&dP (a7 back)then
     match fy s new A.bk back with
     |some us=>k x ((bif (C.resTy g).shares sg.resFl then A.V.map .frz else[])++((A.U++A.P).map (.set · .dead)++cY new)++us) A.V
     |none=>none
    else none
   |_,_=>none
 else none
def kF (C:cv) (env:C.Env) (id:Nat) (s:St) (xs:List SV) (k:SV→List cj→List Nat→Option R):List Nat→Option R
 | []=>none
 |g::gs=>match C.sig g with
  |some sg=>match cQ s sg.params xs with
   |some A=>oP C env id s g sg A k
   |none=>kF C env id s xs k gs
  |none=>kF C env id s xs k gs
def ke (C:cv) (env:C.Env) (id:Nat) (s:St) (f:FuncId) (xs:List SV) (k:SV→List cj→List Nat→Option R):Option R:=
 kF C env id s xs k (C.alts f)
def nW:List sL→Option (List SV)
 | []=>some []
 |c::cs=>match c.sv,nW cs with
  |some x,some xs=>some (x::xs)
  |_,_=>none
def JH (C:cv) (env:C.Env) (id:Nat) (s:St) (x:SV) (xs:List SV) (k:SV→List cj→List Nat→Option R):Option R:=
 match x with
 | .v (.fn f caps)=>match nW caps with
  |some ys=>bif Nat.ble (C.alts f).length 1 then ke C env id s f (xs++ys) k else none
  |none=>none
 |_=>none
def t6 (s:St) (p:PK) (x:SV):Option (sL×List Nat):=
 match p with
 | .val τ=>match x.cells with
  |some cs=>match bn τ (cs.map s.dat)with
   |some d=>match kD τ x.isA d with
    |some _=>some (bif x.isA then .agg τ d else .dat τ d,a7 cs)
    |none=>none
   |none=>none
  |none=>none
 | .ro τ=>match x.pv with
  | .ptr id (.at 0)=>match lR s id with
   |some cs=>match bn τ (cs.map s.dat)with
    |some d=>some (.cref τ d,id::a7 cs)
    |none=>none
   |none=>none
  | .cptr τ' d 0=>some (.cref τ' d,[])
  |_=>none
 | .var _ _=>match x.pv with
  | .ptr id (.at 0)=>some (.ref id,[])
  |_=>none
 | .dvar _ _=>match x.pv with
  | .ptr id (.at 0)=>some (.ref id,[])
  |_=>none
 |_=>none
def gq (s:St):List PK→List SV→Option (List sL×List Nat)
 | [],[]=>some ([],[])
 |p::ps,x::xs=>match t6 s p x,gq s ps xs with
  |some (c,i),some (cs,is)=>some (c::cs,i++is)
  |_,_=>none
 |_,_=>none
def d7 (C:cv) (s:St) (f:FuncId) (xs:List SV) (k:PV→List cj→List Nat→Option R):Option R:=
 match C.alts f with
 |g::_=>match C.sig g with
  |some sg=>match gq s (sg.params.drop (sg.params.length-xs.length)) xs with
   |some (cs,is)=>bif BR is then k (.fn f cs) (is.map .frz) is else none
   |none=>none
  |none=>none
 | []=>match xs with
  | []=>k (.fn f []) [] []
  |_=>none
def zI (C:cv) (env:C.Env) (id:Nat) (op:Op) (s:St) (k:SV→List cj→List Nat→Option R):Option R:=
 match op with
 | .move x| .assign x=>k (s.ev x) [] []
 | .pick c a b=>tZ (s.ev c) (s.ev a) (s.ev b) fun x=>k x [] []
 | .binOp op t x y _=>match s.ev x,s.ev y with
  | .v (.bool x),.v (.bool y)=>t4 C op t x y fun r=>k (.v r) [] []
  | .v x,.v y=>vv op x y fun r=>k (.v r) [] []
  | .agg x,.agg y=>R8 C op t x y fun r=>k (.v r) [] []
  |_,_=>none
 | .unOp op _ x=>match s.ev x with
  | .v x=>LX op x fun r=>k (.v r) [] []
  |_=>none
 | .alloc t=>match C.ti t with
  |some I=>dc s id (k (.v (.ptr id (.at 0))) [.set id (.box I.zero)] [])
  |none=>none
 | .box t x=>match C.ti t,(s.ev x).cells with
  |some I,some cs=>bif Nat.beq (bJ cs) I.size then dc s id (k (.v (.ptr id (.at 0))) [.set id (.box cs)] [])else none
  |_,_=>none
 | .build t ps=>nV C t (s.evs ps.toList) fun cs=>k (.agg cs) [] []
 | .buildSlice t n ps=>match C.ti t with
  |some ⟨.slice e,_,_,_,_,_⟩=>match C.ti e with
   |some E=>match G9 (C.elf t id) e E.ty (s.evs ps.toList)with
    |some b=>bif Nat.beq ps.toList.length n&&Nat.ble 1 E.size&&Nat.ble (n*E.size) 16777216 then dc s id (k (.v (.own id)) [.set id b] [])else none
    |none=>match jC E.ty s 0 (s.evs ps.toList)with
    |some xs=>bif Nat.beq ps.toList.length n&&Nat.ble 1 E.size&&Nat.ble (n*E.size) 16777216 then
      dc s id (k (.v (.own id)) (C0 (bK (s.evs ps.toList))++[.set id (.rows e E.ty .no xs)]) (a7 (bK (s.evs ps.toList))))else none
    |none=>none
   |none=>none
  |_=>none
 | .makeSlice t n c=>bif Lo n c then cZ C s id t (s.ev n).pv fun p us=>k (.v p) us []else none
 | .load t a=>match s.ev a with
  | .v p=>lO C s id t p fun x us=>k x us p.leads
  |_=>none
 | .store t a x=>match s.ev a with
  | .v p=>iF C s t p (s.ev x) fun us rs=>k (.v .undef) us rs
  |_=>none
 | .fieldAddr t x f=>match s.ev x,je C t f with
  | .v p,some (off,size)=>bif Nat.ble 1 size then(match pM p off with|some p=>k (.v p) [] []|none=>none)else none
  |_,_=>none
 | .field t x f=>match s.ev x,je C t f,mU C t f with
  | .agg cs,some (off,size),some agg=>match mh cs off size with
   |some c=>bif agg then k (.agg c) [] []else match c with
    | [c]=>bif Nat.beq c.width 1 then k (.v c) [] []else none
    |_=>none
   |none=>none
  |_,_,_=>none
 | .indexAddr t x i=>cK C s t (s.ev x).pv (s.ev i).pv fun p=>k (.v p) [] (s.ev x).pv.owns
 | .index t x i=>mo C t (s.ev x) (s.ev i).pv fun x=>k x [] []
 | .nilCheck x=>match s.ev x with
  | .v (.ptr a b)=>k (.v (.ptr a b)) [] []
  | .v (.elt a b c)=>k (.v (.elt a b c)) [] []
  | .v (.cptr a b c)=>k (.v (.cptr a b c)) [] []
  |_=>none
 | .slice t x lo hi none=>iG C s t (s.ev x).pv (lo.map fun o=>(s.ev o).pv) (hi.map fun o=>(s.ev o).pv) fun p us=>k (.v p) us []
 | .convert src dst x=>match s.ev x with
  | .v p=>bif oO C src&&mT C dst then iH C s id src dst p (fun p us=>k (.v p) us [])else lQ C s src dst p fun q=>k (.v q) [] p.owns
  |_=>none
 | .extract t i=>jf (s.ev t) i fun x=>k x [] []
 | .makeFunc (.func f) first captured=>match first.toList with
  | []=>d7 C s f (captured.toList.map s.ev) fun p us rs=>k (.v p) us rs
  |_=>none
 | .call c=>match c.callee with
  | .value (.func f)=>ke C env id s f (c.args.toList.map s.ev) k
  | .value f=>JH C env id s (s.ev f) (c.args.toList.map s.ev) k
  | .builtin .len=>match c.args.toList,c.argTypes.toList with
   | [x],[t]=>tb C s t (s.ev x).pv fun p=>k (.v p) [] (s.ev x).pv.owns
   |_,_=>none
  | .builtin .append=>match c.args.toList,c.argTypes.toList with
   | [x,y],[t,t']=>bif Nat.beq t t' then eJ C s id t (s.ev x).pv (s.ev y).pv fun p us=>k (.v p) us (s.ev y).pv.owns else none
   |_,_=>none
  | .builtin .max=>match Ka (c.args.toList.map fun x=>(s.ev x).pv)with
   |some p=>k (.v p) [] []
   |none=>none
  | .builtin .min=>match Kb (c.args.toList.map fun x=>(s.ev x).pv)with
   |some p=>k (.v p) [] []
   |none=>none
  |_=>none
 |_=>none
structure dK where
 w:List Nat
 f:List Nat
 r:List Nat
def bD:List cj→List Nat
 | []=>[]
 | .set id _::us=>id::bD us
 |_::us=>bD us
def updF:List cj→List Nat
 | []=>[]
 | .frz id::us=>id::updF us
 |_::us=>updF us
def b9 (s:St) (id:Nat):Bool:=match s.mem id with
 |some (.rows _ _ f _)=> !f.isNo
 |some (.opn _ _ _ _ _ _)=>true
 |_=>false
def kG (s:St) (us:List cj) (rs:List Nat):dK:=⟨bD us++(updF us).filter (b9 s),(updF us).filter (fun i=> !b9 s i),rs⟩
def pq (o:Oper) (k:St→dK→Option R) (F:dK) (x:SV) (s:St):Option R:=
 match o.dst with
 |none=>k s F
 |some d=>bif Nat.blt d s.n then k (s.put d x) F else none
def gd (ops:Array Oper) (o:Oper) (s:St) (yes no:St→Option R):Option R:=
 match o.guard with
 |none=>yes s
 |some (j,want)=>match(ops[j]?).bind (·.dst)with
  |none=>none
  |some d=>match s.tmps d with
   | .v (.bool c)=>bif c then(bif want then yes (s.put d (.v (.bool true)))else no (s.put d (.v (.bool true))))
     else(bif want then no (s.put d (.v (.bool false)))else yes (s.put d (.v (.bool false))))
   | .tup _ _=>no s
   |_=>none
def gw (C:cv) (env:C.Env) (ops:Array Oper) (o:Oper) (s:St) (k:St→dK→Option R):Option R:=
 gd ops o s (fun s=>zI C env (128*o.dst.getD 0) o.op s fun x us rs=>pq o k (kG s us rs) x (s.upds us)) (pq o k ⟨[],[],[]⟩ (.tup [] []))
def closeU (s:St) (id:Nat):List cj:=match s.mem id with
 |some (.opn T e f xs i cs)=>match bZ s e f cs with
  |some (x,[],U,V)=>bif dP (id::U)&&iI (id::U) V then V.map .frz++((id::U).map (.set · .dead)++[.set id (.rows T e f (xs.set i.toNat x))])else[]
  |_=>[]
 |_=>[]
def closeS:List Nat→St→St
 | [],s=>s
 |id::r,s=>closeS r (s.upds (closeU s id))
def oQ (s:St):SV→List Nat
 | .v (.own id)=>[id]
 | .v (.ptr id _)=>match s.mem id with
  |some (.box cs)=>a7 cs
  |_=>[]
 | .agg cs=>a7 cs
 |_=>[]
def Lq (s:St):Op→List Nat
 | .call c=>match c.callee with
  | .builtin .append=>match c.args.toList with
   |x::_=>oQ s (s.ev x)
   | []=>[]
  | .value _=>c.args.toList.flatMap fun x=>oQ s (s.ev x)
  |_=>[]
 | .slice _ x _ _ _=>oQ s (s.ev x)
 |_=>[]
def Dh (C:cv) (env:C.Env) (ops:Array Oper):List Oper→St→(St→Option R)→Option R
 | [],s,k=>k s
 |o::r,s,k=>gw C env ops o (closeS (Lq s o.op) s) fun s _=>Dh C env ops r s k
def pr (C:cv) (env:C.Env) (ops:Array Oper):List Oper→St→(St→List dK→Option R)→Option R
 | [],s,k=>k s []
 |o::r,s,k=>gw C env ops o s fun s F=>pr C env ops r s fun s Fs=>k s (F::Fs)
def dK.free (F G:dK):Bool:=iI F.w (G.w++(G.f++G.r))&&iI G.w (F.f++F.r)
def gQ (ms:List Nat) (i:Nat):Nat:=ms.getD i 0
def t8 (ms:List Nat) (i:Nat):List Edge→Option Nat
 | []=>some 0
 |e::es=>bif Region.binds .any e then(bif Nat.blt e.on i then match t8 ms i es with
   |some m=>some (Nat.lor (Nat.lor (Nat.shiftLeft 1 e.on) (gQ ms e.on)) m)
   |none=>none
  else none)else t8 ms i es
def xh:List Oper→Nat→List Nat→Option (List Nat)
 | [],_,ms=>some ms
 |o::r,i,ms=>match t8 ms i o.after.toList with
  |some m=>xh r (i+1) (ms++[m])
  |none=>none
def jg (C:cv) (op:Op):Bool:=match op with
 | .call c=>match c.callee with
  | .value (.func f)=>Nat.ble (C.alts f).length 1
  |_=>true
 |_=>true
def t9 (C:cv) (ops:Array Oper) (i:Nat) (oi:Oper) (Fi:dK):List Oper→List Nat→List dK→Bool
 |oj::os,mj::ms,Fj::Fs=>(Nat.testBit mj i|| (jg C oi.op&&jg C oj.op&&oi.apart ops oj&&Fi.free Fj))&&t9 C ops i oi Fi os ms Fs
 | [],[],[]=>true
 |_,_,_=>false
def Sr (C:cv) (ops:Array Oper):Nat→List Oper→List Nat→List dK→Bool
 |i,oi::os,_::ms,Fi::Fs=>t9 C ops i oi Fi os ms Fs&&Sr C ops (i+1) os ms Fs
 |_,[],[],[]=>true
 |_,_,_,_=>false
def Ss (C:cv) (ops:Array Oper) (Fs:List dK):Bool:=match xh ops.toList 0 []with
 |some ms=>Sr C ops 0 ops.toList ms Fs
 |none=>false
abbrev eP (R:Type):=Exit→St→Option R
def Su (d:eP R→St→Option R) (K:eP R):eP R:=fun e s=>match e with
 | .normal=>d K s
 |e=>K e s
def vz (id:Nat) (K:eP R):eP R:=fun e s=>match e with
 | .exit j=>bif Nat.beq j id then K .normal s else K (.exit j) s
 |e=>K e s
def kH:Code→Nat
 | .region id _ _=>id
 | .seq a _=>kH a
 | .block _ b=>kH b
 | .loop b=>kH b
 | .cond _ a _=>kH a
 |_=>0
def am:List (Nat×SV)→Nat→SV
 | [],_=> .v .undef
 |(j,x)::r,t=>bif Nat.beq t j then x else am r t
structure HS where
 x:SV
 ms:List (Nat×cF)
 U:List Nat
 V:List Nat
def pN (s:St) (t:Nat) (k:LK):Option HS:=
 match k,s.tmps t with
 | .val τ f,.v p=>match p with
  | .undef=>none
  |p=>match bZ s τ f [p]with
   |some (x,[],U,V)=>match aZ (128*t+32) τ f x 0 with
    |([c],ms,j)=>bif Nat.ble j 30 then some ⟨.v c,ms,U,V⟩else none
    |_=>none
   |_=>none
 | .agg τ f,.agg cs=>match bZ s τ f cs with
  |some (x,[],U,V)=>match aZ (128*t+32) τ f x 0 with
   |(cs,ms,j)=>bif Nat.ble j 30 then some ⟨.agg cs,ms,U,V⟩else none
  |_=>none
 | .box τ f,.v (.ptr id (.at 0))=>match s.mem id with
  |some (.box cs)=>match bZ s τ f cs with
   |some (x,[],U,V)=>match aZ (128*t+32) τ f x 0 with
    |(cs,ms,j)=>bif Nat.ble j 30&&Nat.blt (id%128) 64 then some ⟨.v (.ptr (128*t+63) (.at 0)),ms++[(128*t+63,.box cs)],id::U,V⟩else none
   |_=>none
  |_=>none
 | .par τ f,.v (.ptr id (.at 0))=>match s.mem id with
  |some (.box cs)=>match bZ s τ f cs with
   |some (x,[],U,V)=>match aZ (128*t+32) τ f x 0 with
    |(cs,ms,j)=>bif Nat.ble j 30&&Nat.beq (id%128) 127 then some ⟨.v (.ptr id (.at 0)),ms++[(id,.box cs)],id::U,V⟩else none
   |_=>none
  |_=>none
 | .pown T e g,.v (.own id)=>match s.mem id with
  |some (.rows T' e' g' xs)=>bif Nat.beq T' T&&decide (g'=g)&&Nat.ble 64 (id%128)then match decEq e' e with
   | .isTrue h=>some ⟨.v (.own id),[(id,.rows T e g (cc h xs))],[id],[]⟩
   | .isFalse _=>none
   else none
  |_=>none
 | .ro τ,.v (.cptr τ' x 0)=>match decEq τ' τ with
  | .isTrue _=>some ⟨.v (.cptr τ' x 0),[],[],[]⟩
  | .isFalse _=>none
 | .keep,.v p=>match p with
  | .undef=>none
  |p=>bif p.closed then some ⟨.v p,[],[],[]⟩else none
 |_,_=>none
def ip (s:St):List (Nat×LK)→Nat→Option (List (Nat×SV)×List (Nat×cF)×List Nat×List Nat)
 | [],_=>some ([],[],[],[])
 |(t,k)::r,lo=>bif Nat.ble lo t then
   match pN s t k with
   |some H=>match ip s r (t+1)with
    |some (ts,ms,U,V)=>some ((t,H.x)::ts,H.ms++ms,H.U++U,H.V++V)
    |none=>none
   |none=>none
  else none
def canon0 (s:St) (ls:List (Nat×LK)):Option St:=
 match ip s ls 0 with
 |some (ts,ms,U,V)=>bif dP U&&iI U V&&dP (ms.map (·.1))then some ⟨s.n,am ts,ao ms⟩else none
 |none=>none
def xi (s:St) (t0:Nat):Option Nat→SV
 |none=>s.tmps t0
 |some k=>match s.tmps t0 with
  | .agg cs=>match mh cs k 1 with
   |some [c]=> .v c
   |_=> .v .undef
  | .v (.ptr id (.at 0))=>match s.mem id with
   |some (.box cs)=>match mh cs k 1 with
    |some [c]=> .v c
    |_=> .v .undef
   |_=> .v .undef
  |_=> .v .undef
def kI (s q:St):List sL→List Nat→Option (List sL)
 | [],[]=>some []
 | .ref i::cs,t0::ts=>match s.tmps t0,q.tmps t0,kI s q cs ts with
  | .v (.ptr j (.at 0)),.v (.ptr m (.at 0)),some r=>bif Nat.beq i j then some (.ref m::r)else none
  |_,_,_=>none
 |_,_=>none
def sames (s:St):List (Nat×LK)→St→Option St
 | [],q=>some q
 |(t,.same t0 k)::r,q=>match s.tmps t,xi s t0 k,xi q t0 k with
  | .v (.own i),.v (.own j),.v (.own m)=>bif Nat.beq i j then sames s r (q.put t (.v (.own m)))else none
  | .v (.ptr i (.at 0)),.v (.ptr j (.at 0)),.v (.ptr m (.at 0))=>bif Nat.beq i j then sames s r (q.put t (.v (.ptr m (.at 0))))else none
  |_,_,_=>none
 |(t,.clos ts)::r,q=>match s.tmps t with
  | .v (.fn f caps)=>match kI s q caps ts with
   |some caps=>sames s r (q.put t (.v (.fn f caps)))
   |none=>none
  |_=>none
 |_::r,q=>sames s r q
def qZ:List (Nat×LK)→List (Nat×LK)
 | []=>[]
 |(_,.sub _ _)::r=>qZ r
 |(_,.same _ _)::r=>qZ r
 |(_,.clos _)::r=>qZ r
 |p::r=>p::qZ r
def canon (s:St) (ls:List (Nat×LK)):Option St:=
 match canon0 s (qZ ls)with
 |some q=>sames s ls q
 |none=>none
def subs (s:St):List (Nat×LK)→St→Option St
 | [],q=>some q
 |(t,.sub t0 k)::r,q=>match s.tmps t,s.tmps t0,q.tmps t0 with
  | .v (.own i),.v (.own p),.v (.own p')=>match s.mem p,q.mem p' with
   |some (.opn _ e _ _ n cs),some (.rows T' e' f' ys)=>match mh cs k 1,mh (aZ (128*t+32) e' f' (rd ys n) 0).1 k 1 with
    |some [.own j],some [.own m]=>bif Nat.beq i j&&Nat.beq e.size e'.size&&Nat.ble (aZ (128*t+32) e' f' (rd ys n) 0).2.2 30&&gP q (aZ (128*t+32) e' f' (rd ys n) 0).2.1 then
      subs s r ((q.upds (.set p' .dead::(cY (aZ (128*t+32) e' f' (rd ys n) 0).2.1++[.set p' (.opn T' e' f' ys n (aZ (128*t+32) e' f' (rd ys n) 0).1)]))).put t (.v (.own m)))
     else none
    |_,_=>none
   |_,_=>none
  |_,_,_=>none
 |_::r,q=>subs s r q
def BS (s:St) (ls:List (Nat×LK)):List Nat:=ls.flatMap fun p=>match p.2 with
 | .sub _ _=>[]
 |_=>oQ s (s.tmps p.1)
def nX (C:cv) (f:Nat) (b:Code) (s:St):Option St:=
 match C.loop f (kH b)with
 |some ls=>match canon (closeS (BS s ls) s) ls with
  |some q=>subs s ls q
  |none=>none
 |none=>none
def den (C:cv) (f:Nat) (env:C.Env) (lp:Code→eP R→St→Option R):Code→eP R→St→Option R
 | .skip,K,s=>K .normal s
 | .ret,K,s=>K .ret s
 | .exit id,K,s=>K (.exit id) s
 | .region _ ops draw,K,s=>bif draw then pr C env ops ops.toList s fun s Fs=>bif Ss C ops Fs then K .normal s else none
  else Dh C env ops ops.toList s (K .normal)
 | .seq a b,K,s=>den C f env lp a (Su (den C f env lp b) K) s
 | .cond c a b,K,s=>match s.ev c with
  | .v (.bool c)=>bif c then den C f env lp a K s else den C f env lp b K s
  |_=>none
 | .block id b,K,s=>den C f env lp b (vz id K) s
 | .loop b,K,s=>match nX C f b s with
  |some s=>lp b K s
  |none=>none
 |_,_,_=>none
def lT (C:cv) (f:Nat) (b:Code) (L:St→Option R) (K:eP R):eP R:=fun e s=>match e with
 | .normal=>match nX C f b s with
  |some s=>L s
  |none=>none
 |e=>K e s
def nY (C:cv) (f:Nat) (env:C.Env):Nat→Code→eP R→St→Option R
 |0,_,_,_=>none
 |n+1,b,K,s=>den C f env (nY C f env n) b (lT C f b (nY C f env n b K) K) s
def fk (i:Nat) (τ:Ty) (f:Fl) (cs:List PV):Option (List PV×List (Nat×cF)):=match bn τ cs with
 |some x=>match aZ (128*i+64) τ f x 0 with
  |(cs,ms,j)=>bif Nat.ble j 60 then some (cs,ms)else none
 |none=>none
def enter:List PK→List SV→Nat→List (Nat×SV)→List (Nat×cF)→Option (List (Nat×SV)×List (Nat×cF))
 | [],[],_,ts,ms=>some (ts,ms)
 | .var τ f::ps,.agg cs::xs,i,ts,ms=>match fk i τ f cs with
  |some (cs,m)=>enter ps xs (i+1) ((i,.v (.ptr (128*i+127) (.at 0)))::ts) ((128*i+127,.box cs)::(m++ms))
  |none=>none
 | .dvar τ f::ps,.agg cs::xs,i,ts,ms=>match fk i τ f cs with
  |some (cs,m)=>enter ps xs (i+1) ((i,.v (.cell (128*i+127)))::ts) ((128*i+127,.box cs)::(m++ms))
  |none=>none
 | .give τ f::ps,x::xs,i,ts,ms| .lend τ f::ps,x::xs,i,ts,ms=>match x with
  | .v c=>match fk i τ f [c]with
   |some ([c],m)=>enter ps xs (i+1) ((i,.v c)::ts) (m++ms)
   |_=>none
  | .agg cs=>match fk i τ f cs with
   |some (cs,m)=>enter ps xs (i+1) ((i,.agg cs)::ts) (m++ms)
   |none=>none
  |_=>none
 |_::ps,x::xs,i,ts,ms=>enter ps xs (i+1) ((i,x)::ts) ms
 |_,_,_,_,_=>none
def Sw:List PV→Bool
 | [c]=>Nat.beq c.width 1
 |_=>false
def dQ (C:cv) (s:St):List ResultVar→List (Ty×Bool)→Option (List PV)
 | [],[]=>some []
 | .tmp t::rs,(τ,agg)::ts=>match s.tmps t,dQ C s rs ts with
  | .v .undef,_=>none
  | .v p,some r=>bif agg then none else(bif Nat.beq τ.size 1 then some (p::r)else none)
  | .agg cs,some r=>bif agg&&Nat.beq (bJ cs) τ.size then some (cs++r)else none
  |_,_=>none
 | .cell a t::rs,(τ,agg)::ts=>match C.ti t,s.tmps a,dQ C s rs ts with
  |some I,.v p,some r=>match s.look p I.size with
   |some cs=>bif Nat.beq I.size τ.size then(bif agg then(bif I.isAgg then some (cs++r)else none)else(bif I.isAgg|| !Sw cs then none else some (cs++r)))else none
   |none=>none
  |_,_,_=>none
 |_,_=>none
def kJ (id:Nat):(τ:Ty)→Fl→Nat→List PV×Nat
 | .list _,.own _ _,j=>([.own (id+j)],j+1)
 | .pair a b,.pair f g,j=>match kJ id a f j with
  |(c,j)=>match kJ id b g j with
   |(c',j)=>(c++c',j)
 | .opt _,.box,j=>([],j+1)
 |_,_,j=>([],j)
def Hb (s:St) (i:Nat):Bool:=match s.mem i with
 |some (.rows _ _ _ _)=>true
 |_=>false
def cR (s:St):List PK→Nat→Option (List PV)
 | [],_=>some []
 | .var τ _::ps,i=>match s.mem (128*i+127),cR s ps (i+1)with
  |some (.box cs),some r=>bif Nat.beq (bJ cs) τ.size then some (cs++r)else none
  |_,_=>none
 | .dvar τ _::ps,i=>match s.mem (128*i+127),cR s ps (i+1)with
  |some (.box cs),some r=>bif Nat.beq (bJ cs) τ.size then some (cs++r)else none
  |_,_=>none
 | .lend τ f::ps,i=>match cR s ps (i+1)with
  |some r=>bif (a7 (kJ (128*i+64) τ f 0).1).all (Hb s)then some ((kJ (128*i+64) τ f 0).1++r)else none
  |none=>none
 |_::ps,i=>cR s ps (i+1)
def mV (s:St):List PK→Nat→List Nat
 | [],_=>[]
 | .var _ _::ps,i=>oQ s (.v (.ptr (128*i+127) (.at 0)))++mV s ps (i+1)
 | .dvar _ _::ps,i=>oQ s (.v (.ptr (128*i+127) (.at 0)))++mV s ps (i+1)
 | .lend τ f::ps,i=>a7 (kJ (128*i+64) τ f 0).1++mV s ps (i+1)
 |_::ps,i=>mV s ps (i+1)
def zJ (s:St) (rs:List ResultVar) (ps:List PK):List Nat:=(rs.flatMap fun r=>match r with
 | .tmp t=>oQ s (s.tmps t)
 | .cell a _=>oQ s (s.tmps a))++mV s ps 0
def Sx (C:cv) (f:Nat) (sg:ki) (rs:List ResultVar) (s:St):Option (C.Res f):=
 match dQ C s rs sg.res,cR s sg.params 0 with
  |some a,some b=>match bZ s (C.resTy f) sg.resFl (a++b)with
   |some (x,[],U,V)=>bif dP U&&iI U V then some x else none
   |_=>none
  |_,_=>none
def LY (C:cv) (f:Nat) (sg:ki) (rs:List ResultVar):eP (C.Res f):=fun e s=>match e with
 | .normal| .ret=>Sx C f sg rs (closeS (zJ s rs sg.params) s)
 |_=>none
def Hc (C:cv) (env:C.Env) (lp:(f:Nat)→Code→eP (C.Res f)→St→Option (C.Res f)) (f:Nat) (args:List SV):Option (C.Res f):=
 match C.fn f,C.sig f with
 |some F,some sg=>match F.body,enter sg.params args 0 [] []with
  |some c,some (ts,ms)=>den C f env (lp f) c (LY C f sg F.results.toList) ⟨F.ntmps,am ts,ao ms⟩
  |_,_=>none
 |_,_=>none
def Di (C:cv) (env:C.Env) (lp:(f:Nat)→Code→eP (C.Res f)→St→Option (C.Res f)) (f:Nat) (args:List SV):Option (C.Res f):=
 match C.prim f with
 |some p=>(p args).bind (bn (C.resTy f))
 |none=>Hc C env lp f args
def nZ (C:cv):Nat→C.Env
 |0=>fun _ _=>none
 |n+1=>fun f args=>Di C (nZ C n) (fun f=>nY C f (nZ C n) n) f args
open Classical in
noncomputable def lim {α:Type} (F:Nat→Option α):Option α:=
 if h:∃r n,F n=some r then some (Classical.choose h)else none
noncomputable def aD (C:cv):C.Env:=fun f args=>lim fun n=>nZ C n f args
noncomputable def Lp (C:cv) (f:Nat) (b:Code) (K:eP R) (s:St):Option R:=lim fun n=>nY C f (aD C) n b K s
def zK:List Nat→Code→Code
 |0::p,.seq a _=>zK p a
 |_::p,.seq _ b=>zK p b
 |0::p,.cond _ a _=>zK p a
 |_::p,.cond _ _ b=>zK p b
 |_::p,.block _ b=>zK p b
 |_::p,.loop b=>zK p b
 |_,c=>c
noncomputable def rb (C:cv) (f:Nat):List Nat→Code→eP R→eP R
 |0::p,.seq a b,K=>rb C f p a (Su (den C f (aD C) (Lp C f) b) K)
 |_::p,.seq _ b,K=>rb C f p b K
 |0::p,.cond _ a _,K=>rb C f p a K
 |_::p,.cond _ _ b,K=>rb C f p b K
 |_::p,.block id b,K=>rb C f p b (vz id K)
 |_::p,.loop b,K=>rb C f p b (lT C f b (Lp C f b K) K)
 |_,_,K=>K
noncomputable def UZ (C:cv) (f:Nat) (c:Code) (rs:List ResultVar) (sg:ki) (p:List Nat) (s:St):Option (C.Res f):=
 match zK p c with
 | .loop b=>Lp C f b (rb C f p c (LY C f sg rs)) s
 |_=>none
end
def mW {α:Type}:List (Nat×α)→Nat→Option α
 | [],_=>none
 |(j,x)::r,t=>bif Nat.beq t j then some x else mW r t
def U3 {α:Type} (l:List (Nat×List (Nat×α))) (f r:Nat):Option α:=match mW l f with|some m=>mW m r|none=>none
end Go.Ps
