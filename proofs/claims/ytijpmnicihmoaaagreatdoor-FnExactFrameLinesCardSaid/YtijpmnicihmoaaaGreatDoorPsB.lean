import Derived.Test.YtijpmnicihmoaaaGreatDoorPsA
import Derived.Orders
namespace Go.Ps
set_option linter.unusedVariables false
def andI (k:IntKind) (x y:Int):Int:=k.wrap ((BitVec.ofInt k.bits x&&&BitVec.ofInt k.bits y).toNat)
def iD (k:IntKind) (x y:Int):Int:=k.wrap ((BitVec.ofInt k.bits x|||BitVec.ofInt k.bits y).toNat)
def QD (k:IntKind) (x y:Int):Int:=k.wrap ((BitVec.ofInt k.bits x^^^BitVec.ofInt k.bits y).toNat)
def uP (k:IntKind) (x y:Int):Int:=k.wrap ((BitVec.ofInt k.bits x&&& ~~~BitVec.ofInt k.bits y).toNat)
def de (k:IntKind) (x y:Int):Int:=k.wrap (x*2^(min y.toNat k.bits))
def mr (k:IntKind) (x y:Int):Int:=x.fdiv (2^(min y.toNat k.bits))
def bN (a b:ByteArray):Bool:=a.toList==b.toList
def wN (a b:ByteArray):Bool:=Op.bytesLess a.toList b.toList
def bt (s:ByteArray) (i:Int):Int:=((s.data.getD i.toNat 0).toNat:Int)
section
variable {R:Type}
def Cl (op:BinOp) (a:IntKind) (m n:Int) (k:PV→Option R):Option R:=
 match op with
 | .add=>k (.int a (a.wrap (m+n)))
 | .sub=>k (.int a (a.wrap (m-n)))
 | .mul=>k (.int a (a.wrap (m*n)))
 | .quo=>bif decide (n=0)then none else k (.int a (a.wrap (m.tdiv n)))
 | .rem=>bif decide (n=0)then none else k (.int a (m.tmod n))
 | .and=>k (.int a (andI a m n))
 | .or=>k (.int a (iD a m n))
 | .xor=>k (.int a (QD a m n))
 | .andNot=>k (.int a (uP a m n))
 | .eql=>k (.bool (decide (m=n)))
 | .neq=>k (.bool (!decide (m=n)))
 | .lss=>k (.bool (decide (m<n)))
 | .leq=>k (.bool (decide (m≤n)))
 | .gtr=>k (.bool (decide (m>n)))
 | .geq=>k (.bool (decide (m≥n)))
 |_=>none
def uQ (op:BinOp) (x y:PV) (k:PV→Option R):Option R:=
 match x,y with
 | .int a m,.int b n=>
  match op with
  | .shl=>bif decide (n<0)then none else k (.int a (de a m n))
  | .shr=>bif decide (n<0)then none else k (.int a (mr a m n))
  |op=>match decEq a b with
   | .isFalse _=>none
   | .isTrue _=>Cl op a m n k
 | .str a,.str b=>
  match op with
  | .add=>bif decide (a.size+b.size≤9223372036854775807)then k (.str (a++b))else none
  | .eql=>k (.bool (bN a b))
  | .neq=>k (.bool (!bN a b))
  | .lss=>k (.bool (wN a b))
  | .leq=>k (.bool (wN a b||bN a b))
  | .gtr=>k (.bool (!(wN a b||bN a b)))
  | .geq=>k (.bool (!wN a b))
  |_=>none
 |_,_=>none
def KK (op:UnOp) (x:PV) (k:PV→Option R):Option R:=
 match op,x with
 | .neg,.int a n=>k (.int a (a.wrap (0-n)))
 | .xor,.int a n=>k (.int a (QD a (if a.signed then-1 else a.max) n))
 | .not,.bool b=>k (.bool (!b))
 |_,_=>none
def tw (c a b:SV) (k:SV→Option R):Option R:=
 match c with
 | .v (.bool c)=>match a,b with
  | .v (.bool x),.v (.bool y)=>k (.v (.bool (bif c then x else y)))
  |a,b=>bif c then k a else k b
 |_=>none
def tx (C:cr) (op:BinOp) (t:TypeId) (a b:Bool) (k:PV→Option R):Option R:=
 match C.ti t with
 |some I=>match I.ty with
  | .bool=>match op with
   | .eql=>k (.bool (a==b))
   | .neq=>k (.bool (!(a==b)))
   |_=>none
  |_=>none
 |none=>none
def RJ:Ty→Bool
 | .unit| .bool| .str| .int _=>true
 | .arr e _=>RJ e
 | .pair a b=>RJ a&&RJ b
 |_=>false
def kR:(τ:Ty)→τ.den→τ.den→Bool
 | .bool,a,b=>a==b
 | .str,a,b=>bN a b
 | .int _,a,b=>decide (a=b)
 | .arr e _,xs,ys=>(xs.zip ys).all fun p=>kR e p.1 p.2
 | .pair a b,x,y=>kR a x.1 y.1&&kR b x.2 y.2
 |_,_,_=>true
def Qr (C:cr) (op:BinOp) (t:TypeId) (x y:List PV) (k:PV→Option R):Option R:=
 match C.ti t with
 |some I=>bif I.eq&&I.isAgg&&RJ I.ty then match bl I.ty x,bl I.ty y with
  |some x,some y=>match op with
   | .eql=>k (.bool (kR I.ty x y))
   | .neq=>k (.bool (!kR I.ty x y))
   |_=>none
  |_,_=>none
  else none
 |none=>none
def SV.cells:SV→Option (List PV)
 | .v .undef=>none
 | .v p=>some [p]
 | .agg cs=>some cs
 | .tup _ _=>none
def SV.pv:SV→PV
 | .v p=>p
 |_=> .undef
def gB:List PV→Bool
 | []=>true
 | .bool _::cs=>gB cs
 | .int _ _::cs=>gB cs
 | .str _::cs=>gB cs
 | .seg e _ _::cs=> !e.lists&&gB cs
 |_::_=>false
def PV.leads:PV→List Nat
 | .own id=>[id]
 | .ptr id _=>[id]
 | .elt id _ _=>[id]
 |_=>[]
def St.look (s:St) (p:PV) (n:Nat):Option (List PV):=
 match p with
 | .ptr id q=>match s.mem id with
  |some (.box cs)=>iK cs q n
  |some (.fbox cs)=>iK cs q n
  |_=>none
 | .elt id i q=>match s.mem id with
  |some (.rows _ e f xs)=>match iK (inj e (rd xs i)) q n with
   |some cs=>bif f.isNo||gB cs then some cs else none
   |none=>none
  |some (.frows e xs)=>iK (inj e (rd xs i)) q n
  |_=>none
 | .cptr τ x off=>ml (inj τ x) off n
 |_=>none
def so (I:TI) (cs:List PV) (k:SV→Option R):Option R:=
 bif I.isAgg then k (.agg cs)else match cs with
  | [c]=>bif Nat.beq c.width 1 then k (.v c)else none
  |_=>none
def aY (id:Nat):(τ:Ty)→Fl→τ.den→Nat→List PV×List (Nat×cD)×Nat
 | .list e,.own T g,xs,j=>([.own (id+j)],[(id+j,.rows T e g xs)],j+1)
 | .opt e,.box,x,j=>match x with
  |none=>([.nilp],[],j+1)
  |some y=>([.ptr (id+j) (.at 0)],[(id+j,.box (inj e y))],j+1)
 | .pair a b,.pair f g,x,j=>((aY id a f x.1 j).1++(aY id b g x.2 (aY id a f x.1 j).2.2).1,(aY id a f x.1 j).2.1++(aY id b g x.2 (aY id a f x.1 j).2.2).2.1,(aY id b g x.2 (aY id a f x.1 j).2.2).2.2)
 |τ,_,x,j=>(inj τ x,[],j)
def dF:List Nat→Bool
 | []=>true
 |i::l=> !l.any (Nat.beq i)&&dF l
def gC (s:St) (l:List (Nat×cD)):Bool:=l.all fun p=>match s.mem p.1 with|none=>true|some _=>false
def cT (l:List (Nat×cD)):List cc:=l.map fun p=> .set p.1 p.2
def qo (s:St) (id:Nat) (I:TI) (p:PV) (k:SV→List cc→Option R):Option R:=
 match p with
 | .elt j i q=>match s.mem j with
  |some (.rows T e f xs)=>bif Nat.ble (aY id e f (rd xs i) 0).2.2 32&&gC s (aY id e f (rd xs i) 0).2.1 then
    match iK (aY id e f (rd xs i) 0).1 q I.size with
    |some cs=>so I cs fun x=>k x (.set j .dead::(cT (aY id e f (rd xs i) 0).2.1++[.set j (.opn T e f xs i (aY id e f (rd xs i) 0).1)]))
    |none=>none
   else none
  |some (.opn _ _ _ _ i' cs)=>bif decide (i=i')then match iK cs q I.size with
    |some cs=>so I cs fun x=>k x []
    |none=>none
   else none
  |_=>none
 |_=>none
def lm (C:cr) (s:St) (id:Nat) (t:TypeId) (p:PV) (k:SV→List cc→Option R):Option R:=
 match C.ti t with
 |some I=>match s.look p I.size with
  |some cs=>so I cs fun x=>k x []
  |none=>qo s id I p k
 |none=>none
def d7.lo:d7→Nat
 | .at o=>o
 | .arr o _ _ _ _=>o
def d7.span (n:Nat):d7→Nat
 | .at _=>n
 | .arr _ e m _ _=>m*e.size
def d7.down (k:Nat):d7→d7
 | .at o=> .at (o-k)
 | .arr o e m j q=> .arr (o-k) e m j q
def ie:(e:Ty)→Fl→e.den→d7→Nat→List PV→Option e.den
 | .pair a b,.pair f g,x,q,n,new=>
   bif Nat.ble (q.lo+q.span n) a.size then(match ie a f x.1 q n new with
    |some y=>some (y,x.2)
    |none=>none)
   else bif Nat.ble a.size q.lo then(match ie b g x.2 (q.down a.size) n new with
    |some y=>some (x.1,y)
    |none=>none)
   else none
 |e,.no,x,q,n,new=>match ib (fun p=>p) (inj e x) q n new with
   |some cs=>bl e cs
   |none=>none
 |_,_,_,_,_,_=>none
def Fl.isBox:Fl→Bool
 | .box=>true
 |_=>false
def uR:Ty→Fl→List PV→Option (List PV)
 | .list _,.own _ _,cs=>match cs with
  | .own _::r=>some r
  | .nils::r=>some r
  |_=>none
 | .pair a b,.pair f g,cs=>match uR a f cs with
  |some r=>uR b g r
  |none=>none
 |τ,.no,cs=>bx cs τ.size
 |_,_,_=>none
def mt:Ty→Fl→List PV→Option (List PV)
 | .list e,.own _ _,cs=>match cs with
  | .nils::r=>bif Nat.ble 1 e.size then some r else none
  |_=>none
 | .pair a b,.pair f g,cs=>match mt a f cs with
  |some r=>mt b g r
  |none=>none
 |τ,.no,cs=>(eT τ cs).map (·.2)
 |_,_,_=>none
def yX (f:Fl) (τ:Ty) (cs:List PV):Fl:=match mt τ f cs with
 |some []=>bif f.isBox then .no else f
 |_=> .no
def ig (C:cr) (s:St) (t:TypeId) (p:PV) (x:SV) (k:List cc→List Nat→Option R):Option R:=
 match C.ti t,x.cells with
 |some I,some new=>bif Nat.beq (bI new) I.size then
   match p with
   | .ptr id q=>match s.mem id with
    |some (.box cs)=>match q with
     | .at o=>match nj cs o I.size new with
      |some cs'=>k [.set id (.box cs')] []
      |none=>none
     |q=>bif (aZ new).isEmpty then match ib s.dat cs q I.size new with
      |some cs'=>k [.set id (.box cs')] []
      |none=>none
      else none
    |_=>none
   | .elt id i q=>match s.mem id with
    |some (.rows T e f xs)=>bif f.flat e&& !(aZ new).any (Nat.beq id)then match ib s.dat (inj e (rd xs i)) q I.size (new.map s.dat)with
     |some cs'=>match bl e cs' with
      |some x'=>k (B8 new++[.set id (.rows T e f (xs.set i.toNat x'))]) (aZ new)
      |none=>none
     |none=>none
     else match(bif (aZ new).isEmpty then ie e f (rd xs i) q I.size (new.map s.dat)else none)with
     |some x'=>k [.set id (.rows T e f (xs.set i.toNat x'))] []
     |none=>match q with
      | .at 0=>bif Nat.beq I.size e.size then match uR e f new with
       |some []=>k [.set id (.opn T e f xs i new)] []
       |_=>none
       else none
      |_=>none
    |some (.opn T e f xs i' cs)=>bif decide (i=i')then match q with
     | .at o=>match nj cs o I.size new with
      |some cs'=>k [.set id (.opn T e f xs i' cs')] []
      |none=>none
     |q=>bif (aZ new).isEmpty then match ib s.dat cs q I.size new with
      |some cs'=>k [.set id (.opn T e f xs i' cs')] []
      |none=>none
      else none
     else none
    |_=>none
   |_=>none
  else none
 |_,_=>none
def wO (place:Nat→Option (Nat×Nat)) (cs:List PV):List (Nat×SV)→Option (List PV)
 | []=>some cs
 |(i,x)::rest=>match place i,x.cells with
  |some (off,size),some new=>bif Nat.beq (bI new) size then
    match nj cs off size new with
    |some cs=>wO place cs rest
    |none=>none
   else none
  |_,_=>none
def ns (C:cr) (t:TypeId) (ps:List (Nat×SV)) (k:List PV→Option R):Option R:=
 match C.ti t with
 |some ⟨.struct fs _ _,_,_,z,_,_⟩=>match wO (fun i=>fs[i]?) z ps with
  |some cs=>k cs
  |none=>none
 |_=>none
def St.evs (s:St) (ps:List (Nat×Operand)):List (Nat×SV):=ps.map fun p=>(p.1,s.ev p.2)
def jo (e:Ty) (s:St):Nat→List (Nat×SV)→Option (List e.den)
 |_,[]=>some []
 |i,(j,x)::ps=>bif Nat.beq i j then
   match x.cells with
   |some c=>match bl e (c.map s.dat),jo e s (i+1) ps with
    |some x,some xs=>some (x::xs)
    |_,_=>none
   |none=>none
  else none
def bE:List (Nat×SV)→List PV
 | []=>[]
 |(_,x)::r=>(x.cells.getD [])++bE r
def F4 (f:Fl) (e:TypeId) (τ:Ty) (ps:List (Nat×SV)):Option cD:=
 bif f.isNo then none else match ps with
 | []=>some (.rows e τ f [])
 | [(0,x)]=>match x.cells with
  |some c=>match uR τ f c with
   |some []=>bif Nat.beq (bI c) τ.size then some (.opn e τ f [τ.dflt] 0 c)else none
   |_=>none
  |none=>none
 |_=>none
def aS (xs:List Int):ByteArray:=⟨(xs.map fun n=>UInt8.ofNat n.toNat).toArray⟩
def fX (s:ByteArray):List Int:=s.data.toList.map fun b=>(b.toNat:Int)
def mu (C:cr) (t:TypeId):Bool:=match C.ti t with
 |some I=>(match I.sh with| .slice _=>true|_=>false)
 |none=>false
def oc (C:cr) (t:TypeId):Bool:=match C.ti t with
 |some I=>(match I.ty with| .str=>true|_=>false)
 |none=>false
def iO (C:cr) (t:TypeId) (e:Ty):Bool:=match C.ti t with
 |some I=>(match I.sh with
  | .slice q=>(match C.ti q with
   |some E=>Nat.beq E.size e.size
   |none=>false)
  |_=>false)
 |none=>false
def sq (C:cr) (s:St) (t:TypeId) (x:PV) (k:PV→Option R):Option R:=
 match x with
 | .str u=>bif oc C t then k (.int .i64 (u.size:Int))else none
 | .nils=>bif mu C t then k (.int .i64 0)else none
 |p=>match s.asRow p with
  |some ⟨_,xs⟩=>bif mu C t then k (.int .i64 (xs.length:Int))else none
  |none=>none
def lQ (s:St) (e:Ty) (y:PV):Option (List e.den):=
 match y with
 | .nils=>some []
 |p=>match s.asList p with
  |some ⟨e',xs⟩=>match decEq e' e with
   | .isTrue h=>some (bV h xs)
   | .isFalse _=>none
  |none=>none
def lq (s:St) (y:PV):List cc:=
 match y with
 | .own id=>match s.mem id with
  |some (.rows _ _ f _)=>bif f.isNo then[]else[.frz id]
  |_=>[]
 |_=>[]
def cY (s:St) (id:Nat) (x:Option R):Option R:=match s.mem id with
 |none=>x
 |some _=>none
def aI (n b:Nat):Bool:=decide (n*b≤140737488355328)&&decide (n≤9223372036854775807)
def oH (s:St) (id:Nat) (e:TypeId) (τ:Ty) (x y:PV):Option (Nat×List cc):=
 match y with
 | .own j=>match s.mem j with
  |some (.opn T f0 f ys i cs)=>bif Nat.beq T e&& !f.isBox then match decEq f0 τ with
   | .isTrue h=>match x with
    | .nils=>some (ys.length,[.set j .dead,.set id (.opn e τ f (bV h ys) i cs)])
    | .own l=>match s.mem l with
     |some (.rows T' e' f' xs)=>bif Nat.beq T' e&&decide (f'=f)&& !Nat.beq l j then match decEq e' τ with
      | .isTrue h'=>some (xs.length+ys.length,[.set l .dead,.set j .dead,.set id (.opn e τ f (bV h' xs++bV h ys) ((xs.length:Int)+i) cs)])
      | .isFalse _=>none
      else none
     |_=>none
    |_=>none
   | .isFalse _=>none
   else none
  |some (.rows T f0 f ys)=>bif Nat.beq T e&& !f.isBox&& !f.isNo then match decEq f0 τ with
   | .isTrue h=>match x with
    | .own l=>match s.mem l with
     |some (.rows T' e' f' xs)=>bif Nat.beq T' e&&decide (f'=f)&& !Nat.beq l j then match decEq e' τ with
      | .isTrue h'=>some (xs.length+ys.length,[.set l .dead,.set j .dead,.set id (.rows e τ f (bV h' xs++bV h ys))])
      | .isFalse _=>none
      else none
     |_=>none
    |_=>none
   | .isFalse _=>none
   else none
  |_=>none
 |_=>none
def ej (C:cr) (s:St) (id:Nat) (sl:TypeId) (x y:PV) (k:PV→List cc→Option R):Option R:=
 match C.ti sl with
 |some ⟨.slice e,_,_,_,_,_⟩=>match C.ti e with
  |some E=>bif Nat.ble 1 E.size then match oH s id e E.ty x y with
   |some (m,us)=>cY s id (bif aI m E.bytes then k (.own id) us else none)
   |none=>match lQ s E.ty y with
   |some ys=>match x with
    | .nils=>cY s id (bif aI ys.length E.bytes then k (.own id) (lq s y++[.set id (.rows e E.ty .no ys)])else none)
    | .own j=>match s.mem j with
     |some (.rows T e' f xs)=>bif Nat.beq T e&&f.isNo then match decEq e' E.ty with
      | .isTrue h=>cY s id (bif aI (xs.length+ys.length) E.bytes then k (.own id) (lq s y++[.set j .dead,.set id (.rows e E.ty .no (bV h xs++ys))])else none)
      | .isFalse _=>none
      else none
     |_=>none
    |_=>none
   |none=>none
   else none
  |none=>none
 |_=>none
def jp (x:Option PV) (dflt:Int) (k:Int→Option R):Option R:=
 match x with
 |none=>k dflt
 |some (.int _ n)=>k n
 |_=>none
def ii (C:cr) (s:St) (t:TypeId) (x:PV) (lo hi:Option PV) (k:PV→List cc→Option R):Option R:=
 match x with
 | .str u=>bif oc C t then jp lo 0 fun l=>jp hi (u.size:Int) fun h=>
   bif decide (0≤l)&&decide (l≤h)&&decide (h≤(u.size:Int))then k (.str (u.extract l.toNat h.toNat)) []else none
  else none
 |p=>match s.asList p with
  |some ⟨e,xs⟩=>bif iO C t e then jp lo 0 fun l=>jp hi (xs.length:Int) fun h=>
    bif decide (0≤l)&&decide (l≤h)&&decide (h≤(xs.length:Int))then k (.list e ((xs.take h.toNat).drop l.toNat)) (p.owns.map .frz)else none
   else none
  |none=>none
def iP (C:cr) (t:TypeId):Option (TypeId×Ty):=match C.ti t with
 |some I=>(match I.sh with
  | .slice q=>(match C.ti q with
   |some E=>some (q,E.ty)
   |none=>none)
  |_=>none)
 |none=>none
def lr (C:cr) (s:St) (src dst:TypeId) (x:PV) (k:PV→Option R):Option R:=
 match C.ti src,C.ti dst,x with
 |some _,some D,.int _ n=>match D.ty with
  | .int kd=>k (.int kd (kd.wrap n))
  |_=>none
 |some I,some D,.str t=>match I.ty,D.ty with
  | .str,.str=>k (.str t)
  |_,_=>none
 |some _,some D,x=>match D.ty,iP C src,s.asList x with
  | .str,some (_,.int .u8),some ⟨.int .u8,xs⟩=>k (.str (aS xs))
  |_,_,_=>none
 |_,_,_=>none
def ij (C:cr) (s:St) (id:Nat) (src dst:TypeId) (x:PV) (k:PV→List cc→Option R):Option R:=
 match x with
 | .str t=>bif oc C src then match iP C dst with
   |some (q,.int .u8)=>cY s id (bif decide (t.size≤9223372036854775807)then k (.own id) [.set id (.rows q (.int .u8) .box (fX t))]else none)
   |_=>none
  else none
 |_=>none
def Kk:Operand→Operand→Bool
 | .tmp a,.tmp b=>Nat.beq a b
 | .const (.int a m),.const (.int b n)=>decide (a=b)&&decide (m=n)
 |_,_=>false
def cU (C:cr) (s:St) (id:Nat) (t:TypeId) (n:PV) (k:PV→List cc→Option R):Option R:=
 match C.ti t,n with
 |some ⟨.slice e,_,_,_,_,_⟩,.int .i64 n=>match C.ti e with
  |some E=>match bl E.ty E.zero with
   |some z=>bif Nat.ble 1 E.size then cY s id (bif decide (0≤n)&&aI n.toNat E.bytes then k (.own id) [.set id (.rows e E.ty (yX (C.elf t id) E.ty E.zero) (List.replicate n.toNat z))]else none)else none
   |none=>none
  |none=>none
 |_,_=>none
def iQ (C:cr) (t:TypeId) (f:Nat):Option (Nat×Nat):=
 match C.ti t with
 |some ⟨.struct fs _ _,_,_,_,_,_⟩=>fs[f]?
 |_=>none
def mw (C:cr) (t:TypeId) (f:Nat):Option Bool:=
 match C.ti t with
 |some ⟨.struct _ ags _,_,_,_,_,_⟩=>ags[f]?
 |_=>none
def d7.move (n:Nat):d7→d7
 | .at o=> .at (o+n)
 | .arr o e m j q=> .arr o e m j (q+n)
def o3 (p:PV) (n:Nat):Option PV:=
 match p with
 | .ptr id q=>some (.ptr id (q.move n))
 | .elt id i q=>some (.elt id i (q.move n))
 | .cptr τ x off=>some (.cptr τ x (off+n))
 |_=>none
def wP (C:cr) (t:TypeId):Option (Nat×Ty):=match C.ti t with
 |some I=>(match I.sh with
  | .array n e=>(match C.ti e with
   |some E=>some (n,E.ty)
   |none=>none)
  |_=>none)
 |none=>none
def od (s:St) (id:Nat):Option (List PV):=match s.mem id with
 |some (.box cs)=>some cs
 |some (.fbox cs)=>some cs
 |_=>none
def cH (C:cr) (s:St) (t:TypeId) (x i:PV) (k:PV→Option R):Option R:=
 match i with
 | .int _ n=>match x with
  | .list e xs=>bif iO C t e then(bif az n xs.length then k (.cptr e (rd xs n) 0)else none)else none
  | .own id=>match s.asRow (.own id)with
   |some ⟨e,xs⟩=>bif iO C t e then(bif az n xs.length then k (.elt id n (.at 0))else none)else none
   |none=>none
  | .ptr id (.at o)=>match wP C t with
   |some (m,e)=>bif az n m then k (.ptr id (.arr o e m n 0))else none
   |none=>none
  | .elt id j (.at o)=>match wP C t with
   |some (m,e)=>bif az n m then k (.elt id j (.arr o e m n 0))else none
   |none=>none
  | .cptr τ x o=>match wP C t with
   |some (m,e)=>match n8 (inj τ x) o e m with
    |some xs=>bif az n m then k (.cptr e (rd xs n) 0)else none
    |none=>none
   |none=>none
  |_=>none
 |_=>none
def lR (C:cr) (t:TypeId) (x:SV) (i:PV) (k:SV→Option R):Option R:=
 match i with
 | .int _ n=>match x with
  | .v (.str u)=>bif oc C t then(bif az n u.size then k (.v (.int .u8 (bt u n)))else none)else none
  | .agg cs=>match C.ti t with
   |some ⟨.array m e,_,_,_,_,_⟩=>match C.ti e with
    |some E=>match n8 cs 0 E.ty m with
     |some xs=>bif az n m then so E (inj E.ty (rd xs n)) k else none
     |none=>none
    |none=>none
   |_=>none
  |_=>none
 |_=>none
def yY (k:IntKind) (x:Int):List PV→Option PV
 | []=>some (.int k x)
 | .int _ y::r=>yY k (if y>x then y else x) r
 |_=>none
def yZ (k:IntKind) (x:Int):List PV→Option PV
 | []=>some (.int k x)
 | .int _ y::r=>yZ k (if y<x then y else x) r
 |_=>none
def I7:List PV→Option PV
 | .int k x::r=>yY k x r
 |_=>none
def I8:List PV→Option PV
 | .int k x::r=>yZ k x r
 |_=>none
def iR (x:SV) (i:Nat) (k:SV→Option R):Option R:=
 match x with
 | .tup cs sh=>match sh[i]? with
  |some (n,agg)=>match ml cs ((sh.take i).foldr (fun a b=>a.1+b) 0) n with
   |some c=>bif agg then k (.agg c)else match c with
    | [c]=>k (.v c)
    |_=>none
   |none=>none
  |none=>none
 |_=>none
def bW (s:St):(τ:Ty)→Fl→List PV→Option (τ.den×List PV×List Nat×List Nat)
 | .list e,.own T g,cs=>match cs with
  | .own i::cs=>match s.mem i with
   |some (.rows T' e' g' xs)=>bif Nat.beq T' T&&decide (g'=g)then match decEq e' e with
    | .isTrue h=>some (bV h xs,cs,[i],[])
    | .isFalse _=>none
    else none
   |_=>none
  | .nils::cs=>bif Nat.ble 1 e.size then some ([],cs,[],[])else none
  |_=>none
 | .opt e,.box,cs=>match cs with
  | .nilp::cs=>some (none,cs,[],[])
  | .ptr i (.at 0)::cs=>match s.mem i with
   |some (.box bs)=>bif Nat.blt (i%128) 127 then match bl e (bs.map s.dat)with
    |some x=>some (some x,cs,[i],aZ bs)
    |none=>none
    else none
   |_=>none
  |_=>none
 | .pair a b,.pair f g,cs=>match bW s a f cs with
  |some (x,cs,U,V)=>match bW s b g cs with
   |some (y,cs,U',V')=>some ((x,y),cs,U++U',V++V')
   |none=>none
  |none=>none
 |τ,_,cs=>match eI cs τ.size,bx cs τ.size with
  |some a,some b=>match bl τ (a.map s.dat)with
   |some x=>some (x,b,[],aZ a)
   |none=>none
  |_,_=>none
def ik (U V:List Nat):Bool:=U.all fun i=> !(V.any (Nat.beq i))
def kf (τ:Ty) (agg:Bool) (x:τ.den):Option SV:=
 bif agg then some (.agg (inj τ x))else match inj τ x with
  | [c]=>bif Nat.beq c.width 1 then some (.v c)else none
  |_=>none
def SV.isA:SV→Bool
 | .agg _=>true
 |_=>false
inductive Bk where
 |var (p:PV) (τ:Ty)
 |lend (cs:List PV) (τ:Ty) (f:Fl)
structure Ar where
 as:List SV
 U:List Nat
 V:List Nat
 P:List Nat
 bk:List Bk
def rO.sv:rO→Option SV
 | .dat τ x=>kf τ false x
 | .agg τ x=>some (.agg (inj τ x))
 | .cref τ x=>some (.v (.cptr τ x 0))
 | .ref id=>some (.v (.ptr id (.at 0)))
def eX (s:St) (p:PK) (x:SV):Option Ar:=
 match p with
 | .raw=>match x with
  | .v p=>some ⟨[.v (s.dat p)],[],p.owns,[],[]⟩
  |_=>none
 | .val τ=>match x.cells with
  |some cs=>match bl τ (cs.map s.dat)with
   |some d=>match kf τ x.isA d with
    |some y=>some ⟨[y],[],aZ cs,[],[]⟩
    |none=>none
   |none=>none
  |none=>none
 | .give τ f=>match x.cells with
  |some cs=>match bW s τ f cs with
   |some (d,[],U,V)=>match kf τ x.isA d with
    |some y=>some ⟨[y],U,V,[],[]⟩
    |none=>none
   |_=>none
  |none=>none
 | .lend τ f=>match x.cells with
  |some cs=>match bW s τ f cs with
   |some (d,[],U,V)=>match kf τ x.isA d with
    |some y=>some ⟨[y],U,V,[],[.lend cs τ f]⟩
    |none=>none
   |_=>none
  |none=>none
 | .ro τ=>match s.look x.pv τ.size with
  |some cs=>match bl τ (cs.map s.dat)with
   |some d=>some ⟨[.v (.cptr τ d 0)],[],x.pv.leads++aZ cs,[],[]⟩
   |none=>none
  |none=>none
 | .var τ f=>match x.pv with
  | .ptr id (.at o)=>match s.mem id with
   |some (.box bs)=>match ml bs o τ.size with
    |some cs=>match bW s τ f cs with
     |some (d,[],U,V)=>some ⟨[.agg (inj τ d)],U,V,[id],[.var (.ptr id (.at o)) τ]⟩
     |_=>none
    |none=>none
   |_=>none
  |_=>none
def cM (s:St):List PK→List SV→Option Ar
 | [],[]=>some ⟨[],[],[],[],[]⟩
 |p::ps,x::xs=>match eX s p x,cM s ps xs with
  |some a,some b=>some ⟨a.as++b.as,a.U++b.U,a.V++b.V,a.P++b.P,a.bk++b.bk⟩
  |_,_=>none
 |_,_=>none
def wQ (sh:List (Ty×Bool)) (cs:List PV):Option SV:=
 match sh with
 | []=>some (.tup [] [])
 | [(τ,true)]=>match eI cs τ.size with|some a=>some (.agg a)|none=>none
 | [(τ,false)]=>match eI cs τ.size with|some [c]=>some (.v c)|_=>none
 |sh=>match eI cs ((sh.map (·.1.size)).foldr (· + ·) 0)with
  |some a=>some (.tup a (sh.map fun x=>(x.1.size,x.2)))
  |none=>none
def F5 (id:Nat):(τ:Ty)→Fl→τ.den→Nat→(List PV→List (Nat×cD)→Nat→Option R)→Option R
 | .list e,.own T g,xs,j,k=>k [.own (id+j)] [(id+j,.rows T e g xs)] (j+1)
 | .opt e,.box,x,j,k=>match x with
  |none=>k [.nilp] [] (j+1)
  |some y=>k [.ptr (id+j) (.at 0)] [(id+j,.box (inj e y))] (j+1)
 | .pair a b,.pair f g,x,j,k=>F5 id a f x.1 j fun c u j=>F5 id b g x.2 j fun c' u' j=>k (c++c') (u++u') j
 |τ,_,x,j,k=>k (inj τ x) [] j
def ao:List (Nat×cD)→Nat→Option cD
 | [],_=>none
 |(j,x)::r,t=>bif Nat.beq t j then some x else ao r t
def tz (nw:List (Nat×cD)):(τ:Ty)→Fl→List PV→List PV→Option (List cc×List PV×List PV)
 | .list e,.own _ _,old,new=>match old,new with
  | .own i::old,.own j::new=>match ao nw j with
   |some (.rows T e' g xs)=>match decEq e' e with
    | .isTrue _=>some ([.set j .dead,.set i (.rows T e' g xs)],old,new)
    | .isFalse _=>none
   |_=>none
  | .nils::old,.own _::new=>some ([],old,new)
  |_,_=>none
 | .pair a b,.pair f g,old,new=>match tz nw a f old new with
  |some (u,old,new)=>match tz nw b g old new with
   |some (u',old,new)=>some (u++u',old,new)
   |none=>none
  |none=>none
 |τ,_,old,new=>match bx old τ.size with
  |some old=>some ([],old,new)
  |none=>none
def eY (s:St) (nw:List (Nat×cD)):List Bk→List PV→Option (List cc)
 | [],[]=>some []
 | .var (.ptr id (.at o)) τ::bs,cs=>match eI cs τ.size,bx cs τ.size with
  |some a,some b=>match s.mem id with
   |some (.box old)=>match nj old o τ.size a with
    |some new=>match eY s nw bs b with
     |some us=>some (.set id (.box new)::us)
     |none=>none
    |none=>none
   |_=>none
  |_,_=>none
 | .lend old τ f::bs,cs=>match tz nw τ f old cs with
  |some (us,[],cs)=>match eY s nw bs cs with
   |some vs=>some (us++vs)
   |none=>none
  |_=>none
 |_,_=>none
def kg:(τ:Ty)→Fl→List PV→List Nat
 | .list _,.own _ _,cs=>match cs with
  | .own i::_=>[i]
  |_=>[]
 | .pair a b,.pair f g,cs=>kg a f cs++match bx cs a.size with
  |some cs=>kg b g cs
  |none=>[]
 |_,_,_=>[]
def qp:List Bk→List Nat
 | []=>[]
 | .var (.ptr id _) _::bs=>id::qp bs
 | .var _ _::bs=>qp bs
 | .lend cs τ f::bs=>kg τ f cs++qp bs
def AW (l:List Nat):Bool:=l.all fun i=>Nat.blt (i%128) 127
def oe (C:cr) (env:C.Env) (id:Nat) (s:St) (g:Nat) (sg:jL) (A:Ar) (k:SV→List cc→List Nat→Option R):Option R:=
 bif dF (A.U++A.P)&&ik (A.U++A.P) A.V&&(!(C.resTy g).shares sg.resFl||AW A.V)&&dF (qp A.bk)&&(qp A.bk).all (fun i=>(A.U++A.P).any (Nat.beq i))then
  (env g A.as).bind fun r=>F5 id (C.resTy g) sg.resFl r 0 fun cs new j=>
   match wQ sg.res cs,bx cs ((sg.res.map (·.1.size)).foldr (· + ·) 0)with
   |some x,some back=>bif Nat.ble j 32&&gC s new&&dF (new.map (·.1))&&dF (aZ back)then
     match eY s new A.bk back with
     |some us=>k x ((bif (C.resTy g).shares sg.resFl then A.V.map .frz else[])++((A.U++A.P).map (.set · .dead)++cT new)++us) A.V
     |none=>none
    else none
   |_,_=>none
 else none
def ki (C:cr) (env:C.Env) (id:Nat) (s:St) (xs:List SV) (k:SV→List cc→List Nat→Option R):List Nat→Option R
 | []=>none
 |g::gs=>match C.sig g with
  |some sg=>match cM s sg.params xs with
   |some A=>oe C env id s g sg A k
   |none=>ki C env id s xs k gs
  |none=>ki C env id s xs k gs
def jH (C:cr) (env:C.Env) (id:Nat) (s:St) (f:FuncId) (xs:List SV) (k:SV→List cc→List Nat→Option R):Option R:=
 ki C env id s xs k (C.alts f)
def nt:List rO→Option (List SV)
 | []=>some []
 |c::cs=>match c.sv,nt cs with
  |some x,some xs=>some (x::xs)
  |_,_=>none
def IF (C:cr) (env:C.Env) (id:Nat) (s:St) (x:SV) (xs:List SV) (k:SV→List cc→List Nat→Option R):Option R:=
 match x with
 | .v (.fn f caps)=>match nt caps with
  |some ys=>bif Nat.ble (C.alts f).length 1 then jH C env id s f (xs++ys) k else none
  |none=>none
 |_=>none
def tA (s:St) (p:PK) (x:SV):Option (rO×List Nat):=
 match p with
 | .val τ=>match x.cells with
  |some cs=>match bl τ (cs.map s.dat)with
   |some d=>match kf τ x.isA d with
    |some _=>some (bif x.isA then .agg τ d else .dat τ d,aZ cs)
    |none=>none
   |none=>none
  |none=>none
 | .ro τ=>match x.pv with
  | .ptr id (.at 0)=>match od s id with
   |some cs=>match bl τ (cs.map s.dat)with
    |some d=>some (.cref τ d,id::aZ cs)
    |none=>none
   |none=>none
  | .cptr τ' d 0=>some (.cref τ' d,[])
  |_=>none
 | .var _ _=>match x.pv with
  | .ptr id (.at 0)=>some (.ref id,[])
  |_=>none
 |_=>none
def fY (s:St):List PK→List SV→Option (List rO×List Nat)
 | [],[]=>some ([],[])
 |p::ps,x::xs=>match tA s p x,fY s ps xs with
  |some (c,i),some (cs,is)=>some (c::cs,i++is)
  |_,_=>none
 |_,_=>none
def dP (C:cr) (s:St) (f:FuncId) (xs:List SV) (k:PV→List cc→List Nat→Option R):Option R:=
 match C.alts f with
 |g::_=>match C.sig g with
  |some sg=>match fY s (sg.params.drop (sg.params.length-xs.length)) xs with
   |some (cs,is)=>bif AW is then k (.fn f cs) (is.map .frz) is else none
   |none=>none
  |none=>none
 | []=>match xs with
  | []=>k (.fn f []) [] []
  |_=>none
def y6 (C:cr) (env:C.Env) (id:Nat) (op:Op) (s:St) (k:SV→List cc→List Nat→Option R):Option R:=
 match op with
 | .move x| .assign x=>k (s.ev x) [] []
 | .pick c a b=>tw (s.ev c) (s.ev a) (s.ev b) fun x=>k x [] []
 | .binOp op t x y _=>match s.ev x,s.ev y with
  | .v (.bool x),.v (.bool y)=>tx C op t x y fun r=>k (.v r) [] []
  | .v x,.v y=>uQ op x y fun r=>k (.v r) [] []
  | .agg x,.agg y=>Qr C op t x y fun r=>k (.v r) [] []
  |_,_=>none
 | .unOp op _ x=>match s.ev x with
  | .v x=>KK op x fun r=>k (.v r) [] []
  |_=>none
 | .alloc t=>match C.ti t with
  |some I=>cY s id (k (.v (.ptr id (.at 0))) [.set id (.box I.zero)] [])
  |none=>none
 | .box t x=>match C.ti t,(s.ev x).cells with
  |some I,some cs=>bif Nat.beq (bI cs) I.size then cY s id (k (.v (.ptr id (.at 0))) [.set id (.box cs)] [])else none
  |_,_=>none
 | .build t ps=>ns C t (s.evs ps.toList) fun cs=>k (.agg cs) [] []
 | .buildSlice t n ps=>match C.ti t with
  |some ⟨.slice e,_,_,_,_,_⟩=>match C.ti e with
   |some E=>match F4 (C.elf t id) e E.ty (s.evs ps.toList)with
    |some b=>bif Nat.beq ps.toList.length n&&Nat.ble 1 E.size&&Nat.ble (n*E.size) 16777216 then cY s id (k (.v (.own id)) [.set id b] [])else none
    |none=>match jo E.ty s 0 (s.evs ps.toList)with
    |some xs=>bif Nat.beq ps.toList.length n&&Nat.ble 1 E.size&&Nat.ble (n*E.size) 16777216 then
      cY s id (k (.v (.own id)) (B8 (bE (s.evs ps.toList))++[.set id (.rows e E.ty .no xs)]) (aZ (bE (s.evs ps.toList))))else none
    |none=>none
   |none=>none
  |_=>none
 | .makeSlice t n c=>bif Kk n c then cU C s id t (s.ev n).pv fun p us=>k (.v p) us []else none
 | .load t a=>match s.ev a with
  | .v p=>lm C s id t p fun x us=>k x us p.leads
  |_=>none
 | .store t a x=>match s.ev a with
  | .v p=>ig C s t p (s.ev x) fun us rs=>k (.v .undef) us rs
  |_=>none
 | .fieldAddr t x f=>match s.ev x,iQ C t f with
  | .v p,some (off,size)=>bif Nat.ble 1 size then(match o3 p off with|some p=>k (.v p) [] []|none=>none)else none
  |_,_=>none
 | .field t x f=>match s.ev x,iQ C t f,mw C t f with
  | .agg cs,some (off,size),some agg=>match ml cs off size with
   |some c=>bif agg then k (.agg c) [] []else match c with
    | [c]=>bif Nat.beq c.width 1 then k (.v c) [] []else none
    |_=>none
   |none=>none
  |_,_,_=>none
 | .indexAddr t x i=>cH C s t (s.ev x).pv (s.ev i).pv fun p=>k (.v p) [] (s.ev x).pv.owns
 | .index t x i=>lR C t (s.ev x) (s.ev i).pv fun x=>k x [] []
 | .nilCheck x=>match s.ev x with
  | .v (.ptr a b)=>k (.v (.ptr a b)) [] []
  | .v (.elt a b c)=>k (.v (.elt a b c)) [] []
  | .v (.cptr a b c)=>k (.v (.cptr a b c)) [] []
  |_=>none
 | .slice t x lo hi none=>ii C s t (s.ev x).pv (lo.map fun o=>(s.ev o).pv) (hi.map fun o=>(s.ev o).pv) fun p us=>k (.v p) us []
 | .convert src dst x=>match s.ev x with
  | .v p=>bif oc C src&&mu C dst then ij C s id src dst p (fun p us=>k (.v p) us [])else lr C s src dst p fun q=>k (.v q) [] p.owns
  |_=>none
 | .extract t i=>iR (s.ev t) i fun x=>k x [] []
 | .makeFunc (.func f) first captured=>match first.toList with
  | []=>dP C s f (captured.toList.map s.ev) fun p us rs=>k (.v p) us rs
  |_=>none
 | .call c=>match c.callee with
  | .value (.func f)=>jH C env id s f (c.args.toList.map s.ev) k
  | .value f=>IF C env id s (s.ev f) (c.args.toList.map s.ev) k
  | .builtin .len=>match c.args.toList,c.argTypes.toList with
   | [x],[t]=>sq C s t (s.ev x).pv fun p=>k (.v p) [] (s.ev x).pv.owns
   |_,_=>none
  | .builtin .append=>match c.args.toList,c.argTypes.toList with
   | [x,y],[t,t']=>bif Nat.beq t t' then ej C s id t (s.ev x).pv (s.ev y).pv fun p us=>k (.v p) us (s.ev y).pv.owns else none
   |_,_=>none
  | .builtin .max=>match I7 (c.args.toList.map fun x=>(s.ev x).pv)with
   |some p=>k (.v p) [] []
   |none=>none
  | .builtin .min=>match I8 (c.args.toList.map fun x=>(s.ev x).pv)with
   |some p=>k (.v p) [] []
   |none=>none
  |_=>none
 |_=>none
structure dB where
 w:List Nat
 f:List Nat
 r:List Nat
def bC:List cc→List Nat
 | []=>[]
 | .set id _::us=>id::bC us
 |_::us=>bC us
def updF:List cc→List Nat
 | []=>[]
 | .frz id::us=>id::updF us
 |_::us=>updF us
def bT (s:St) (id:Nat):Bool:=match s.mem id with
 |some (.rows _ _ f _)=> !f.isNo
 |some (.opn _ _ _ _ _ _)=>true
 |_=>false
def kj (s:St) (us:List cc) (rs:List Nat):dB:=⟨bC us++(updF us).filter (bT s),(updF us).filter (fun i=> !bT s i),rs⟩
def oI (o:Oper) (k:St→dB→Option R) (F:dB) (x:SV) (s:St):Option R:=
 match o.dst with
 |none=>k s F
 |some d=>bif Nat.blt d s.n then k (s.put d x) F else none
def gd (ops:Array Oper) (o:Oper) (s:St) (yes no:St→Option R):Option R:=
 match o.guard with
 |none=>yes s
 |some (j,want)=>match(ops[j]?).bind (·.dst)with
  |none=>none
  |some d=>match s.tmps d with
   | .v (.bool c)=>bif c then(bif want then yes (s.put d (.v (.bool true)))else no (s.put d (.v (.bool true))))
     else(bif want then no (s.put d (.v (.bool false)))else yes (s.put d (.v (.bool false))))
   | .tup _ _=>no s
   |_=>none
def ga (C:cr) (env:C.Env) (ops:Array Oper) (o:Oper) (s:St) (k:St→dB→Option R):Option R:=
 gd ops o s (fun s=>y6 C env (128*o.dst.getD 0) o.op s fun x us rs=>oI o k (kj s us rs) x (s.upds us)) (oI o k ⟨[],[],[]⟩ (.tup [] []))
def closeU (s:St) (id:Nat):List cc:=match s.mem id with
 |some (.opn T e f xs i cs)=>match bW s e f cs with
  |some (x,[],U,V)=>bif dF (id::U)&&ik (id::U) V then V.map .frz++((id::U).map (.set · .dead)++[.set id (.rows T e f (xs.set i.toNat x))])else[]
  |_=>[]
 |_=>[]
def closeS:List Nat→St→St
 | [],s=>s
 |id::r,s=>closeS r (s.upds (closeU s id))
def qr (s:St):SV→List Nat
 | .v (.own id)=>[id]
 | .v (.ptr id _)=>match s.mem id with
  |some (.box cs)=>aZ cs
  |_=>[]
 | .agg cs=>aZ cs
 |_=>[]
def Kl (s:St):Op→List Nat
 | .call c=>match c.callee with
  | .builtin .append=>match c.args.toList with
   |x::_=>qr s (s.ev x)
   | []=>[]
  | .value _=>c.args.toList.flatMap fun x=>qr s (s.ev x)
  |_=>[]
 | .slice _ x _ _ _=>qr s (s.ev x)
 |_=>[]
def Cm (C:cr) (env:C.Env) (ops:Array Oper):List Oper→St→(St→Option R)→Option R
 | [],s,k=>k s
 |o::r,s,k=>ga C env ops o (closeS (Kl s o.op) s) fun s _=>Cm C env ops r s k
def oJ (C:cr) (env:C.Env) (ops:Array Oper):List Oper→St→(St→List dB→Option R)→Option R
 | [],s,k=>k s []
 |o::r,s,k=>ga C env ops o s fun s F=>oJ C env ops r s fun s Fs=>k s (F::Fs)
def dB.free (F G:dB):Bool:=ik F.w (G.w++(G.f++G.r))&&ik G.w (F.f++F.r)
def gD (ms:List Nat) (i:Nat):Nat:=ms.getD i 0
def tB (ms:List Nat) (i:Nat):List Edge→Option Nat
 | []=>some 0
 |e::es=>bif Region.binds .any e then(bif Nat.blt e.on i then match tB ms i es with
   |some m=>some (Nat.lor (Nat.lor (Nat.shiftLeft 1 e.on) (gD ms e.on)) m)
   |none=>none
  else none)else tB ms i es
def wR:List Oper→Nat→List Nat→Option (List Nat)
 | [],_,ms=>some ms
 |o::r,i,ms=>match tB ms i o.after.toList with
  |some m=>wR r (i+1) (ms++[m])
  |none=>none
def iS (C:cr) (op:Op):Bool:=match op with
 | .call c=>match c.callee with
  | .value (.func f)=>Nat.ble (C.alts f).length 1
  |_=>true
 |_=>true
def tC (C:cr) (ops:Array Oper) (i:Nat) (oi:Oper) (Fi:dB):List Oper→List Nat→List dB→Bool
 |oj::os,mj::ms,Fj::Fs=>(Nat.testBit mj i|| (iS C oi.op&&iS C oj.op&&oi.apart ops oj&&Fi.free Fj))&&tC C ops i oi Fi os ms Fs
 | [],[],[]=>true
 |_,_,_=>false
def QE (C:cr) (ops:Array Oper):Nat→List Oper→List Nat→List dB→Bool
 |i,oi::os,_::ms,Fi::Fs=>tC C ops i oi Fi os ms Fs&&QE C ops (i+1) os ms Fs
 |_,[],[],[]=>true
 |_,_,_,_=>false
def QF (C:cr) (ops:Array Oper) (Fs:List dB):Bool:=match wR ops.toList 0 []with
 |some ms=>QE C ops 0 ops.toList ms Fs
 |none=>false
abbrev eA (R:Type):=Exit→St→Option R
def QG (d:eA R→St→Option R) (K:eA R):eA R:=fun e s=>match e with
 | .normal=>d K s
 |e=>K e s
def uS (id:Nat) (K:eA R):eA R:=fun e s=>match e with
 | .exit j=>bif Nat.beq j id then K .normal s else K (.exit j) s
 |e=>K e s
def kk:Code→Nat
 | .region id _ _=>id
 | .seq a _=>kk a
 | .block _ b=>kk b
 | .loop b=>kk b
 | .cond _ a _=>kk a
 |_=>0
def am:List (Nat×SV)→Nat→SV
 | [],_=> .v .undef
 |(j,x)::r,t=>bif Nat.beq t j then x else am r t
structure HS where
 x:SV
 ms:List (Nat×cD)
 U:List Nat
 V:List Nat
def o4 (s:St) (t:Nat) (k:LK):Option HS:=
 match k,s.tmps t with
 | .val τ f,.v p=>match p with
  | .undef=>none
  |p=>match bW s τ f [p]with
   |some (x,[],U,V)=>match aY (128*t+32) τ f x 0 with
    |([c],ms,j)=>bif Nat.ble j 30 then some ⟨.v c,ms,U,V⟩else none
    |_=>none
   |_=>none
 | .agg τ f,.agg cs=>match bW s τ f cs with
  |some (x,[],U,V)=>match aY (128*t+32) τ f x 0 with
   |(cs,ms,j)=>bif Nat.ble j 30 then some ⟨.agg cs,ms,U,V⟩else none
  |_=>none
 | .box τ f,.v (.ptr id (.at 0))=>match s.mem id with
  |some (.box cs)=>match bW s τ f cs with
   |some (x,[],U,V)=>match aY (128*t+32) τ f x 0 with
    |(cs,ms,j)=>bif Nat.ble j 30&&Nat.blt (id%128) 64 then some ⟨.v (.ptr (128*t+63) (.at 0)),ms++[(128*t+63,.box cs)],id::U,V⟩else none
   |_=>none
  |_=>none
 | .par τ f,.v (.ptr id (.at 0))=>match s.mem id with
  |some (.box cs)=>match bW s τ f cs with
   |some (x,[],U,V)=>match aY (128*t+32) τ f x 0 with
    |(cs,ms,j)=>bif Nat.ble j 30&&Nat.beq (id%128) 127 then some ⟨.v (.ptr id (.at 0)),ms++[(id,.box cs)],id::U,V⟩else none
   |_=>none
  |_=>none
 | .pown T e g,.v (.own id)=>match s.mem id with
  |some (.rows T' e' g' xs)=>bif Nat.beq T' T&&decide (g'=g)&&Nat.ble 64 (id%128)then match decEq e' e with
   | .isTrue h=>some ⟨.v (.own id),[(id,.rows T e g (bV h xs))],[id],[]⟩
   | .isFalse _=>none
   else none
  |_=>none
 | .ro τ,.v (.cptr τ' x 0)=>match decEq τ' τ with
  | .isTrue _=>some ⟨.v (.cptr τ' x 0),[],[],[]⟩
  | .isFalse _=>none
 | .keep,.v p=>match p with
  | .undef=>none
  |p=>bif p.closed then some ⟨.v p,[],[],[]⟩else none
 |_,_=>none
def g8 (s:St):List (Nat×LK)→Nat→Option (List (Nat×SV)×List (Nat×cD)×List Nat×List Nat)
 | [],_=>some ([],[],[],[])
 |(t,k)::r,lo=>bif Nat.ble lo t then
   match o4 s t k with
   |some H=>match g8 s r (t+1)with
    |some (ts,ms,U,V)=>some ((t,H.x)::ts,H.ms++ms,H.U++U,H.V++V)
    |none=>none
   |none=>none
  else none
def canon0 (s:St) (ls:List (Nat×LK)):Option St:=
 match g8 s ls 0 with
 |some (ts,ms,U,V)=>bif dF U&&ik U V&&dF (ms.map (·.1))then some ⟨s.n,am ts,ao ms⟩else none
 |none=>none
def wS (s:St) (t0:Nat):Option Nat→SV
 |none=>s.tmps t0
 |some k=>match s.tmps t0 with
  | .agg cs=>match ml cs k 1 with
   |some [c]=> .v c
   |_=> .v .undef
  | .v (.ptr id (.at 0))=>match s.mem id with
   |some (.box cs)=>match ml cs k 1 with
    |some [c]=> .v c
    |_=> .v .undef
   |_=> .v .undef
  |_=> .v .undef
def km (s q:St):List rO→List Nat→Option (List rO)
 | [],[]=>some []
 | .ref i::cs,t0::ts=>match s.tmps t0,q.tmps t0,km s q cs ts with
  | .v (.ptr j (.at 0)),.v (.ptr m (.at 0)),some r=>bif Nat.beq i j then some (.ref m::r)else none
  |_,_,_=>none
 |_,_=>none
def sames (s:St):List (Nat×LK)→St→Option St
 | [],q=>some q
 |(t,.same t0 k)::r,q=>match s.tmps t,wS s t0 k,wS q t0 k with
  | .v (.own i),.v (.own j),.v (.own m)=>bif Nat.beq i j then sames s r (q.put t (.v (.own m)))else none
  | .v (.ptr i (.at 0)),.v (.ptr j (.at 0)),.v (.ptr m (.at 0))=>bif Nat.beq i j then sames s r (q.put t (.v (.ptr m (.at 0))))else none
  |_,_,_=>none
 |(t,.clos ts)::r,q=>match s.tmps t with
  | .v (.fn f caps)=>match km s q caps ts with
   |some caps=>sames s r (q.put t (.v (.fn f caps)))
   |none=>none
  |_=>none
 |_::r,q=>sames s r q
def qt:List (Nat×LK)→List (Nat×LK)
 | []=>[]
 |(_,.sub _ _)::r=>qt r
 |(_,.same _ _)::r=>qt r
 |(_,.clos _)::r=>qt r
 |p::r=>p::qt r
def canon (s:St) (ls:List (Nat×LK)):Option St:=
 match canon0 s (qt ls)with
 |some q=>sames s ls q
 |none=>none
def subs (s:St):List (Nat×LK)→St→Option St
 | [],q=>some q
 |(t,.sub t0 k)::r,q=>match s.tmps t,s.tmps t0,q.tmps t0 with
  | .v (.own i),.v (.own p),.v (.own p')=>match s.mem p,q.mem p' with
   |some (.opn _ e _ _ n cs),some (.rows T' e' f' ys)=>match ml cs k 1,ml (aY (128*t+32) e' f' (rd ys n) 0).1 k 1 with
    |some [.own j],some [.own m]=>bif Nat.beq i j&&Nat.beq e.size e'.size&&Nat.ble (aY (128*t+32) e' f' (rd ys n) 0).2.2 30&&gC q (aY (128*t+32) e' f' (rd ys n) 0).2.1 then
      subs s r ((q.upds (.set p' .dead::(cT (aY (128*t+32) e' f' (rd ys n) 0).2.1++[.set p' (.opn T' e' f' ys n (aY (128*t+32) e' f' (rd ys n) 0).1)]))).put t (.v (.own m)))
     else none
    |_,_=>none
   |_,_=>none
  |_,_,_=>none
 |_::r,q=>subs s r q
def AX (s:St) (ls:List (Nat×LK)):List Nat:=ls.flatMap fun p=>match p.2 with
 | .sub _ _=>[]
 |_=>qr s (s.tmps p.1)
def nu (C:cr) (f:Nat) (b:Code) (s:St):Option St:=
 match C.loop f (kk b)with
 |some ls=>match canon (closeS (AX s ls) s) ls with
  |some q=>subs s ls q
  |none=>none
 |none=>none
def den (C:cr) (f:Nat) (env:C.Env) (lp:Code→eA R→St→Option R):Code→eA R→St→Option R
 | .skip,K,s=>K .normal s
 | .ret,K,s=>K .ret s
 | .exit id,K,s=>K (.exit id) s
 | .region _ ops draw,K,s=>bif draw then oJ C env ops ops.toList s fun s Fs=>bif QF C ops Fs then K .normal s else none
  else Cm C env ops ops.toList s (K .normal)
 | .seq a b,K,s=>den C f env lp a (QG (den C f env lp b) K) s
 | .cond c a b,K,s=>match s.ev c with
  | .v (.bool c)=>bif c then den C f env lp a K s else den C f env lp b K s
  |_=>none
 | .block id b,K,s=>den C f env lp b (uS id K) s
 | .loop b,K,s=>match nu C f b s with
  |some s=>lp b K s
  |none=>none
 |_,_,_=>none
def lw (C:cr) (f:Nat) (b:Code) (L:St→Option R) (K:eA R):eA R:=fun e s=>match e with
 | .normal=>match nu C f b s with
  |some s=>L s
  |none=>none
 |e=>K e s
def nv (C:cr) (f:Nat) (env:C.Env):Nat→Code→eA R→St→Option R
 |0,_,_,_=>none
 |n+1,b,K,s=>den C f env (nv C f env n) b (lw C f b (nv C f env n b K) K) s
def fE (i:Nat) (τ:Ty) (f:Fl) (cs:List PV):Option (List PV×List (Nat×cD)):=match bl τ cs with
 |some x=>match aY (128*i+64) τ f x 0 with
  |(cs,ms,j)=>bif Nat.ble j 60 then some (cs,ms)else none
 |none=>none
def enter:List PK→List SV→Nat→List (Nat×SV)→List (Nat×cD)→Option (List (Nat×SV)×List (Nat×cD))
 | [],[],_,ts,ms=>some (ts,ms)
 | .var τ f::ps,.agg cs::xs,i,ts,ms=>match fE i τ f cs with
  |some (cs,m)=>enter ps xs (i+1) ((i,.v (.ptr (128*i+127) (.at 0)))::ts) ((128*i+127,.box cs)::(m++ms))
  |none=>none
 | .give τ f::ps,x::xs,i,ts,ms| .lend τ f::ps,x::xs,i,ts,ms=>match x with
  | .v c=>match fE i τ f [c]with
   |some ([c],m)=>enter ps xs (i+1) ((i,.v c)::ts) (m++ms)
   |_=>none
  | .agg cs=>match fE i τ f cs with
   |some (cs,m)=>enter ps xs (i+1) ((i,.agg cs)::ts) (m++ms)
   |none=>none
  |_=>none
 |_::ps,x::xs,i,ts,ms=>enter ps xs (i+1) ((i,x)::ts) ms
 |_,_,_,_,_=>none
def QH:List PV→Bool
 | [c]=>Nat.beq c.width 1
 |_=>false
def dG (C:cr) (s:St):List ResultVar→List (Ty×Bool)→Option (List PV)
 | [],[]=>some []
 | .tmp t::rs,(τ,agg)::ts=>match s.tmps t,dG C s rs ts with
  | .v .undef,_=>none
  | .v p,some r=>bif agg then none else(bif Nat.beq τ.size 1 then some (p::r)else none)
  | .agg cs,some r=>bif agg&&Nat.beq (bI cs) τ.size then some (cs++r)else none
  |_,_=>none
 | .cell a t::rs,(τ,agg)::ts=>match C.ti t,s.tmps a,dG C s rs ts with
  |some I,.v p,some r=>match s.look p I.size with
   |some cs=>bif Nat.beq I.size τ.size then(bif agg then(bif I.isAgg then some (cs++r)else none)else(bif I.isAgg|| !QH cs then none else some (cs++r)))else none
   |none=>none
  |_,_,_=>none
 |_,_=>none
def kn (id:Nat):(τ:Ty)→Fl→Nat→List PV×Nat
 | .list _,.own _ _,j=>([.own (id+j)],j+1)
 | .pair a b,.pair f g,j=>match kn id a f j with
  |(c,j)=>match kn id b g j with
   |(c',j)=>(c++c',j)
 | .opt _,.box,j=>([],j+1)
 |_,_,j=>([],j)
def F6 (s:St) (i:Nat):Bool:=match s.mem i with
 |some (.rows _ _ _ _)=>true
 |_=>false
def dq (s:St):List PK→Nat→Option (List PV)
 | [],_=>some []
 | .var τ _::ps,i=>match s.mem (128*i+127),dq s ps (i+1)with
  |some (.box cs),some r=>bif Nat.beq (bI cs) τ.size then some (cs++r)else none
  |_,_=>none
 | .lend τ f::ps,i=>match dq s ps (i+1)with
  |some r=>bif (aZ (kn (128*i+64) τ f 0).1).all (F6 s)then some ((kn (128*i+64) τ f 0).1++r)else none
  |none=>none
 |_::ps,i=>dq s ps (i+1)
def o5 (s:St):List PK→Nat→List Nat
 | [],_=>[]
 | .var _ _::ps,i=>qr s (.v (.ptr (128*i+127) (.at 0)))++o5 s ps (i+1)
 | .lend τ f::ps,i=>aZ (kn (128*i+64) τ f 0).1++o5 s ps (i+1)
 |_::ps,i=>o5 s ps (i+1)
def y7 (s:St) (rs:List ResultVar) (ps:List PK):List Nat:=(rs.flatMap fun r=>match r with
 | .tmp t=>qr s (s.tmps t)
 | .cell a _=>qr s (s.tmps a))++o5 s ps 0
def QI (C:cr) (f:Nat) (sg:jL) (rs:List ResultVar) (s:St):Option (C.Res f):=
 match dG C s rs sg.res,dq s sg.params 0 with
  |some a,some b=>match bW s (C.resTy f) sg.resFl (a++b)with
   |some (x,[],U,V)=>bif dF U&&ik U V then some x else none
   |_=>none
  |_,_=>none
def KL (C:cr) (f:Nat) (sg:jL) (rs:List ResultVar):eA (C.Res f):=fun e s=>match e with
 | .normal| .ret=>QI C f sg rs (closeS (y7 s rs sg.params) s)
 |_=>none
def F7 (C:cr) (env:C.Env) (lp:(f:Nat)→Code→eA (C.Res f)→St→Option (C.Res f)) (f:Nat) (args:List SV):Option (C.Res f):=
 match C.fn f,C.sig f with
 |some F,some sg=>match F.body,enter sg.params args 0 [] []with
  |some c,some (ts,ms)=>den C f env (lp f) c (KL C f sg F.results.toList) ⟨F.ntmps,am ts,ao ms⟩
  |_,_=>none
 |_,_=>none
def Cn (C:cr) (env:C.Env) (lp:(f:Nat)→Code→eA (C.Res f)→St→Option (C.Res f)) (f:Nat) (args:List SV):Option (C.Res f):=
 match C.prim f with
 |some p=>(p args).bind (bl (C.resTy f))
 |none=>F7 C env lp f args
def ny (C:cr):Nat→C.Env
 |0=>fun _ _=>none
 |n+1=>fun f args=>Cn C (ny C n) (fun f=>nv C f (ny C n) n) f args
open Classical in
noncomputable def lim {α:Type} (F:Nat→Option α):Option α:=
 if h:∃r n,F n=some r then some (Classical.choose h)else none
noncomputable def aE (C:cr):C.Env:=fun f args=>lim fun n=>ny C n f args
noncomputable def Lp (C:cr) (f:Nat) (b:Code) (K:eA R) (s:St):Option R:=lim fun n=>nv C f (aE C) n b K s
def y8:List Nat→Code→Code
 |0::p,.seq a _=>y8 p a
 |_::p,.seq _ b=>y8 p b
 |0::p,.cond _ a _=>y8 p a
 |_::p,.cond _ _ b=>y8 p b
 |_::p,.block _ b=>y8 p b
 |_::p,.loop b=>y8 p b
 |_,c=>c
noncomputable def qu (C:cr) (f:Nat):List Nat→Code→eA R→eA R
 |0::p,.seq a b,K=>qu C f p a (QG (den C f (aE C) (Lp C f) b) K)
 |_::p,.seq _ b,K=>qu C f p b K
 |0::p,.cond _ a _,K=>qu C f p a K
 |_::p,.cond _ _ b,K=>qu C f p b K
 |_::p,.block id b,K=>qu C f p b (uS id K)
 |_::p,.loop b,K=>qu C f p b (lw C f b (Lp C f b K) K)
 |_,_,K=>K
noncomputable def SX (C:cr) (f:Nat) (c:Code) (rs:List ResultVar) (sg:jL) (p:List Nat) (s:St):Option (C.Res f):=
 match y8 p c with
 | .loop b=>Lp C f b (qu C f p c (KL C f sg rs)) s
 |_=>none
end
def my {α:Type}:List (Nat×α)→Nat→Option α
 | [],_=>none
 |(j,x)::r,t=>bif Nat.beq t j then some x else my r t
def QJ {α:Type} (l:List (Nat×List (Nat×α))) (f r:Nat):Option α:=match my l f with|some m=>my m r|none=>none
end Go.Ps
