import Derived.Test.YtiahcgampoehdaaGreatDoorPsA
import Derived.Orders
namespace Go.Ps
set_option linter.unusedVariables false
def andI (k:IntKind) (x y:Int):Int:=k.wrap ((BitVec.ofInt k.bits x&&&BitVec.ofInt k.bits y).toNat)
def gU (k:IntKind) (x y:Int):Int:=k.wrap ((BitVec.ofInt k.bits x|||BitVec.ofInt k.bits y).toNat)
def OJ (k:IntKind) (x y:Int):Int:=k.wrap ((BitVec.ofInt k.bits x^^^BitVec.ofInt k.bits y).toNat)
def tB (k:IntKind) (x y:Int):Int:=k.wrap ((BitVec.ofInt k.bits x&&& ~~~BitVec.ofInt k.bits y).toNat)
def cG (k:IntKind) (x y:Int):Int:=k.wrap (x*2^(min y.toNat k.bits))
def lH (k:IntKind) (x y:Int):Int:=x.fdiv (2^(min y.toNat k.bits))
def bo (a b:ByteArray):Bool:=a.toList==b.toList
def vv (a b:ByteArray):Bool:=Op.bytesLess a.toList b.toList
def bt (s:ByteArray) (i:Int):Int:=((s.data.getD i.toNat 0).toNat:Int)
section
variable {R:Type}
def A3 (op:BinOp) (a:IntKind) (m n:Int) (k:PV→Option R):Option R:=
 match op with
 | .add=>k (.int a (a.wrap (m+n)))
 | .sub=>k (.int a (a.wrap (m-n)))
 | .mul=>k (.int a (a.wrap (m*n)))
 | .quo=>bif decide (n=0)then none else k (.int a (a.wrap (m.tdiv n)))
 | .rem=>bif decide (n=0)then none else k (.int a (m.tmod n))
 | .and=>k (.int a (andI a m n))
 | .or=>k (.int a (gU a m n))
 | .xor=>k (.int a (OJ a m n))
 | .andNot=>k (.int a (tB a m n))
 | .eql=>k (.bool (decide (m=n)))
 | .neq=>k (.bool (!decide (m=n)))
 | .lss=>k (.bool (decide (m<n)))
 | .leq=>k (.bool (decide (m≤n)))
 | .gtr=>k (.bool (decide (m>n)))
 | .geq=>k (.bool (decide (m≥n)))
 |_=>none
def tC (op:BinOp) (x y:PV) (k:PV→Option R):Option R:=
 match x,y with
 | .int a m,.int b n=>
  match op with
  | .shl=>bif decide (n<0)then none else k (.int a (cG a m n))
  | .shr=>bif decide (n<0)then none else k (.int a (lH a m n))
  |op=>match decEq a b with
   | .isFalse _=>none
   | .isTrue _=>A3 op a m n k
 | .str a,.str b=>
  match op with
  | .add=>bif decide (a.size+b.size≤9223372036854775807)then k (.str (a++b))else none
  | .eql=>k (.bool (bo a b))
  | .neq=>k (.bool (!bo a b))
  | .lss=>k (.bool (vv a b))
  | .leq=>k (.bool (vv a b||bo a b))
  | .gtr=>k (.bool (!(vv a b||bo a b)))
  | .geq=>k (.bool (!vv a b))
  |_=>none
 |_,_=>none
def I4 (op:UnOp) (x:PV) (k:PV→Option R):Option R:=
 match op,x with
 | .neg,.int a n=>k (.int a (a.wrap (0-n)))
 | .xor,.int a n=>k (.int a (OJ a (if a.signed then-1 else a.max) n))
 | .not,.bool b=>k (.bool (!b))
 |_,_=>none
def sb (c a b:SV) (k:SV→Option R):Option R:=
 match c with
 | .v (.bool c)=>match a,b with
  | .v (.bool x),.v (.bool y)=>k (.v (.bool (bif c then x else y)))
  |a,b=>bif c then k a else k b
 |_=>none
def sd (C:bP) (op:BinOp) (t:TypeId) (a b:Bool) (k:PV→Option R):Option R:=
 match C.ti t with
 |some I=>match I.ty with
  | .bool=>match op with
   | .eql=>k (.bool (a==b))
   | .neq=>k (.bool (!(a==b)))
   |_=>none
  |_=>none
 |none=>none
def PU:Ty→Bool
 | .unit| .bool| .str| .int _=>true
 | .arr e _=>PU e
 | .pair a b=>PU a&&PU b
 |_=>false
def ka:(τ:Ty)→τ.den→τ.den→Bool
 | .bool,a,b=>a==b
 | .str,a,b=>bo a b
 | .int _,a,b=>decide (a=b)
 | .arr e _,xs,ys=>(xs.zip ys).all fun p=>ka e p.1 p.2
 | .pair a b,x,y=>ka a x.1 y.1&&ka b x.2 y.2
 |_,_,_=>true
def Ov (C:bP) (op:BinOp) (t:TypeId) (x y:List PV) (k:PV→Option R):Option R:=
 match C.ti t with
 |some I=>bif I.eq&&I.isAgg&&PU I.ty then match aQ I.ty x,aQ I.ty y with
  |some x,some y=>match op with
   | .eql=>k (.bool (ka I.ty x y))
   | .neq=>k (.bool (!ka I.ty x y))
   |_=>none
  |_,_=>none
  else none
 |none=>none
def SV.cells:SV→Option (List PV)
 | .v .undef=>none
 | .v p=>some [p]
 | .agg cs=>some cs
 | .tup _ _=>none
def SV.pv:SV→PV
 | .v p=>p
 |_=> .undef
def fL:List PV→Bool
 | []=>true
 | .bool _::cs=>fL cs
 | .int _ _::cs=>fL cs
 | .str _::cs=>fL cs
 | .seg e _ _::cs=> !e.lists&&fL cs
 |_::_=>false
def PV.leads:PV→List Nat
 | .own id=>[id]
 | .ptr id _=>[id]
 | .elt id _ _=>[id]
 |_=>[]
def St.look (s:St) (p:PV) (n:Nat):Option (List PV):=
 match p with
 | .ptr id q=>match s.mem id with
  |some (.box cs)=>hJ cs q n
  |some (.fbox cs)=>hJ cs q n
  |_=>none
 | .elt id i q=>match s.mem id with
  |some (.rows _ e f xs)=>match hJ (inj e (rd xs i)) q n with
   |some cs=>bif f.isNo||fL cs then some cs else none
   |none=>none
  |some (.frows e xs)=>hJ (inj e (rd xs i)) q n
  |_=>none
 | .cptr τ x off=>lC (inj τ x) off n
 |_=>none
def rb (I:TI) (cs:List PV) (k:SV→Option R):Option R:=
 bif I.isAgg then k (.agg cs)else match cs with
  | [c]=>bif Nat.beq c.width 1 then k (.v c)else none
  |_=>none
def aE (id:Nat):(τ:Ty)→Fl→τ.den→Nat→List PV×List (Nat×bV)×Nat
 | .list e,.own T g,xs,j=>([.own (id+j)],[(id+j,.rows T e g xs)],j+1)
 | .opt e,.box,x,j=>match x with
  |none=>([.nilp],[],j+1)
  |some y=>([.ptr (id+j) (.at 0)],[(id+j,.box (inj e y))],j+1)
 | .pair a b,.pair f g,x,j=>((aE id a f x.1 j).1++(aE id b g x.2 (aE id a f x.1 j).2.2).1,(aE id a f x.1 j).2.1++(aE id b g x.2 (aE id a f x.1 j).2.2).2.1,(aE id b g x.2 (aE id a f x.1 j).2.2).2.2)
 |τ,_,x,j=>(inj τ x,[],j)
def c6:List Nat→Bool
 | []=>true
 |i::l=> !l.any (Nat.beq i)&&c6 l
def fM (s:St) (l:List (Nat×bV)):Bool:=l.all fun p=>match s.mem p.1 with|none=>true|some _=>false
def cp (l:List (Nat×bV)):List bE:=l.map fun p=> .set p.1 p.2
def pr (s:St) (id:Nat) (I:TI) (p:PV) (k:SV→List bE→Option R):Option R:=
 match p with
 | .elt j i q=>match s.mem j with
  |some (.rows T e f xs)=>bif Nat.ble (aE id e f (rd xs i) 0).2.2 32&&fM s (aE id e f (rd xs i) 0).2.1 then
    match hJ (aE id e f (rd xs i) 0).1 q I.size with
    |some cs=>rb I cs fun x=>k x (.set j .dead::(cp (aE id e f (rd xs i) 0).2.1++[.set j (.opn T e f xs i (aE id e f (rd xs i) 0).1)]))
    |none=>none
   else none
  |some (.opn _ _ _ _ i' cs)=>bif decide (i=i')then match hJ cs q I.size with
    |some cs=>rb I cs fun x=>k x []
    |none=>none
   else none
  |_=>none
 |_=>none
def kC (C:bP) (s:St) (id:Nat) (t:TypeId) (p:PV) (k:SV→List bE→Option R):Option R:=
 match C.ti t with
 |some I=>match s.look p I.size with
  |some cs=>rb I cs fun x=>k x []
  |none=>pr s id I p k
 |none=>none
def dA.lo:dA→Nat
 | .at o=>o
 | .arr o _ _ _ _=>o
def dA.span (n:Nat):dA→Nat
 | .at _=>n
 | .arr _ e m _ _=>m*e.size
def dA.down (k:Nat):dA→dA
 | .at o=> .at (o-k)
 | .arr o e m j q=> .arr (o-k) e m j q
def gB:(e:Ty)→Fl→e.den→dA→Nat→List PV→Option e.den
 | .pair a b,.pair f g,x,q,n,new=>
   bif Nat.ble (q.lo+q.span n) a.size then(match gB a f x.1 q n new with
    |some y=>some (y,x.2)
    |none=>none)
   else bif Nat.ble a.size q.lo then(match gB b g x.2 (q.down a.size) n new with
    |some y=>some (x.1,y)
    |none=>none)
   else none
 |e,.no,x,q,n,new=>match gz (fun p=>p) (inj e x) q n new with
   |some cs=>aQ e cs
   |none=>none
 |_,_,_,_,_,_=>none
def Fl.isBox:Fl→Bool
 | .box=>true
 |_=>false
def tD:Ty→Fl→List PV→Option (List PV)
 | .list _,.own _ _,cs=>match cs with
  | .own _::r=>some r
  | .nils::r=>some r
  |_=>none
 | .pair a b,.pair f g,cs=>match tD a f cs with
  |some r=>tD b g r
  |none=>none
 |τ,.no,cs=>aY cs τ.size
 |_,_,_=>none
def lI:Ty→Fl→List PV→Option (List PV)
 | .list e,.own _ _,cs=>match cs with
  | .nils::r=>bif Nat.ble 1 e.size then some r else none
  |_=>none
 | .pair a b,.pair f g,cs=>match lI a f cs with
  |some r=>lI b g r
  |none=>none
 |τ,.no,cs=>(eh τ cs).map (·.2)
 |_,_,_=>none
def xE (f:Fl) (τ:Ty) (cs:List PV):Fl:=match lI τ f cs with
 |some []=>bif f.isBox then .no else f
 |_=> .no
def gC (C:bP) (s:St) (t:TypeId) (p:PV) (x:SV) (k:List bE→List Nat→Option R):Option R:=
 match C.ti t,x.cells with
 |some I,some new=>bif Nat.beq (bh new) I.size then
   match p with
   | .ptr id q=>match s.mem id with
    |some (.box cs)=>match q with
     | .at o=>match mA cs o I.size new with
      |some cs'=>k [.set id (.box cs')] []
      |none=>none
     |q=>bif (aF new).isEmpty then match gz s.dat cs q I.size new with
      |some cs'=>k [.set id (.box cs')] []
      |none=>none
      else none
    |_=>none
   | .elt id i q=>match s.mem id with
    |some (.rows T e f xs)=>bif f.flat e&& !(aF new).any (Nat.beq id)then match gz s.dat (inj e (rd xs i)) q I.size (new.map s.dat)with
     |some cs'=>match aQ e cs' with
      |some x'=>k (AO new++[.set id (.rows T e f (xs.set i.toNat x'))]) (aF new)
      |none=>none
     |none=>none
     else match(bif (aF new).isEmpty then gB e f (rd xs i) q I.size (new.map s.dat)else none)with
     |some x'=>k [.set id (.rows T e f (xs.set i.toNat x'))] []
     |none=>match q with
      | .at 0=>bif Nat.beq I.size e.size then match tD e f new with
       |some []=>k [.set id (.opn T e f xs i new)] []
       |_=>none
       else none
      |_=>none
    |some (.opn T e f xs i' cs)=>bif decide (i=i')then match q with
     | .at o=>match mA cs o I.size new with
      |some cs'=>k [.set id (.opn T e f xs i' cs')] []
      |none=>none
     |q=>bif (aF new).isEmpty then match gz s.dat cs q I.size new with
      |some cs'=>k [.set id (.opn T e f xs i' cs')] []
      |none=>none
      else none
     else none
    |_=>none
   |_=>none
  else none
 |_,_=>none
def vw (place:Nat→Option (Nat×Nat)) (cs:List PV):List (Nat×SV)→Option (List PV)
 | []=>some cs
 |(i,x)::rest=>match place i,x.cells with
  |some (off,size),some new=>bif Nat.beq (bh new) size then
    match mA cs off size new with
    |some cs=>vw place cs rest
    |none=>none
   else none
  |_,_=>none
def mG (C:bP) (t:TypeId) (ps:List (Nat×SV)) (k:List PV→Option R):Option R:=
 match C.ti t with
 |some ⟨.struct fs _ _,_,_,z,_,_⟩=>match vw (fun i=>fs[i]?) z ps with
  |some cs=>k cs
  |none=>none
 |_=>none
def St.evs (s:St) (ps:List (Nat×Operand)):List (Nat×SV):=ps.map fun p=>(p.1,s.ev p.2)
def iK (e:Ty) (s:St):Nat→List (Nat×SV)→Option (List e.den)
 |_,[]=>some []
 |i,(j,x)::ps=>bif Nat.beq i j then
   match x.cells with
   |some c=>match aQ e (c.map s.dat),iK e s (i+1) ps with
    |some x,some xs=>some (x::xs)
    |_,_=>none
   |none=>none
  else none
def be:List (Nat×SV)→List PV
 | []=>[]
 |(_,x)::r=>(x.cells.getD [])++be r
def Ey (f:Fl) (e:TypeId) (τ:Ty) (ps:List (Nat×SV)):Option bV:=
 bif f.isNo then none else match ps with
 | []=>some (.rows e τ f [])
 | [(0,x)]=>match x.cells with
  |some c=>match tD τ f c with
   |some []=>bif Nat.beq (bh c) τ.size then some (.opn e τ f [τ.dflt] 0 c)else none
   |_=>none
  |none=>none
 |_=>none
def aC (xs:List Int):ByteArray:=⟨(xs.map fun n=>UInt8.ofNat n.toNat).toArray⟩
def fb (s:ByteArray):List Int:=s.data.toList.map fun b=>(b.toNat:Int)
def lJ (C:bP) (t:TypeId):Bool:=match C.ti t with
 |some I=>(match I.sh with| .slice _=>true|_=>false)
 |none=>false
def nq (C:bP) (t:TypeId):Bool:=match C.ti t with
 |some I=>(match I.ty with| .str=>true|_=>false)
 |none=>false
def ib (C:bP) (t:TypeId) (e:Ty):Bool:=match C.ti t with
 |some I=>(match I.sh with
  | .slice q=>(match C.ti q with
   |some E=>Nat.beq E.size e.size
   |none=>false)
  |_=>false)
 |none=>false
def rc (C:bP) (s:St) (t:TypeId) (x:PV) (k:PV→Option R):Option R:=
 match x with
 | .str u=>bif nq C t then k (.int .i64 (u.size:Int))else none
 | .nils=>bif lJ C t then k (.int .i64 0)else none
 |p=>match s.asRow p with
  |some ⟨_,xs⟩=>bif lJ C t then k (.int .i64 (xs.length:Int))else none
  |none=>none
def k7 (s:St) (e:Ty) (y:PV):Option (List e.den):=
 match y with
 | .nils=>some []
 |p=>match s.asList p with
  |some ⟨e',xs⟩=>match decEq e' e with
   | .isTrue h=>some (bw h xs)
   | .isFalse _=>none
  |none=>none
def kD (s:St) (y:PV):List bE:=
 match y with
 | .own id=>match s.mem id with
  |some (.rows _ _ f _)=>bif f.isNo then[]else[.frz id]
  |_=>[]
 |_=>[]
def cv (s:St) (id:Nat) (x:Option R):Option R:=match s.mem id with
 |none=>x
 |some _=>none
def ar (n b:Nat):Bool:=decide (n*b≤140737488355328)&&decide (n≤9223372036854775807)
def nM (s:St) (id:Nat) (e:TypeId) (τ:Ty) (x y:PV):Option (Nat×List bE):=
 match y with
 | .own j=>match s.mem j with
  |some (.opn T f0 f ys i cs)=>bif Nat.beq T e&& !f.isBox then match decEq f0 τ with
   | .isTrue h=>match x with
    | .nils=>some (ys.length,[.set j .dead,.set id (.opn e τ f (bw h ys) i cs)])
    | .own l=>match s.mem l with
     |some (.rows T' e' f' xs)=>bif Nat.beq T' e&&decide (f'=f)&& !Nat.beq l j then match decEq e' τ with
      | .isTrue h'=>some (xs.length+ys.length,[.set l .dead,.set j .dead,.set id (.opn e τ f (bw h' xs++bw h ys) ((xs.length:Int)+i) cs)])
      | .isFalse _=>none
      else none
     |_=>none
    |_=>none
   | .isFalse _=>none
   else none
  |some (.rows T f0 f ys)=>bif Nat.beq T e&& !f.isBox&& !f.isNo then match decEq f0 τ with
   | .isTrue h=>match x with
    | .own l=>match s.mem l with
     |some (.rows T' e' f' xs)=>bif Nat.beq T' e&&decide (f'=f)&& !Nat.beq l j then match decEq e' τ with
      | .isTrue h'=>some (xs.length+ys.length,[.set l .dead,.set j .dead,.set id (.rows e τ f (bw h' xs++bw h ys))])
      | .isFalse _=>none
      else none
     |_=>none
    |_=>none
   | .isFalse _=>none
   else none
  |_=>none
 |_=>none
def dF (C:bP) (s:St) (id:Nat) (sl:TypeId) (x y:PV) (k:PV→List bE→Option R):Option R:=
 match C.ti sl with
 |some ⟨.slice e,_,_,_,_,_⟩=>match C.ti e with
  |some E=>bif Nat.ble 1 E.size then match nM s id e E.ty x y with
   |some (m,us)=>cv s id (bif ar m E.bytes then k (.own id) us else none)
   |none=>match k7 s E.ty y with
   |some ys=>match x with
    | .nils=>cv s id (bif ar ys.length E.bytes then k (.own id) (kD s y++[.set id (.rows e E.ty .no ys)])else none)
    | .own j=>match s.mem j with
     |some (.rows T e' f xs)=>bif Nat.beq T e&&f.isNo then match decEq e' E.ty with
      | .isTrue h=>cv s id (bif ar (xs.length+ys.length) E.bytes then k (.own id) (kD s y++[.set j .dead,.set id (.rows e E.ty .no (bw h xs++ys))])else none)
      | .isFalse _=>none
      else none
     |_=>none
    |_=>none
   |none=>none
   else none
  |none=>none
 |_=>none
def iL (x:Option PV) (dflt:Int) (k:Int→Option R):Option R:=
 match x with
 |none=>k dflt
 |some (.int _ n)=>k n
 |_=>none
def gD (C:bP) (s:St) (t:TypeId) (x:PV) (lo hi:Option PV) (k:PV→List bE→Option R):Option R:=
 match x with
 | .str u=>bif nq C t then iL lo 0 fun l=>iL hi (u.size:Int) fun h=>
   bif decide (0≤l)&&decide (l≤h)&&decide (h≤(u.size:Int))then k (.str (u.extract l.toNat h.toNat)) []else none
  else none
 |p=>match s.asList p with
  |some ⟨e,xs⟩=>bif ib C t e then iL lo 0 fun l=>iL hi (xs.length:Int) fun h=>
    bif decide (0≤l)&&decide (l≤h)&&decide (h≤(xs.length:Int))then k (.list e ((xs.take h.toNat).drop l.toNat)) (p.owns.map .frz)else none
   else none
  |none=>none
def ic (C:bP) (t:TypeId):Option (TypeId×Ty):=match C.ti t with
 |some I=>(match I.sh with
  | .slice q=>(match C.ti q with
   |some E=>some (q,E.ty)
   |none=>none)
  |_=>none)
 |none=>none
def kE (C:bP) (s:St) (src dst:TypeId) (x:PV) (k:PV→Option R):Option R:=
 match C.ti src,C.ti dst,x with
 |some _,some D,.int _ n=>match D.ty with
  | .int kd=>k (.int kd (kd.wrap n))
  |_=>none
 |some I,some D,.str t=>match I.ty,D.ty with
  | .str,.str=>k (.str t)
  |_,_=>none
 |some _,some D,x=>match D.ty,ic C src,s.asList x with
  | .str,some (_,.int .u8),some ⟨.int .u8,xs⟩=>k (.str (aC xs))
  |_,_,_=>none
 |_,_,_=>none
def gE (C:bP) (s:St) (id:Nat) (src dst:TypeId) (x:PV) (k:PV→List bE→Option R):Option R:=
 match x with
 | .str t=>bif nq C src then match ic C dst with
   |some (q,.int .u8)=>cv s id (bif decide (t.size≤9223372036854775807)then k (.own id) [.set id (.rows q (.int .u8) .box (fb t))]else none)
   |_=>none
  else none
 |_=>none
def IE:Operand→Operand→Bool
 | .tmp a,.tmp b=>Nat.beq a b
 | .const (.int a m),.const (.int b n)=>decide (a=b)&&decide (m=n)
 |_,_=>false
def cq (C:bP) (s:St) (id:Nat) (t:TypeId) (n:PV) (k:PV→List bE→Option R):Option R:=
 match C.ti t,n with
 |some ⟨.slice e,_,_,_,_,_⟩,.int .i64 n=>match C.ti e with
  |some E=>match aQ E.ty E.zero with
   |some z=>bif Nat.ble 1 E.size then cv s id (bif decide (0≤n)&&ar n.toNat E.bytes then k (.own id) [.set id (.rows e E.ty (xE (C.elf t id) E.ty E.zero) (List.replicate n.toNat z))]else none)else none
   |none=>none
  |none=>none
 |_,_=>none
def ie (C:bP) (t:TypeId) (f:Nat):Option (Nat×Nat):=
 match C.ti t with
 |some ⟨.struct fs _ _,_,_,_,_,_⟩=>fs[f]?
 |_=>none
def lK (C:bP) (t:TypeId) (f:Nat):Option Bool:=
 match C.ti t with
 |some ⟨.struct _ ags _,_,_,_,_,_⟩=>ags[f]?
 |_=>none
def dA.move (n:Nat):dA→dA
 | .at o=> .at (o+n)
 | .arr o e m j q=> .arr o e m j (q+n)
def ob (p:PV) (n:Nat):Option PV:=
 match p with
 | .ptr id q=>some (.ptr id (q.move n))
 | .elt id i q=>some (.elt id i (q.move n))
 | .cptr τ x off=>some (.cptr τ x (off+n))
 |_=>none
def vz (C:bP) (t:TypeId):Option (Nat×Ty):=match C.ti t with
 |some I=>(match I.sh with
  | .array n e=>(match C.ti e with
   |some E=>some (n,E.ty)
   |none=>none)
  |_=>none)
 |none=>none
def nr (s:St) (id:Nat):Option (List PV):=match s.mem id with
 |some (.box cs)=>some cs
 |some (.fbox cs)=>some cs
 |_=>none
def b9 (C:bP) (s:St) (t:TypeId) (x i:PV) (k:PV→Option R):Option R:=
 match i with
 | .int _ n=>match x with
  | .list e xs=>bif ib C t e then(bif ao n xs.length then k (.cptr e (rd xs n) 0)else none)else none
  | .own id=>match s.asRow (.own id)with
   |some ⟨e,xs⟩=>bif ib C t e then(bif ao n xs.length then k (.elt id n (.at 0))else none)else none
   |none=>none
  | .ptr id (.at o)=>match vz C t with
   |some (m,e)=>bif ao n m then k (.ptr id (.arr o e m n 0))else none
   |none=>none
  | .elt id j (.at o)=>match vz C t with
   |some (m,e)=>bif ao n m then k (.elt id j (.arr o e m n 0))else none
   |none=>none
  | .cptr τ x o=>match vz C t with
   |some (m,e)=>match nk (inj τ x) o e m with
    |some xs=>bif ao n m then k (.cptr e (rd xs n) 0)else none
    |none=>none
   |none=>none
  |_=>none
 |_=>none
def k8 (C:bP) (t:TypeId) (x:SV) (i:PV) (k:SV→Option R):Option R:=
 match i with
 | .int _ n=>match x with
  | .v (.str u)=>bif nq C t then(bif ao n u.size then k (.v (.int .u8 (bt u n)))else none)else none
  | .agg cs=>match C.ti t with
   |some ⟨.array m e,_,_,_,_,_⟩=>match C.ti e with
    |some E=>match nk cs 0 E.ty m with
     |some xs=>bif ao n m then rb E (inj E.ty (rd xs n)) k else none
     |none=>none
    |none=>none
   |_=>none
  |_=>none
 |_=>none
def xF (k:IntKind) (x:Int):List PV→Option PV
 | []=>some (.int k x)
 | .int _ y::r=>xF k (if y>x then y else x) r
 |_=>none
def xG (k:IntKind) (x:Int):List PV→Option PV
 | []=>some (.int k x)
 | .int _ y::r=>xG k (if y<x then y else x) r
 |_=>none
def Hw:List PV→Option PV
 | .int k x::r=>xF k x r
 |_=>none
def Hx:List PV→Option PV
 | .int k x::r=>xG k x r
 |_=>none
def ig (x:SV) (i:Nat) (k:SV→Option R):Option R:=
 match x with
 | .tup cs sh=>match sh[i]? with
  |some (n,agg)=>match lC cs ((sh.take i).foldr (fun a b=>a.1+b) 0) n with
   |some c=>bif agg then k (.agg c)else match c with
    | [c]=>k (.v c)
    |_=>none
   |none=>none
  |none=>none
 |_=>none
def bx (s:St):(τ:Ty)→Fl→List PV→Option (τ.den×List PV×List Nat×List Nat)
 | .list e,.own T g,cs=>match cs with
  | .own i::cs=>match s.mem i with
   |some (.rows T' e' g' xs)=>bif Nat.beq T' T&&decide (g'=g)then match decEq e' e with
    | .isTrue h=>some (bw h xs,cs,[i],[])
    | .isFalse _=>none
    else none
   |_=>none
  | .nils::cs=>bif Nat.ble 1 e.size then some ([],cs,[],[])else none
  |_=>none
 | .opt e,.box,cs=>match cs with
  | .nilp::cs=>some (none,cs,[],[])
  | .ptr i (.at 0)::cs=>match s.mem i with
   |some (.box bs)=>bif Nat.blt (i%128) 127 then match aQ e (bs.map s.dat)with
    |some x=>some (some x,cs,[i],aF bs)
    |none=>none
    else none
   |_=>none
  |_=>none
 | .pair a b,.pair f g,cs=>match bx s a f cs with
  |some (x,cs,U,V)=>match bx s b g cs with
   |some (y,cs,U',V')=>some ((x,y),cs,U++U',V++V')
   |none=>none
  |none=>none
 |τ,_,cs=>match dT cs τ.size,aY cs τ.size with
  |some a,some b=>match aQ τ (a.map s.dat)with
   |some x=>some (x,b,[],aF a)
   |none=>none
  |_,_=>none
def gF (U V:List Nat):Bool:=U.all fun i=> !(V.any (Nat.beq i))
def ju (τ:Ty) (agg:Bool) (x:τ.den):Option SV:=
 bif agg then some (.agg (inj τ x))else match inj τ x with
  | [c]=>bif Nat.beq c.width 1 then some (.v c)else none
  |_=>none
def SV.isA:SV→Bool
 | .agg _=>true
 |_=>false
inductive Bk where
 |var (p:PV) (τ:Ty)
 |lend (cs:List PV) (τ:Ty) (f:Fl)
structure Ar where
 as:List SV
 U:List Nat
 V:List Nat
 P:List Nat
 bk:List Bk
def qK.sv:qK→Option SV
 | .dat τ x=>ju τ false x
 | .agg τ x=>some (.agg (inj τ x))
 | .cref τ x=>some (.v (.cptr τ x 0))
 | .ref id=>some (.v (.ptr id (.at 0)))
def eo (s:St) (p:PK) (x:SV):Option Ar:=
 match p with
 | .raw=>match x with
  | .v p=>some ⟨[.v (s.dat p)],[],p.owns,[],[]⟩
  |_=>none
 | .val τ=>match x.cells with
  |some cs=>match aQ τ (cs.map s.dat)with
   |some d=>match ju τ x.isA d with
    |some y=>some ⟨[y],[],aF cs,[],[]⟩
    |none=>none
   |none=>none
  |none=>none
 | .give τ f=>match x.cells with
  |some cs=>match bx s τ f cs with
   |some (d,[],U,V)=>match ju τ x.isA d with
    |some y=>some ⟨[y],U,V,[],[]⟩
    |none=>none
   |_=>none
  |none=>none
 | .lend τ f=>match x.cells with
  |some cs=>match bx s τ f cs with
   |some (d,[],U,V)=>match ju τ x.isA d with
    |some y=>some ⟨[y],U,V,[],[.lend cs τ f]⟩
    |none=>none
   |_=>none
  |none=>none
 | .ro τ=>match s.look x.pv τ.size with
  |some cs=>match aQ τ (cs.map s.dat)with
   |some d=>some ⟨[.v (.cptr τ d 0)],[],x.pv.leads++aF cs,[],[]⟩
   |none=>none
  |none=>none
 | .var τ f=>match x.pv with
  | .ptr id (.at o)=>match s.mem id with
   |some (.box bs)=>match lC bs o τ.size with
    |some cs=>match bx s τ f cs with
     |some (d,[],U,V)=>some ⟨[.agg (inj τ d)],U,V,[id],[.var (.ptr id (.at o)) τ]⟩
     |_=>none
    |none=>none
   |_=>none
  |_=>none
def cf (s:St):List PK→List SV→Option Ar
 | [],[]=>some ⟨[],[],[],[],[]⟩
 |p::ps,x::xs=>match eo s p x,cf s ps xs with
  |some a,some b=>some ⟨a.as++b.as,a.U++b.U,a.V++b.V,a.P++b.P,a.bk++b.bk⟩
  |_,_=>none
 |_,_=>none
def vA (sh:List (Ty×Bool)) (cs:List PV):Option SV:=
 match sh with
 | []=>some (.tup [] [])
 | [(τ,true)]=>match dT cs τ.size with|some a=>some (.agg a)|none=>none
 | [(τ,false)]=>match dT cs τ.size with|some [c]=>some (.v c)|_=>none
 |sh=>match dT cs ((sh.map (·.1.size)).foldr (· + ·) 0)with
  |some a=>some (.tup a (sh.map fun x=>(x.1.size,x.2)))
  |none=>none
def Ez (id:Nat):(τ:Ty)→Fl→τ.den→Nat→(List PV→List (Nat×bV)→Nat→Option R)→Option R
 | .list e,.own T g,xs,j,k=>k [.own (id+j)] [(id+j,.rows T e g xs)] (j+1)
 | .opt e,.box,x,j,k=>match x with
  |none=>k [.nilp] [] (j+1)
  |some y=>k [.ptr (id+j) (.at 0)] [(id+j,.box (inj e y))] (j+1)
 | .pair a b,.pair f g,x,j,k=>Ez id a f x.1 j fun c u j=>Ez id b g x.2 j fun c' u' j=>k (c++c') (u++u') j
 |τ,_,x,j,k=>k (inj τ x) [] j
def ai:List (Nat×bV)→Nat→Option bV
 | [],_=>none
 |(j,x)::r,t=>bif Nat.beq t j then some x else ai r t
def se (nw:List (Nat×bV)):(τ:Ty)→Fl→List PV→List PV→Option (List bE×List PV×List PV)
 | .list e,.own _ _,old,new=>match old,new with
  | .own i::old,.own j::new=>match ai nw j with
   |some (.rows T e' g xs)=>match decEq e' e with
    | .isTrue _=>some ([.set j .dead,.set i (.rows T e' g xs)],old,new)
    | .isFalse _=>none
   |_=>none
  | .nils::old,.own _::new=>some ([],old,new)
  |_,_=>none
 | .pair a b,.pair f g,old,new=>match se nw a f old new with
  |some (u,old,new)=>match se nw b g old new with
   |some (u',old,new)=>some (u++u',old,new)
   |none=>none
  |none=>none
 |τ,_,old,new=>match aY old τ.size with
  |some old=>some ([],old,new)
  |none=>none
def ep (s:St) (nw:List (Nat×bV)):List Bk→List PV→Option (List bE)
 | [],[]=>some []
 | .var (.ptr id (.at o)) τ::bs,cs=>match dT cs τ.size,aY cs τ.size with
  |some a,some b=>match s.mem id with
   |some (.box old)=>match mA old o τ.size a with
    |some new=>match ep s nw bs b with
     |some us=>some (.set id (.box new)::us)
     |none=>none
    |none=>none
   |_=>none
  |_,_=>none
 | .lend old τ f::bs,cs=>match se nw τ f old cs with
  |some (us,[],cs)=>match ep s nw bs cs with
   |some vs=>some (us++vs)
   |none=>none
  |_=>none
 |_,_=>none
def jv:(τ:Ty)→Fl→List PV→List Nat
 | .list _,.own _ _,cs=>match cs with
  | .own i::_=>[i]
  |_=>[]
 | .pair a b,.pair f g,cs=>jv a f cs++match aY cs a.size with
  |some cs=>jv b g cs
  |none=>[]
 |_,_,_=>[]
def pt:List Bk→List Nat
 | []=>[]
 | .var (.ptr id _) _::bs=>id::pt bs
 | .var _ _::bs=>pt bs
 | .lend cs τ f::bs=>jv τ f cs++pt bs
def zE (l:List Nat):Bool:=l.all fun i=>Nat.blt (i%128) 127
def ns (C:bP) (env:C.Env) (id:Nat) (s:St) (g:Nat) (sg:je) (A:Ar) (k:SV→List bE→List Nat→Option R):Option R:=
 bif c6 (A.U++A.P)&&gF (A.U++A.P) A.V&&(!(C.resTy g).shares sg.resFl||zE A.V)&&c6 (pt A.bk)&&(pt A.bk).all (fun i=>(A.U++A.P).any (Nat.beq i))then
  (env g A.as).bind fun r=>Ez id (C.resTy g) sg.resFl r 0 fun cs new j=>
   match vA sg.res cs,aY cs ((sg.res.map (·.1.size)).foldr (· + ·) 0)with
   |some x,some back=>bif Nat.ble j 32&&fM s new&&c6 (new.map (·.1))&&c6 (aF back)then
     match ep s new A.bk back with
     |some us=>k x ((bif (C.resTy g).shares sg.resFl then A.V.map .frz else[])++((A.U++A.P).map (.set · .dead)++cp new)++us) A.V
     |none=>none
    else none
   |_,_=>none
 else none
def jw (C:bP) (env:C.Env) (id:Nat) (s:St) (xs:List SV) (k:SV→List bE→List Nat→Option R):List Nat→Option R
 | []=>none
 |g::gs=>match C.sig g with
  |some sg=>match cf s sg.params xs with
   |some A=>ns C env id s g sg A k
   |none=>jw C env id s xs k gs
  |none=>jw C env id s xs k gs
def ja (C:bP) (env:C.Env) (id:Nat) (s:St) (f:FuncId) (xs:List SV) (k:SV→List bE→List Nat→Option R):Option R:=
 jw C env id s xs k (C.alts f)
def mH:List qK→Option (List SV)
 | []=>some []
 |c::cs=>match c.sv,mH cs with
  |some x,some xs=>some (x::xs)
  |_,_=>none
def I5 (C:bP) (env:C.Env) (id:Nat) (s:St) (x:SV) (xs:List SV) (k:SV→List bE→List Nat→Option R):Option R:=
 match x with
 | .v (.fn f caps)=>match mH caps with
  |some ys=>ja C env id s f (xs++ys) k
  |none=>none
 |_=>none
def sf (s:St) (p:PK) (x:SV):Option (qK×List Nat):=
 match p with
 | .val τ=>match x.cells with
  |some cs=>match aQ τ (cs.map s.dat)with
   |some d=>match ju τ x.isA d with
    |some _=>some (bif x.isA then .agg τ d else .dat τ d,aF cs)
    |none=>none
   |none=>none
  |none=>none
 | .ro τ=>match x.pv with
  | .ptr id (.at 0)=>match nr s id with
   |some cs=>match aQ τ (cs.map s.dat)with
    |some d=>some (.cref τ d,id::aF cs)
    |none=>none
   |none=>none
  | .cptr τ' d 0=>some (.cref τ' d,[])
  |_=>none
 | .var _ _=>match x.pv with
  | .ptr id (.at 0)=>some (.ref id,[])
  |_=>none
 |_=>none
def fe (s:St):List PK→List SV→Option (List qK×List Nat)
 | [],[]=>some ([],[])
 |p::ps,x::xs=>match sf s p x,fe s ps xs with
  |some (c,i),some (cs,is)=>some (c::cs,i++is)
  |_,_=>none
 |_,_=>none
def dj (C:bP) (s:St) (f:FuncId) (xs:List SV) (k:PV→List bE→List Nat→Option R):Option R:=
 match C.alts f with
 |g::_=>match C.sig g with
  |some sg=>match fe s (sg.params.drop (sg.params.length-xs.length)) xs with
   |some (cs,is)=>bif zE is then k (.fn f cs) (is.map .frz) is else none
   |none=>none
  |none=>none
 | []=>match xs with
  | []=>k (.fn f []) [] []
  |_=>none
def xH (C:bP) (env:C.Env) (id:Nat) (op:Op) (s:St) (k:SV→List bE→List Nat→Option R):Option R:=
 match op with
 | .move x| .assign x=>k (s.ev x) [] []
 | .pick c a b=>sb (s.ev c) (s.ev a) (s.ev b) fun x=>k x [] []
 | .binOp op t x y _=>match s.ev x,s.ev y with
  | .v (.bool x),.v (.bool y)=>sd C op t x y fun r=>k (.v r) [] []
  | .v x,.v y=>tC op x y fun r=>k (.v r) [] []
  | .agg x,.agg y=>Ov C op t x y fun r=>k (.v r) [] []
  |_,_=>none
 | .unOp op _ x=>match s.ev x with
  | .v x=>I4 op x fun r=>k (.v r) [] []
  |_=>none
 | .alloc t=>match C.ti t with
  |some I=>cv s id (k (.v (.ptr id (.at 0))) [.set id (.box I.zero)] [])
  |none=>none
 | .box t x=>match C.ti t,(s.ev x).cells with
  |some I,some cs=>bif Nat.beq (bh cs) I.size then cv s id (k (.v (.ptr id (.at 0))) [.set id (.box cs)] [])else none
  |_,_=>none
 | .build t ps=>mG C t (s.evs ps.toList) fun cs=>k (.agg cs) [] []
 | .buildSlice t n ps=>match C.ti t with
  |some ⟨.slice e,_,_,_,_,_⟩=>match C.ti e with
   |some E=>match Ey (C.elf t id) e E.ty (s.evs ps.toList)with
    |some b=>bif Nat.beq ps.toList.length n&&Nat.ble 1 E.size&&Nat.ble (n*E.size) 16777216 then cv s id (k (.v (.own id)) [.set id b] [])else none
    |none=>match iK E.ty s 0 (s.evs ps.toList)with
    |some xs=>bif Nat.beq ps.toList.length n&&Nat.ble 1 E.size&&Nat.ble (n*E.size) 16777216 then
      cv s id (k (.v (.own id)) (AO (be (s.evs ps.toList))++[.set id (.rows e E.ty .no xs)]) (aF (be (s.evs ps.toList))))else none
    |none=>none
   |none=>none
  |_=>none
 | .makeSlice t n c=>bif IE n c then cq C s id t (s.ev n).pv fun p us=>k (.v p) us []else none
 | .load t a=>match s.ev a with
  | .v p=>kC C s id t p fun x us=>k x us p.leads
  |_=>none
 | .store t a x=>match s.ev a with
  | .v p=>gC C s t p (s.ev x) fun us rs=>k (.v .undef) us rs
  |_=>none
 | .fieldAddr t x f=>match s.ev x,ie C t f with
  | .v p,some (off,size)=>bif Nat.ble 1 size then(match ob p off with|some p=>k (.v p) [] []|none=>none)else none
  |_,_=>none
 | .field t x f=>match s.ev x,ie C t f,lK C t f with
  | .agg cs,some (off,size),some agg=>match lC cs off size with
   |some c=>bif agg then k (.agg c) [] []else match c with
    | [c]=>bif Nat.beq c.width 1 then k (.v c) [] []else none
    |_=>none
   |none=>none
  |_,_,_=>none
 | .indexAddr t x i=>b9 C s t (s.ev x).pv (s.ev i).pv fun p=>k (.v p) [] (s.ev x).pv.owns
 | .index t x i=>k8 C t (s.ev x) (s.ev i).pv fun x=>k x [] []
 | .nilCheck x=>match s.ev x with
  | .v (.ptr a b)=>k (.v (.ptr a b)) [] []
  | .v (.elt a b c)=>k (.v (.elt a b c)) [] []
  | .v (.cptr a b c)=>k (.v (.cptr a b c)) [] []
  |_=>none
 | .slice t x lo hi none=>gD C s t (s.ev x).pv (lo.map fun o=>(s.ev o).pv) (hi.map fun o=>(s.ev o).pv) fun p us=>k (.v p) us []
 | .convert src dst x=>match s.ev x with
  | .v p=>bif nq C src&&lJ C dst then gE C s id src dst p (fun p us=>k (.v p) us [])else kE C s src dst p fun q=>k (.v q) [] p.owns
  |_=>none
 | .extract t i=>ig (s.ev t) i fun x=>k x [] []
 | .makeFunc (.func f) first captured=>match first.toList with
  | []=>dj C s f (captured.toList.map s.ev) fun p us rs=>k (.v p) us rs
  |_=>none
 | .call c=>match c.callee with
  | .value (.func f)=>ja C env id s f (c.args.toList.map s.ev) k
  | .value f=>I5 C env id s (s.ev f) (c.args.toList.map s.ev) k
  | .builtin .len=>match c.args.toList,c.argTypes.toList with
   | [x],[t]=>rc C s t (s.ev x).pv fun p=>k (.v p) [] (s.ev x).pv.owns
   |_,_=>none
  | .builtin .append=>match c.args.toList,c.argTypes.toList with
   | [x,y],[t,t']=>bif Nat.beq t t' then dF C s id t (s.ev x).pv (s.ev y).pv fun p us=>k (.v p) us (s.ev y).pv.owns else none
   |_,_=>none
  | .builtin .max=>match Hw (c.args.toList.map fun x=>(s.ev x).pv)with
   |some p=>k (.v p) [] []
   |none=>none
  | .builtin .min=>match Hx (c.args.toList.map fun x=>(s.ev x).pv)with
   |some p=>k (.v p) [] []
   |none=>none
  |_=>none
 |_=>none
structure cT where
 w:List Nat
 f:List Nat
 r:List Nat
def bb:List bE→List Nat
 | []=>[]
 | .set id _::us=>id::bb us
 |_::us=>bb us
def updF:List bE→List Nat
 | []=>[]
 | .frz id::us=>id::updF us
 |_::us=>updF us
def bu (s:St) (id:Nat):Bool:=match s.mem id with
 |some (.rows _ _ f _)=> !f.isNo
 |some (.opn _ _ _ _ _ _)=>true
 |_=>false
def jx (s:St) (us:List bE) (rs:List Nat):cT:=⟨bb us++(updF us).filter (bu s),(updF us).filter (fun i=> !bu s i),rs⟩
def nN (o:Oper) (k:St→cT→Option R) (F:cT) (x:SV) (s:St):Option R:=
 match o.dst with
 |none=>k s F
 |some d=>bif Nat.blt d s.n then k (s.put d x) F else none
def gd (ops:Array Oper) (o:Oper) (s:St) (yes no:St→Option R):Option R:=
 match o.guard with
 |none=>yes s
 |some (j,want)=>match(ops[j]?).bind (·.dst)with
  |none=>none
  |some d=>match s.tmps d with
   | .v (.bool c)=>bif c then(bif want then yes (s.put d (.v (.bool true)))else no (s.put d (.v (.bool true))))
     else(bif want then no (s.put d (.v (.bool false)))else yes (s.put d (.v (.bool false))))
   | .tup _ _=>no s
   |_=>none
def fo (C:bP) (env:C.Env) (ops:Array Oper) (o:Oper) (s:St) (k:St→cT→Option R):Option R:=
 gd ops o s (fun s=>xH C env (128*o.dst.getD 0) o.op s fun x us rs=>nN o k (jx s us rs) x (s.upds us)) (nN o k ⟨[],[],[]⟩ (.tup [] []))
def closeU (s:St) (id:Nat):List bE:=match s.mem id with
 |some (.opn T e f xs i cs)=>match bx s e f cs with
  |some (x,[],U,V)=>bif c6 (id::U)&&gF (id::U) V then V.map .frz++((id::U).map (.set · .dead)++[.set id (.rows T e f (xs.set i.toNat x))])else[]
  |_=>[]
 |_=>[]
def closeS:List Nat→St→St
 | [],s=>s
 |id::r,s=>closeS r (s.upds (closeU s id))
def pw (s:St):SV→List Nat
 | .v (.own id)=>[id]
 | .v (.ptr id _)=>match s.mem id with
  |some (.box cs)=>aF cs
  |_=>[]
 | .agg cs=>aF cs
 |_=>[]
def IF (s:St):Op→List Nat
 | .call c=>match c.callee with
  | .builtin .append=>match c.args.toList with
   |x::_=>pw s (s.ev x)
   | []=>[]
  | .value _=>c.args.toList.flatMap fun x=>pw s (s.ev x)
  |_=>[]
 | .slice _ x _ _ _=>pw s (s.ev x)
 |_=>[]
def A4 (C:bP) (env:C.Env) (ops:Array Oper):List Oper→St→(St→Option R)→Option R
 | [],s,k=>k s
 |o::r,s,k=>fo C env ops o (closeS (IF s o.op) s) fun s _=>A4 C env ops r s k
def nO (C:bP) (env:C.Env) (ops:Array Oper):List Oper→St→(St→List cT→Option R)→Option R
 | [],s,k=>k s []
 |o::r,s,k=>fo C env ops o s fun s F=>nO C env ops r s fun s Fs=>k s (F::Fs)
def cT.free (F G:cT):Bool:=gF F.w (G.w++(G.f++G.r))&&gF G.w (F.f++F.r)
def fO (ms:List Nat) (i:Nat):Nat:=ms.getD i 0
def si (ms:List Nat) (i:Nat):List Edge→Option Nat
 | []=>some 0
 |e::es=>bif Region.binds .any e then(bif Nat.blt e.on i then match si ms i es with
   |some m=>some (Nat.lor (Nat.lor (Nat.shiftLeft 1 e.on) (fO ms e.on)) m)
   |none=>none
  else none)else si ms i es
def vB:List Oper→Nat→List Nat→Option (List Nat)
 | [],_,ms=>some ms
 |o::r,i,ms=>match si ms i o.after.toList with
  |some m=>vB r (i+1) (ms++[m])
  |none=>none
def ii (C:bP) (op:Op):Bool:=match op with
 | .call c=>match c.callee with
  | .value (.func f)=>Nat.ble (C.alts f).length 1
  | .value _=>false
  |_=>true
 |_=>true
def sj (C:bP) (ops:Array Oper) (i:Nat) (oi:Oper) (Fi:cT):List Oper→List Nat→List cT→Bool
 |oj::os,mj::ms,Fj::Fs=>(Nat.testBit mj i|| (ii C oi.op&&ii C oj.op&&oi.apart ops oj&&Fi.free Fj))&&sj C ops i oi Fi os ms Fs
 | [],[],[]=>true
 |_,_,_=>false
def OL (C:bP) (ops:Array Oper):Nat→List Oper→List Nat→List cT→Bool
 |i,oi::os,_::ms,Fi::Fs=>sj C ops i oi Fi os ms Fs&&OL C ops (i+1) os ms Fs
 |_,[],[],[]=>true
 |_,_,_,_=>false
def OM (C:bP) (ops:Array Oper) (Fs:List cT):Bool:=match vB ops.toList 0 []with
 |some ms=>OL C ops 0 ops.toList ms Fs
 |none=>false
abbrev dY (R:Type):=Exit→St→Option R
def ON (d:dY R→St→Option R) (K:dY R):dY R:=fun e s=>match e with
 | .normal=>d K s
 |e=>K e s
def tE (id:Nat) (K:dY R):dY R:=fun e s=>match e with
 | .exit j=>bif Nat.beq j id then K .normal s else K (.exit j) s
 |e=>K e s
def jy:Code→Nat
 | .region id _ _=>id
 | .seq a _=>jy a
 | .block _ b=>jy b
 | .loop b=>jy b
 | .cond _ a _=>jy a
 |_=>0
def af:List (Nat×SV)→Nat→SV
 | [],_=> .v .undef
 |(j,x)::r,t=>bif Nat.beq t j then x else af r t
structure HS where
 x:SV
 ms:List (Nat×bV)
 U:List Nat
 V:List Nat
def oc (s:St) (t:Nat) (k:LK):Option HS:=
 match k,s.tmps t with
 | .val τ f,.v p=>match p with
  | .undef=>none
  |p=>match bx s τ f [p]with
   |some (x,[],U,V)=>match aE (128*t+32) τ f x 0 with
    |([c],ms,j)=>bif Nat.ble j 30 then some ⟨.v c,ms,U,V⟩else none
    |_=>none
   |_=>none
 | .agg τ f,.agg cs=>match bx s τ f cs with
  |some (x,[],U,V)=>match aE (128*t+32) τ f x 0 with
   |(cs,ms,j)=>bif Nat.ble j 30 then some ⟨.agg cs,ms,U,V⟩else none
  |_=>none
 | .box τ f,.v (.ptr id (.at 0))=>match s.mem id with
  |some (.box cs)=>match bx s τ f cs with
   |some (x,[],U,V)=>match aE (128*t+32) τ f x 0 with
    |(cs,ms,j)=>bif Nat.ble j 30&&Nat.blt (id%128) 64 then some ⟨.v (.ptr (128*t+63) (.at 0)),ms++[(128*t+63,.box cs)],id::U,V⟩else none
   |_=>none
  |_=>none
 | .par τ f,.v (.ptr id (.at 0))=>match s.mem id with
  |some (.box cs)=>match bx s τ f cs with
   |some (x,[],U,V)=>match aE (128*t+32) τ f x 0 with
    |(cs,ms,j)=>bif Nat.ble j 30&&Nat.beq (id%128) 127 then some ⟨.v (.ptr id (.at 0)),ms++[(id,.box cs)],id::U,V⟩else none
   |_=>none
  |_=>none
 | .pown T e g,.v (.own id)=>match s.mem id with
  |some (.rows T' e' g' xs)=>bif Nat.beq T' T&&decide (g'=g)&&Nat.ble 64 (id%128)then match decEq e' e with
   | .isTrue h=>some ⟨.v (.own id),[(id,.rows T e g (bw h xs))],[id],[]⟩
   | .isFalse _=>none
   else none
  |_=>none
 | .ro τ,.v (.cptr τ' x 0)=>match decEq τ' τ with
  | .isTrue _=>some ⟨.v (.cptr τ' x 0),[],[],[]⟩
  | .isFalse _=>none
 | .keep,.v p=>match p with
  | .undef=>none
  |p=>bif p.closed then some ⟨.v p,[],[],[]⟩else none
 |_,_=>none
def gp (s:St):List (Nat×LK)→Nat→Option (List (Nat×SV)×List (Nat×bV)×List Nat×List Nat)
 | [],_=>some ([],[],[],[])
 |(t,k)::r,lo=>bif Nat.ble lo t then
   match oc s t k with
   |some H=>match gp s r (t+1)with
    |some (ts,ms,U,V)=>some ((t,H.x)::ts,H.ms++ms,H.U++U,H.V++V)
    |none=>none
   |none=>none
  else none
def canon0 (s:St) (ls:List (Nat×LK)):Option St:=
 match gp s ls 0 with
 |some (ts,ms,U,V)=>bif c6 U&&gF U V&&c6 (ms.map (·.1))then some ⟨s.n,af ts,ai ms⟩else none
 |none=>none
def vC (s:St) (t0:Nat):Option Nat→SV
 |none=>s.tmps t0
 |some k=>match s.tmps t0 with
  | .agg cs=>match lC cs k 1 with
   |some [c]=> .v c
   |_=> .v .undef
  | .v (.ptr id (.at 0))=>match s.mem id with
   |some (.box cs)=>match lC cs k 1 with
    |some [c]=> .v c
    |_=> .v .undef
   |_=> .v .undef
  |_=> .v .undef
def jz (s q:St):List qK→List Nat→Option (List qK)
 | [],[]=>some []
 | .ref i::cs,t0::ts=>match s.tmps t0,q.tmps t0,jz s q cs ts with
  | .v (.ptr j (.at 0)),.v (.ptr m (.at 0)),some r=>bif Nat.beq i j then some (.ref m::r)else none
  |_,_,_=>none
 |_,_=>none
def sames (s:St):List (Nat×LK)→St→Option St
 | [],q=>some q
 |(t,.same t0 k)::r,q=>match s.tmps t,vC s t0 k,vC q t0 k with
  | .v (.own i),.v (.own j),.v (.own m)=>bif Nat.beq i j then sames s r (q.put t (.v (.own m)))else none
  | .v (.ptr i (.at 0)),.v (.ptr j (.at 0)),.v (.ptr m (.at 0))=>bif Nat.beq i j then sames s r (q.put t (.v (.ptr m (.at 0))))else none
  |_,_,_=>none
 |(t,.clos ts)::r,q=>match s.tmps t with
  | .v (.fn f caps)=>match jz s q caps ts with
   |some caps=>sames s r (q.put t (.v (.fn f caps)))
   |none=>none
  |_=>none
 |_::r,q=>sames s r q
def pz:List (Nat×LK)→List (Nat×LK)
 | []=>[]
 |(_,.sub _ _)::r=>pz r
 |(_,.same _ _)::r=>pz r
 |(_,.clos _)::r=>pz r
 |p::r=>p::pz r
def canon (s:St) (ls:List (Nat×LK)):Option St:=
 match canon0 s (pz ls)with
 |some q=>sames s ls q
 |none=>none
def subs (s:St):List (Nat×LK)→St→Option St
 | [],q=>some q
 |(t,.sub t0 k)::r,q=>match s.tmps t,s.tmps t0,q.tmps t0 with
  | .v (.own i),.v (.own p),.v (.own p')=>match s.mem p,q.mem p' with
   |some (.opn _ e _ _ n cs),some (.rows T' e' f' ys)=>match lC cs k 1,lC (aE (128*t+32) e' f' (rd ys n) 0).1 k 1 with
    |some [.own j],some [.own m]=>bif Nat.beq i j&&Nat.beq e.size e'.size&&Nat.ble (aE (128*t+32) e' f' (rd ys n) 0).2.2 30&&fM q (aE (128*t+32) e' f' (rd ys n) 0).2.1 then
      subs s r ((q.upds (.set p' .dead::(cp (aE (128*t+32) e' f' (rd ys n) 0).2.1++[.set p' (.opn T' e' f' ys n (aE (128*t+32) e' f' (rd ys n) 0).1)]))).put t (.v (.own m)))
     else none
    |_,_=>none
   |_,_=>none
  |_,_,_=>none
 |_::r,q=>subs s r q
def zG (s:St) (ls:List (Nat×LK)):List Nat:=ls.flatMap fun p=>match p.2 with
 | .sub _ _=>[]
 |_=>pw s (s.tmps p.1)
def mI (C:bP) (f:Nat) (b:Code) (s:St):Option St:=
 match C.loop f (jy b)with
 |some ls=>match canon (closeS (zG s ls) s) ls with
  |some q=>subs s ls q
  |none=>none
 |none=>none
def den (C:bP) (f:Nat) (env:C.Env) (lp:Code→dY R→St→Option R):Code→dY R→St→Option R
 | .skip,K,s=>K .normal s
 | .ret,K,s=>K .ret s
 | .exit id,K,s=>K (.exit id) s
 | .region _ ops draw,K,s=>bif draw then nO C env ops ops.toList s fun s Fs=>bif OM C ops Fs then K .normal s else none
  else A4 C env ops ops.toList s (K .normal)
 | .seq a b,K,s=>den C f env lp a (ON (den C f env lp b) K) s
 | .cond c a b,K,s=>match s.ev c with
  | .v (.bool c)=>bif c then den C f env lp a K s else den C f env lp b K s
  |_=>none
 | .block id b,K,s=>den C f env lp b (tE id K) s
 | .loop b,K,s=>match mI C f b s with
  |some s=>lp b K s
  |none=>none
 |_,_,_=>none
def lL (C:bP) (f:Nat) (b:Code) (L:St→Option R) (K:dY R):dY R:=fun e s=>match e with
 | .normal=>match mI C f b s with
  |some s=>L s
  |none=>none
 |e=>K e s
def mJ (C:bP) (f:Nat) (env:C.Env):Nat→Code→dY R→St→Option R
 |0,_,_,_=>none
 |n+1,b,K,s=>den C f env (mJ C f env n) b (lL C f b (mJ C f env n b K) K) s
def eP (i:Nat) (τ:Ty) (f:Fl) (cs:List PV):Option (List PV×List (Nat×bV)):=match aQ τ cs with
 |some x=>match aE (128*i+64) τ f x 0 with
  |(cs,ms,j)=>bif Nat.ble j 60 then some (cs,ms)else none
 |none=>none
def enter:List PK→List SV→Nat→List (Nat×SV)→List (Nat×bV)→Option (List (Nat×SV)×List (Nat×bV))
 | [],[],_,ts,ms=>some (ts,ms)
 | .var τ f::ps,.agg cs::xs,i,ts,ms=>match eP i τ f cs with
  |some (cs,m)=>enter ps xs (i+1) ((i,.v (.ptr (128*i+127) (.at 0)))::ts) ((128*i+127,.box cs)::(m++ms))
  |none=>none
 | .give τ f::ps,x::xs,i,ts,ms| .lend τ f::ps,x::xs,i,ts,ms=>match x with
  | .v c=>match eP i τ f [c]with
   |some ([c],m)=>enter ps xs (i+1) ((i,.v c)::ts) (m++ms)
   |_=>none
  | .agg cs=>match eP i τ f cs with
   |some (cs,m)=>enter ps xs (i+1) ((i,.agg cs)::ts) (m++ms)
   |none=>none
  |_=>none
 |_::ps,x::xs,i,ts,ms=>enter ps xs (i+1) ((i,x)::ts) ms
 |_,_,_,_,_=>none
def OO:List PV→Bool
 | [c]=>Nat.beq c.width 1
 |_=>false
def c7 (C:bP) (s:St):List ResultVar→List (Ty×Bool)→Option (List PV)
 | [],[]=>some []
 | .tmp t::rs,(τ,agg)::ts=>match s.tmps t,c7 C s rs ts with
  | .v .undef,_=>none
  | .v p,some r=>bif agg then none else(bif Nat.beq τ.size 1 then some (p::r)else none)
  | .agg cs,some r=>bif agg&&Nat.beq (bh cs) τ.size then some (cs++r)else none
  |_,_=>none
 | .cell a t::rs,(τ,agg)::ts=>match C.ti t,s.tmps a,c7 C s rs ts with
  |some I,.v p,some r=>match s.look p I.size with
   |some cs=>bif Nat.beq I.size τ.size then(bif agg then(bif I.isAgg then some (cs++r)else none)else(bif I.isAgg|| !OO cs then none else some (cs++r)))else none
   |none=>none
  |_,_,_=>none
 |_,_=>none
def jA (id:Nat):(τ:Ty)→Fl→Nat→List PV×Nat
 | .list _,.own _ _,j=>([.own (id+j)],j+1)
 | .pair a b,.pair f g,j=>match jA id a f j with
  |(c,j)=>match jA id b g j with
   |(c',j)=>(c++c',j)
 | .opt _,.box,j=>([],j+1)
 |_,_,j=>([],j)
def EA (s:St) (i:Nat):Bool:=match s.mem i with
 |some (.rows _ _ _ _)=>true
 |_=>false
def cO (s:St):List PK→Nat→Option (List PV)
 | [],_=>some []
 | .var τ _::ps,i=>match s.mem (128*i+127),cO s ps (i+1)with
  |some (.box cs),some r=>bif Nat.beq (bh cs) τ.size then some (cs++r)else none
  |_,_=>none
 | .lend τ f::ps,i=>match cO s ps (i+1)with
  |some r=>bif (aF (jA (128*i+64) τ f 0).1).all (EA s)then some ((jA (128*i+64) τ f 0).1++r)else none
  |none=>none
 |_::ps,i=>cO s ps (i+1)
def od (s:St):List PK→Nat→List Nat
 | [],_=>[]
 | .var _ _::ps,i=>pw s (.v (.ptr (128*i+127) (.at 0)))++od s ps (i+1)
 | .lend τ f::ps,i=>aF (jA (128*i+64) τ f 0).1++od s ps (i+1)
 |_::ps,i=>od s ps (i+1)
def xI (s:St) (rs:List ResultVar) (ps:List PK):List Nat:=(rs.flatMap fun r=>match r with
 | .tmp t=>pw s (s.tmps t)
 | .cell a _=>pw s (s.tmps a))++od s ps 0
def OP (C:bP) (f:Nat) (sg:je) (rs:List ResultVar) (s:St):Option (C.Res f):=
 match c7 C s rs sg.res,cO s sg.params 0 with
  |some a,some b=>match bx s (C.resTy f) sg.resFl (a++b)with
   |some (x,[],U,V)=>bif c6 U&&gF U V then some x else none
   |_=>none
  |_,_=>none
def I6 (C:bP) (f:Nat) (sg:je) (rs:List ResultVar):dY (C.Res f):=fun e s=>match e with
 | .normal| .ret=>OP C f sg rs (closeS (xI s rs sg.params) s)
 |_=>none
def EB (C:bP) (env:C.Env) (lp:(f:Nat)→Code→dY (C.Res f)→St→Option (C.Res f)) (f:Nat) (args:List SV):Option (C.Res f):=
 match C.fn f,C.sig f with
 |some F,some sg=>match F.body,enter sg.params args 0 [] []with
  |some c,some (ts,ms)=>den C f env (lp f) c (I6 C f sg F.results.toList) ⟨F.ntmps,af ts,ai ms⟩
  |_,_=>none
 |_,_=>none
def EC (C:bP) (env:C.Env) (lp:(f:Nat)→Code→dY (C.Res f)→St→Option (C.Res f)) (f:Nat) (args:List SV):Option (C.Res f):=
 match C.prim f with
 |some p=>(p args).bind (aQ (C.resTy f))
 |none=>EB C env lp f args
def mK (C:bP):Nat→C.Env
 |0=>fun _ _=>none
 |n+1=>fun f args=>EC C (mK C n) (fun f=>mJ C f (mK C n) n) f args
open Classical in
noncomputable def lim {α:Type} (F:Nat→Option α):Option α:=
 if h:∃r n,F n=some r then some (Classical.choose h)else none
noncomputable def au (C:bP):C.Env:=fun f args=>lim fun n=>mK C n f args
noncomputable def Lp (C:bP) (f:Nat) (b:Code) (K:dY R) (s:St):Option R:=lim fun n=>mJ C f (au C) n b K s
def xJ:List Nat→Code→Code
 |0::p,.seq a _=>xJ p a
 |_::p,.seq _ b=>xJ p b
 |0::p,.cond _ a _=>xJ p a
 |_::p,.cond _ _ b=>xJ p b
 |_::p,.block _ b=>xJ p b
 |_::p,.loop b=>xJ p b
 |_,c=>c
noncomputable def pA (C:bP) (f:Nat):List Nat→Code→dY R→dY R
 |0::p,.seq a b,K=>pA C f p a (ON (den C f (au C) (Lp C f) b) K)
 |_::p,.seq _ b,K=>pA C f p b K
 |0::p,.cond _ a _,K=>pA C f p a K
 |_::p,.cond _ _ b,K=>pA C f p b K
 |_::p,.block id b,K=>pA C f p b (tE id K)
 |_::p,.loop b,K=>pA C f p b (lL C f b (Lp C f b K) K)
 |_,_,K=>K
noncomputable def Q1 (C:bP) (f:Nat) (c:Code) (rs:List ResultVar) (sg:je) (p:List Nat) (s:St):Option (C.Res f):=
 match xJ p c with
 | .loop b=>Lp C f b (pA C f p c (I6 C f sg rs)) s
 |_=>none
end
def lM {α:Type}:List (Nat×α)→Nat→Option α
 | [],_=>none
 |(j,x)::r,t=>bif Nat.beq t j then some x else lM r t
def OQ {α:Type} (l:List (Nat×List (Nat×α))) (f r:Nat):Option α:=match lM l f with|some m=>lM m r|none=>none
end Go.Ps
