import Derived.Test.YtfgjcohcpehcjaaGreatPsA
import Derived.Orders
namespace Go.Ps
set_option linter.unusedVariables false
def andI (k:IntKind) (x y:Int):Int:=k.wrap ((BitVec.ofInt k.bits x&&&BitVec.ofInt k.bits y).toNat)
def ib (k:IntKind) (x y:Int):Int:=k.wrap ((BitVec.ofInt k.bits x|||BitVec.ofInt k.bits y).toNat)
def Gz (k:IntKind) (x y:Int):Int:=k.wrap ((BitVec.ofInt k.bits x^^^BitVec.ofInt k.bits y).toNat)
def sn (k:IntKind) (x y:Int):Int:=k.wrap ((BitVec.ofInt k.bits x&&& ~~~BitVec.ofInt k.bits y).toNat)
def cT (k:IntKind) (x y:Int):Int:=k.wrap (x*2^(min y.toNat k.bits))
def lA (k:IntKind) (x y:Int):Int:=x.fdiv (2^(min y.toNat k.bits))
def dd (a b:ByteArray):Bool:=a.toList==b.toList
def tY (a b:ByteArray):Bool:=Op.bytesLess a.toList b.toList
def bt (s:ByteArray) (i:Int):Int:=((s.data.getD i.toNat 0).toNat:Int)
section
variable {R:Type}
def yP (op:BinOp) (a:IntKind) (m n:Int) (k:PV→Option R):Option R:=
 match op with
 | .add=>k (.int a (a.wrap (m+n)))
 | .sub=>k (.int a (a.wrap (m-n)))
 | .mul=>k (.int a (a.wrap (m*n)))
 | .quo=>bif decide (n=0)then none else k (.int a (a.wrap (m.tdiv n)))
 | .rem=>bif decide (n=0)then none else k (.int a (m.tmod n))
 | .and=>k (.int a (andI a m n))
 | .or=>k (.int a (ib a m n))
 | .xor=>k (.int a (Gz a m n))
 | .andNot=>k (.int a (sn a m n))
 | .eql=>k (.bool (decide (m=n)))
 | .neq=>k (.bool (!decide (m=n)))
 | .lss=>k (.bool (decide (m<n)))
 | .leq=>k (.bool (decide (m≤n)))
 | .gtr=>k (.bool (decide (m>n)))
 | .geq=>k (.bool (decide (m≥n)))
 |_=>none
def so (op:BinOp) (x y:PV) (k:PV→Option R):Option R:=
 match x,y with
 | .int a m,.int b n=>
  match op with
  | .shl=>bif decide (n<0)then none else k (.int a (cT a m n))
  | .shr=>bif decide (n<0)then none else k (.int a (lA a m n))
  |op=>match decEq a b with
   | .isFalse _=>none
   | .isTrue _=>yP op a m n k
 | .str a,.str b=>
  match op with
  | .add=>bif decide (a.size+b.size≤9223372036854775807)then k (.str (a++b))else none
  | .eql=>k (.bool (dd a b))
  | .neq=>k (.bool (!dd a b))
  | .lss=>k (.bool (tY a b))
  | .leq=>k (.bool (tY a b||dd a b))
  | .gtr=>k (.bool (!(tY a b||dd a b)))
  | .geq=>k (.bool (!tY a b))
  |_=>none
 |_,_=>none
def DT (op:UnOp) (x:PV) (k:PV→Option R):Option R:=
 match op,x with
 | .neg,.int a n=>k (.int a (a.wrap (0-n)))
 | .xor,.int a n=>k (.int a (Gz a (if a.signed then-1 else a.max) n))
 | .not,.bool b=>k (.bool (!b))
 |_,_=>none
def qN (c a b:SV) (k:SV→Option R):Option R:=
 match c with
 | .v (.bool c)=>match a,b with
  | .v (.bool x),.v (.bool y)=>k (.v (.bool (bif c then x else y)))
  |a,b=>bif c then k a else k b
 |_=>none
def qO (C:b9) (op:BinOp) (t:TypeId) (a b:Bool) (k:PV→Option R):Option R:=
 match C.ti t with
 |some I=>match I.ty with
  | .bool=>match op with
   | .eql=>k (.bool (a==b))
   | .neq=>k (.bool (!(a==b)))
   |_=>none
  |_=>none
 |none=>none
def HB:Ty→Bool
 | .unit| .bool| .str| .int _=>true
 | .arr e _=>HB e
 | .pair a b=>HB a&&HB b
 |_=>false
def kw:(τ:Ty)→τ.den→τ.den→Bool
 | .bool,a,b=>a==b
 | .str,a,b=>dd a b
 | .int _,a,b=>decide (a=b)
 | .arr e _,xs,ys=>(xs.zip ys).all fun p=>kw e p.1 p.2
 | .pair a b,x,y=>kw a x.1 y.1&&kw b x.2 y.2
 |_,_,_=>true
def Gp (C:b9) (op:BinOp) (t:TypeId) (x y:List PV) (k:PV→Option R):Option R:=
 match C.ti t with
 |some I=>bif I.eq&&I.isAgg&&HB I.ty then match be I.ty x,be I.ty y with
  |some x,some y=>match op with
   | .eql=>k (.bool (kw I.ty x y))
   | .neq=>k (.bool (!kw I.ty x y))
   |_=>none
  |_,_=>none
  else none
 |none=>none
def SV.cells:SV→Option (List PV)
 | .v .undef=>none
 | .v p=>some [p]
 | .agg cs=>some cs
 | .tup _ _=>none
def SV.pv:SV→PV
 | .v p=>p
 |_=> .undef
def fW:List PV→Bool
 | []=>true
 | .bool _::cs=>fW cs
 | .int _ _::cs=>fW cs
 | .str _::cs=>fW cs
 | .seg e _ _::cs=> !e.lists&&fW cs
 |_::_=>false
def PV.leads:PV→List Nat
 | .own id=>[id]
 | .ptr id _=>[id]
 | .elt id _ _=>[id]
 |_=>[]
def St.look (s:St) (p:PV) (n:Nat):Option (List PV):=
 match p with
 | .ptr id q=>match s.mem id with
  |some (.box cs)=>ik cs q n
  |some (.fbox cs)=>ik cs q n
  |_=>none
 | .elt id i q=>match s.mem id with
  |some (.rows _ e f xs)=>match ik (inj e (rd xs i)) q n with
   |some cs=>bif f.isNo||fW cs then some cs else none
   |none=>none
  |some (.frows e xs)=>ik (inj e (rd xs i)) q n
  |_=>none
 | .cptr τ x off=>kP (inj τ x) off n
 | .cell id=>bif Nat.beq n 1 then some [.ptr id (.at 0)]else none
 |_=>none
def qd (I:TI) (cs:List PV) (k:SV→Option R):Option R:=
 bif I.isAgg then k (.agg cs)else match cs with
  | [c]=>bif Nat.beq c.width 1 then k (.v c)else none
  |_=>none
def aL (id:Nat):(τ:Ty)→Fl→τ.den→Nat→List PV×List (Nat×cj)×Nat
 | .list e,.own T g,xs,j=>([.own (id+j)],[(id+j,.rows T e g xs)],j+1)
 | .opt e,.box,x,j=>match x with
  |none=>([.nilp],[],j+1)
  |some y=>([.ptr (id+j) (.at 0)],[(id+j,.box (inj e y))],j+1)
 | .pair a b,.pair f g,x,j=>((aL id a f x.1 j).1++(aL id b g x.2 (aL id a f x.1 j).2.2).1,(aL id a f x.1 j).2.1++(aL id b g x.2 (aL id a f x.1 j).2.2).2.1,(aL id b g x.2 (aL id a f x.1 j).2.2).2.2)
 |τ,_,x,j=>(inj τ x,[],j)
def dj:List Nat→Bool
 | []=>true
 |i::l=> !l.any (Nat.beq i)&&dj l
def fX (s:St) (l:List (Nat×cj)):Bool:=l.all fun p=>match s.mem p.1 with|none=>true|some _=>false
def cJ (l:List (Nat×cj)):List bJ:=l.map fun p=> .set p.1 p.2
def oY (s:St) (id:Nat) (I:TI) (p:PV) (k:SV→List bJ→Option R):Option R:=
 match p with
 | .elt j i q=>match s.mem j with
  |some (.rows T e f xs)=>bif Nat.ble (aL id e f (rd xs i) 0).2.2 32&&fX s (aL id e f (rd xs i) 0).2.1 then
    match ik (aL id e f (rd xs i) 0).1 q I.size with
    |some cs=>qd I cs fun x=>k x (.set j .dead::(cJ (aL id e f (rd xs i) 0).2.1++[.set j (.opn T e f xs i (aL id e f (rd xs i) 0).1)]))
    |none=>none
   else none
  |some (.opn _ _ _ _ i' cs)=>bif decide (i=i')then match ik cs q I.size with
    |some cs=>qd I cs fun x=>k x []
    |none=>none
   else none
  |_=>none
 |_=>none
def kx (C:b9) (s:St) (id:Nat) (t:TypeId) (p:PV) (k:SV→List bJ→Option R):Option R:=
 match C.ti t with
 |some I=>match s.look p I.size with
  |some cs=>qd I cs fun x=>k x []
  |none=>oY s id I p k
 |none=>none
def dK.lo:dK→Nat
 | .at o=>o
 | .arr o _ _ _ _=>o
def dK.span (n:Nat):dK→Nat
 | .at _=>n
 | .arr _ e m _ _=>m*e.size
def dK.down (k:Nat):dK→dK
 | .at o=> .at (o-k)
 | .arr o e m j q=> .arr (o-k) e m j q
def gW:(e:Ty)→Fl→e.den→dK→Nat→List PV→Option e.den
 | .pair a b,.pair f g,x,q,n,new=>
   bif Nat.ble (q.lo+q.span n) a.size then(match gW a f x.1 q n new with
    |some y=>some (y,x.2)
    |none=>none)
   else bif Nat.ble a.size q.lo then(match gW b g x.2 (q.down a.size) n new with
    |some y=>some (x.1,y)
    |none=>none)
   else none
 |e,.no,x,q,n,new=>match gT (fun p=>p) (inj e x) q n new with
   |some cs=>be e cs
   |none=>none
 |_,_,_,_,_,_=>none
def Fl.isBox:Fl→Bool
 | .box=>true
 |_=>false
def sq:Ty→Fl→List PV→Option (List PV)
 | .list _,.own _ _,cs=>match cs with
  | .own _::r=>some r
  | .nils::r=>some r
  |_=>none
 | .pair a b,.pair f g,cs=>match sq a f cs with
  |some r=>sq b g r
  |none=>none
 |τ,.no,cs=>bm cs τ.size
 |_,_,_=>none
def lB:Ty→Fl→List PV→Option (List PV)
 | .list e,.own _ _,cs=>match cs with
  | .nils::r=>bif Nat.ble 1 e.size then some r else none
  |_=>none
 | .pair a b,.pair f g,cs=>match lB a f cs with
  |some r=>lB b g r
  |none=>none
 |τ,.no,cs=>(eK τ cs).map (·.2)
 |_,_,_=>none
def wb (f:Fl) (τ:Ty) (cs:List PV):Fl:=match lB τ f cs with
 |some []=>bif f.isBox then .no else f
 |_=> .no
def gX (C:b9) (s:St) (t:TypeId) (p:PV) (x:SV) (k:List bJ→List Nat→Option R):Option R:=
 match C.ti t,x.cells with
 |some I,some new=>bif Nat.beq (bq new) I.size then
   match p with
   | .ptr id q=>match s.mem id with
    |some (.box cs)=>match q with
     | .at o=>match mm cs o I.size new with
      |some cs'=>k [.set id (.box cs')] []
      |none=>none
     |q=>bif (aM new).isEmpty then match gT s.dat cs q I.size new with
      |some cs'=>k [.set id (.box cs')] []
      |none=>none
      else none
    |_=>none
   | .elt id i q=>match s.mem id with
    |some (.rows T e f xs)=>bif f.flat e&& !(aM new).any (Nat.beq id)then match gT s.dat (inj e (rd xs i)) q I.size (new.map s.dat)with
     |some cs'=>match be e cs' with
      |some x'=>k (yA new++[.set id (.rows T e f (xs.set i.toNat x'))]) (aM new)
      |none=>none
     |none=>none
     else match(bif (aM new).isEmpty then gW e f (rd xs i) q I.size (new.map s.dat)else none)with
     |some x'=>k [.set id (.rows T e f (xs.set i.toNat x'))] []
     |none=>match q with
      | .at 0=>bif Nat.beq I.size e.size then match sq e f new with
       |some []=>k [.set id (.opn T e f xs i new)] []
       |_=>none
       else none
      |_=>none
    |some (.opn T e f xs i' cs)=>bif decide (i=i')then match q with
     | .at o=>match mm cs o I.size new with
      |some cs'=>k [.set id (.opn T e f xs i' cs')] []
      |none=>none
     |q=>bif (aM new).isEmpty then match gT s.dat cs q I.size new with
      |some cs'=>k [.set id (.opn T e f xs i' cs')] []
      |none=>none
      else none
     else none
    |_=>none
   |_=>none
  else none
 |_,_=>none
def tZ (place:Nat→Option (Nat×Nat)) (cs:List PV):List (Nat×SV)→Option (List PV)
 | []=>some cs
 |(i,x)::rest=>match place i,x.cells with
  |some (off,size),some new=>bif Nat.beq (bq new) size then
    match mm cs off size new with
    |some cs=>tZ place cs rest
    |none=>none
   else none
  |_,_=>none
def mt (C:b9) (t:TypeId) (ps:List (Nat×SV)) (k:List PV→Option R):Option R:=
 match C.ti t with
 |some ⟨.struct fs _ _,_,_,z,_,_⟩=>match tZ (fun i=>fs[i]?) z ps with
  |some cs=>k cs
  |none=>none
 |_=>none
def St.evs (s:St) (ps:List (Nat×Operand)):List (Nat×SV):=ps.map fun p=>(p.1,s.ev p.2)
def iT (e:Ty) (s:St):Nat→List (Nat×SV)→Option (List e.den)
 |_,[]=>some []
 |i,(j,x)::ps=>bif Nat.beq i j then
   match x.cells with
   |some c=>match be e (c.map s.dat),iT e s (i+1) ps with
    |some x,some xs=>some (x::xs)
    |_,_=>none
   |none=>none
  else none
def bu:List (Nat×SV)→List PV
 | []=>[]
 |(_,x)::r=>(x.cells.getD [])++bu r
def AJ (f:Fl) (e:TypeId) (τ:Ty) (ps:List (Nat×SV)):Option cj:=
 bif f.isNo then none else match ps with
 | []=>some (.rows e τ f [])
 | [(0,x)]=>match x.cells with
  |some c=>match sq τ f c with
   |some []=>bif Nat.beq (bq c) τ.size then some (.opn e τ f [τ.dflt] 0 c)else none
   |_=>none
  |none=>none
 |_=>none
def bp (xs:List Int):ByteArray:=⟨(xs.map fun n=>UInt8.ofNat n.toNat).toArray⟩
def oZ (s:ByteArray):List Int:=s.data.toList.map fun b=>(b.toNat:Int)
def lC (C:b9) (t:TypeId):Bool:=match C.ti t with
 |some I=>(match I.sh with| .slice _=>true|_=>false)
 |none=>false
def na (C:b9) (t:TypeId):Bool:=match C.ti t with
 |some I=>(match I.ty with| .str=>true|_=>false)
 |none=>false
def eX (C:b9) (t:TypeId) (e:Ty):Bool:=match C.ti t with
 |some I=>(match I.sh with
  | .slice q=>(match C.ti q with
   |some E=>Nat.beq E.size e.size
   |none=>false)
  |_=>false)
 |none=>false
def qe (C:b9) (s:St) (t:TypeId) (x:PV) (k:PV→Option R):Option R:=
 match x with
 | .str u=>bif na C t then k (.int .i64 (u.size:Int))else none
 | .nils=>bif lC C t then k (.int .i64 0)else none
 |p=>match s.asRow p with
  |some ⟨_,xs⟩=>bif lC C t then k (.int .i64 (xs.length:Int))else none
  |none=>none
def gY (s:St) (e:Ty) (y:PV):Option (List e.den):=
 match y with
 | .nils=>some []
 |p=>match s.asList p with
  |some ⟨e',xs⟩=>match decEq e' e with
   | .isTrue h=>some (bQ h xs)
   | .isFalse _=>none
  |none=>none
def jt (s:St) (y:PV):List bJ:=
 match y with
 | .own id=>match s.mem id with
  |some (.rows _ _ f _)=>bif f.isNo then[]else[.frz id]
  |_=>[]
 | .view id _ _=>match s.mem id with
  |some (.rows _ _ f _)=>bif f.isNo then[]else[.frz id]
  |_=>[]
 |_=>[]
def cw (s:St) (id:Nat) (x:Option R):Option R:=match s.mem id with
 |none=>x
 |some _=>none
def aD (n b:Nat):Bool:=decide (n*b≤140737488355328)&&decide (n≤9223372036854775807)
def nz (s:St) (id:Nat) (e:TypeId) (τ:Ty) (x y:PV):Option (Nat×List bJ):=
 match y with
 | .own j=>match s.mem j with
  |some (.opn T f0 f ys i cs)=>bif Nat.beq T e&& !f.isBox then match decEq f0 τ with
   | .isTrue h=>match x with
    | .nils=>some (ys.length,[.set j .dead,.set id (.opn e τ f (bQ h ys) i cs)])
    | .own l=>match s.mem l with
     |some (.rows T' e' f' xs)=>bif Nat.beq T' e&&decide (f'=f)&& !Nat.beq l j then match decEq e' τ with
      | .isTrue h'=>some (xs.length+ys.length,[.set l .dead,.set j .dead,.set id (.opn e τ f (bQ h' xs++bQ h ys) ((xs.length:Int)+i) cs)])
      | .isFalse _=>none
      else none
     |_=>none
    |_=>none
   | .isFalse _=>none
   else none
  |some (.rows T f0 f ys)=>bif Nat.beq T e&& !f.isBox&& !f.isNo then match decEq f0 τ with
   | .isTrue h=>match x with
    | .own l=>match s.mem l with
     |some (.rows T' e' f' xs)=>bif Nat.beq T' e&&decide (f'=f)&& !Nat.beq l j then match decEq e' τ with
      | .isTrue h'=>some (xs.length+ys.length,[.set l .dead,.set j .dead,.set id (.rows e τ f (bQ h' xs++bQ h ys))])
      | .isFalse _=>none
      else none
     |_=>none
    |_=>none
   | .isFalse _=>none
   else none
  |_=>none
 |_=>none
def dS (C:b9) (s:St) (id:Nat) (sl:TypeId) (x y:PV) (k:PV→List bJ→Option R):Option R:=
 match C.ti sl with
 |some ⟨.slice e,_,_,_,_,_⟩=>match C.ti e with
  |some E=>bif Nat.ble 1 E.size then match nz s id e E.ty x y with
   |some (m,us)=>cw s id (bif aD m E.bytes then k (.own id) us else none)
   |none=>match gY s E.ty y with
   |some ys=>match x with
    | .nils=>cw s id (bif aD ys.length E.bytes then k (.own id) (jt s y++[.set id (.rows e E.ty .no ys)])else none)
    | .own j=>match s.mem j with
     |some (.rows T e' f xs)=>bif Nat.beq T e&&f.isNo then match decEq e' E.ty with
      | .isTrue h=>cw s id (bif aD (xs.length+ys.length) E.bytes then k (.own id) (jt s y++[.set j .dead,.set id (.rows e E.ty .no (bQ h xs++ys))])else none)
      | .isFalse _=>none
      else none
     |_=>none
    |_=>none
   |none=>none
   else none
  |none=>none
 |_=>none
def mu (C:b9) (s:St) (sl:TypeId) (x y:PV) (k:PV→List bJ→Option R):Option R:=
 match x with
 | .view j l h=>match C.ti sl with
  |some ⟨.slice e,_,_,_,_,_⟩=>match C.ti e with
   |some E=>match s.mem j with
    |some (.rows T e' f xs)=>match decEq e' E.ty with
     | .isTrue hh=>match gY s E.ty y with
      |some ys=>bif Nat.ble 1 E.size&&(Nat.beq T e&&(f.isNo&&aD (((bQ hh xs).take h.toNat).drop l.toNat++ys).length E.bytes))then k (.list E.ty (((bQ hh xs).take h.toNat).drop l.toNat++ys)) (jt s y++[.set j .dead])else none
      |none=>none
     | .isFalse _=>none
    |_=>none
   |none=>none
  |_=>none
 |_=>none
def PV.isView:PV→Bool
 | .view _ _ _=>true
 |_=>false
def dZ (x:Option PV) (dflt:Int) (k:Int→Option R):Option R:=
 match x with
 |none=>k dflt
 |some (.int _ n)=>k n
 |_=>none
def gZ (C:b9) (s:St) (t:TypeId) (x:PV) (lo hi:Option PV) (k:PV→List bJ→Option R):Option R:=
 match x with
 | .str u=>bif na C t then dZ lo 0 fun l=>dZ hi (u.size:Int) fun h=>
   bif decide (0≤l)&&decide (l≤h)&&decide (h≤(u.size:Int))then k (.str (u.extract l.toNat h.toNat)) []else none
  else none
 |p=>match s.asList p with
  |some ⟨e,xs⟩=>bif eX C t e then dZ lo 0 fun l=>dZ hi (xs.length:Int) fun h=>
    bif decide (0≤l)&&decide (l≤h)&&decide (h≤(xs.length:Int))then k (.list e ((xs.take h.toNat).drop l.toNat)) (p.owns.map .frz)else none
   else none
  |none=>none
def sr (C:b9) (s:St) (id:Nat) (t:TypeId) (x:PV) (lo hi:Option PV) (k:PV→List bJ→Option R):Option R:=
 match x,lo with
 | .own j,none=>match s.mem j with
  |some (.rows T e f xs)=>bif f.isNo&&eX C t e then dZ hi (xs.length:Int) fun h=>
    bif decide (0≤h)&&decide (h≤(xs.length:Int))then cw s id (k (.own id) [.set j .dead,.set id (.rows T e .no (xs.take h.toNat))])else none
   else none
  |_=>none
 |_,_=>none
def lD (C:b9) (s:St) (t:TypeId) (x:PV) (lo hi:Option PV) (k:PV→Option R):Option R:=
 match x with
 | .own j=>match s.asList (.own j)with
  |some ⟨e,xs⟩=>bif eX C t e then dZ lo 0 fun l=>dZ hi (xs.length:Int) fun h=>
    bif decide (0≤l)&&decide (l≤h)&&decide (h≤(xs.length:Int))then k (.view j l h)else none
   else none
  |none=>none
 |_=>none
def ir (C:b9) (t:TypeId):Option (TypeId×Ty):=match C.ti t with
 |some I=>(match I.sh with
  | .slice q=>(match C.ti q with
   |some E=>some (q,E.ty)
   |none=>none)
  |_=>none)
 |none=>none
def ky (C:b9) (s:St) (src dst:TypeId) (x:PV) (k:PV→Option R):Option R:=
 match C.ti src,C.ti dst,x with
 |some _,some D,.int _ n=>match D.ty with
  | .int kd=>k (.int kd (kd.wrap n))
  |_=>none
 |some I,some D,.str t=>match I.ty,D.ty with
  | .str,.str=>k (.str t)
  |_,_=>none
 |some _,some D,x=>match D.ty,ir C src,s.asList x with
  | .str,some (_,.int .u8),some ⟨.int .u8,xs⟩=>k (.str (bp xs))
  |_,_,_=>none
 |_,_,_=>none
def g7 (C:b9) (s:St) (id:Nat) (src dst:TypeId) (x:PV) (k:PV→List bJ→Option R):Option R:=
 match x with
 | .str t=>bif na C src then match ir C dst with
   |some (q,.int .u8)=>cw s id (bif decide (t.size≤9223372036854775807)then k (.own id) [.set id (.rows q (.int .u8) .box (oZ t))]else none)
   |_=>none
  else none
 |_=>none
def Dx:Operand→Operand→Bool
 | .tmp a,.tmp b=>Nat.beq a b
 | .const (.int a m),.const (.int b n)=>decide (a=b)&&decide (m=n)
 |_,_=>false
def cK (C:b9) (s:St) (id:Nat) (t:TypeId) (n:PV) (k:PV→List bJ→Option R):Option R:=
 match C.ti t,n with
 |some ⟨.slice e,_,_,_,_,_⟩,.int .i64 n=>match C.ti e with
  |some E=>match be E.ty E.zero with
   |some z=>bif Nat.ble 1 E.size then cw s id (bif decide (0≤n)&&aD n.toNat E.bytes then k (.own id) [.set id (.rows e E.ty (wb (C.elf t id) E.ty E.zero) (List.replicate n.toNat z))]else none)else none
   |none=>none
  |none=>none
 |_,_=>none
def iv (C:b9) (t:TypeId) (f:Nat):Option (Nat×Nat):=
 match C.ti t with
 |some ⟨.struct fs _ _,_,_,_,_,_⟩=>fs[f]?
 |_=>none
def lE (C:b9) (t:TypeId) (f:Nat):Option Bool:=
 match C.ti t with
 |some ⟨.struct _ ags _,_,_,_,_,_⟩=>ags[f]?
 |_=>none
def dK.move (n:Nat):dK→dK
 | .at o=> .at (o+n)
 | .arr o e m j q=> .arr o e m j (q+n)
def nR (p:PV) (n:Nat):Option PV:=
 match p with
 | .ptr id q=>some (.ptr id (q.move n))
 | .elt id i q=>some (.elt id i (q.move n))
 | .cptr τ x off=>some (.cptr τ x (off+n))
 |_=>none
def t5 (C:b9) (t:TypeId):Option (Nat×Ty):=match C.ti t with
 |some I=>(match I.sh with
  | .array n e=>(match C.ti e with
   |some E=>some (n,E.ty)
   |none=>none)
  |_=>none)
 |none=>none
def kz (s:St) (id:Nat):Option (List PV):=match s.mem id with
 |some (.box cs)=>some cs
 |some (.fbox cs)=>some cs
 |_=>none
def cr (C:b9) (s:St) (t:TypeId) (x i:PV) (k:PV→Option R):Option R:=
 match i with
 | .int _ n=>match x with
  | .list e xs=>bif eX C t e then(bif aH n xs.length then k (.cptr e (rd xs n) 0)else none)else none
  | .own id=>match s.asRow (.own id)with
   |some ⟨e,xs⟩=>bif eX C t e then(bif aH n xs.length then k (.elt id n (.at 0))else none)else none
   |none=>none
  | .ptr id (.at o)=>match t5 C t with
   |some (m,e)=>bif aH n m then k (.ptr id (.arr o e m n 0))else none
   |none=>none
  | .elt id j (.at o)=>match t5 C t with
   |some (m,e)=>bif aH n m then k (.elt id j (.arr o e m n 0))else none
   |none=>none
  | .cptr τ x o=>match t5 C t with
   |some (m,e)=>match m4 (inj τ x) o e m with
    |some xs=>bif aH n m then k (.cptr e (rd xs n) 0)else none
    |none=>none
   |none=>none
  |_=>none
 |_=>none
def kT (C:b9) (t:TypeId) (x:SV) (i:PV) (k:SV→Option R):Option R:=
 match i with
 | .int _ n=>match x with
  | .v (.str u)=>bif na C t then(bif aH n u.size then k (.v (.int .u8 (bt u n)))else none)else none
  | .agg cs=>match C.ti t with
   |some ⟨.array m e,_,_,_,_,_⟩=>match C.ti e with
    |some E=>match m4 cs 0 E.ty m with
     |some xs=>bif aH n m then qd E (inj E.ty (rd xs n)) k else none
     |none=>none
    |none=>none
   |_=>none
  |_=>none
 |_=>none
def wc (k:IntKind) (x:Int):List PV→Option PV
 | []=>some (.int k x)
 | .int _ y::r=>wc k (if y>x then y else x) r
 |_=>none
def wd (k:IntKind) (x:Int):List PV→Option PV
 | []=>some (.int k x)
 | .int _ y::r=>wd k (if y<x then y else x) r
 |_=>none
def CI:List PV→Option PV
 | .int k x::r=>wc k x r
 |_=>none
def CJ:List PV→Option PV
 | .int k x::r=>wd k x r
 |_=>none
def iw (x:SV) (i:Nat) (k:SV→Option R):Option R:=
 match x with
 | .tup cs sh=>match sh[i]? with
  |some (n,agg)=>match kP cs ((sh.take i).foldr (fun a b=>a.1+b) 0) n with
   |some c=>bif agg then k (.agg c)else match c with
    | [c]=>k (.v c)
    |_=>none
   |none=>none
  |none=>none
 |_=>none
def bN (s:St):(τ:Ty)→Fl→List PV→Option (τ.den×List PV×List Nat×List Nat)
 | .list e,.own T g,cs=>match cs with
  | .own i::cs=>match s.mem i with
   |some (.rows T' e' g' xs)=>bif Nat.beq T' T&&decide (g'=g)then match decEq e' e with
    | .isTrue h=>some (bQ h xs,cs,[i],[])
    | .isFalse _=>none
    else none
   |_=>none
  | .nils::cs=>bif Nat.ble 1 e.size then some ([],cs,[],[])else none
  |_=>none
 | .opt e,.box,cs=>match cs with
  | .nilp::cs=>some (none,cs,[],[])
  | .ptr i (.at 0)::cs=>match s.mem i with
   |some (.box bs)=>bif Nat.blt (i%128) 127 then match be e (bs.map s.dat)with
    |some x=>some (some x,cs,[i],aM bs)
    |none=>none
    else none
   |_=>none
  |_=>none
 | .pair a b,.pair f g,cs=>match bN s a f cs with
  |some (x,cs,U,V)=>match bN s b g cs with
   |some (y,cs,U',V')=>some ((x,y),cs,U++U',V++V')
   |none=>none
  |none=>none
 |τ,_,cs=>match d9 cs τ.size,bm cs τ.size with
  |some a,some b=>match be τ (a.map s.dat)with
   |some x=>some (x,b,[],aM a)
   |none=>none
  |_,_=>none
def g8 (U V:List Nat):Bool:=U.all fun i=> !(V.any (Nat.beq i))
def ju (τ:Ty) (agg:Bool) (x:τ.den):Option SV:=
 bif agg then some (.agg (inj τ x))else match inj τ x with
  | [c]=>bif Nat.beq c.width 1 then some (.v c)else none
  |_=>none
def SV.isA:SV→Bool
 | .agg _=>true
 |_=>false
inductive Bk where
 |var (p:PV) (τ:Ty)
 |lend (cs:List PV) (τ:Ty) (f:Fl)
structure Ar where
 as:List SV
 U:List Nat
 V:List Nat
 P:List Nat
 bk:List Bk
def pS.sv:pS→Option SV
 | .dat τ x=>ju τ false x
 | .agg τ x=>some (.agg (inj τ x))
 | .cref τ x=>some (.v (.cptr τ x 0))
 | .ref id=>some (.v (.ptr id (.at 0)))
def ee (s:St) (p:PK) (x:SV):Option Ar:=
 match p with
 | .raw=>match x with
  | .v p=>some ⟨[.v (s.dat p)],[],p.owns,[],[]⟩
  |_=>none
 | .val τ=>match x.cells with
  |some cs=>match be τ (cs.map s.dat)with
   |some d=>match ju τ x.isA d with
    |some y=>some ⟨[y],[],aM cs,[],[]⟩
    |none=>none
   |none=>none
  |none=>none
 | .give τ f=>match x.cells with
  |some cs=>match bN s τ f cs with
   |some (d,[],U,V)=>match ju τ x.isA d with
    |some y=>some ⟨[y],U,V,[],[]⟩
    |none=>none
   |_=>none
  |none=>none
 | .lend τ f=>match x.cells with
  |some cs=>match bN s τ f cs with
   |some (d,[],U,V)=>match ju τ x.isA d with
    |some y=>some ⟨[y],U,V,[],[.lend cs τ f]⟩
    |none=>none
   |_=>none
  |none=>none
 | .ro τ=>match s.look x.pv τ.size with
  |some cs=>match be τ (cs.map s.dat)with
   |some d=>some ⟨[.v (.cptr τ d 0)],[],x.pv.leads++aM cs,[],[]⟩
   |none=>none
  |none=>none
 | .var τ f=>match x.pv with
  | .ptr id (.at o)=>match s.mem id with
   |some (.box bs)=>match kP bs o τ.size with
    |some cs=>match bN s τ f cs with
     |some (d,[],U,V)=>some ⟨[.agg (inj τ d)],U,V,[id],[.var (.ptr id (.at o)) τ]⟩
     |_=>none
    |none=>none
   |_=>none
  |_=>none
 | .dvar τ f=>match x.pv with
  | .ptr i0 (.at 0)=>match kz s i0 with
   |some [.ptr id (.at 0)]=>match s.mem id with
    |some (.box bs)=>match kP bs 0 τ.size with
     |some cs=>match bN s τ f cs with
      |some (d,[],U,V)=>some ⟨[.agg (inj τ d)],U,i0::V,[id],[.var (.ptr id (.at 0)) τ]⟩
      |_=>none
     |none=>none
    |_=>none
   |_=>none
  |_=>none
def cx (s:St):List PK→List SV→Option Ar
 | [],[]=>some ⟨[],[],[],[],[]⟩
 |p::ps,x::xs=>match ee s p x,cx s ps xs with
  |some a,some b=>some ⟨a.as++b.as,a.U++b.U,a.V++b.V,a.P++b.P,a.bk++b.bk⟩
  |_,_=>none
 |_,_=>none
def t6 (sh:List (Ty×Bool)) (cs:List PV):Option SV:=
 match sh with
 | []=>some (.tup [] [])
 | [(τ,true)]=>match d9 cs τ.size with|some a=>some (.agg a)|none=>none
 | [(τ,false)]=>match d9 cs τ.size with|some [c]=>some (.v c)|_=>none
 |sh=>match d9 cs ((sh.map (·.1.size)).foldr (· + ·) 0)with
  |some a=>some (.tup a (sh.map fun x=>(x.1.size,x.2)))
  |none=>none
def AK (id:Nat):(τ:Ty)→Fl→τ.den→Nat→(List PV→List (Nat×cj)→Nat→Option R)→Option R
 | .list e,.own T g,xs,j,k=>k [.own (id+j)] [(id+j,.rows T e g xs)] (j+1)
 | .opt e,.box,x,j,k=>match x with
  |none=>k [.nilp] [] (j+1)
  |some y=>k [.ptr (id+j) (.at 0)] [(id+j,.box (inj e y))] (j+1)
 | .pair a b,.pair f g,x,j,k=>AK id a f x.1 j fun c u j=>AK id b g x.2 j fun c' u' j=>k (c++c') (u++u') j
 |τ,_,x,j,k=>k (inj τ x) [] j
def ao:List (Nat×cj)→Nat→Option cj
 | [],_=>none
 |(j,x)::r,t=>bif Nat.beq t j then some x else ao r t
def qP (nw:List (Nat×cj)):(τ:Ty)→Fl→List PV→List PV→Option (List bJ×List PV×List PV)
 | .list e,.own _ _,old,new=>match old,new with
  | .own i::old,.own j::new=>match ao nw j with
   |some (.rows T e' g xs)=>match decEq e' e with
    | .isTrue _=>some ([.set j .dead,.set i (.rows T e' g xs)],old,new)
    | .isFalse _=>none
   |_=>none
  | .nils::old,.own _::new=>some ([],old,new)
  |_,_=>none
 | .pair a b,.pair f g,old,new=>match qP nw a f old new with
  |some (u,old,new)=>match qP nw b g old new with
   |some (u',old,new)=>some (u++u',old,new)
   |none=>none
  |none=>none
 |τ,_,old,new=>match bm old τ.size with
  |some old=>some ([],old,new)
  |none=>none
def eN (s:St) (nw:List (Nat×cj)):List Bk→List PV→Option (List bJ)
 | [],[]=>some []
 | .var (.ptr id (.at o)) τ::bs,cs=>match d9 cs τ.size,bm cs τ.size with
  |some a,some b=>match s.mem id with
   |some (.box old)=>match mm old o τ.size a with
    |some new=>match eN s nw bs b with
     |some us=>some (.set id (.box new)::us)
     |none=>none
    |none=>none
   |_=>none
  |_,_=>none
 | .lend old τ f::bs,cs=>match qP nw τ f old cs with
  |some (us,[],cs)=>match eN s nw bs cs with
   |some vs=>some (us++vs)
   |none=>none
  |_=>none
 |_,_=>none
def jv:(τ:Ty)→Fl→List PV→List Nat
 | .list _,.own _ _,cs=>match cs with
  | .own i::_=>[i]
  |_=>[]
 | .pair a b,.pair f g,cs=>jv a f cs++match bm cs a.size with
  |some cs=>jv b g cs
  |none=>[]
 |_,_,_=>[]
def o3:List Bk→List Nat
 | []=>[]
 | .var (.ptr id _) _::bs=>id::o3 bs
 | .var _ _::bs=>o3 bs
 | .lend cs τ f::bs=>jv τ f cs++o3 bs
def xC (l:List Nat):Bool:=l.all fun i=>Nat.blt (i%128) 127
def nb (C:b9) (env:C.Env) (id:Nat) (s:St) (g:Nat) (sg:ki) (A:Ar) (k:SV→List bJ→List Nat→Option R):Option R:=
 bif dj (A.U++A.P)&&g8 (A.U++A.P) A.V&&(!(C.resTy g).shares sg.resFl||xC A.V)&&dj (o3 A.bk)&&(o3 A.bk).all (fun i=>(A.U++A.P).any (Nat.beq i))then
  (env g A.as).bind fun r=>AK id (C.resTy g) sg.resFl r 0 fun cs new j=>
   match t6 sg.res cs,bm cs ((sg.res.map (·.1.size)).foldr (· + ·) 0)with
   |some x,some back=>bif Nat.ble j 32&&fX s new&&dj (new.map (·.1))&&dj (aM back)then
     match eN s new A.bk back with
     |some us=>k x ((bif (C.resTy g).shares sg.resFl then A.V.map .frz else[])++((A.U++A.P).map (.set · .dead)++cJ new)++us) A.V
     |none=>none
    else none
   |_,_=>none
 else none
def jw (C:b9) (env:C.Env) (id:Nat) (s:St) (xs:List SV) (k:SV→List bJ→List Nat→Option R):List Nat→Option R
 | []=>none
 |g::gs=>match C.sig g with
  |some sg=>match cx s sg.params xs with
   |some A=>nb C env id s g sg A k
   |none=>jw C env id s xs k gs
  |none=>jw C env id s xs k gs
def ja (C:b9) (env:C.Env) (id:Nat) (s:St) (f:FuncId) (xs:List SV) (k:SV→List bJ→List Nat→Option R):Option R:=
 jw C env id s xs k (C.alts f)
def mw:List pS→Option (List SV)
 | []=>some []
 |c::cs=>match c.sv,mw cs with
  |some x,some xs=>some (x::xs)
  |_,_=>none
def Cl (C:b9) (env:C.Env) (id:Nat) (s:St) (x:SV) (xs:List SV) (k:SV→List bJ→List Nat→Option R):Option R:=
 match x with
 | .v (.fn f caps)=>match mw caps with
  |some ys=>bif Nat.ble (C.alts f).length 1 then ja C env id s f (xs++ys) k else none
  |none=>none
 |_=>none
def qQ (s:St) (p:PK) (x:SV):Option (pS×List Nat):=
 match p with
 | .val τ=>match x.cells with
  |some cs=>match be τ (cs.map s.dat)with
   |some d=>match ju τ x.isA d with
    |some _=>some (bif x.isA then .agg τ d else .dat τ d,aM cs)
    |none=>none
   |none=>none
  |none=>none
 | .ro τ=>match x.pv with
  | .ptr id (.at 0)=>match kz s id with
   |some cs=>match be τ (cs.map s.dat)with
    |some d=>some (.cref τ d,id::aM cs)
    |none=>none
   |none=>none
  | .cptr τ' d 0=>some (.cref τ' d,[])
  |_=>none
 | .var _ _=>match x.pv with
  | .ptr id (.at 0)=>some (.ref id,[])
  |_=>none
 | .dvar _ _=>match x.pv with
  | .ptr id (.at 0)=>some (.ref id,[])
  |_=>none
 |_=>none
def fC (s:St):List PK→List SV→Option (List pS×List Nat)
 | [],[]=>some ([],[])
 |p::ps,x::xs=>match qQ s p x,fC s ps xs with
  |some (c,i),some (cs,is)=>some (c::cs,i++is)
  |_,_=>none
 |_,_=>none
def dv (C:b9) (s:St) (f:FuncId) (xs:List SV) (k:PV→List bJ→List Nat→Option R):Option R:=
 match C.alts f with
 |g::_=>match C.sig g with
  |some sg=>match fC s (sg.params.drop (sg.params.length-xs.length)) xs with
   |some (cs,is)=>bif xC is then k (.fn f cs) (is.map .frz) is else none
   |none=>none
  |none=>none
 | []=>match xs with
  | []=>k (.fn f []) [] []
  |_=>none
def wg (C:b9) (env:C.Env) (id:Nat) (op:Op) (s:St) (k:SV→List bJ→List Nat→Option R):Option R:=
 match op with
 | .move x| .assign x=>k (s.ev x) [] []
 | .pick c a b=>qN (s.ev c) (s.ev a) (s.ev b) fun x=>k x [] []
 | .binOp op t x y _=>match s.ev x,s.ev y with
  | .v (.bool x),.v (.bool y)=>qO C op t x y fun r=>k (.v r) [] []
  | .v x,.v y=>so op x y fun r=>k (.v r) [] []
  | .agg x,.agg y=>Gp C op t x y fun r=>k (.v r) [] []
  |_,_=>none
 | .unOp op _ x=>match s.ev x with
  | .v x=>DT op x fun r=>k (.v r) [] []
  |_=>none
 | .alloc t=>match C.ti t with
  |some I=>cw s id (k (.v (.ptr id (.at 0))) [.set id (.box I.zero)] [])
  |none=>none
 | .box t x=>match C.ti t,(s.ev x).cells with
  |some I,some cs=>bif Nat.beq (bq cs) I.size then cw s id (k (.v (.ptr id (.at 0))) [.set id (.box cs)] [])else none
  |_,_=>none
 | .build t ps=>mt C t (s.evs ps.toList) fun cs=>k (.agg cs) [] []
 | .buildSlice t n ps=>match C.ti t with
  |some ⟨.slice e,_,_,_,_,_⟩=>match C.ti e with
   |some E=>match AJ (C.elf t id) e E.ty (s.evs ps.toList)with
    |some b=>bif Nat.beq ps.toList.length n&&Nat.ble 1 E.size&&Nat.ble (n*E.size) 16777216 then cw s id (k (.v (.own id)) [.set id b] [])else none
    |none=>match iT E.ty s 0 (s.evs ps.toList)with
    |some xs=>bif Nat.beq ps.toList.length n&&Nat.ble 1 E.size&&Nat.ble (n*E.size) 16777216 then
      cw s id (k (.v (.own id)) (yA (bu (s.evs ps.toList))++[.set id (.rows e E.ty .no xs)]) (aM (bu (s.evs ps.toList))))else none
    |none=>none
   |none=>none
  |_=>none
 | .makeSlice t n c=>bif Dx n c then cK C s id t (s.ev n).pv fun p us=>k (.v p) us []else none
 | .load t a=>match s.ev a with
  | .v p=>kx C s id t p fun x us=>k x us p.leads
  |_=>none
 | .store t a x=>match s.ev a with
  | .v p=>gX C s t p (s.ev x) fun us rs=>k (.v .undef) us rs
  |_=>none
 | .fieldAddr t x f=>match s.ev x,iv C t f with
  | .v p,some (off,size)=>bif Nat.ble 1 size then(match nR p off with|some p=>k (.v p) [] []|none=>none)else none
  |_,_=>none
 | .field t x f=>match s.ev x,iv C t f,lE C t f with
  | .agg cs,some (off,size),some agg=>match kP cs off size with
   |some c=>bif agg then k (.agg c) [] []else match c with
    | [c]=>bif Nat.beq c.width 1 then k (.v c) [] []else none
    |_=>none
   |none=>none
  |_,_,_=>none
 | .indexAddr t x i=>cr C s t (s.ev x).pv (s.ev i).pv fun p=>k (.v p) [] (s.ev x).pv.owns
 | .index t x i=>kT C t (s.ev x) (s.ev i).pv fun x=>k x [] []
 | .nilCheck x=>match s.ev x with
  | .v (.ptr a b)=>k (.v (.ptr a b)) [] []
  | .v (.elt a b c)=>k (.v (.elt a b c)) [] []
  | .v (.cptr a b c)=>k (.v (.cptr a b c)) [] []
  |_=>none
 | .slice t x lo hi none=>bif (C.elf t id).isNo then gZ C s t (s.ev x).pv (lo.map fun o=>(s.ev o).pv) (hi.map fun o=>(s.ev o).pv) fun p us=>k (.v p) us []
  else bif (C.elf t id).isBox then sr C s id t (s.ev x).pv (lo.map fun o=>(s.ev o).pv) (hi.map fun o=>(s.ev o).pv) fun p us=>k (.v p) us []
  else lD C s t (s.ev x).pv (lo.map fun o=>(s.ev o).pv) (hi.map fun o=>(s.ev o).pv) fun p=>k (.v p) [] (s.ev x).pv.owns
 | .convert src dst x=>match s.ev x with
  | .v p=>bif na C src&&lC C dst then g7 C s id src dst p (fun p us=>k (.v p) us [])else ky C s src dst p fun q=>k (.v q) [] p.owns
  |_=>none
 | .extract t i=>iw (s.ev t) i fun x=>k x [] []
 | .makeFunc (.func f) first captured=>match first.toList with
  | []=>dv C s f (captured.toList.map s.ev) fun p us rs=>k (.v p) us rs
  |_=>none
 | .call c=>match c.callee with
  | .value (.func f)=>ja C env id s f (c.args.toList.map s.ev) k
  | .value f=>Cl C env id s (s.ev f) (c.args.toList.map s.ev) k
  | .builtin .len=>match c.args.toList,c.argTypes.toList with
   | [x],[t]=>qe C s t (s.ev x).pv fun p=>k (.v p) [] (s.ev x).pv.owns
   |_,_=>none
  | .builtin .append=>match c.args.toList,c.argTypes.toList with
   | [x,y],[t,t']=>bif Nat.beq t t' then(bif (s.ev x).pv.isView then mu C s t (s.ev x).pv (s.ev y).pv (fun p us=>k (.v p) us (s.ev y).pv.owns)else dS C s id t (s.ev x).pv (s.ev y).pv fun p us=>k (.v p) us (s.ev y).pv.owns)else none
   |_,_=>none
  | .builtin .max=>match CI (c.args.toList.map fun x=>(s.ev x).pv)with
   |some p=>k (.v p) [] []
   |none=>none
  | .builtin .min=>match CJ (c.args.toList.map fun x=>(s.ev x).pv)with
   |some p=>k (.v p) [] []
   |none=>none
  |_=>none
 |_=>none
structure de where
 w:List Nat
 f:List Nat
 r:List Nat
def ba:List bJ→List Nat
 | []=>[]
 | .set id _::us=>id::ba us
 |_::us=>ba us
def dN:List bJ→List Nat
 | []=>[]
 | .frz id::us=>id::dN us
 |_::us=>dN us
def bO (s:St) (id:Nat):Bool:=match s.mem id with
 |some (.rows _ _ f _)=> !f.isNo
 |some (.opn _ _ _ _ _ _)=>true
 |_=>false
def jx (s:St) (us:List bJ) (rs:List Nat):de:=⟨ba us++(dN us).filter (bO s),(dN us).filter (fun i=> !bO s i),rs⟩
def nA (o:Oper) (k:St→de→Option R) (F:de) (x:SV) (s:St):Option R:=
 match o.dst with
 |none=>k s F
 |some d=>bif Nat.blt d s.n then k (s.put d x) F else none
def gd (ops:Array Oper) (o:Oper) (s:St) (yes no:St→Option R):Option R:=
 match o.guard with
 |none=>yes s
 |some (j,want)=>match(ops[j]?).bind (·.dst)with
  |none=>none
  |some d=>match s.tmps d with
   | .v (.bool c)=>bif c then(bif want then yes (s.put d (.v (.bool true)))else no (s.put d (.v (.bool true))))
     else(bif want then no (s.put d (.v (.bool false)))else yes (s.put d (.v (.bool false))))
   | .tup _ _=>no s
   |_=>none
def fI (C:b9) (env:C.Env) (ops:Array Oper) (o:Oper) (s:St) (k:St→de→Option R):Option R:=
 gd ops o s (fun s=>wg C env (128*o.dst.getD 0) o.op s fun x us rs=>nA o k (jx s us rs) x (s.upds us)) (nA o k ⟨[],[],[]⟩ (.tup [] []))
def closeU (s:St) (id:Nat):List bJ:=match s.mem id with
 |some (.opn T e f xs i cs)=>match bN s e f cs with
  |some (x,[],U,V)=>bif dj (id::U)&&g8 (id::U) V then V.map .frz++((id::U).map (.set · .dead)++[.set id (.rows T e f (xs.set i.toNat x))])else[]
  |_=>[]
 |_=>[]
def closeS:List Nat→St→St
 | [],s=>s
 |id::r,s=>closeS r (s.upds (closeU s id))
def nc (s:St):SV→List Nat
 | .v (.own id)=>[id]
 | .v (.ptr id _)=>match s.mem id with
  |some (.box cs)=>aM cs
  |_=>[]
 | .agg cs=>aM cs
 |_=>[]
def Dy (s:St):Op→List Nat
 | .call c=>match c.callee with
  | .builtin .append=>match c.args.toList with
   |x::_=>nc s (s.ev x)
   | []=>[]
  | .value _=>c.args.toList.flatMap fun x=>nc s (s.ev x)
  |_=>[]
 | .slice _ x _ _ _=>nc s (s.ev x)
 |_=>[]
def yQ (C:b9) (env:C.Env) (ops:Array Oper):List Oper→St→(St→Option R)→Option R
 | [],s,k=>k s
 |o::r,s,k=>fI C env ops o (closeS (Dy s o.op) s) fun s _=>yQ C env ops r s k
def nB (C:b9) (env:C.Env) (ops:Array Oper):List Oper→St→(St→List de→Option R)→Option R
 | [],s,k=>k s []
 |o::r,s,k=>fI C env ops o s fun s F=>nB C env ops r s fun s Fs=>k s (F::Fs)
def de.free (F G:de):Bool:=g8 F.w (G.w++(G.f++G.r))&&g8 G.w (F.f++F.r)
def fY (ms:List Nat) (i:Nat):Nat:=ms.getD i 0
def qR (ms:List Nat) (i:Nat):List Edge→Option Nat
 | []=>some 0
 |e::es=>bif Region.binds .any e then(bif Nat.blt e.on i then match qR ms i es with
   |some m=>some (Nat.lor (Nat.lor (Nat.shiftLeft 1 e.on) (fY ms e.on)) m)
   |none=>none
  else none)else qR ms i es
def t7:List Oper→Nat→List Nat→Option (List Nat)
 | [],_,ms=>some ms
 |o::r,i,ms=>match qR ms i o.after.toList with
  |some m=>t7 r (i+1) (ms++[m])
  |none=>none
def iy (C:b9) (op:Op):Bool:=match op with
 | .call c=>match c.callee with
  | .value (.func f)=>Nat.ble (C.alts f).length 1
  |_=>true
 |_=>true
def qS (C:b9) (ops:Array Oper) (i:Nat) (oi:Oper) (Fi:de):List Oper→List Nat→List de→Bool
 |oj::os,mj::ms,Fj::Fs=>(Nat.testBit mj i|| (iy C oi.op&&iy C oj.op&&oi.apart ops oj&&Fi.free Fj))&&qS C ops i oi Fi os ms Fs
 | [],[],[]=>true
 |_,_,_=>false
def GA (C:b9) (ops:Array Oper):Nat→List Oper→List Nat→List de→Bool
 |i,oi::os,_::ms,Fi::Fs=>qS C ops i oi Fi os ms Fs&&GA C ops (i+1) os ms Fs
 |_,[],[],[]=>true
 |_,_,_,_=>false
def GB (C:b9) (ops:Array Oper) (Fs:List de):Bool:=match t7 ops.toList 0 []with
 |some ms=>GA C ops 0 ops.toList ms Fs
 |none=>false
abbrev d5 (R:Type):=Exit→St→Option R
def GC (d:d5 R→St→Option R) (K:d5 R):d5 R:=fun e s=>match e with
 | .normal=>d K s
 |e=>K e s
def ss (id:Nat) (K:d5 R):d5 R:=fun e s=>match e with
 | .exit j=>bif Nat.beq j id then K .normal s else K (.exit j) s
 |e=>K e s
def jy:Code→Nat
 | .region id _ _=>id
 | .seq a _=>jy a
 | .block _ b=>jy b
 | .loop b=>jy b
 | .cond _ a _=>jy a
 |_=>0
def am:List (Nat×SV)→Nat→SV
 | [],_=> .v .undef
 |(j,x)::r,t=>bif Nat.beq t j then x else am r t
structure HS where
 x:SV
 ms:List (Nat×cj)
 U:List Nat
 V:List Nat
def nS (s:St) (t:Nat) (k:LK):Option HS:=
 match k,s.tmps t with
 | .val τ f,.v p=>match p with
  | .undef=>none
  |p=>match bN s τ f [p]with
   |some (x,[],U,V)=>match aL (128*t+32) τ f x 0 with
    |([c],ms,j)=>bif Nat.ble j 30 then some ⟨.v c,ms,U,V⟩else none
    |_=>none
   |_=>none
 | .agg τ f,.agg cs=>match bN s τ f cs with
  |some (x,[],U,V)=>match aL (128*t+32) τ f x 0 with
   |(cs,ms,j)=>bif Nat.ble j 30 then some ⟨.agg cs,ms,U,V⟩else none
  |_=>none
 | .box τ f,.v (.ptr id (.at 0))=>match s.mem id with
  |some (.box cs)=>match bN s τ f cs with
   |some (x,[],U,V)=>match aL (128*t+32) τ f x 0 with
    |(cs,ms,j)=>bif Nat.ble j 30&&Nat.blt (id%128) 64 then some ⟨.v (.ptr (128*t+63) (.at 0)),ms++[(128*t+63,.box cs)],id::U,V⟩else none
   |_=>none
  |_=>none
 | .par τ f,.v (.ptr id (.at 0))=>match s.mem id with
  |some (.box cs)=>match bN s τ f cs with
   |some (x,[],U,V)=>match aL (128*t+32) τ f x 0 with
    |(cs,ms,j)=>bif Nat.ble j 30&&Nat.beq (id%128) 127 then some ⟨.v (.ptr id (.at 0)),ms++[(id,.box cs)],id::U,V⟩else none
   |_=>none
  |_=>none
 | .pown T e g,.v (.own id)=>match s.mem id with
  |some (.rows T' e' g' xs)=>bif Nat.beq T' T&&decide (g'=g)&&Nat.ble 64 (id%128)then match decEq e' e with
   | .isTrue h=>some ⟨.v (.own id),[(id,.rows T e g (bQ h xs))],[id],[]⟩
   | .isFalse _=>none
   else none
  |_=>none
 | .ro τ,.v (.cptr τ' x 0)=>match decEq τ' τ with
  | .isTrue _=>some ⟨.v (.cptr τ' x 0),[],[],[]⟩
  | .isFalse _=>none
 | .keep,.v p=>match p with
  | .undef=>none
  |p=>bif p.closed then some ⟨.v p,[],[],[]⟩else none
 |_,_=>none
def gE (s:St):List (Nat×LK)→Nat→Option (List (Nat×SV)×List (Nat×cj)×List Nat×List Nat)
 | [],_=>some ([],[],[],[])
 |(t,k)::r,lo=>bif Nat.ble lo t then
   match nS s t k with
   |some H=>match gE s r (t+1)with
    |some (ts,ms,U,V)=>some ((t,H.x)::ts,H.ms++ms,H.U++U,H.V++V)
    |none=>none
   |none=>none
  else none
def canon0 (s:St) (ls:List (Nat×LK)):Option St:=
 match gE s ls 0 with
 |some (ts,ms,U,V)=>bif dj U&&g8 U V&&dj (ms.map (·.1))then some ⟨s.n,am ts,ao ms⟩else none
 |none=>none
def t8 (s:St) (t0:Nat):Option Nat→SV
 |none=>s.tmps t0
 |some k=>match s.tmps t0 with
  | .agg cs=>match kP cs k 1 with
   |some [c]=> .v c
   |_=> .v .undef
  | .v (.ptr id (.at 0))=>match s.mem id with
   |some (.box cs)=>match kP cs k 1 with
    |some [c]=> .v c
    |_=> .v .undef
   |_=> .v .undef
  |_=> .v .undef
def jz (s q:St):List pS→List Nat→Option (List pS)
 | [],[]=>some []
 | .ref i::cs,t0::ts=>match s.tmps t0,q.tmps t0,jz s q cs ts with
  | .v (.ptr j (.at 0)),.v (.ptr m (.at 0)),some r=>bif Nat.beq i j then some (.ref m::r)else none
  |_,_,_=>none
 |_,_=>none
def sames (s:St):List (Nat×LK)→St→Option St
 | [],q=>some q
 |(t,.same t0 k)::r,q=>match s.tmps t,t8 s t0 k,t8 q t0 k with
  | .v (.own i),.v (.own j),.v (.own m)=>bif Nat.beq i j then sames s r (q.put t (.v (.own m)))else none
  | .v (.ptr i (.at 0)),.v (.ptr j (.at 0)),.v (.ptr m (.at 0))=>bif Nat.beq i j then sames s r (q.put t (.v (.ptr m (.at 0))))else none
  |_,_,_=>none
 |(t,.clos ts)::r,q=>match s.tmps t with
  | .v (.fn f caps)=>match jz s q caps ts with
   |some caps=>sames s r (q.put t (.v (.fn f caps)))
   |none=>none
  |_=>none
 |_::r,q=>sames s r q
def o4:List (Nat×LK)→List (Nat×LK)
 | []=>[]
 |(_,.sub _ _)::r=>o4 r
 |(_,.same _ _)::r=>o4 r
 |(_,.clos _)::r=>o4 r
 |p::r=>p::o4 r
def canon (s:St) (ls:List (Nat×LK)):Option St:=
 match canon0 s (o4 ls)with
 |some q=>sames s ls q
 |none=>none
def subs (s:St):List (Nat×LK)→St→Option St
 | [],q=>some q
 |(t,.sub t0 k)::r,q=>match s.tmps t,s.tmps t0,q.tmps t0 with
  | .v (.own i),.v (.own p),.v (.own p')=>match s.mem p,q.mem p' with
   |some (.opn _ e _ _ n cs),some (.rows T' e' f' ys)=>match kP cs k 1,kP (aL (128*t+32) e' f' (rd ys n) 0).1 k 1 with
    |some [.own j],some [.own m]=>bif Nat.beq i j&&Nat.beq e.size e'.size&&Nat.ble (aL (128*t+32) e' f' (rd ys n) 0).2.2 30&&fX q (aL (128*t+32) e' f' (rd ys n) 0).2.1 then
      subs s r ((q.upds (.set p' .dead::(cJ (aL (128*t+32) e' f' (rd ys n) 0).2.1++[.set p' (.opn T' e' f' ys n (aL (128*t+32) e' f' (rd ys n) 0).1)]))).put t (.v (.own m)))
     else none
    |_,_=>none
   |_,_=>none
  |_,_,_=>none
 |_::r,q=>subs s r q
def xD (s:St) (ls:List (Nat×LK)):List Nat:=ls.flatMap fun p=>match p.2 with
 | .sub _ _=>[]
 |_=>nc s (s.tmps p.1)
def my (C:b9) (f:Nat) (b:Code) (s:St):Option St:=
 match C.loop f (jy b)with
 |some ls=>match canon (closeS (xD s ls) s) ls with
  |some q=>subs s ls q
  |none=>none
 |none=>none
def den (C:b9) (f:Nat) (env:C.Env) (lp:Code→d5 R→St→Option R):Code→d5 R→St→Option R
 | .skip,K,s=>K .normal s
 | .ret,K,s=>K .ret s
 | .exit id,K,s=>K (.exit id) s
 | .region _ ops draw,K,s=>bif draw then nB C env ops ops.toList s fun s Fs=>bif GB C ops Fs then K .normal s else none
  else yQ C env ops ops.toList s (K .normal)
 | .seq a b,K,s=>den C f env lp a (GC (den C f env lp b) K) s
 | .cond c a b,K,s=>match s.ev c with
  | .v (.bool c)=>bif c then den C f env lp a K s else den C f env lp b K s
  |_=>none
 | .block id b,K,s=>den C f env lp b (ss id K) s
 | .loop b,K,s=>match my C f b s with
  |some s=>lp b K s
  |none=>none
 |_,_,_=>none
def kA (C:b9) (f:Nat) (b:Code) (L:St→Option R) (K:d5 R):d5 R:=fun e s=>match e with
 | .normal=>match my C f b s with
  |some s=>L s
  |none=>none
 |e=>K e s
def mz (C:b9) (f:Nat) (env:C.Env):Nat→Code→d5 R→St→Option R
 |0,_,_,_=>none
 |n+1,b,K,s=>den C f env (mz C f env n) b (kA C f b (mz C f env n b K) K) s
def ez (i:Nat) (τ:Ty) (f:Fl) (cs:List PV):Option (List PV×List (Nat×cj)):=match be τ cs with
 |some x=>match aL (128*i+64) τ f x 0 with
  |(cs,ms,j)=>bif Nat.ble j 60 then some (cs,ms)else none
 |none=>none
def enter:List PK→List SV→Nat→List (Nat×SV)→List (Nat×cj)→Option (List (Nat×SV)×List (Nat×cj))
 | [],[],_,ts,ms=>some (ts,ms)
 | .var τ f::ps,.agg cs::xs,i,ts,ms=>match ez i τ f cs with
  |some (cs,m)=>enter ps xs (i+1) ((i,.v (.ptr (128*i+127) (.at 0)))::ts) ((128*i+127,.box cs)::(m++ms))
  |none=>none
 | .dvar τ f::ps,.agg cs::xs,i,ts,ms=>match ez i τ f cs with
  |some (cs,m)=>enter ps xs (i+1) ((i,.v (.cell (128*i+127)))::ts) ((128*i+127,.box cs)::(m++ms))
  |none=>none
 | .give τ f::ps,x::xs,i,ts,ms| .lend τ f::ps,x::xs,i,ts,ms=>match x with
  | .v c=>match ez i τ f [c]with
   |some ([c],m)=>enter ps xs (i+1) ((i,.v c)::ts) (m++ms)
   |_=>none
  | .agg cs=>match ez i τ f cs with
   |some (cs,m)=>enter ps xs (i+1) ((i,.agg cs)::ts) (m++ms)
   |none=>none
  |_=>none
 |_::ps,x::xs,i,ts,ms=>enter ps xs (i+1) ((i,x)::ts) ms
 |_,_,_,_,_=>none
def GD:List PV→Bool
 | [c]=>Nat.beq c.width 1
 |_=>false
def dk (C:b9) (s:St):List ResultVar→List (Ty×Bool)→Option (List PV)
 | [],[]=>some []
 | .tmp t::rs,(τ,agg)::ts=>match s.tmps t,dk C s rs ts with
  | .v .undef,_=>none
  | .v p,some r=>bif agg then none else(bif Nat.beq τ.size 1 then some (p::r)else none)
  | .agg cs,some r=>bif agg&&Nat.beq (bq cs) τ.size then some (cs++r)else none
  |_,_=>none
 | .cell a t::rs,(τ,agg)::ts=>match C.ti t,s.tmps a,dk C s rs ts with
  |some I,.v p,some r=>match s.look p I.size with
   |some cs=>bif Nat.beq I.size τ.size then(bif agg then(bif I.isAgg then some (cs++r)else none)else(bif I.isAgg|| !GD cs then none else some (cs++r)))else none
   |none=>none
  |_,_,_=>none
 |_,_=>none
def jA (id:Nat):(τ:Ty)→Fl→Nat→List PV×Nat
 | .list _,.own _ _,j=>([.own (id+j)],j+1)
 | .pair a b,.pair f g,j=>match jA id a f j with
  |(c,j)=>match jA id b g j with
   |(c',j)=>(c++c',j)
 | .opt _,.box,j=>([],j+1)
 |_,_,j=>([],j)
def AL (s:St) (i:Nat):Bool:=match s.mem i with
 |some (.rows _ _ _ _)=>true
 |_=>false
def cy (s:St):List PK→Nat→Option (List PV)
 | [],_=>some []
 | .var τ _::ps,i=>match s.mem (128*i+127),cy s ps (i+1)with
  |some (.box cs),some r=>bif Nat.beq (bq cs) τ.size then some (cs++r)else none
  |_,_=>none
 | .dvar τ _::ps,i=>match s.mem (128*i+127),cy s ps (i+1)with
  |some (.box cs),some r=>bif Nat.beq (bq cs) τ.size then some (cs++r)else none
  |_,_=>none
 | .lend τ f::ps,i=>match cy s ps (i+1)with
  |some r=>bif (aM (jA (128*i+64) τ f 0).1).all (AL s)then some ((jA (128*i+64) τ f 0).1++r)else none
  |none=>none
 |_::ps,i=>cy s ps (i+1)
def lF (s:St):List PK→Nat→List Nat
 | [],_=>[]
 | .var _ _::ps,i=>nc s (.v (.ptr (128*i+127) (.at 0)))++lF s ps (i+1)
 | .dvar _ _::ps,i=>nc s (.v (.ptr (128*i+127) (.at 0)))++lF s ps (i+1)
 | .lend τ f::ps,i=>aM (jA (128*i+64) τ f 0).1++lF s ps (i+1)
 |_::ps,i=>lF s ps (i+1)
def wh (s:St) (rs:List ResultVar) (ps:List PK):List Nat:=(rs.flatMap fun r=>match r with
 | .tmp t=>nc s (s.tmps t)
 | .cell a _=>nc s (s.tmps a))++lF s ps 0
def GE (C:b9) (f:Nat) (sg:ki) (rs:List ResultVar) (s:St):Option (C.Res f):=
 match dk C s rs sg.res,cy s sg.params 0 with
  |some a,some b=>match bN s (C.resTy f) sg.resFl (a++b)with
   |some (x,[],U,V)=>bif dj U&&g8 U V then some x else none
   |_=>none
  |_,_=>none
def DU (C:b9) (f:Nat) (sg:ki) (rs:List ResultVar):d5 (C.Res f):=fun e s=>match e with
 | .normal| .ret=>GE C f sg rs (closeS (wh s rs sg.params) s)
 |_=>none
def AM (C:b9) (env:C.Env) (lp:(f:Nat)→Code→d5 (C.Res f)→St→Option (C.Res f)) (f:Nat) (args:List SV):Option (C.Res f):=
 match C.fn f,C.sig f with
 |some F,some sg=>match F.body,enter sg.params args 0 [] []with
  |some c,some (ts,ms)=>den C f env (lp f) c (DU C f sg F.results.toList) ⟨F.ntmps,am ts,ao ms⟩
  |_,_=>none
 |_,_=>none
def yR (C:b9) (env:C.Env) (lp:(f:Nat)→Code→d5 (C.Res f)→St→Option (C.Res f)) (f:Nat) (args:List SV):Option (C.Res f):=
 match C.prim f with
 |some p=>(p args).bind (be (C.resTy f))
 |none=>AM C env lp f args
def mA (C:b9):Nat→C.Env
 |0=>fun _ _=>none
 |n+1=>fun f args=>yR C (mA C n) (fun f=>mz C f (mA C n) n) f args
open Classical in
noncomputable def lim {α:Type} (F:Nat→Option α):Option α:=
 if h:∃r n,F n=some r then some (Classical.choose h)else none
noncomputable def bg (C:b9):C.Env:=fun f args=>lim fun n=>mA C n f args
noncomputable def Lp (C:b9) (f:Nat) (b:Code) (K:d5 R) (s:St):Option R:=lim fun n=>mz C f (bg C) n b K s
def wi:List Nat→Code→Code
 |0::p,.seq a _=>wi p a
 |_::p,.seq _ b=>wi p b
 |0::p,.cond _ a _=>wi p a
 |_::p,.cond _ _ b=>wi p b
 |_::p,.block _ b=>wi p b
 |_::p,.loop b=>wi p b
 |_,c=>c
noncomputable def o5 (C:b9) (f:Nat):List Nat→Code→d5 R→d5 R
 |0::p,.seq a b,K=>o5 C f p a (GC (den C f (bg C) (Lp C f) b) K)
 |_::p,.seq _ b,K=>o5 C f p b K
 |0::p,.cond _ a _,K=>o5 C f p a K
 |_::p,.cond _ _ b,K=>o5 C f p b K
 |_::p,.block id b,K=>o5 C f p b (ss id K)
 |_::p,.loop b,K=>o5 C f p b (kA C f b (Lp C f b K) K)
 |_,_,K=>K
noncomputable def H5 (C:b9) (f:Nat) (c:Code) (rs:List ResultVar) (sg:ki) (p:List Nat) (s:St):Option (C.Res f):=
 match wi p c with
 | .loop b=>Lp C f b (o5 C f p c (DU C f sg rs)) s
 |_=>none
end
def lG {α:Type}:List (Nat×α)→Nat→Option α
 | [],_=>none
 |(j,x)::r,t=>bif Nat.beq t j then some x else lG r t
def GF {α:Type} (l:List (Nat×List (Nat×α))) (f r:Nat):Option α:=match lG l f with|some m=>lG m r|none=>none
end Go.Ps
