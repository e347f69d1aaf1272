import Derived.Test.YtegcfpicnjpihaaGreatPsA
import Derived.Orders
namespace Go.Ps
set_option linter.unusedVariables false
def andI (k:IntKind) (x y:Int):Int:=k.wrap ((BitVec.ofInt k.bits x&&&BitVec.ofInt k.bits y).toNat)
def gL (k:IntKind) (x y:Int):Int:=k.wrap ((BitVec.ofInt k.bits x|||BitVec.ofInt k.bits y).toNat)
def NV (k:IntKind) (x y:Int):Int:=k.wrap ((BitVec.ofInt k.bits x^^^BitVec.ofInt k.bits y).toNat)
def sQ (k:IntKind) (x y:Int):Int:=k.wrap ((BitVec.ofInt k.bits x&&& ~~~BitVec.ofInt k.bits y).toNat)
def cE (k:IntKind) (x y:Int):Int:=k.wrap (x*2^(min y.toNat k.bits))
def lr (k:IntKind) (x y:Int):Int:=x.fdiv (2^(min y.toNat k.bits))
def bu (a b:ByteArray):Bool:=a.toList==b.toList
def uM (a b:ByteArray):Bool:=Op.bytesLess a.toList b.toList
def bt (s:ByteArray) (i:Int):Int:=((s.data.getD i.toNat 0).toNat:Int)
section
variable {R:Type}
def Al (op:BinOp) (a:IntKind) (m n:Int) (k:PV→Option R):Option R:=
 match op with
 | .add=>k (.int a (a.wrap (m+n)))
 | .sub=>k (.int a (a.wrap (m-n)))
 | .mul=>k (.int a (a.wrap (m*n)))
 | .quo=>bif decide (n=0)then none else k (.int a (a.wrap (m.tdiv n)))
 | .rem=>bif decide (n=0)then none else k (.int a (m.tmod n))
 | .and=>k (.int a (andI a m n))
 | .or=>k (.int a (gL a m n))
 | .xor=>k (.int a (NV a m n))
 | .andNot=>k (.int a (sQ a m n))
 | .eql=>k (.bool (decide (m=n)))
 | .neq=>k (.bool (!decide (m=n)))
 | .lss=>k (.bool (decide (m<n)))
 | .leq=>k (.bool (decide (m≤n)))
 | .gtr=>k (.bool (decide (m>n)))
 | .geq=>k (.bool (decide (m≥n)))
 |_=>none
def sR (op:BinOp) (x y:PV) (k:PV→Option R):Option R:=
 match x,y with
 | .int a m,.int b n=>
  match op with
  | .shl=>bif decide (n<0)then none else k (.int a (cE a m n))
  | .shr=>bif decide (n<0)then none else k (.int a (lr a m n))
  |op=>match decEq a b with
   | .isFalse _=>none
   | .isTrue _=>Al op a m n k
 | .str a,.str b=>
  match op with
  | .add=>bif decide (a.size+b.size≤9223372036854775807)then k (.str (a++b))else none
  | .eql=>k (.bool (bu a b))
  | .neq=>k (.bool (!bu a b))
  | .lss=>k (.bool (uM a b))
  | .leq=>k (.bool (uM a b||bu a b))
  | .gtr=>k (.bool (!(uM a b||bu a b)))
  | .geq=>k (.bool (!uM a b))
  |_=>none
 |_,_=>none
def Iq (op:UnOp) (x:PV) (k:PV→Option R):Option R:=
 match op,x with
 | .neg,.int a n=>k (.int a (a.wrap (0-n)))
 | .xor,.int a n=>k (.int a (NV a (if a.signed then-1 else a.max) n))
 | .not,.bool b=>k (.bool (!b))
 |_,_=>none
def rz (c a b:SV) (k:SV→Option R):Option R:=
 match c with
 | .v (.bool c)=>match a,b with
  | .v (.bool x),.v (.bool y)=>k (.v (.bool (bif c then x else y)))
  |a,b=>bif c then k a else k b
 |_=>none
def rA (C:bP) (op:BinOp) (t:TypeId) (a b:Bool) (k:PV→Option R):Option R:=
 match C.ti t with
 |some I=>match I.ty with
  | .bool=>match op with
   | .eql=>k (.bool (a==b))
   | .neq=>k (.bool (!(a==b)))
   |_=>none
  |_=>none
 |none=>none
def OZ:Ty→Bool
 | .unit| .bool| .str| .int _=>true
 | .arr e _=>OZ e
 | .pair a b=>OZ a&&OZ b
 |_=>false
def jQ:(τ:Ty)→τ.den→τ.den→Bool
 | .bool,a,b=>a==b
 | .str,a,b=>bu a b
 | .int _,a,b=>decide (a=b)
 | .arr e _,xs,ys=>(xs.zip ys).all fun p=>jQ e p.1 p.2
 | .pair a b,x,y=>jQ a x.1 y.1&&jQ b x.2 y.2
 |_,_,_=>true
def NI (C:bP) (op:BinOp) (t:TypeId) (x y:List PV) (k:PV→Option R):Option R:=
 match C.ti t with
 |some I=>bif I.eq&&I.isAgg&&OZ I.ty then match aQ I.ty x,aQ I.ty y with
  |some x,some y=>match op with
   | .eql=>k (.bool (jQ I.ty x y))
   | .neq=>k (.bool (!jQ I.ty x y))
   |_=>none
  |_,_=>none
  else none
 |none=>none
def SV.cells:SV→Option (List PV)
 | .v .undef=>none
 | .v p=>some [p]
 | .agg cs=>some cs
 | .tup _ _=>none
def SV.pv:SV→PV
 | .v p=>p
 |_=> .undef
def fF:List PV→Bool
 | []=>true
 | .bool _::cs=>fF cs
 | .int _ _::cs=>fF cs
 | .str _::cs=>fF cs
 | .seg e _ _::cs=> !e.lists&&fF cs
 |_::_=>false
def PV.leads:PV→List Nat
 | .own id=>[id]
 | .ptr id _=>[id]
 | .elt id _ _=>[id]
 |_=>[]
def St.look (s:St) (p:PV) (n:Nat):Option (List PV):=
 match p with
 | .ptr id q=>match s.mem id with
  |some (.box cs)=>gU cs q n
  |some (.fbox cs)=>gU cs q n
  |_=>none
 | .elt id i q=>match s.mem id with
  |some (.rows _ e f xs)=>match gU (inj e (rd xs i)) q n with
   |some cs=>bif f.isNo||fF cs then some cs else none
   |none=>none
  |some (.frows e xs)=>gU (inj e (rd xs i)) q n
  |_=>none
 | .cptr τ x off=>lj (inj τ x) off n
 |_=>none
def qD (I:TI) (cs:List PV) (k:SV→Option R):Option R:=
 bif I.isAgg then k (.agg cs)else match cs with
  | [c]=>bif Nat.beq c.width 1 then k (.v c)else none
  |_=>none
def aD (id:Nat):(τ:Ty)→Fl→τ.den→Nat→List PV×List (Nat×bW)×Nat
 | .list e,.own T g,xs,j=>([.own (id+j)],[(id+j,.rows T e g xs)],j+1)
 | .opt e,.box,x,j=>match x with
  |none=>([.nilp],[],j+1)
  |some y=>([.ptr (id+j) (.at 0)],[(id+j,.box (inj e y))],j+1)
 | .pair a b,.pair f g,x,j=>((aD id a f x.1 j).1++(aD id b g x.2 (aD id a f x.1 j).2.2).1,(aD id a f x.1 j).2.1++(aD id b g x.2 (aD id a f x.1 j).2.2).2.1,(aD id b g x.2 (aD id a f x.1 j).2.2).2.2)
 |τ,_,x,j=>(inj τ x,[],j)
def cW:List Nat→Bool
 | []=>true
 |i::l=> !l.any (Nat.beq i)&&cW l
def fG (s:St) (l:List (Nat×bW)):Bool:=l.all fun p=>match s.mem p.1 with|none=>true|some _=>false
def cp (l:List (Nat×bW)):List bD:=l.map fun p=> .set p.1 p.2
def o6 (s:St) (id:Nat) (I:TI) (p:PV) (k:SV→List bD→Option R):Option R:=
 match p with
 | .elt j i q=>match s.mem j with
  |some (.rows T e f xs)=>bif Nat.ble (aD id e f (rd xs i) 0).2.2 32&&fG s (aD id e f (rd xs i) 0).2.1 then
    match gU (aD id e f (rd xs i) 0).1 q I.size with
    |some cs=>qD I cs fun x=>k x (.set j .dead::(cp (aD id e f (rd xs i) 0).2.1++[.set j (.opn T e f xs i (aD id e f (rd xs i) 0).1)]))
    |none=>none
   else none
  |some (.opn _ _ _ _ i' cs)=>bif decide (i=i')then match gU cs q I.size with
    |some cs=>qD I cs fun x=>k x []
    |none=>none
   else none
  |_=>none
 |_=>none
def kr (C:bP) (s:St) (id:Nat) (t:TypeId) (p:PV) (k:SV→List bD→Option R):Option R:=
 match C.ti t with
 |some I=>match s.look p I.size with
  |some cs=>qD I cs fun x=>k x []
  |none=>o6 s id I p k
 |none=>none
def dr.lo:dr→Nat
 | .at o=>o
 | .arr o _ _ _ _=>o
def dr.span (n:Nat):dr→Nat
 | .at _=>n
 | .arr _ e m _ _=>m*e.size
def dr.down (k:Nat):dr→dr
 | .at o=> .at (o-k)
 | .arr o e m j q=> .arr (o-k) e m j q
def gv:(e:Ty)→Fl→e.den→dr→Nat→List PV→Option e.den
 | .pair a b,.pair f g,x,q,n,new=>
   bif Nat.ble (q.lo+q.span n) a.size then(match gv a f x.1 q n new with
    |some y=>some (y,x.2)
    |none=>none)
   else bif Nat.ble a.size q.lo then(match gv b g x.2 (q.down a.size) n new with
    |some y=>some (x.1,y)
    |none=>none)
   else none
 |e,.no,x,q,n,new=>match gt (fun p=>p) (inj e x) q n new with
   |some cs=>aQ e cs
   |none=>none
 |_,_,_,_,_,_=>none
def Fl.isBox:Fl→Bool
 | .box=>true
 |_=>false
def sS:Ty→Fl→List PV→Option (List PV)
 | .list _,.own _ _,cs=>match cs with
  | .own _::r=>some r
  | .nils::r=>some r
  |_=>none
 | .pair a b,.pair f g,cs=>match sS a f cs with
  |some r=>sS b g r
  |none=>none
 |τ,.no,cs=>aY cs τ.size
 |_,_,_=>none
def lw:Ty→Fl→List PV→Option (List PV)
 | .list e,.own _ _,cs=>match cs with
  | .nils::r=>bif Nat.ble 1 e.size then some r else none
  |_=>none
 | .pair a b,.pair f g,cs=>match lw a f cs with
  |some r=>lw b g r
  |none=>none
 |τ,.no,cs=>(d9 τ cs).map (·.2)
 |_,_,_=>none
def wY (f:Fl) (τ:Ty) (cs:List PV):Fl:=match lw τ f cs with
 |some []=>bif f.isBox then .no else f
 |_=> .no
def gw (C:bP) (s:St) (t:TypeId) (p:PV) (x:SV) (k:List bD→List Nat→Option R):Option R:=
 match C.ti t,x.cells with
 |some I,some new=>bif Nat.beq (bg new) I.size then
   match p with
   | .ptr id q=>match s.mem id with
    |some (.box cs)=>match q with
     | .at o=>match mh cs o I.size new with
      |some cs'=>k [.set id (.box cs')] []
      |none=>none
     |q=>bif (aE new).isEmpty then match gt s.dat cs q I.size new with
      |some cs'=>k [.set id (.box cs')] []
      |none=>none
      else none
    |_=>none
   | .elt id i q=>match s.mem id with
    |some (.rows T e f xs)=>bif f.flat e&& !(aE new).any (Nat.beq id)then match gt s.dat (inj e (rd xs i)) q I.size (new.map s.dat)with
     |some cs'=>match aQ e cs' with
      |some x'=>k (zZ new++[.set id (.rows T e f (xs.set i.toNat x'))]) (aE new)
      |none=>none
     |none=>none
     else match(bif (aE new).isEmpty then gv e f (rd xs i) q I.size (new.map s.dat)else none)with
     |some x'=>k [.set id (.rows T e f (xs.set i.toNat x'))] []
     |none=>match q with
      | .at 0=>bif Nat.beq I.size e.size then match sS e f new with
       |some []=>k [.set id (.opn T e f xs i new)] []
       |_=>none
       else none
      |_=>none
    |some (.opn T e f xs i' cs)=>bif decide (i=i')then match q with
     | .at o=>match mh cs o I.size new with
      |some cs'=>k [.set id (.opn T e f xs i' cs')] []
      |none=>none
     |q=>bif (aE new).isEmpty then match gt s.dat cs q I.size new with
      |some cs'=>k [.set id (.opn T e f xs i' cs')] []
      |none=>none
      else none
     else none
    |_=>none
   |_=>none
  else none
 |_,_=>none
def uN (place:Nat→Option (Nat×Nat)) (cs:List PV):List (Nat×SV)→Option (List PV)
 | []=>some cs
 |(i,x)::rest=>match place i,x.cells with
  |some (off,size),some new=>bif Nat.beq (bg new) size then
    match mh cs off size new with
    |some cs=>uN place cs rest
    |none=>none
   else none
  |_,_=>none
def mq (C:bP) (t:TypeId) (ps:List (Nat×SV)) (k:List PV→Option R):Option R:=
 match C.ti t with
 |some ⟨.struct fs _ _,_,_,z,_,_⟩=>match uN (fun i=>fs[i]?) z ps with
  |some cs=>k cs
  |none=>none
 |_=>none
def St.evs (s:St) (ps:List (Nat×Operand)):List (Nat×SV):=ps.map fun p=>(p.1,s.ev p.2)
def iB (e:Ty) (s:St):Nat→List (Nat×SV)→Option (List e.den)
 |_,[]=>some []
 |i,(j,x)::ps=>bif Nat.beq i j then
   match x.cells with
   |some c=>match aQ e (c.map s.dat),iB e s (i+1) ps with
    |some x,some xs=>some (x::xs)
    |_,_=>none
   |none=>none
  else none
def bd:List (Nat×SV)→List PV
 | []=>[]
 |(_,x)::r=>(x.cells.getD [])++bd r
def DR (f:Fl) (e:TypeId) (τ:Ty) (ps:List (Nat×SV)):Option bW:=
 bif f.isNo then none else match ps with
 | []=>some (.rows e τ f [])
 | [(0,x)]=>match x.cells with
  |some c=>match sS τ f c with
   |some []=>bif Nat.beq (bg c) τ.size then some (.opn e τ f [τ.dflt] 0 c)else none
   |_=>none
  |none=>none
 |_=>none
def aI (xs:List Int):ByteArray:=⟨(xs.map fun n=>UInt8.ofNat n.toNat).toArray⟩
def eV (s:ByteArray):List Int:=s.data.toList.map fun b=>(b.toNat:Int)
def lx (C:bP) (t:TypeId):Bool:=match C.ti t with
 |some I=>(match I.sh with| .slice _=>true|_=>false)
 |none=>false
def m8 (C:bP) (t:TypeId):Bool:=match C.ti t with
 |some I=>(match I.ty with| .str=>true|_=>false)
 |none=>false
def gZ (C:bP) (t:TypeId) (e:Ty):Bool:=match C.ti t with
 |some I=>(match I.sh with
  | .slice q=>(match C.ti q with
   |some E=>Nat.beq E.size e.size
   |none=>false)
  |_=>false)
 |none=>false
def qE (C:bP) (s:St) (t:TypeId) (x:PV) (k:PV→Option R):Option R:=
 match x with
 | .str u=>bif m8 C t then k (.int .i64 (u.size:Int))else none
 | .nils=>bif lx C t then k (.int .i64 0)else none
 |p=>match s.asRow p with
  |some ⟨_,xs⟩=>bif lx C t then k (.int .i64 (xs.length:Int))else none
  |none=>none
def kO (s:St) (e:Ty) (y:PV):Option (List e.den):=
 match y with
 | .nils=>some []
 |p=>match s.asList p with
  |some ⟨e',xs⟩=>match decEq e' e with
   | .isTrue h=>some (br h xs)
   | .isFalse _=>none
  |none=>none
def ks (s:St) (y:PV):List bD:=
 match y with
 | .own id=>match s.mem id with
  |some (.rows _ _ f _)=>bif f.isNo then[]else[.frz id]
  |_=>[]
 |_=>[]
def cw (s:St) (id:Nat) (x:Option R):Option R:=match s.mem id with
 |none=>x
 |some _=>none
def av (n b:Nat):Bool:=decide (n*b≤140737488355328)&&decide (n≤9223372036854775807)
def ny (s:St) (id:Nat) (e:TypeId) (τ:Ty) (x y:PV):Option (Nat×List bD):=
 match y with
 | .own j=>match s.mem j with
  |some (.opn T f0 f ys i cs)=>bif Nat.beq T e&& !f.isBox then match decEq f0 τ with
   | .isTrue h=>match x with
    | .nils=>some (ys.length,[.set j .dead,.set id (.opn e τ f (br h ys) i cs)])
    | .own l=>match s.mem l with
     |some (.rows T' e' f' xs)=>bif Nat.beq T' e&&decide (f'=f)&& !Nat.beq l j then match decEq e' τ with
      | .isTrue h'=>some (xs.length+ys.length,[.set l .dead,.set j .dead,.set id (.opn e τ f (br h' xs++br h ys) ((xs.length:Int)+i) cs)])
      | .isFalse _=>none
      else none
     |_=>none
    |_=>none
   | .isFalse _=>none
   else none
  |some (.rows T f0 f ys)=>bif Nat.beq T e&& !f.isBox&& !f.isNo then match decEq f0 τ with
   | .isTrue h=>match x with
    | .own l=>match s.mem l with
     |some (.rows T' e' f' xs)=>bif Nat.beq T' e&&decide (f'=f)&& !Nat.beq l j then match decEq e' τ with
      | .isTrue h'=>some (xs.length+ys.length,[.set l .dead,.set j .dead,.set id (.rows e τ f (br h' xs++br h ys))])
      | .isFalse _=>none
      else none
     |_=>none
    |_=>none
   | .isFalse _=>none
   else none
  |_=>none
 |_=>none
def dB (C:bP) (s:St) (id:Nat) (sl:TypeId) (x y:PV) (k:PV→List bD→Option R):Option R:=
 match C.ti sl with
 |some ⟨.slice e,_,_,_,_,_⟩=>match C.ti e with
  |some E=>bif Nat.ble 1 E.size then match ny s id e E.ty x y with
   |some (m,us)=>cw s id (bif av m E.bytes then k (.own id) us else none)
   |none=>match kO s E.ty y with
   |some ys=>match x with
    | .nils=>cw s id (bif av ys.length E.bytes then k (.own id) (ks s y++[.set id (.rows e E.ty .no ys)])else none)
    | .own j=>match s.mem j with
     |some (.rows T e' f xs)=>bif Nat.beq T e&&f.isNo then match decEq e' E.ty with
      | .isTrue h=>cw s id (bif av (xs.length+ys.length) E.bytes then k (.own id) (ks s y++[.set j .dead,.set id (.rows e E.ty .no (br h xs++ys))])else none)
      | .isFalse _=>none
      else none
     |_=>none
    |_=>none
   |none=>none
   else none
  |none=>none
 |_=>none
def iC (x:Option PV) (dflt:Int) (k:Int→Option R):Option R:=
 match x with
 |none=>k dflt
 |some (.int _ n)=>k n
 |_=>none
def gy (C:bP) (s:St) (t:TypeId) (x:PV) (lo hi:Option PV) (k:PV→List bD→Option R):Option R:=
 match x with
 | .str u=>bif m8 C t then iC lo 0 fun l=>iC hi (u.size:Int) fun h=>
   bif decide (0≤l)&&decide (l≤h)&&decide (h≤(u.size:Int))then k (.str (u.extract l.toNat h.toNat)) []else none
  else none
 |p=>match s.asList p with
  |some ⟨e,xs⟩=>bif gZ C t e then iC lo 0 fun l=>iC hi (xs.length:Int) fun h=>
    bif decide (0≤l)&&decide (l≤h)&&decide (h≤(xs.length:Int))then k (.list e ((xs.take h.toNat).drop l.toNat)) (p.owns.map .frz)else none
   else none
  |none=>none
def g7 (C:bP) (t:TypeId):Option (TypeId×Ty):=match C.ti t with
 |some I=>(match I.sh with
  | .slice q=>(match C.ti q with
   |some E=>some (q,E.ty)
   |none=>none)
  |_=>none)
 |none=>none
def kt (C:bP) (s:St) (src dst:TypeId) (x:PV) (k:PV→Option R):Option R:=
 match C.ti src,C.ti dst,x with
 |some _,some D,.int _ n=>match D.ty with
  | .int kd=>k (.int kd (kd.wrap n))
  |_=>none
 |some I,some D,.str t=>match I.ty,D.ty with
  | .str,.str=>k (.str t)
  |_,_=>none
 |some _,some D,x=>match D.ty,g7 C src,s.asList x with
  | .str,some (_,.int .u8),some ⟨.int .u8,xs⟩=>k (.str (aI xs))
  |_,_,_=>none
 |_,_,_=>none
def gz (C:bP) (s:St) (id:Nat) (src dst:TypeId) (x:PV) (k:PV→List bD→Option R):Option R:=
 match x with
 | .str t=>bif m8 C src then match g7 C dst with
   |some (q,.int .u8)=>cw s id (bif decide (t.size≤9223372036854775807)then k (.own id) [.set id (.rows q (.int .u8) .box (eV t))]else none)
   |_=>none
  else none
 |_=>none
def H0:Operand→Operand→Bool
 | .tmp a,.tmp b=>Nat.beq a b
 | .const (.int a m),.const (.int b n)=>decide (a=b)&&decide (m=n)
 |_,_=>false
def cq (C:bP) (s:St) (id:Nat) (t:TypeId) (n:PV) (k:PV→List bD→Option R):Option R:=
 match C.ti t,n with
 |some ⟨.slice e,_,_,_,_,_⟩,.int .i64 n=>match C.ti e with
  |some E=>match aQ E.ty E.zero with
   |some z=>bif Nat.ble 1 E.size then cw s id (bif decide (0≤n)&&av n.toNat E.bytes then k (.own id) [.set id (.rows e E.ty (wY (C.elf t id) E.ty E.zero) (List.replicate n.toNat z))]else none)else none
   |none=>none
  |none=>none
 |_,_=>none
def g8 (C:bP) (t:TypeId) (f:Nat):Option (Nat×Nat):=
 match C.ti t with
 |some ⟨.struct fs _ _,_,_,_,_,_⟩=>fs[f]?
 |_=>none
def ly (C:bP) (t:TypeId) (f:Nat):Option Bool:=
 match C.ti t with
 |some ⟨.struct _ ags _,_,_,_,_,_⟩=>ags[f]?
 |_=>none
def dr.move (n:Nat):dr→dr
 | .at o=> .at (o+n)
 | .arr o e m j q=> .arr o e m j (q+n)
def nR (p:PV) (n:Nat):Option PV:=
 match p with
 | .ptr id q=>some (.ptr id (q.move n))
 | .elt id i q=>some (.elt id i (q.move n))
 | .cptr τ x off=>some (.cptr τ x (off+n))
 |_=>none
def uO (C:bP) (t:TypeId):Option (Nat×Ty):=match C.ti t with
 |some I=>(match I.sh with
  | .array n e=>(match C.ti e with
   |some E=>some (n,E.ty)
   |none=>none)
  |_=>none)
 |none=>none
def m9 (s:St) (id:Nat):Option (List PV):=match s.mem id with
 |some (.box cs)=>some cs
 |some (.fbox cs)=>some cs
 |_=>none
def bZ (C:bP) (s:St) (t:TypeId) (x i:PV) (k:PV→Option R):Option R:=
 match i with
 | .int _ n=>match x with
  | .list e xs=>bif gZ C t e then(bif ao n xs.length then k (.cptr e (rd xs n) 0)else none)else none
  | .own id=>match s.asRow (.own id)with
   |some ⟨e,xs⟩=>bif gZ C t e then(bif ao n xs.length then k (.elt id n (.at 0))else none)else none
   |none=>none
  | .ptr id (.at o)=>match uO C t with
   |some (m,e)=>bif ao n m then k (.ptr id (.arr o e m n 0))else none
   |none=>none
  | .elt id j (.at o)=>match uO C t with
   |some (m,e)=>bif ao n m then k (.elt id j (.arr o e m n 0))else none
   |none=>none
  | .cptr τ x o=>match uO C t with
   |some (m,e)=>match m4 (inj τ x) o e m with
    |some xs=>bif ao n m then k (.cptr e (rd xs n) 0)else none
    |none=>none
   |none=>none
  |_=>none
 |_=>none
def kP (C:bP) (t:TypeId) (x:SV) (i:PV) (k:SV→Option R):Option R:=
 match i with
 | .int _ n=>match x with
  | .v (.str u)=>bif m8 C t then(bif ao n u.size then k (.v (.int .u8 (bt u n)))else none)else none
  | .agg cs=>match C.ti t with
   |some ⟨.array m e,_,_,_,_,_⟩=>match C.ti e with
    |some E=>match m4 cs 0 E.ty m with
     |some xs=>bif ao n m then qD E (inj E.ty (rd xs n)) k else none
     |none=>none
    |none=>none
   |_=>none
  |_=>none
 |_=>none
def wZ (k:IntKind) (x:Int):List PV→Option PV
 | []=>some (.int k x)
 | .int _ y::r=>wZ k (if y>x then y else x) r
 |_=>none
def w3 (k:IntKind) (x:Int):List PV→Option PV
 | []=>some (.int k x)
 | .int _ y::r=>w3 k (if y<x then y else x) r
 |_=>none
def GQ:List PV→Option PV
 | .int k x::r=>wZ k x r
 |_=>none
def GR:List PV→Option PV
 | .int k x::r=>w3 k x r
 |_=>none
def g9 (x:SV) (i:Nat) (k:SV→Option R):Option R:=
 match x with
 | .tup cs sh=>match sh[i]? with
  |some (n,agg)=>match lj cs ((sh.take i).foldr (fun a b=>a.1+b) 0) n with
   |some c=>bif agg then k (.agg c)else match c with
    | [c]=>k (.v c)
    |_=>none
   |none=>none
  |none=>none
 |_=>none
def bw (s:St):(τ:Ty)→Fl→List PV→Option (τ.den×List PV×List Nat×List Nat)
 | .list e,.own T g,cs=>match cs with
  | .own i::cs=>match s.mem i with
   |some (.rows T' e' g' xs)=>bif Nat.beq T' T&&decide (g'=g)then match decEq e' e with
    | .isTrue h=>some (br h xs,cs,[i],[])
    | .isFalse _=>none
    else none
   |_=>none
  | .nils::cs=>bif Nat.ble 1 e.size then some ([],cs,[],[])else none
  |_=>none
 | .opt e,.box,cs=>match cs with
  | .nilp::cs=>some (none,cs,[],[])
  | .ptr i (.at 0)::cs=>match s.mem i with
   |some (.box bs)=>bif Nat.blt (i%128) 127 then match aQ e (bs.map s.dat)with
    |some x=>some (some x,cs,[i],aE bs)
    |none=>none
    else none
   |_=>none
  |_=>none
 | .pair a b,.pair f g,cs=>match bw s a f cs with
  |some (x,cs,U,V)=>match bw s b g cs with
   |some (y,cs,U',V')=>some ((x,y),cs,U++U',V++V')
   |none=>none
  |none=>none
 |τ,_,cs=>match dP cs τ.size,aY cs τ.size with
  |some a,some b=>match aQ τ (a.map s.dat)with
   |some x=>some (x,b,[],aE a)
   |none=>none
  |_,_=>none
def gA (U V:List Nat):Bool:=U.all fun i=> !(V.any (Nat.beq i))
def jh (τ:Ty) (agg:Bool) (x:τ.den):Option SV:=
 bif agg then some (.agg (inj τ x))else match inj τ x with
  | [c]=>bif Nat.beq c.width 1 then some (.v c)else none
  |_=>none
def SV.isA:SV→Bool
 | .agg _=>true
 |_=>false
inductive Bk where
 |var (p:PV) (τ:Ty)
 |lend (cs:List PV) (τ:Ty) (f:Fl)
structure Ar where
 as:List SV
 U:List Nat
 V:List Nat
 P:List Nat
 bk:List Bk
def qh.sv:qh→Option SV
 | .dat τ x=>jh τ false x
 | .agg τ x=>some (.agg (inj τ x))
 | .cref τ x=>some (.v (.cptr τ x 0))
 | .ref id=>some (.v (.ptr id (.at 0)))
def eh (s:St) (p:PK) (x:SV):Option Ar:=
 match p with
 | .raw=>match x with
  | .v p=>some ⟨[.v (s.dat p)],[],p.owns,[],[]⟩
  |_=>none
 | .val τ=>match x.cells with
  |some cs=>match aQ τ (cs.map s.dat)with
   |some d=>match jh τ x.isA d with
    |some y=>some ⟨[y],[],aE cs,[],[]⟩
    |none=>none
   |none=>none
  |none=>none
 | .give τ f=>match x.cells with
  |some cs=>match bw s τ f cs with
   |some (d,[],U,V)=>match jh τ x.isA d with
    |some y=>some ⟨[y],U,V,[],[]⟩
    |none=>none
   |_=>none
  |none=>none
 | .lend τ f=>match x.cells with
  |some cs=>match bw s τ f cs with
   |some (d,[],U,V)=>match jh τ x.isA d with
    |some y=>some ⟨[y],U,V,[],[.lend cs τ f]⟩
    |none=>none
   |_=>none
  |none=>none
 | .ro τ=>match s.look x.pv τ.size with
  |some cs=>match aQ τ (cs.map s.dat)with
   |some d=>some ⟨[.v (.cptr τ d 0)],[],x.pv.leads++aE cs,[],[]⟩
   |none=>none
  |none=>none
 | .var τ f=>match x.pv with
  | .ptr id (.at o)=>match s.mem id with
   |some (.box bs)=>match lj bs o τ.size with
    |some cs=>match bw s τ f cs with
     |some (d,[],U,V)=>some ⟨[.agg (inj τ d)],U,V,[id],[.var (.ptr id (.at o)) τ]⟩
     |_=>none
    |none=>none
   |_=>none
  |_=>none
def cg (s:St):List PK→List SV→Option Ar
 | [],[]=>some ⟨[],[],[],[],[]⟩
 |p::ps,x::xs=>match eh s p x,cg s ps xs with
  |some a,some b=>some ⟨a.as++b.as,a.U++b.U,a.V++b.V,a.P++b.P,a.bk++b.bk⟩
  |_,_=>none
 |_,_=>none
def uP (sh:List (Ty×Bool)) (cs:List PV):Option SV:=
 match sh with
 | []=>some (.tup [] [])
 | [(τ,true)]=>match dP cs τ.size with|some a=>some (.agg a)|none=>none
 | [(τ,false)]=>match dP cs τ.size with|some [c]=>some (.v c)|_=>none
 |sh=>match dP cs ((sh.map (·.1.size)).foldr (· + ·) 0)with
  |some a=>some (.tup a (sh.map fun x=>(x.1.size,x.2)))
  |none=>none
def DS (id:Nat):(τ:Ty)→Fl→τ.den→Nat→(List PV→List (Nat×bW)→Nat→Option R)→Option R
 | .list e,.own T g,xs,j,k=>k [.own (id+j)] [(id+j,.rows T e g xs)] (j+1)
 | .opt e,.box,x,j,k=>match x with
  |none=>k [.nilp] [] (j+1)
  |some y=>k [.ptr (id+j) (.at 0)] [(id+j,.box (inj e y))] (j+1)
 | .pair a b,.pair f g,x,j,k=>DS id a f x.1 j fun c u j=>DS id b g x.2 j fun c' u' j=>k (c++c') (u++u') j
 |τ,_,x,j,k=>k (inj τ x) [] j
def ai:List (Nat×bW)→Nat→Option bW
 | [],_=>none
 |(j,x)::r,t=>bif Nat.beq t j then some x else ai r t
def rB (nw:List (Nat×bW)):(τ:Ty)→Fl→List PV→List PV→Option (List bD×List PV×List PV)
 | .list e,.own _ _,old,new=>match old,new with
  | .own i::old,.own j::new=>match ai nw j with
   |some (.rows T e' g xs)=>match decEq e' e with
    | .isTrue _=>some ([.set j .dead,.set i (.rows T e' g xs)],old,new)
    | .isFalse _=>none
   |_=>none
  | .nils::old,.own _::new=>some ([],old,new)
  |_,_=>none
 | .pair a b,.pair f g,old,new=>match rB nw a f old new with
  |some (u,old,new)=>match rB nw b g old new with
   |some (u',old,new)=>some (u++u',old,new)
   |none=>none
  |none=>none
 |τ,_,old,new=>match aY old τ.size with
  |some old=>some ([],old,new)
  |none=>none
def ei (s:St) (nw:List (Nat×bW)):List Bk→List PV→Option (List bD)
 | [],[]=>some []
 | .var (.ptr id (.at o)) τ::bs,cs=>match dP cs τ.size,aY cs τ.size with
  |some a,some b=>match s.mem id with
   |some (.box old)=>match mh old o τ.size a with
    |some new=>match ei s nw bs b with
     |some us=>some (.set id (.box new)::us)
     |none=>none
    |none=>none
   |_=>none
  |_,_=>none
 | .lend old τ f::bs,cs=>match rB nw τ f old cs with
  |some (us,[],cs)=>match ei s nw bs cs with
   |some vs=>some (us++vs)
   |none=>none
  |_=>none
 |_,_=>none
def ji:(τ:Ty)→Fl→List PV→List Nat
 | .list _,.own _ _,cs=>match cs with
  | .own i::_=>[i]
  |_=>[]
 | .pair a b,.pair f g,cs=>ji a f cs++match aY cs a.size with
  |some cs=>ji b g cs
  |none=>[]
 |_,_,_=>[]
def o7:List Bk→List Nat
 | []=>[]
 | .var (.ptr id _) _::bs=>id::o7 bs
 | .var _ _::bs=>o7 bs
 | .lend cs τ f::bs=>ji τ f cs++o7 bs
def yT (l:List Nat):Bool:=l.all fun i=>Nat.blt (i%128) 127
def na (C:bP) (env:C.Env) (id:Nat) (s:St) (g:Nat) (sg:i5) (A:Ar) (k:SV→List bD→List Nat→Option R):Option R:=
 bif cW (A.U++A.P)&&gA (A.U++A.P) A.V&&(!(C.resTy g).shares sg.resFl||yT A.V)&&cW (o7 A.bk)&&(o7 A.bk).all (fun i=>(A.U++A.P).any (Nat.beq i))then
  (env g A.as).bind fun r=>DS id (C.resTy g) sg.resFl r 0 fun cs new j=>
   match uP sg.res cs,aY cs ((sg.res.map (·.1.size)).foldr (· + ·) 0)with
   |some x,some back=>bif Nat.ble j 32&&fG s new&&cW (new.map (·.1))&&cW (aE back)then
     match ei s new A.bk back with
     |some us=>k x ((bif (C.resTy g).shares sg.resFl then A.V.map .frz else[])++((A.U++A.P).map (.set · .dead)++cp new)++us) A.V
     |none=>none
    else none
   |_,_=>none
 else none
def jj (C:bP) (env:C.Env) (id:Nat) (s:St) (xs:List SV) (k:SV→List bD→List Nat→Option R):List Nat→Option R
 | []=>none
 |g::gs=>match C.sig g with
  |some sg=>match cg s sg.params xs with
   |some A=>na C env id s g sg A k
   |none=>jj C env id s xs k gs
  |none=>jj C env id s xs k gs
def iT (C:bP) (env:C.Env) (id:Nat) (s:St) (f:FuncId) (xs:List SV) (k:SV→List bD→List Nat→Option R):Option R:=
 jj C env id s xs k (C.alts f)
def mr:List qh→Option (List SV)
 | []=>some []
 |c::cs=>match c.sv,mr cs with
  |some x,some xs=>some (x::xs)
  |_,_=>none
def Ir (C:bP) (env:C.Env) (id:Nat) (s:St) (x:SV) (xs:List SV) (k:SV→List bD→List Nat→Option R):Option R:=
 match x with
 | .v (.fn f caps)=>match mr caps with
  |some ys=>iT C env id s f (xs++ys) k
  |none=>none
 |_=>none
def rC (s:St) (p:PK) (x:SV):Option (qh×List Nat):=
 match p with
 | .val τ=>match x.cells with
  |some cs=>match aQ τ (cs.map s.dat)with
   |some d=>match jh τ x.isA d with
    |some _=>some (bif x.isA then .agg τ d else .dat τ d,aE cs)
    |none=>none
   |none=>none
  |none=>none
 | .ro τ=>match x.pv with
  | .ptr id (.at 0)=>match m9 s id with
   |some cs=>match aQ τ (cs.map s.dat)with
    |some d=>some (.cref τ d,id::aE cs)
    |none=>none
   |none=>none
  | .cptr τ' d 0=>some (.cref τ' d,[])
  |_=>none
 | .var _ _=>match x.pv with
  | .ptr id (.at 0)=>some (.ref id,[])
  |_=>none
 |_=>none
def eW (s:St):List PK→List SV→Option (List qh×List Nat)
 | [],[]=>some ([],[])
 |p::ps,x::xs=>match rC s p x,eW s ps xs with
  |some (c,i),some (cs,is)=>some (c::cs,i++is)
  |_,_=>none
 |_,_=>none
def de (C:bP) (s:St) (f:FuncId) (xs:List SV) (k:PV→List bD→List Nat→Option R):Option R:=
 match C.alts f with
 |g::_=>match C.sig g with
  |some sg=>match eW s (sg.params.drop (sg.params.length-xs.length)) xs with
   |some (cs,is)=>bif yT is then k (.fn f cs) (is.map .frz) is else none
   |none=>none
  |none=>none
 | []=>match xs with
  | []=>k (.fn f []) [] []
  |_=>none
def w4 (C:bP) (env:C.Env) (id:Nat) (op:Op) (s:St) (k:SV→List bD→List Nat→Option R):Option R:=
 match op with
 | .move x| .assign x=>k (s.ev x) [] []
 | .pick c a b=>rz (s.ev c) (s.ev a) (s.ev b) fun x=>k x [] []
 | .binOp op t x y _=>match s.ev x,s.ev y with
  | .v (.bool x),.v (.bool y)=>rA C op t x y fun r=>k (.v r) [] []
  | .v x,.v y=>sR op x y fun r=>k (.v r) [] []
  | .agg x,.agg y=>NI C op t x y fun r=>k (.v r) [] []
  |_,_=>none
 | .unOp op _ x=>match s.ev x with
  | .v x=>Iq op x fun r=>k (.v r) [] []
  |_=>none
 | .alloc t=>match C.ti t with
  |some I=>cw s id (k (.v (.ptr id (.at 0))) [.set id (.box I.zero)] [])
  |none=>none
 | .box t x=>match C.ti t,(s.ev x).cells with
  |some I,some cs=>bif Nat.beq (bg cs) I.size then cw s id (k (.v (.ptr id (.at 0))) [.set id (.box cs)] [])else none
  |_,_=>none
 | .build t ps=>mq C t (s.evs ps.toList) fun cs=>k (.agg cs) [] []
 | .buildSlice t n ps=>match C.ti t with
  |some ⟨.slice e,_,_,_,_,_⟩=>match C.ti e with
   |some E=>match DR (C.elf t id) e E.ty (s.evs ps.toList)with
    |some b=>bif Nat.beq ps.toList.length n&&Nat.ble 1 E.size&&Nat.ble (n*E.size) 16777216 then cw s id (k (.v (.own id)) [.set id b] [])else none
    |none=>match iB E.ty s 0 (s.evs ps.toList)with
    |some xs=>bif Nat.beq ps.toList.length n&&Nat.ble 1 E.size&&Nat.ble (n*E.size) 16777216 then
      cw s id (k (.v (.own id)) (zZ (bd (s.evs ps.toList))++[.set id (.rows e E.ty .no xs)]) (aE (bd (s.evs ps.toList))))else none
    |none=>none
   |none=>none
  |_=>none
 | .makeSlice t n c=>bif H0 n c then cq C s id t (s.ev n).pv fun p us=>k (.v p) us []else none
 | .load t a=>match s.ev a with
  | .v p=>kr C s id t p fun x us=>k x us p.leads
  |_=>none
 | .store t a x=>match s.ev a with
  | .v p=>gw C s t p (s.ev x) fun us rs=>k (.v .undef) us rs
  |_=>none
 | .fieldAddr t x f=>match s.ev x,g8 C t f with
  | .v p,some (off,size)=>bif Nat.ble 1 size then(match nR p off with|some p=>k (.v p) [] []|none=>none)else none
  |_,_=>none
 | .field t x f=>match s.ev x,g8 C t f,ly C t f with
  | .agg cs,some (off,size),some agg=>match lj cs off size with
   |some c=>bif agg then k (.agg c) [] []else match c with
    | [c]=>bif Nat.beq c.width 1 then k (.v c) [] []else none
    |_=>none
   |none=>none
  |_,_,_=>none
 | .indexAddr t x i=>bZ C s t (s.ev x).pv (s.ev i).pv fun p=>k (.v p) [] (s.ev x).pv.owns
 | .index t x i=>kP C t (s.ev x) (s.ev i).pv fun x=>k x [] []
 | .nilCheck x=>match s.ev x with
  | .v (.ptr a b)=>k (.v (.ptr a b)) [] []
  | .v (.elt a b c)=>k (.v (.elt a b c)) [] []
  | .v (.cptr a b c)=>k (.v (.cptr a b c)) [] []
  |_=>none
 | .slice t x lo hi none=>gy C s t (s.ev x).pv (lo.map fun o=>(s.ev o).pv) (hi.map fun o=>(s.ev o).pv) fun p us=>k (.v p) us []
 | .convert src dst x=>match s.ev x with
  | .v p=>bif m8 C src&&lx C dst then gz C s id src dst p (fun p us=>k (.v p) us [])else kt C s src dst p fun q=>k (.v q) [] p.owns
  |_=>none
 | .extract t i=>g9 (s.ev t) i fun x=>k x [] []
 | .makeFunc (.func f) first captured=>match first.toList with
  | []=>de C s f (captured.toList.map s.ev) fun p us rs=>k (.v p) us rs
  |_=>none
 | .call c=>match c.callee with
  | .value (.func f)=>iT C env id s f (c.args.toList.map s.ev) k
  | .value f=>Ir C env id s (s.ev f) (c.args.toList.map s.ev) k
  | .builtin .len=>match c.args.toList,c.argTypes.toList with
   | [x],[t]=>qE C s t (s.ev x).pv fun p=>k (.v p) [] (s.ev x).pv.owns
   |_,_=>none
  | .builtin .append=>match c.args.toList,c.argTypes.toList with
   | [x,y],[t,t']=>bif Nat.beq t t' then dB C s id t (s.ev x).pv (s.ev y).pv fun p us=>k (.v p) us (s.ev y).pv.owns else none
   |_,_=>none
  | .builtin .max=>match GQ (c.args.toList.map fun x=>(s.ev x).pv)with
   |some p=>k (.v p) [] []
   |none=>none
  | .builtin .min=>match GR (c.args.toList.map fun x=>(s.ev x).pv)with
   |some p=>k (.v p) [] []
   |none=>none
  |_=>none
 |_=>none
structure cR where
 w:List Nat
 f:List Nat
 r:List Nat
def ba:List bD→List Nat
 | []=>[]
 | .set id _::us=>id::ba us
 |_::us=>ba us
def updF:List bD→List Nat
 | []=>[]
 | .frz id::us=>id::updF us
 |_::us=>updF us
def bq (s:St) (id:Nat):Bool:=match s.mem id with
 |some (.rows _ _ f _)=> !f.isNo
 |some (.opn _ _ _ _ _ _)=>true
 |_=>false
def jk (s:St) (us:List bD) (rs:List Nat):cR:=⟨ba us++(updF us).filter (bq s),(updF us).filter (fun i=> !bq s i),rs⟩
def nz (o:Oper) (k:St→cR→Option R) (F:cR) (x:SV) (s:St):Option R:=
 match o.dst with
 |none=>k s F
 |some d=>bif Nat.blt d s.n then k (s.put d x) F else none
def gd (ops:Array Oper) (o:Oper) (s:St) (yes no:St→Option R):Option R:=
 match o.guard with
 |none=>yes s
 |some (j,want)=>match(ops[j]?).bind (·.dst)with
  |none=>none
  |some d=>match s.tmps d with
   | .v (.bool c)=>bif c then(bif want then yes (s.put d (.v (.bool true)))else no (s.put d (.v (.bool true))))
     else(bif want then no (s.put d (.v (.bool false)))else yes (s.put d (.v (.bool false))))
   | .tup _ _=>no s
   |_=>none
def fh (C:bP) (env:C.Env) (ops:Array Oper) (o:Oper) (s:St) (k:St→cR→Option R):Option R:=
 gd ops o s (fun s=>w4 C env (128*o.dst.getD 0) o.op s fun x us rs=>nz o k (jk s us rs) x (s.upds us)) (nz o k ⟨[],[],[]⟩ (.tup [] []))
def closeU (s:St) (id:Nat):List bD:=match s.mem id with
 |some (.opn T e f xs i cs)=>match bw s e f cs with
  |some (x,[],U,V)=>bif cW (id::U)&&gA (id::U) V then V.map .frz++((id::U).map (.set · .dead)++[.set id (.rows T e f (xs.set i.toNat x))])else[]
  |_=>[]
 |_=>[]
def closeS:List Nat→St→St
 | [],s=>s
 |id::r,s=>closeS r (s.upds (closeU s id))
def o8 (s:St):SV→List Nat
 | .v (.own id)=>[id]
 | .v (.ptr id _)=>match s.mem id with
  |some (.box cs)=>aE cs
  |_=>[]
 | .agg cs=>aE cs
 |_=>[]
def H1 (s:St):Op→List Nat
 | .call c=>match c.callee with
  | .builtin .append=>match c.args.toList with
   |x::_=>o8 s (s.ev x)
   | []=>[]
  | .value _=>c.args.toList.flatMap fun x=>o8 s (s.ev x)
  |_=>[]
 | .slice _ x _ _ _=>o8 s (s.ev x)
 |_=>[]
def Am (C:bP) (env:C.Env) (ops:Array Oper):List Oper→St→(St→Option R)→Option R
 | [],s,k=>k s
 |o::r,s,k=>fh C env ops o (closeS (H1 s o.op) s) fun s _=>Am C env ops r s k
def nA (C:bP) (env:C.Env) (ops:Array Oper):List Oper→St→(St→List cR→Option R)→Option R
 | [],s,k=>k s []
 |o::r,s,k=>fh C env ops o s fun s F=>nA C env ops r s fun s Fs=>k s (F::Fs)
def cR.free (F G:cR):Bool:=gA F.w (G.w++(G.f++G.r))&&gA G.w (F.f++F.r)
def fH (ms:List Nat) (i:Nat):Nat:=ms.getD i 0
def rD (ms:List Nat) (i:Nat):List Edge→Option Nat
 | []=>some 0
 |e::es=>bif Region.binds .any e then(bif Nat.blt e.on i then match rD ms i es with
   |some m=>some (Nat.lor (Nat.lor (Nat.shiftLeft 1 e.on) (fH ms e.on)) m)
   |none=>none
  else none)else rD ms i es
def uQ:List Oper→Nat→List Nat→Option (List Nat)
 | [],_,ms=>some ms
 |o::r,i,ms=>match rD ms i o.after.toList with
  |some m=>uQ r (i+1) (ms++[m])
  |none=>none
def hJ (C:bP) (op:Op):Bool:=match op with
 | .call c=>match c.callee with
  | .value (.func f)=>Nat.ble (C.alts f).length 1
  | .value _=>false
  |_=>true
 |_=>true
def rE (C:bP) (ops:Array Oper) (i:Nat) (oi:Oper) (Fi:cR):List Oper→List Nat→List cR→Bool
 |oj::os,mj::ms,Fj::Fs=>(Nat.testBit mj i|| (hJ C oi.op&&hJ C oj.op&&oi.apart ops oj&&Fi.free Fj))&&rE C ops i oi Fi os ms Fs
 | [],[],[]=>true
 |_,_,_=>false
def NW (C:bP) (ops:Array Oper):Nat→List Oper→List Nat→List cR→Bool
 |i,oi::os,_::ms,Fi::Fs=>rE C ops i oi Fi os ms Fs&&NW C ops (i+1) os ms Fs
 |_,[],[],[]=>true
 |_,_,_,_=>false
def NX (C:bP) (ops:Array Oper) (Fs:List cR):Bool:=match uQ ops.toList 0 []with
 |some ms=>NW C ops 0 ops.toList ms Fs
 |none=>false
abbrev dU (R:Type):=Exit→St→Option R
def NY (d:dU R→St→Option R) (K:dU R):dU R:=fun e s=>match e with
 | .normal=>d K s
 |e=>K e s
def sT (id:Nat) (K:dU R):dU R:=fun e s=>match e with
 | .exit j=>bif Nat.beq j id then K .normal s else K (.exit j) s
 |e=>K e s
def jl:Code→Nat
 | .region id _ _=>id
 | .seq a _=>jl a
 | .block _ b=>jl b
 | .loop b=>jl b
 | .cond _ a _=>jl a
 |_=>0
def af:List (Nat×SV)→Nat→SV
 | [],_=> .v .undef
 |(j,x)::r,t=>bif Nat.beq t j then x else af r t
structure HS where
 x:SV
 ms:List (Nat×bW)
 U:List Nat
 V:List Nat
def nS (s:St) (t:Nat) (k:LK):Option HS:=
 match k,s.tmps t with
 | .val τ f,.v p=>match p with
  | .undef=>none
  |p=>match bw s τ f [p]with
   |some (x,[],U,V)=>match aD (128*t+32) τ f x 0 with
    |([c],ms,j)=>bif Nat.ble j 30 then some ⟨.v c,ms,U,V⟩else none
    |_=>none
   |_=>none
 | .agg τ f,.agg cs=>match bw s τ f cs with
  |some (x,[],U,V)=>match aD (128*t+32) τ f x 0 with
   |(cs,ms,j)=>bif Nat.ble j 30 then some ⟨.agg cs,ms,U,V⟩else none
  |_=>none
 | .box τ f,.v (.ptr id (.at 0))=>match s.mem id with
  |some (.box cs)=>match bw s τ f cs with
   |some (x,[],U,V)=>match aD (128*t+32) τ f x 0 with
    |(cs,ms,j)=>bif Nat.ble j 30&&Nat.blt (id%128) 64 then some ⟨.v (.ptr (128*t+63) (.at 0)),ms++[(128*t+63,.box cs)],id::U,V⟩else none
   |_=>none
  |_=>none
 | .par τ f,.v (.ptr id (.at 0))=>match s.mem id with
  |some (.box cs)=>match bw s τ f cs with
   |some (x,[],U,V)=>match aD (128*t+32) τ f x 0 with
    |(cs,ms,j)=>bif Nat.ble j 30&&Nat.beq (id%128) 127 then some ⟨.v (.ptr id (.at 0)),ms++[(id,.box cs)],id::U,V⟩else none
   |_=>none
  |_=>none
 | .pown T e g,.v (.own id)=>match s.mem id with
  |some (.rows T' e' g' xs)=>bif Nat.beq T' T&&decide (g'=g)&&Nat.ble 64 (id%128)then match decEq e' e with
   | .isTrue h=>some ⟨.v (.own id),[(id,.rows T e g (br h xs))],[id],[]⟩
   | .isFalse _=>none
   else none
  |_=>none
 | .ro τ,.v (.cptr τ' x 0)=>match decEq τ' τ with
  | .isTrue _=>some ⟨.v (.cptr τ' x 0),[],[],[]⟩
  | .isFalse _=>none
 | .keep,.v p=>match p with
  | .undef=>none
  |p=>bif p.closed then some ⟨.v p,[],[],[]⟩else none
 |_,_=>none
def gh (s:St):List (Nat×LK)→Nat→Option (List (Nat×SV)×List (Nat×bW)×List Nat×List Nat)
 | [],_=>some ([],[],[],[])
 |(t,k)::r,lo=>bif Nat.ble lo t then
   match nS s t k with
   |some H=>match gh s r (t+1)with
    |some (ts,ms,U,V)=>some ((t,H.x)::ts,H.ms++ms,H.U++U,H.V++V)
    |none=>none
   |none=>none
  else none
def canon0 (s:St) (ls:List (Nat×LK)):Option St:=
 match gh s ls 0 with
 |some (ts,ms,U,V)=>bif cW U&&gA U V&&cW (ms.map (·.1))then some ⟨s.n,af ts,ai ms⟩else none
 |none=>none
def uR (s:St) (t0:Nat):Option Nat→SV
 |none=>s.tmps t0
 |some k=>match s.tmps t0 with
  | .agg cs=>match lj cs k 1 with
   |some [c]=> .v c
   |_=> .v .undef
  | .v (.ptr id (.at 0))=>match s.mem id with
   |some (.box cs)=>match lj cs k 1 with
    |some [c]=> .v c
    |_=> .v .undef
   |_=> .v .undef
  |_=> .v .undef
def jn (s q:St):List qh→List Nat→Option (List qh)
 | [],[]=>some []
 | .ref i::cs,t0::ts=>match s.tmps t0,q.tmps t0,jn s q cs ts with
  | .v (.ptr j (.at 0)),.v (.ptr m (.at 0)),some r=>bif Nat.beq i j then some (.ref m::r)else none
  |_,_,_=>none
 |_,_=>none
def sames (s:St):List (Nat×LK)→St→Option St
 | [],q=>some q
 |(t,.same t0 k)::r,q=>match s.tmps t,uR s t0 k,uR q t0 k with
  | .v (.own i),.v (.own j),.v (.own m)=>bif Nat.beq i j then sames s r (q.put t (.v (.own m)))else none
  | .v (.ptr i (.at 0)),.v (.ptr j (.at 0)),.v (.ptr m (.at 0))=>bif Nat.beq i j then sames s r (q.put t (.v (.ptr m (.at 0))))else none
  |_,_,_=>none
 |(t,.clos ts)::r,q=>match s.tmps t with
  | .v (.fn f caps)=>match jn s q caps ts with
   |some caps=>sames s r (q.put t (.v (.fn f caps)))
   |none=>none
  |_=>none
 |_::r,q=>sames s r q
def o9:List (Nat×LK)→List (Nat×LK)
 | []=>[]
 |(_,.sub _ _)::r=>o9 r
 |(_,.same _ _)::r=>o9 r
 |(_,.clos _)::r=>o9 r
 |p::r=>p::o9 r
def canon (s:St) (ls:List (Nat×LK)):Option St:=
 match canon0 s (o9 ls)with
 |some q=>sames s ls q
 |none=>none
def subs (s:St):List (Nat×LK)→St→Option St
 | [],q=>some q
 |(t,.sub t0 k)::r,q=>match s.tmps t,s.tmps t0,q.tmps t0 with
  | .v (.own i),.v (.own p),.v (.own p')=>match s.mem p,q.mem p' with
   |some (.opn _ e _ _ n cs),some (.rows T' e' f' ys)=>match lj cs k 1,lj (aD (128*t+32) e' f' (rd ys n) 0).1 k 1 with
    |some [.own j],some [.own m]=>bif Nat.beq i j&&Nat.beq e.size e'.size&&Nat.ble (aD (128*t+32) e' f' (rd ys n) 0).2.2 30&&fG q (aD (128*t+32) e' f' (rd ys n) 0).2.1 then
      subs s r ((q.upds (.set p' .dead::(cp (aD (128*t+32) e' f' (rd ys n) 0).2.1++[.set p' (.opn T' e' f' ys n (aD (128*t+32) e' f' (rd ys n) 0).1)]))).put t (.v (.own m)))
     else none
    |_,_=>none
   |_,_=>none
  |_,_,_=>none
 |_::r,q=>subs s r q
def yU (s:St) (ls:List (Nat×LK)):List Nat:=ls.flatMap fun p=>match p.2 with
 | .sub _ _=>[]
 |_=>o8 s (s.tmps p.1)
def mt (C:bP) (f:Nat) (b:Code) (s:St):Option St:=
 match C.loop f (jl b)with
 |some ls=>match canon (closeS (yU s ls) s) ls with
  |some q=>subs s ls q
  |none=>none
 |none=>none
def den (C:bP) (f:Nat) (env:C.Env) (lp:Code→dU R→St→Option R):Code→dU R→St→Option R
 | .skip,K,s=>K .normal s
 | .ret,K,s=>K .ret s
 | .exit id,K,s=>K (.exit id) s
 | .region _ ops draw,K,s=>bif draw then nA C env ops ops.toList s fun s Fs=>bif NX C ops Fs then K .normal s else none
  else Am C env ops ops.toList s (K .normal)
 | .seq a b,K,s=>den C f env lp a (NY (den C f env lp b) K) s
 | .cond c a b,K,s=>match s.ev c with
  | .v (.bool c)=>bif c then den C f env lp a K s else den C f env lp b K s
  |_=>none
 | .block id b,K,s=>den C f env lp b (sT id K) s
 | .loop b,K,s=>match mt C f b s with
  |some s=>lp b K s
  |none=>none
 |_,_,_=>none
def lz (C:bP) (f:Nat) (b:Code) (L:St→Option R) (K:dU R):dU R:=fun e s=>match e with
 | .normal=>match mt C f b s with
  |some s=>L s
  |none=>none
 |e=>K e s
def mu (C:bP) (f:Nat) (env:C.Env):Nat→Code→dU R→St→Option R
 |0,_,_,_=>none
 |n+1,b,K,s=>den C f env (mu C f env n) b (lz C f b (mu C f env n b K) K) s
def eL (i:Nat) (τ:Ty) (f:Fl) (cs:List PV):Option (List PV×List (Nat×bW)):=match aQ τ cs with
 |some x=>match aD (128*i+64) τ f x 0 with
  |(cs,ms,j)=>bif Nat.ble j 60 then some (cs,ms)else none
 |none=>none
def enter:List PK→List SV→Nat→List (Nat×SV)→List (Nat×bW)→Option (List (Nat×SV)×List (Nat×bW))
 | [],[],_,ts,ms=>some (ts,ms)
 | .var τ f::ps,.agg cs::xs,i,ts,ms=>match eL i τ f cs with
  |some (cs,m)=>enter ps xs (i+1) ((i,.v (.ptr (128*i+127) (.at 0)))::ts) ((128*i+127,.box cs)::(m++ms))
  |none=>none
 | .give τ f::ps,x::xs,i,ts,ms| .lend τ f::ps,x::xs,i,ts,ms=>match x with
  | .v c=>match eL i τ f [c]with
   |some ([c],m)=>enter ps xs (i+1) ((i,.v c)::ts) (m++ms)
   |_=>none
  | .agg cs=>match eL i τ f cs with
   |some (cs,m)=>enter ps xs (i+1) ((i,.agg cs)::ts) (m++ms)
   |none=>none
  |_=>none
 |_::ps,x::xs,i,ts,ms=>enter ps xs (i+1) ((i,x)::ts) ms
 |_,_,_,_,_=>none
def NZ:List PV→Bool
 | [c]=>Nat.beq c.width 1
 |_=>false
def cX (C:bP) (s:St):List ResultVar→List (Ty×Bool)→Option (List PV)
 | [],[]=>some []
 | .tmp t::rs,(τ,agg)::ts=>match s.tmps t,cX C s rs ts with
  | .v .undef,_=>none
  | .v p,some r=>bif agg then none else(bif Nat.beq τ.size 1 then some (p::r)else none)
  | .agg cs,some r=>bif agg&&Nat.beq (bg cs) τ.size then some (cs++r)else none
  |_,_=>none
 | .cell a t::rs,(τ,agg)::ts=>match C.ti t,s.tmps a,cX C s rs ts with
  |some I,.v p,some r=>match s.look p I.size with
   |some cs=>bif Nat.beq I.size τ.size then(bif agg then(bif I.isAgg then some (cs++r)else none)else(bif I.isAgg|| !NZ cs then none else some (cs++r)))else none
   |none=>none
  |_,_,_=>none
 |_,_=>none
def jo (id:Nat):(τ:Ty)→Fl→Nat→List PV×Nat
 | .list _,.own _ _,j=>([.own (id+j)],j+1)
 | .pair a b,.pair f g,j=>match jo id a f j with
  |(c,j)=>match jo id b g j with
   |(c',j)=>(c++c',j)
 | .opt _,.box,j=>([],j+1)
 |_,_,j=>([],j)
def DT (s:St) (i:Nat):Bool:=match s.mem i with
 |some (.rows _ _ _ _)=>true
 |_=>false
def cL (s:St):List PK→Nat→Option (List PV)
 | [],_=>some []
 | .var τ _::ps,i=>match s.mem (128*i+127),cL s ps (i+1)with
  |some (.box cs),some r=>bif Nat.beq (bg cs) τ.size then some (cs++r)else none
  |_,_=>none
 | .lend τ f::ps,i=>match cL s ps (i+1)with
  |some r=>bif (aE (jo (128*i+64) τ f 0).1).all (DT s)then some ((jo (128*i+64) τ f 0).1++r)else none
  |none=>none
 |_::ps,i=>cL s ps (i+1)
def nT (s:St):List PK→Nat→List Nat
 | [],_=>[]
 | .var _ _::ps,i=>o8 s (.v (.ptr (128*i+127) (.at 0)))++nT s ps (i+1)
 | .lend τ f::ps,i=>aE (jo (128*i+64) τ f 0).1++nT s ps (i+1)
 |_::ps,i=>nT s ps (i+1)
def w5 (s:St) (rs:List ResultVar) (ps:List PK):List Nat:=(rs.flatMap fun r=>match r with
 | .tmp t=>o8 s (s.tmps t)
 | .cell a _=>o8 s (s.tmps a))++nT s ps 0
def N0 (C:bP) (f:Nat) (sg:i5) (rs:List ResultVar) (s:St):Option (C.Res f):=
 match cX C s rs sg.res,cL s sg.params 0 with
  |some a,some b=>match bw s (C.resTy f) sg.resFl (a++b)with
   |some (x,[],U,V)=>bif cW U&&gA U V then some x else none
   |_=>none
  |_,_=>none
def Is (C:bP) (f:Nat) (sg:i5) (rs:List ResultVar):dU (C.Res f):=fun e s=>match e with
 | .normal| .ret=>N0 C f sg rs (closeS (w5 s rs sg.params) s)
 |_=>none
def DU (C:bP) (env:C.Env) (lp:(f:Nat)→Code→dU (C.Res f)→St→Option (C.Res f)) (f:Nat) (args:List SV):Option (C.Res f):=
 match C.fn f,C.sig f with
 |some F,some sg=>match F.body,enter sg.params args 0 [] []with
  |some c,some (ts,ms)=>den C f env (lp f) c (Is C f sg F.results.toList) ⟨F.ntmps,af ts,ai ms⟩
  |_,_=>none
 |_,_=>none
def DV (C:bP) (env:C.Env) (lp:(f:Nat)→Code→dU (C.Res f)→St→Option (C.Res f)) (f:Nat) (args:List SV):Option (C.Res f):=
 match C.prim f with
 |some p=>(p args).bind (aQ (C.resTy f))
 |none=>DU C env lp f args
def mw (C:bP):Nat→C.Env
 |0=>fun _ _=>none
 |n+1=>fun f args=>DV C (mw C n) (fun f=>mu C f (mw C n) n) f args
open Classical in
noncomputable def lim {α:Type} (F:Nat→Option α):Option α:=
 if h:∃r n,F n=some r then some (Classical.choose h)else none
noncomputable def ar (C:bP):C.Env:=fun f args=>lim fun n=>mw C n f args
noncomputable def Lp (C:bP) (f:Nat) (b:Code) (K:dU R) (s:St):Option R:=lim fun n=>mu C f (ar C) n b K s
def w6:List Nat→Code→Code
 |0::p,.seq a _=>w6 p a
 |_::p,.seq _ b=>w6 p b
 |0::p,.cond _ a _=>w6 p a
 |_::p,.cond _ _ b=>w6 p b
 |_::p,.block _ b=>w6 p b
 |_::p,.loop b=>w6 p b
 |_,c=>c
noncomputable def pb (C:bP) (f:Nat):List Nat→Code→dU R→dU R
 |0::p,.seq a b,K=>pb C f p a (NY (den C f (ar C) (Lp C f) b) K)
 |_::p,.seq _ b,K=>pb C f p b K
 |0::p,.cond _ a _,K=>pb C f p a K
 |_::p,.cond _ _ b,K=>pb C f p b K
 |_::p,.block id b,K=>pb C f p b (sT id K)
 |_::p,.loop b,K=>pb C f p b (lz C f b (Lp C f b K) K)
 |_,_,K=>K
noncomputable def Qb (C:bP) (f:Nat) (c:Code) (rs:List ResultVar) (sg:i5) (p:List Nat) (s:St):Option (C.Res f):=
 match w6 p c with
 | .loop b=>Lp C f b (pb C f p c (Is C f sg rs)) s
 |_=>none
end
def lA {α:Type}:List (Nat×α)→Nat→Option α
 | [],_=>none
 |(j,x)::r,t=>bif Nat.beq t j then some x else lA r t
def N1 {α:Type} (l:List (Nat×List (Nat×α))) (f r:Nat):Option α:=match lA l f with|some m=>lA m r|none=>none
end Go.Ps
