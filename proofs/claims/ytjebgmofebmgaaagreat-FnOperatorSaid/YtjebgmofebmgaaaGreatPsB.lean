/- A pure interpreter of the model's code, second state: what each operation does. -/
import Derived.Test.YtjebgmofebmgaaaGreatPsA
import Derived.Orders
namespace Go.Ps
set_option linter.unusedVariables false

def andI (k : IntKind) (x y : Int) : Int := k.wrap ((BitVec.ofInt k.bits x &&& BitVec.ofInt k.bits y).toNat)
def orI (k : IntKind) (x y : Int) : Int := k.wrap ((BitVec.ofInt k.bits x ||| BitVec.ofInt k.bits y).toNat)
def xorI (k : IntKind) (x y : Int) : Int := k.wrap ((BitVec.ofInt k.bits x ^^^ BitVec.ofInt k.bits y).toNat)
def andNotI (k : IntKind) (x y : Int) : Int := k.wrap ((BitVec.ofInt k.bits x &&& ~~~ BitVec.ofInt k.bits y).toNat)
def shlI (k : IntKind) (x y : Int) : Int := k.wrap (x * 2 ^ (min y.toNat k.bits))
def shrI (k : IntKind) (x y : Int) : Int := x.fdiv (2 ^ (min y.toNat k.bits))
def strEq (a b : ByteArray) : Bool := a.toList == b.toList
def strLt (a b : ByteArray) : Bool := Op.bytesLess a.toList b.toList
def bt (s : ByteArray) (i : Int) : Int := ((s.data.getD i.toNat 0).toNat : Int)

section
variable {R : Type}

def binI (op : BinOp) (a : IntKind) (m n : Int) (k : PV → Option R) : Option R :=
  match op with
  | .add => k (.int a (a.wrap (m + n)))
  | .sub => k (.int a (a.wrap (m - n)))
  | .mul => k (.int a (a.wrap (m * n)))
  | .quo => bif decide (n = 0) then none else k (.int a (a.wrap (m.tdiv n)))
  | .rem => bif decide (n = 0) then none else k (.int a (m.tmod n))
  | .and => k (.int a (andI a m n))
  | .or => k (.int a (orI a m n))
  | .xor => k (.int a (xorI a m n))
  | .andNot => k (.int a (andNotI a m n))
  | .eql => k (.bool (decide (m = n)))
  | .neq => k (.bool (!decide (m = n)))
  | .lss => k (.bool (decide (m < n)))
  | .leq => k (.bool (decide (m ≤ n)))
  | .gtr => k (.bool (decide (m > n)))
  | .geq => k (.bool (decide (m ≥ n)))
  | _ => none

def binK (op : BinOp) (x y : PV) (k : PV → Option R) : Option R :=
  match x, y with
  | .int a m, .int b n =>
    match op with
    | .shl => bif decide (n < 0) then none else k (.int a (shlI a m n))
    | .shr => bif decide (n < 0) then none else k (.int a (shrI a m n))
    | op => match decEq a b with
      | .isFalse _ => none
      | .isTrue _ => binI op a m n k
  | .str a, .str b =>
    match op with
    | .add => bif decide (a.size + b.size ≤ 9223372036854775807) then k (.str (a ++ b)) else none
    | .eql => k (.bool (strEq a b))
    | .neq => k (.bool (!strEq a b))
    | .lss => k (.bool (strLt a b))
    | .leq => k (.bool (strLt a b || strEq a b))
    | .gtr => k (.bool (!(strLt a b || strEq a b)))
    | .geq => k (.bool (!strLt a b))
    | _ => none
  | _, _ => none

def unK (op : UnOp) (x : PV) (k : PV → Option R) : Option R :=
  match op, x with
  | .neg, .int a n => k (.int a (a.wrap (0 - n)))
  | .xor, .int a n => k (.int a (xorI a (if a.signed then -1 else a.max) n))
  | .not, .bool b => k (.bool (!b))
  | _, _ => none

def pickK (c a b : SV) (k : SV → Option R) : Option R :=
  match c with
  | .v (.bool c) => match a, b with
    | .v (.bool x), .v (.bool y) => k (.v (.bool (bif c then x else y)))
    | a, b => bif c then k a else k b
  | _ => none


/-- Equality of two bools. -/
def boolK (C : Cfg) (op : BinOp) (t : TypeId) (a b : Bool) (k : PV → Option R) : Option R :=
  match C.ti t with
  | some I => match I.ty with
    | .bool => match op with
      | .eql => k (.bool (a == b))
      | .neq => k (.bool (!(a == b)))
      | _ => none
    | _ => none
  | none => none
/-- Data without pointers: equality. -/
def eqB : Ty → Bool
  | .unit | .bool | .str | .int _ => true
  | .arr e _ => eqB e
  | .pair a b => eqB a && eqB b
  | _ => false
def eqD : (τ : Ty) → τ.den → τ.den → Bool
  | .bool, a, b => a == b
  | .str, a, b => strEq a b
  | .int _, a, b => decide (a = b)
  | .arr e _, xs, ys => (xs.zip ys).all fun p => eqD e p.1 p.2
  | .pair a b, x, y => eqD a x.1 y.1 && eqD b x.2 y.2
  | _, _, _ => true
/-- Equality of two structs or arrays. -/
def eqK (C : Cfg) (op : BinOp) (t : TypeId) (x y : List PV) (k : PV → Option R) : Option R :=
  match C.ti t with
  | some I => bif I.eq && I.isAgg && eqB I.ty then match projAll I.ty x, projAll I.ty y with
    | some x, some y => match op with
      | .eql => k (.bool (eqD I.ty x y))
      | .neq => k (.bool (!eqD I.ty x y))
      | _ => none
    | _, _ => none
    else none
  | none => none

/-- The cells of a value. -/
def SV.cells : SV → Option (List PV)
  | .v .undef => none
  | .v p => some [p]
  | .agg cs => some cs
  | .tup _ _ => none
def SV.pv : SV → PV
  | .v p => p
  | _ => .undef
def noList : List PV → Bool
  | [] => true
  | .bool _ :: cs => noList cs
  | .int _ _ :: cs => noList cs
  | .str _ :: cs => noList cs
  | .seg e _ _ :: cs => !e.lists && noList cs
  | _ :: _ => false
/-- The call's own blocks that a pointer or a slice leads to. -/
def PV.leads : PV → List Nat
  | .own id => [id]
  | .ptr id _ => [id]
  | .elt id _ _ => [id]
  | _ => []

/-- What n cells behind a pointer hold. -/
def St.look (s : St) (p : PV) (n : Nat) : Option (List PV) :=
  match p with
  | .ptr id q => match s.mem id with
    | some (.box cs) => lookC cs q n
    | some (.fbox cs) => lookC cs q n
    | _ => none
  | .elt id i q => match s.mem id with
    | some (.rows _ e f xs) => match lookC (inj e (rd xs i)) q n with
      | some cs => bif f.isNo || noList cs then some cs else none
      | none => none
    | some (.frows e xs) => lookC (inj e (rd xs i)) q n
    | _ => none
  | .cptr τ x off => cutC (inj τ x) off n
  | .cell id => bif Nat.beq n 1 then some [.ptr id (.at 0)] else none
  | _ => none

/-- What a loaded value is. -/
def asSV (I : TI) (cs : List PV) (k : SV → Option R) : Option R :=
  bif I.isAgg then k (.agg cs) else match cs with
    | [c] => bif Nat.beq c.width 1 then k (.v c) else none
    | _ => none
/-- The cells of data of which some slices are the call's own: these stand under new numbers, from id + j on. -/
def injP (id : Nat) : (τ : Ty) → Fl → τ.den → Nat → List PV × List (Nat × Blk) × Nat
  | .list e, .own T g, xs, j => ([.own (id + j)], [(id + j, .rows T e g xs)], j + 1)
  | .opt e, .box, x, j => match x with
    | none => ([.nilp], [], j + 1)
    | some y => ([.ptr (id + j) (.at 0)], [(id + j, .box (inj e y))], j + 1)
  | .pair a b, .pair f g, x, j => ((injP id a f x.1 j).1 ++ (injP id b g x.2 (injP id a f x.1 j).2.2).1, (injP id a f x.1 j).2.1 ++ (injP id b g x.2 (injP id a f x.1 j).2.2).2.1, (injP id b g x.2 (injP id a f x.1 j).2.2).2.2)
  | τ, _, x, j => (inj τ x, [], j)
def nodupB : List Nat → Bool
  | [] => true
  | i :: l => !l.any (Nat.beq i) && nodupB l
def freshL (s : St) (l : List (Nat × Blk)) : Bool := l.all fun p => match s.mem p.1 with | none => true | some _ => false
def sets (l : List (Nat × Blk)) : List Upd := l.map fun p => .set p.1 p.2

/-- An element with slices of its own is laid open. -/
def openK (s : St) (id : Nat) (I : TI) (p : PV) (k : SV → List Upd → Option R) : Option R :=
  match p with
  | .elt j i q => match s.mem j with
    | some (.rows T e f xs) => bif Nat.ble (injP id e f (rd xs i) 0).2.2 32 && freshL s (injP id e f (rd xs i) 0).2.1 then
        match lookC (injP id e f (rd xs i) 0).1 q I.size with
        | some cs => asSV I cs fun x => k x (.set j .dead :: (sets (injP id e f (rd xs i) 0).2.1 ++ [.set j (.opn T e f xs i (injP id e f (rd xs i) 0).1)]))
        | none => none
      else none
    | some (.opn _ _ _ _ i' cs) => bif decide (i = i') then match lookC cs q I.size with
        | some cs => asSV I cs fun x => k x []
        | none => none
      else none
    | _ => none
  | _ => none
def loadK (C : Cfg) (s : St) (id : Nat) (t : TypeId) (p : PV) (k : SV → List Upd → Option R) : Option R :=
  match C.ti t with
  | some I => match s.look p I.size with
    | some cs => asSV I cs fun x => k x []
    | none => openK s id I p k
  | none => none

def Sub.lo : Sub → Nat
  | .at o => o
  | .arr o _ _ _ _ => o
def Sub.span (n : Nat) : Sub → Nat
  | .at _ => n
  | .arr _ e m _ _ => m * e.size
def Sub.down (k : Nat) : Sub → Sub
  | .at o => .at (o - k)
  | .arr o e m j q => .arr (o - k) e m j q
/-- New data in a part without flags. -/
def storeF : (e : Ty) → Fl → e.den → Sub → Nat → List PV → Option e.den
  | .pair a b, .pair f g, x, q, n, new =>
      bif Nat.ble (q.lo + q.span n) a.size then (match storeF a f x.1 q n new with
        | some y => some (y, x.2)
        | none => none)
      else bif Nat.ble a.size q.lo then (match storeF b g x.2 (q.down a.size) n new with
        | some y => some (x.1, y)
        | none => none)
      else none
  | e, .no, x, q, n, new => match storeC (fun p => p) (inj e x) q n new with
      | some cs => projAll e cs
      | none => none
  | _, _, _, _, _, _ => none

def Fl.isBox : Fl → Bool
  | .box => true
  | _ => false
/-- The cells have slices of the call's own wherever the flags say so; the rest. -/
def shapeF : Ty → Fl → List PV → Option (List PV)
  | .list _, .own _ _, cs => match cs with
    | .own _ :: r => some r
    | .nils :: r => some r
    | _ => none
  | .pair a b, .pair f g, cs => match shapeF a f cs with
    | some r => shapeF b g r
    | none => none
  | τ, .no, cs => dropC cs τ.size
  | _, _, _ => none
/-- The cells are nil wherever the flags say that slices are the call's own; the rest. -/
def zeroF : Ty → Fl → List PV → Option (List PV)
  | .list e, .own _ _, cs => match cs with
    | .nils :: r => bif Nat.ble 1 e.size then some r else none
    | _ => none
  | .pair a b, .pair f g, cs => match zeroF a f cs with
    | some r => zeroF b g r
    | none => none
  | τ, .no, cs => (proj τ cs).map (·.2)
  | _, _, _ => none
def zeroFl (f : Fl) (τ : Ty) (cs : List PV) : Fl := match zeroF τ f cs with
  | some [] => bif f.isBox then .no else f
  | _ => .no

def storeK (C : Cfg) (s : St) (t : TypeId) (p : PV) (x : SV) (k : List Upd → List Nat → Option R) : Option R :=
  match C.ti t, x.cells with
  | some I, some new => bif Nat.beq (widthC new) I.size then
      match p with
      | .ptr id q => match s.mem id with
        | some (.box cs) => match q with
          | .at o => match putC cs o I.size new with
            | some cs' => k [.set id (.box cs')] []
            | none => none
          | q => bif (ownsC new).isEmpty then match storeC s.dat cs q I.size new with
            | some cs' => k [.set id (.box cs')] []
            | none => none
            else none
        | _ => none
      | .elt id i q => match s.mem id with
        | some (.rows T e f xs) => bif f.flat e && !(ownsC new).any (Nat.beq id) then match storeC s.dat (inj e (rd xs i)) q I.size (new.map s.dat) with
          | some cs' => match projAll e cs' with
            | some x' => k (frzC new ++ [.set id (.rows T e f (xs.set i.toNat x'))]) (ownsC new)
            | none => none
          | none => none
          else match (bif (ownsC new).isEmpty then storeF e f (rd xs i) q I.size (new.map s.dat) else none) with
          | some x' => k [.set id (.rows T e f (xs.set i.toNat x'))] []
          | none => match q with
            | .at 0 => bif Nat.beq I.size e.size then match shapeF e f new with
              | some [] => k [.set id (.opn T e f xs i new)] []
              | _ => none
              else none
            | _ => none
        | some (.opn T e f xs i' cs) => bif decide (i = i') then match q with
          | .at o => match putC cs o I.size new with
            | some cs' => k [.set id (.opn T e f xs i' cs')] []
            | none => none
          | q => bif (ownsC new).isEmpty then match storeC s.dat cs q I.size new with
            | some cs' => k [.set id (.opn T e f xs i' cs')] []
            | none => none
            else none
          else none
        | _ => none
      | _ => none
    else none
  | _, _ => none

/-- A struct out of its parts. -/
def fillC (place : Nat → Option (Nat × Nat)) (cs : List PV) : List (Nat × SV) → Option (List PV)
  | [] => some cs
  | (i, x) :: rest => match place i, x.cells with
    | some (off, size), some new => bif Nat.beq (widthC new) size then
        match putC cs off size new with
        | some cs => fillC place cs rest
        | none => none
      else none
    | _, _ => none
def buildK (C : Cfg) (t : TypeId) (ps : List (Nat × SV)) (k : List PV → Option R) : Option R :=
  match C.ti t with
  | some ⟨.struct fs _ _, _, _, z, _, _⟩ => match fillC (fun i => fs[i]?) z ps with
    | some cs => k cs
    | none => none
  | _ => none

def St.evs (s : St) (ps : List (Nat × Operand)) : List (Nat × SV) := ps.map fun p => (p.1, s.ev p.2)

/-- Rows of a slice's literal: its parts, in order. -/
def rowsOf (e : Ty) (s : St) : Nat → List (Nat × SV) → Option (List e.den)
  | _, [] => some []
  | i, (j, x) :: ps => bif Nat.beq i j then
      match x.cells with
      | some c => match projAll e (c.map s.dat), rowsOf e s (i + 1) ps with
        | some x, some xs => some (x :: xs)
        | _, _ => none
      | none => none
    else none
def cellsOfAll : List (Nat × SV) → List PV
  | [] => []
  | (_, x) :: r => (x.cells.getD []) ++ cellsOfAll r

/-- A slice's literal of at most one element, with slices of its own. -/
def deepP (f : Fl) (e : TypeId) (τ : Ty) (ps : List (Nat × SV)) : Option Blk :=
  bif f.isNo then none else match ps with
  | [] => some (.rows e τ f [])
  | [(0, x)] => match x.cells with
    | some c => match shapeF τ f c with
      | some [] => bif Nat.beq (widthC c) τ.size then some (.opn e τ f [τ.dflt] 0 c) else none
      | _ => none
    | none => none
  | _ => none

def bytesOf (xs : List Int) : ByteArray := ⟨(xs.map fun n => UInt8.ofNat n.toNat).toArray⟩
def intsOf (s : ByteArray) : List Int := s.data.toList.map fun b => (b.toNat : Int)

def isSlice (C : Cfg) (t : TypeId) : Bool := match C.ti t with
  | some I => (match I.sh with | .slice _ => true | _ => false)
  | none => false
def isStr (C : Cfg) (t : TypeId) : Bool := match C.ti t with
  | some I => (match I.ty with | .str => true | _ => false)
  | none => false
/-- A slice type whose elements lie as type e says. -/
def isSliceOf (C : Cfg) (t : TypeId) (e : Ty) : Bool := match C.ti t with
  | some I => (match I.sh with
    | .slice q => (match C.ti q with
      | some E => Nat.beq E.size e.size
      | none => false)
    | _ => false)
  | none => false
def lenK (C : Cfg) (s : St) (t : TypeId) (x : PV) (k : PV → Option R) : Option R :=
  match x with
  | .str u => bif isStr C t then k (.int .i64 (u.size : Int)) else none
  | .nils => bif isSlice C t then k (.int .i64 0) else none
  | p => match s.asRow p with
    | some ⟨_, xs⟩ => bif isSlice C t then k (.int .i64 (xs.length : Int)) else none
    | none => none

/-- What is appended: its elements, as data of type e; what becomes data. -/
def moreOf (s : St) (e : Ty) (y : PV) : Option (List e.den) :=
  match y with
  | .nils => some []
  | p => match s.asList p with
    | some ⟨e', xs⟩ => match decEq e' e with
      | .isTrue h => some (castL h xs)
      | .isFalse _ => none
    | none => none
def moreU (s : St) (y : PV) : List Upd :=
  match y with
  | .own id => match s.mem id with
    | some (.rows _ _ f _) => bif f.isNo then [] else [.frz id]
    | _ => []
  | .view id _ _ => match s.mem id with
    | some (.rows _ _ f _) => bif f.isNo then [] else [.frz id]
    | _ => []
  | _ => []
/-- A number that no block bears yet. -/
def freshK (s : St) (id : Nat) (x : Option R) : Option R := match s.mem id with
  | none => x
  | some _ => none
/-- Room for n elements of b bytes. -/
def roomB (n b : Nat) : Bool := decide (n * b ≤ 140737488355328) && decide (n ≤ 9223372036854775807)

/-- append of elements with slices of their own. -/
def appD (s : St) (id : Nat) (e : TypeId) (τ : Ty) (x y : PV) : Option (Nat × List Upd) :=
  match y with
  | .own j => match s.mem j with
    | some (.opn T f0 f ys i cs) => bif Nat.beq T e && !f.isBox then match decEq f0 τ with
      | .isTrue h => match x with
        | .nils => some (ys.length, [.set j .dead, .set id (.opn e τ f (castL h ys) i cs)])
        | .own l => match s.mem l with
          | some (.rows T' e' f' xs) => bif Nat.beq T' e && decide (f' = f) && !Nat.beq l j then match decEq e' τ with
            | .isTrue h' => some (xs.length + ys.length, [.set l .dead, .set j .dead, .set id (.opn e τ f (castL h' xs ++ castL h ys) ((xs.length : Int) + i) cs)])
            | .isFalse _ => none
            else none
          | _ => none
        | _ => none
      | .isFalse _ => none
      else none
    | some (.rows T f0 f ys) => bif Nat.beq T e && !f.isBox && !f.isNo then match decEq f0 τ with
      | .isTrue h => match x with
        | .own l => match s.mem l with
          | some (.rows T' e' f' xs) => bif Nat.beq T' e && decide (f' = f) && !Nat.beq l j then match decEq e' τ with
            | .isTrue h' => some (xs.length + ys.length, [.set l .dead, .set j .dead, .set id (.rows e τ f (castL h' xs ++ castL h ys))])
            | .isFalse _ => none
            else none
          | _ => none
        | _ => none
      | .isFalse _ => none
      else none
    | _ => none
  | _ => none
/-- append: only onto nil and onto a slice of the call's own, which is then gone. -/
def appendK (C : Cfg) (s : St) (id : Nat) (sl : TypeId) (x y : PV) (k : PV → List Upd → Option R) : Option R :=
  match C.ti sl with
  | some ⟨.slice e, _, _, _, _, _⟩ => match C.ti e with
    | some E => bif Nat.ble 1 E.size then match appD s id e E.ty x y with
      | some (m, us) => freshK s id (bif roomB m E.bytes then k (.own id) us else none)
      | none => match moreOf s E.ty y with
      | some ys => match x with
        | .nils => freshK s id (bif roomB ys.length E.bytes then k (.own id) (moreU s y ++ [.set id (.rows e E.ty .no ys)]) else none)
        | .own j => match s.mem j with
          | some (.rows T e' f xs) => bif Nat.beq T e && f.isNo then match decEq e' E.ty with
            | .isTrue h => freshK s id (bif roomB (xs.length + ys.length) E.bytes then k (.own id) (moreU s y ++ [.set j .dead, .set id (.rows e E.ty .no (castL h xs ++ ys))]) else none)
            | .isFalse _ => none
            else none
          | _ => none
        | _ => none
      | none => none
      else none
    | none => none
  | _ => none

def boundK (x : Option PV) (dflt : Int) (k : Int → Option R) : Option R :=
  match x with
  | none => k dflt
  | some (.int _ n) => k n
  | _ => none

def sliceK (C : Cfg) (s : St) (t : TypeId) (x : PV) (lo hi : Option PV) (k : PV → List Upd → Option R) : Option R :=
  match x with
  | .str u => bif isStr C t then boundK lo 0 fun l => boundK hi (u.size : Int) fun h =>
      bif decide (0 ≤ l) && decide (l ≤ h) && decide (h ≤ (u.size : Int)) then k (.str (u.extract l.toNat h.toNat)) [] else none
    else none
  | p => match s.asList p with
    | some ⟨e, xs⟩ => bif isSliceOf C t e then boundK lo 0 fun l => boundK hi (xs.length : Int) fun h =>
        bif decide (0 ≤ l) && decide (l ≤ h) && decide (h ≤ (xs.length : Int)) then k (.list e ((xs.take h.toNat).drop l.toNat)) (p.owns.map .frz) else none
      else none
    | none => none

/-- The front of a slice of the call's own, in its place. -/
def cutK (C : Cfg) (s : St) (id : Nat) (t : TypeId) (x : PV) (lo hi : Option PV) (k : PV → List Upd → Option R) : Option R :=
  match x, lo with
  | .own j, none => match s.mem j with
    | some (.rows T e f xs) => bif f.isNo && isSliceOf C t e then boundK hi (xs.length : Int) fun h =>
        bif decide (0 ≤ h) && decide (h ≤ (xs.length : Int)) then freshK s id (k (.own id) [.set j .dead, .set id (.rows T e .no (xs.take h.toNat))]) else none
      else none
    | _ => none
  | _, _ => none

/-- A part of a slice of the call's own, to be looked at: it stays the call's own. -/
def viewK (C : Cfg) (s : St) (t : TypeId) (x : PV) (lo hi : Option PV) (k : PV → Option R) : Option R :=
  match x with
  | .own j => match s.asList (.own j) with
    | some ⟨e, xs⟩ => bif isSliceOf C t e then boundK lo 0 fun l => boundK hi (xs.length : Int) fun h =>
        bif decide (0 ≤ l) && decide (l ≤ h) && decide (h ≤ (xs.length : Int)) then k (.view j l h) else none
      else none
    | none => none
  | _ => none

def sliceElem (C : Cfg) (t : TypeId) : Option (TypeId × Ty) := match C.ti t with
  | some I => (match I.sh with
    | .slice q => (match C.ti q with
      | some E => some (q, E.ty)
      | none => none)
    | _ => none)
  | none => none
def convK (C : Cfg) (s : St) (src dst : TypeId) (x : PV) (k : PV → Option R) : Option R :=
  match C.ti src, C.ti dst, x with
  | some _, some D, .int _ n => match D.ty with
    | .int kd => k (.int kd (kd.wrap n))
    | _ => none
  | some I, some D, .str t => match I.ty, D.ty with
    | .str, .str => k (.str t)
    | _, _ => none
  | some _, some D, x => match D.ty, sliceElem C src, s.asList x with
    | .str, some (_, .int .u8), some ⟨.int .u8, xs⟩ => k (.str (bytesOf xs))
    | _, _, _ => none
  | _, _, _ => none
/-- []byte(s): a new row of the call's own. -/
def bytesK (C : Cfg) (s : St) (id : Nat) (src dst : TypeId) (x : PV) (k : PV → List Upd → Option R) : Option R :=
  match x with
  | .str t => bif isStr C src then match sliceElem C dst with
      | some (q, .int .u8) => freshK s id (bif decide (t.size ≤ 9223372036854775807) then k (.own id) [.set id (.rows q (.int .u8) .box (intsOf t))] else none)
      | _ => none
    else none
  | _ => none
def sameO : Operand → Operand → Bool
  | .tmp a, .tmp b => Nat.beq a b
  | .const (.int a m), .const (.int b n) => decide (a = b) && decide (m = n)
  | _, _ => false
def makeSliceK (C : Cfg) (s : St) (id : Nat) (t : TypeId) (n : PV) (k : PV → List Upd → Option R) : Option R :=
  match C.ti t, n with
  | some ⟨.slice e, _, _, _, _, _⟩, .int .i64 n => match C.ti e with
    | some E => match projAll E.ty E.zero with
      | some z => bif Nat.ble 1 E.size then freshK s id (bif decide (0 ≤ n) && roomB n.toNat E.bytes then k (.own id) [.set id (.rows e E.ty (zeroFl (C.elf t id) E.ty E.zero) (List.replicate n.toNat z))] else none) else none
      | none => none
    | none => none
  | _, _ => none

def fieldOff (C : Cfg) (t : TypeId) (f : Nat) : Option (Nat × Nat) :=
  match C.ti t with
  | some ⟨.struct fs _ _, _, _, _, _, _⟩ => fs[f]?
  | _ => none
def fieldAgg (C : Cfg) (t : TypeId) (f : Nat) : Option Bool :=
  match C.ti t with
  | some ⟨.struct _ ags _, _, _, _, _, _⟩ => ags[f]?
  | _ => none
def Sub.move (n : Nat) : Sub → Sub
  | .at o => .at (o + n)
  | .arr o e m j q => .arr o e m j (q + n)
def movePtr (p : PV) (n : Nat) : Option PV :=
  match p with
  | .ptr id q => some (.ptr id (q.move n))
  | .elt id i q => some (.elt id i (q.move n))
  | .cptr τ x off => some (.cptr τ x (off + n))
  | _ => none
def arrOf (C : Cfg) (t : TypeId) : Option (Nat × Ty) := match C.ti t with
  | some I => (match I.sh with
    | .array n e => (match C.ti e with
      | some E => some (n, E.ty)
      | none => none)
    | _ => none)
  | none => none
/-- The variable that a number bears. -/
def boxAt (s : St) (id : Nat) : Option (List PV) := match s.mem id with
  | some (.box cs) => some cs
  | some (.fbox cs) => some cs
  | _ => none
def indexAddrK (C : Cfg) (s : St) (t : TypeId) (x i : PV) (k : PV → Option R) : Option R :=
  match i with
  | .int _ n => match x with
    | .list e xs => bif isSliceOf C t e then (bif inL n xs.length then k (.cptr e (rd xs n) 0) else none) else none
    | .own id => match s.asRow (.own id) with
      | some ⟨e, xs⟩ => bif isSliceOf C t e then (bif inL n xs.length then k (.elt id n (.at 0)) else none) else none
      | none => none
    | .ptr id (.at o) => match arrOf C t with
      | some (m, e) => bif inL n m then k (.ptr id (.arr o e m n 0)) else none
      | none => none
    | .elt id j (.at o) => match arrOf C t with
      | some (m, e) => bif inL n m then k (.elt id j (.arr o e m n 0)) else none
      | none => none
    | .cptr τ x o => match arrOf C t with
      | some (m, e) => match segAt (inj τ x) o e m with
        | some xs => bif inL n m then k (.cptr e (rd xs n) 0) else none
        | none => none
      | none => none
    | _ => none
  | _ => none
def indexK (C : Cfg) (t : TypeId) (x : SV) (i : PV) (k : SV → Option R) : Option R :=
  match i with
  | .int _ n => match x with
    | .v (.str u) => bif isStr C t then (bif inL n u.size then k (.v (.int .u8 (bt u n))) else none) else none
    | .agg cs => match C.ti t with
      | some ⟨.array m e, _, _, _, _, _⟩ => match C.ti e with
        | some E => match segAt cs 0 E.ty m with
          | some xs => bif inL n m then asSV E (inj E.ty (rd xs n)) k else none
          | none => none
        | none => none
      | _ => none
    | _ => none
  | _ => none

def maxF (k : IntKind) (x : Int) : List PV → Option PV
  | [] => some (.int k x)
  | .int _ y :: r => maxF k (if y > x then y else x) r
  | _ => none
def minF (k : IntKind) (x : Int) : List PV → Option PV
  | [] => some (.int k x)
  | .int _ y :: r => minF k (if y < x then y else x) r
  | _ => none
def maxL : List PV → Option PV
  | .int k x :: r => maxF k x r
  | _ => none
def minL : List PV → Option PV
  | .int k x :: r => minF k x r
  | _ => none


def extractK (x : SV) (i : Nat) (k : SV → Option R) : Option R :=
  match x with
  | .tup cs sh => match sh[i]? with
    | some (n, agg) => match cutC cs ((sh.take i).foldr (fun a b => a.1 + b) 0) n with
      | some c => bif agg then k (.agg c) else match c with
        | [c] => k (.v c)
        | _ => none
      | none => none
    | none => none
  | _ => none

/-! ### Calls -/
/-- Data out of cells; U: the slices under flags; V: the blocks that the rest speaks of. -/
def projF (s : St) : (τ : Ty) → Fl → List PV → Option (τ.den × List PV × List Nat × List Nat)
  | .list e, .own T g, cs => match cs with
    | .own i :: cs => match s.mem i with
      | some (.rows T' e' g' xs) => bif Nat.beq T' T && decide (g' = g) then match decEq e' e with
        | .isTrue h => some (castL h xs, cs, [i], [])
        | .isFalse _ => none
        else none
      | _ => none
    | .nils :: cs => bif Nat.ble 1 e.size then some ([], cs, [], []) else none
    | _ => none
  | .opt e, .box, cs => match cs with
    | .nilp :: cs => some (none, cs, [], [])
    | .ptr i (.at 0) :: cs => match s.mem i with
      | some (.box bs) => bif Nat.blt (i % 128) 127 then match projAll e (bs.map s.dat) with
        | some x => some (some x, cs, [i], ownsC bs)
        | none => none
        else none
      | _ => none
    | _ => none
  | .pair a b, .pair f g, cs => match projF s a f cs with
    | some (x, cs, U, V) => match projF s b g cs with
      | some (y, cs, U', V') => some ((x, y), cs, U ++ U', V ++ V')
      | none => none
    | none => none
  | τ, _, cs => match takeC cs τ.size, dropC cs τ.size with
    | some a, some b => match projAll τ (a.map s.dat) with
      | some x => some (x, b, [], ownsC a)
      | none => none
    | _, _ => none
def apartB (U V : List Nat) : Bool := U.all fun i => !(V.any (Nat.beq i))
/-- The value of a type, as a slot has it. -/
def ofData (τ : Ty) (agg : Bool) (x : τ.den) : Option SV :=
  bif agg then some (.agg (inj τ x)) else match inj τ x with
    | [c] => bif Nat.beq c.width 1 then some (.v c) else none
    | _ => none
def SV.isA : SV → Bool
  | .agg _ => true
  | _ => false

/-- What comes back of a call: where to; what is lent: the cells that were handed over. -/
inductive Bk where
  | var (p : PV) (τ : Ty)
  | lend (cs : List PV) (τ : Ty) (f : Fl)
/-- The arguments of a call: the data; U: the slices that go over; V: the blocks that are looked at; P: the variables; what comes back. -/
structure Ar where
  as : List SV
  U : List Nat
  V : List Nat
  P : List Nat
  bk : List Bk
def Cap.sv : Cap → Option SV
  | .dat τ x => ofData τ false x
  | .agg τ x => some (.agg (inj τ x))
  | .cref τ x => some (.v (.cptr τ x 0))
  | .ref id => some (.v (.ptr id (.at 0)))
def argOf (s : St) (p : PK) (x : SV) : Option Ar :=
  match p with
  | .raw => match x with
    | .v p => some ⟨[.v (s.dat p)], [], p.owns, [], []⟩
    | _ => none
  | .val τ => match x.cells with
    | some cs => match projAll τ (cs.map s.dat) with
      | some d => match ofData τ x.isA d with
        | some y => some ⟨[y], [], ownsC cs, [], []⟩
        | none => none
      | none => none
    | none => none
  | .give τ f => match x.cells with
    | some cs => match projF s τ f cs with
      | some (d, [], U, V) => match ofData τ x.isA d with
        | some y => some ⟨[y], U, V, [], []⟩
        | none => none
      | _ => none
    | none => none
  | .lend τ f => match x.cells with
    | some cs => match projF s τ f cs with
      | some (d, [], U, V) => match ofData τ x.isA d with
        | some y => some ⟨[y], U, V, [], [.lend cs τ f]⟩
        | none => none
      | _ => none
    | none => none
  | .ro τ => match s.look x.pv τ.size with
    | some cs => match projAll τ (cs.map s.dat) with
      | some d => some ⟨[.v (.cptr τ d 0)], [], x.pv.leads ++ ownsC cs, [], []⟩
      | none => none
    | none => none
  | .var τ f => match x.pv with
    | .ptr id (.at o) => match s.mem id with
      | some (.box bs) => match cutC bs o τ.size with
        | some cs => match projF s τ f cs with
          | some (d, [], U, V) => some ⟨[.agg (inj τ d)], U, V, [id], [.var (.ptr id (.at o)) τ]⟩
          | _ => none
        | none => none
      | _ => none
    | _ => none
  | .dvar τ f => match x.pv with
    | .ptr i0 (.at 0) => match boxAt s i0 with
      | some [.ptr id (.at 0)] => match s.mem id with
        | some (.box bs) => match cutC bs 0 τ.size with
          | some cs => match projF s τ f cs with
            | some (d, [], U, V) => some ⟨[.agg (inj τ d)], U, i0 :: V, [id], [.var (.ptr id (.at 0)) τ]⟩
            | _ => none
          | none => none
        | _ => none
      | _ => none
    | _ => none
def argsOf (s : St) : List PK → List SV → Option Ar
  | [], [] => some ⟨[], [], [], [], []⟩
  | p :: ps, x :: xs => match argOf s p x, argsOf s ps xs with
    | some a, some b => some ⟨a.as ++ b.as, a.U ++ b.U, a.V ++ b.V, a.P ++ b.P, a.bk ++ b.bk⟩
    | _, _ => none
  | _, _ => none

def resSV (sh : List (Ty × Bool)) (cs : List PV) : Option SV :=
  match sh with
  | [] => some (.tup [] [])
  | [(τ, true)] => match takeC cs τ.size with | some a => some (.agg a) | none => none
  | [(τ, false)] => match takeC cs τ.size with | some [c] => some (.v c) | _ => none
  | sh => match takeC cs ((sh.map (·.1.size)).foldr (· + ·) 0) with
    | some a => some (.tup a (sh.map fun x => (x.1.size, x.2)))
    | none => none
/-- The cells of a result; its own slices and variables stand under new numbers, from id + j on. -/
def injK (id : Nat) : (τ : Ty) → Fl → τ.den → Nat → (List PV → List (Nat × Blk) → Nat → Option R) → Option R
  | .list e, .own T g, xs, j, k => k [.own (id + j)] [(id + j, .rows T e g xs)] (j + 1)
  | .opt e, .box, x, j, k => match x with
    | none => k [.nilp] [] (j + 1)
    | some y => k [.ptr (id + j) (.at 0)] [(id + j, .box (inj e y))] (j + 1)
  | .pair a b, .pair f g, x, j, k => injK id a f x.1 j fun c u j => injK id b g x.2 j fun c' u' j => k (c ++ c') (u ++ u') j
  | τ, _, x, j, k => k (inj τ x) [] j
def assocB : List (Nat × Blk) → Nat → Option Blk
  | [], _ => none
  | (j, x) :: r, t => bif Nat.beq t j then some x else assocB r t
/-- What is lent comes back under its old numbers; 'nw': what is new. -/
def lendU (nw : List (Nat × Blk)) : (τ : Ty) → Fl → List PV → List PV → Option (List Upd × List PV × List PV)
  | .list e, .own _ _, old, new => match old, new with
    | .own i :: old, .own j :: new => match assocB nw j with
      | some (.rows T e' g xs) => match decEq e' e with
        | .isTrue _ => some ([.set j .dead, .set i (.rows T e' g xs)], old, new)
        | .isFalse _ => none
      | _ => none
    | .nils :: old, .own _ :: new => some ([], old, new)
    | _, _ => none
  | .pair a b, .pair f g, old, new => match lendU nw a f old new with
    | some (u, old, new) => match lendU nw b g old new with
      | some (u', old, new) => some (u ++ u', old, new)
      | none => none
    | none => none
  | τ, _, old, new => match dropC old τ.size with
    | some old => some ([], old, new)
    | none => none
def backU (s : St) (nw : List (Nat × Blk)) : List Bk → List PV → Option (List Upd)
  | [], [] => some []
  | .var (.ptr id (.at o)) τ :: bs, cs => match takeC cs τ.size, dropC cs τ.size with
    | some a, some b => match s.mem id with
      | some (.box old) => match putC old o τ.size a with
        | some new => match backU s nw bs b with
          | some us => some (.set id (.box new) :: us)
          | none => none
        | none => none
      | _ => none
    | _, _ => none
  | .lend old τ f :: bs, cs => match lendU nw τ f old cs with
    | some (us, [], cs) => match backU s nw bs cs with
      | some vs => some (us ++ vs)
      | none => none
    | _ => none
  | _, _ => none
/-- The numbers that what comes back takes. -/
def lendI : (τ : Ty) → Fl → List PV → List Nat
  | .list _, .own _ _, cs => match cs with
    | .own i :: _ => [i]
    | _ => []
  | .pair a b, .pair f g, cs => lendI a f cs ++ match dropC cs a.size with
    | some cs => lendI b g cs
    | none => []
  | _, _, _ => []
def bkI : List Bk → List Nat
  | [] => []
  | .var (.ptr id _) _ :: bs => id :: bkI bs
  | .var _ _ :: bs => bkI bs
  | .lend cs τ f :: bs => lendI τ f cs ++ bkI bs
def noPar (l : List Nat) : Bool := l.all fun i => Nat.blt (i % 128) 127
def call1 (C : Cfg) (env : C.Env) (id : Nat) (s : St) (g : Nat) (sg : Sig) (A : Ar) (k : SV → List Upd → List Nat → Option R) : Option R :=
  bif nodupB (A.U ++ A.P) && apartB (A.U ++ A.P) A.V && (!(C.resTy g).shares sg.resFl || noPar A.V) && nodupB (bkI A.bk) && (bkI A.bk).all (fun i => (A.U ++ A.P).any (Nat.beq i)) then
    (env g A.as).bind fun r => injK id (C.resTy g) sg.resFl r 0 fun cs new j =>
      match resSV sg.res cs, dropC cs ((sg.res.map (·.1.size)).foldr (· + ·) 0) with
      | some x, some back => bif Nat.ble j 32 && freshL s new && nodupB (new.map (·.1)) && nodupB (ownsC back) then
          match backU s new A.bk back with
          | some us => k x ((bif (C.resTy g).shares sg.resFl then A.V.map .frz else []) ++ ((A.U ++ A.P).map (.set · .dead) ++ sets new) ++ us) A.V
          | none => none
        else none
      | _, _ => none
  else none
def callL (C : Cfg) (env : C.Env) (id : Nat) (s : St) (xs : List SV) (k : SV → List Upd → List Nat → Option R) : List Nat → Option R
  | [] => none
  | g :: gs => match C.sig g with
    | some sg => match argsOf s sg.params xs with
      | some A => call1 C env id s g sg A k
      | none => callL C env id s xs k gs
    | none => callL C env id s xs k gs
def callK (C : Cfg) (env : C.Env) (id : Nat) (s : St) (f : FuncId) (xs : List SV) (k : SV → List Upd → List Nat → Option R) : Option R :=
  callL C env id s xs k (C.alts f)

def capsSV : List Cap → Option (List SV)
  | [] => some []
  | c :: cs => match c.sv, capsSV cs with
    | some x, some xs => some (x :: xs)
    | _, _ => none
def fnK (C : Cfg) (env : C.Env) (id : Nat) (s : St) (x : SV) (xs : List SV) (k : SV → List Upd → List Nat → Option R) : Option R :=
  match x with
  | .v (.fn f caps) => match capsSV caps with
    | some ys => bif Nat.ble (C.alts f).length 1 then callK C env id s f (xs ++ ys) k else none
    | none => none
  | _ => none
/-- What a function value holds of a captured value; what becomes data for it; what is looked at. -/
def capOf (s : St) (p : PK) (x : SV) : Option (Cap × List Nat) :=
  match p with
  | .val τ => match x.cells with
    | some cs => match projAll τ (cs.map s.dat) with
      | some d => match ofData τ x.isA d with
        | some _ => some (bif x.isA then .agg τ d else .dat τ d, ownsC cs)
        | none => none
      | none => none
    | none => none
  | .ro τ => match x.pv with
    | .ptr id (.at 0) => match boxAt s id with
      | some cs => match projAll τ (cs.map s.dat) with
        | some d => some (.cref τ d, id :: ownsC cs)
        | none => none
      | none => none
    | .cptr τ' d 0 => some (.cref τ' d, [])
    | _ => none
  | .var _ _ => match x.pv with
    | .ptr id (.at 0) => some (.ref id, [])
    | _ => none
  | .dvar _ _ => match x.pv with
    | .ptr id (.at 0) => some (.ref id, [])
    | _ => none
  | _ => none
def capsOf (s : St) : List PK → List SV → Option (List Cap × List Nat)
  | [], [] => some ([], [])
  | p :: ps, x :: xs => match capOf s p x, capsOf s ps xs with
    | some (c, i), some (cs, is) => some (c :: cs, i ++ is)
    | _, _ => none
  | _, _ => none
def makeFuncK (C : Cfg) (s : St) (f : FuncId) (xs : List SV) (k : PV → List Upd → List Nat → Option R) : Option R :=
  match C.alts f with
  | g :: _ => match C.sig g with
    | some sg => match capsOf s (sg.params.drop (sg.params.length - xs.length)) xs with
      | some (cs, is) => bif noPar is then k (.fn f cs) (is.map .frz) is else none
      | none => none
    | none => none
  | [] => match xs with
    | [] => k (.fn f []) [] []
    | _ => none

/-! ### Operations -/
def doK (C : Cfg) (env : C.Env) (id : Nat) (op : Op) (s : St) (k : SV → List Upd → List Nat → Option R) : Option R :=
  match op with
  | .move x | .assign x => k (s.ev x) [] []
  | .pick c a b => pickK (s.ev c) (s.ev a) (s.ev b) fun x => k x [] []
  | .binOp op t x y _ => match s.ev x, s.ev y with
    | .v (.bool x), .v (.bool y) => boolK C op t x y fun r => k (.v r) [] []
    | .v x, .v y => binK op x y fun r => k (.v r) [] []
    | .agg x, .agg y => eqK C op t x y fun r => k (.v r) [] []
    | _, _ => none
  | .unOp op _ x => match s.ev x with
    | .v x => unK op x fun r => k (.v r) [] []
    | _ => none
  | .alloc t => match C.ti t with
    | some I => freshK s id (k (.v (.ptr id (.at 0))) [.set id (.box I.zero)] [])
    | none => none
  | .box t x => match C.ti t, (s.ev x).cells with
    | some I, some cs => bif Nat.beq (widthC cs) I.size then freshK s id (k (.v (.ptr id (.at 0))) [.set id (.box cs)] []) else none
    | _, _ => none
  | .build t ps => buildK C t (s.evs ps.toList) fun cs => k (.agg cs) [] []
  | .buildSlice t n ps => match C.ti t with
    | some ⟨.slice e, _, _, _, _, _⟩ => match C.ti e with
      | some E => match deepP (C.elf t id) e E.ty (s.evs ps.toList) with
        | some b => bif Nat.beq ps.toList.length n && Nat.ble 1 E.size && Nat.ble (n * E.size) 16777216 then freshK s id (k (.v (.own id)) [.set id b] []) else none
        | none => match rowsOf E.ty s 0 (s.evs ps.toList) with
        | some xs => bif Nat.beq ps.toList.length n && Nat.ble 1 E.size && Nat.ble (n * E.size) 16777216 then
            freshK s id (k (.v (.own id)) (frzC (cellsOfAll (s.evs ps.toList)) ++ [.set id (.rows e E.ty .no xs)]) (ownsC (cellsOfAll (s.evs ps.toList)))) else none
        | none => none
      | none => none
    | _ => none
  | .makeSlice t n c => bif sameO n c then makeSliceK C s id t (s.ev n).pv fun p us => k (.v p) us [] else none
  | .load t a => match s.ev a with
    | .v p => loadK C s id t p fun x us => k x us p.leads
    | _ => none
  | .store t a x => match s.ev a with
    | .v p => storeK C s t p (s.ev x) fun us rs => k (.v .undef) us rs
    | _ => none
  | .fieldAddr t x f => match s.ev x, fieldOff C t f with
    | .v p, some (off, size) => bif Nat.ble 1 size then (match movePtr p off with | some p => k (.v p) [] [] | none => none) else none
    | _, _ => none
  | .field t x f => match s.ev x, fieldOff C t f, fieldAgg C t f with
    | .agg cs, some (off, size), some agg => match cutC cs off size with
      | some c => bif agg then k (.agg c) [] [] else match c with
        | [c] => bif Nat.beq c.width 1 then k (.v c) [] [] else none
        | _ => none
      | none => none
    | _, _, _ => none
  | .indexAddr t x i => indexAddrK C s t (s.ev x).pv (s.ev i).pv fun p => k (.v p) [] (s.ev x).pv.owns
  | .index t x i => indexK C t (s.ev x) (s.ev i).pv fun x => k x [] []
  | .nilCheck x => match s.ev x with
    | .v (.ptr a b) => k (.v (.ptr a b)) [] []
    | .v (.elt a b c) => k (.v (.elt a b c)) [] []
    | .v (.cptr a b c) => k (.v (.cptr a b c)) [] []
    | _ => none
  | .slice t x lo hi none => bif (C.elf t id).isNo then sliceK C s t (s.ev x).pv (lo.map fun o => (s.ev o).pv) (hi.map fun o => (s.ev o).pv) fun p us => k (.v p) us []
    else bif (C.elf t id).isBox then cutK C s id t (s.ev x).pv (lo.map fun o => (s.ev o).pv) (hi.map fun o => (s.ev o).pv) fun p us => k (.v p) us []
    else viewK C s t (s.ev x).pv (lo.map fun o => (s.ev o).pv) (hi.map fun o => (s.ev o).pv) fun p => k (.v p) [] (s.ev x).pv.owns
  | .convert src dst x => match s.ev x with
    | .v p => bif isStr C src && isSlice C dst then bytesK C s id src dst p (fun p us => k (.v p) us []) else convK C s src dst p fun q => k (.v q) [] p.owns
    | _ => none
  | .extract t i => extractK (s.ev t) i fun x => k x [] []
  | .makeFunc (.func f) first captured => match first.toList with
    | [] => makeFuncK C s f (captured.toList.map s.ev) fun p us rs => k (.v p) us rs
    | _ => none
  | .call c => match c.callee with
    | .value (.func f) => callK C env id s f (c.args.toList.map s.ev) k
    | .value f => fnK C env id s (s.ev f) (c.args.toList.map s.ev) k
    | .builtin .len => match c.args.toList, c.argTypes.toList with
      | [x], [t] => lenK C s t (s.ev x).pv fun p => k (.v p) [] (s.ev x).pv.owns
      | _, _ => none
    | .builtin .append => match c.args.toList, c.argTypes.toList with
      | [x, y], [t, t'] => bif Nat.beq t t' then appendK C s id t (s.ev x).pv (s.ev y).pv fun p us => k (.v p) us (s.ev y).pv.owns else none
      | _, _ => none
    | .builtin .max => match maxL (c.args.toList.map fun x => (s.ev x).pv) with
      | some p => k (.v p) [] []
      | none => none
    | .builtin .min => match minL (c.args.toList.map fun x => (s.ev x).pv) with
      | some p => k (.v p) [] []
      | none => none
    | _ => none
  | _ => none

/-- What an operation writes or needs as it is; what it makes data; what it looks at. -/
structure Foot where
  w : List Nat
  f : List Nat
  r : List Nat
def updW : List Upd → List Nat
  | [] => []
  | .set id _ :: us => id :: updW us
  | _ :: us => updW us
def updF : List Upd → List Nat
  | [] => []
  | .frz id :: us => id :: updF us
  | _ :: us => updF us
/-- A slice whose elements' slices are the call's own, too. -/
def deepB (s : St) (id : Nat) : Bool := match s.mem id with
  | some (.rows _ _ f _) => !f.isNo
  | some (.opn _ _ _ _ _ _) => true
  | _ => false
def foot (s : St) (us : List Upd) (rs : List Nat) : Foot := ⟨updW us ++ (updF us).filter (deepB s), (updF us).filter (fun i => !deepB s i), rs⟩
def putK (o : Oper) (k : St → Foot → Option R) (F : Foot) (x : SV) (s : St) : Option R :=
  match o.dst with
  | none => k s F
  | some d => bif Nat.blt d s.n then k (s.put d x) F else none
/-- Whether a guarded operation is carried out. -/
def gd (ops : Array Oper) (o : Oper) (s : St) (yes no : St → Option R) : Option R :=
  match o.guard with
  | none => yes s
  | some (j, want) => match (ops[j]?).bind (·.dst) with
    | none => none
    | some d => match s.tmps d with
      | .v (.bool c) => bif c then (bif want then yes (s.put d (.v (.bool true))) else no (s.put d (.v (.bool true))))
          else (bif want then no (s.put d (.v (.bool false))) else yes (s.put d (.v (.bool false))))
      | .tup _ _ => no s
      | _ => none
/-- One operation of a region, with its guard. -/
def operK (C : Cfg) (env : C.Env) (ops : Array Oper) (o : Oper) (s : St) (k : St → Foot → Option R) : Option R :=
  gd ops o s (fun s => doK C env (128 * o.dst.getD 0) o.op s fun x us rs => putK o k (foot s us rs) x (s.upds us)) (putK o k ⟨[], [], []⟩ (.tup [] []))
/-! ### What lies open is closed -/
def closeU (s : St) (id : Nat) : List Upd := match s.mem id with
  | some (.opn T e f xs i cs) => match projF s e f cs with
    | some (x, [], U, V) => bif nodupB (id :: U) && apartB (id :: U) V then V.map .frz ++ ((id :: U).map (.set · .dead) ++ [.set id (.rows T e f (xs.set i.toNat x))]) else []
    | _ => []
  | _ => []
def closeS : List Nat → St → St
  | [], s => s
  | id :: r, s => closeS r (s.upds (closeU s id))
/-- The own slices in a value, and in the variable that it points at. -/
def ownsV (s : St) : SV → List Nat
  | .v (.own id) => [id]
  | .v (.ptr id _) => match s.mem id with
    | some (.box cs) => ownsC cs
    | _ => []
  | .agg cs => ownsC cs
  | _ => []
/-- The slices that an operation takes over or reads as a whole. -/
def opIds (s : St) : Op → List Nat
  | .call c => match c.callee with
    | .builtin .append => match c.args.toList with
      | x :: _ => ownsV s (s.ev x)
      | [] => []
    | .value _ => c.args.toList.flatMap fun x => ownsV s (s.ev x)
    | _ => []
  | .slice _ x _ _ _ => ownsV s (s.ev x)
  | _ => []
def opsK (C : Cfg) (env : C.Env) (ops : Array Oper) : List Oper → St → (St → Option R) → Option R
  | [], s, k => k s
  | o :: r, s, k => operK C env ops o (closeS (opIds s o.op) s) fun s _ => opsK C env ops r s k
/-- With what each looks at. -/
def opsF (C : Cfg) (env : C.Env) (ops : Array Oper) : List Oper → St → (St → List Foot → Option R) → Option R
  | [], s, k => k s []
  | o :: r, s, k => operK C env ops o s fun s F => opsF C env ops r s fun s Fs => k s (F :: Fs)

/-! ### Orders -/
def Foot.free (F G : Foot) : Bool := apartB F.w (G.w ++ (G.f ++ G.r)) && apartB G.w (F.f ++ F.r)
/-- For each operation, the set of those that it waits for, as a number's bits; none: one waits for a later one. -/
def maskAt (ms : List Nat) (i : Nat) : Nat := ms.getD i 0
def maskE (ms : List Nat) (i : Nat) : List Edge → Option Nat
  | [] => some 0
  | e :: es => bif Region.binds .any e then (bif Nat.blt e.on i then match maskE ms i es with
      | some m => some (Nat.lor (Nat.lor (Nat.shiftLeft 1 e.on) (maskAt ms e.on)) m)
      | none => none
    else none) else maskE ms i es
def masks : List Oper → Nat → List Nat → Option (List Nat)
  | [], _, ms => some ms
  | o :: r, i, ms => match maskE ms i o.after.toList with
    | some m => masks r (i + 1) (ms ++ [m])
    | none => none
/-- A call that tries at most one function. -/
def soleO (C : Cfg) (op : Op) : Bool := match op with
  | .call c => match c.callee with
    | .value (.func f) => Nat.ble (C.alts f).length 1
    | _ => true
  | _ => true
/-- i and all behind it in the text: each waits for i, or goes with it in either order. -/
def freeL (C : Cfg) (ops : Array Oper) (i : Nat) (oi : Oper) (Fi : Foot) : List Oper → List Nat → List Foot → Bool
  | oj :: os, mj :: ms, Fj :: Fs => (Nat.testBit mj i || (soleO C oi.op && soleO C oj.op && oi.apart ops oj && Fi.free Fj)) && freeL C ops i oi Fi os ms Fs
  | [], [], [] => true
  | _, _, _ => false
def okL (C : Cfg) (ops : Array Oper) : Nat → List Oper → List Nat → List Foot → Bool
  | i, oi :: os, _ :: ms, Fi :: Fs => freeL C ops i oi Fi os ms Fs && okL C ops (i + 1) os ms Fs
  | _, [], [], [] => true
  | _, _, _, _ => false
def okD (C : Cfg) (ops : Array Oper) (Fs : List Foot) : Bool := match masks ops.toList 0 [] with
  | some ms => okL C ops 0 ops.toList ms Fs
  | none => false

abbrev Kont (R : Type) := Exit → St → Option R
def seqK (d : Kont R → St → Option R) (K : Kont R) : Kont R := fun e s => match e with
  | .normal => d K s
  | e => K e s
def blockK (id : Nat) (K : Kont R) : Kont R := fun e s => match e with
  | .exit j => bif Nat.beq j id then K .normal s else K (.exit j) s
  | e => K e s

def firstReg : Code → Nat
  | .region id _ _ => id
  | .seq a _ => firstReg a
  | .block _ b => firstReg b
  | .loop b => firstReg b
  | .cond _ a _ => firstReg a
  | _ => 0

def assocSV : List (Nat × SV) → Nat → SV
  | [], _ => .v .undef
  | (j, x) :: r, t => bif Nat.beq t j then x else assocSV r t

/-- A slot at a loop's head: its value, its blocks; U: the blocks that these were; V: what becomes data. -/
structure HS where
  x : SV
  ms : List (Nat × Blk)
  U : List Nat
  V : List Nat
def canonAt (s : St) (t : Nat) (k : LK) : Option HS :=
  match k, s.tmps t with
  | .val τ f, .v p => match p with
    | .undef => none
    | p => match projF s τ f [p] with
      | some (x, [], U, V) => match injP (128 * t + 32) τ f x 0 with
        | ([c], ms, j) => bif Nat.ble j 30 then some ⟨.v c, ms, U, V⟩ else none
        | _ => none
      | _ => none
  | .agg τ f, .agg cs => match projF s τ f cs with
    | some (x, [], U, V) => match injP (128 * t + 32) τ f x 0 with
      | (cs, ms, j) => bif Nat.ble j 30 then some ⟨.agg cs, ms, U, V⟩ else none
    | _ => none
  | .box τ f, .v (.ptr id (.at 0)) => match s.mem id with
    | some (.box cs) => match projF s τ f cs with
      | some (x, [], U, V) => match injP (128 * t + 32) τ f x 0 with
        | (cs, ms, j) => bif Nat.ble j 30 && Nat.blt (id % 128) 64 then some ⟨.v (.ptr (128 * t + 63) (.at 0)), ms ++ [(128 * t + 63, .box cs)], id :: U, V⟩ else none
      | _ => none
    | _ => none
  | .par τ f, .v (.ptr id (.at 0)) => match s.mem id with
    | some (.box cs) => match projF s τ f cs with
      | some (x, [], U, V) => match injP (128 * t + 32) τ f x 0 with
        | (cs, ms, j) => bif Nat.ble j 30 && Nat.beq (id % 128) 127 then some ⟨.v (.ptr id (.at 0)), ms ++ [(id, .box cs)], id :: U, V⟩ else none
      | _ => none
    | _ => none
  | .pown T e g, .v (.own id) => match s.mem id with
    | some (.rows T' e' g' xs) => bif Nat.beq T' T && decide (g' = g) && Nat.ble 64 (id % 128) then match decEq e' e with
      | .isTrue h => some ⟨.v (.own id), [(id, .rows T e g (castL h xs))], [id], []⟩
      | .isFalse _ => none
      else none
    | _ => none
  | .ro τ, .v (.cptr τ' x 0) => match decEq τ' τ with
    | .isTrue _ => some ⟨.v (.cptr τ' x 0), [], [], []⟩
    | .isFalse _ => none
  | .keep, .v p => match p with
    | .undef => none
    | p => bif p.closed then some ⟨.v p, [], [], []⟩ else none
  | _, _ => none
/-- The slots in increasing order. -/
def canonGo (s : St) : List (Nat × LK) → Nat → Option (List (Nat × SV) × List (Nat × Blk) × List Nat × List Nat)
  | [], _ => some ([], [], [], [])
  | (t, k) :: r, lo => bif Nat.ble lo t then
      match canonAt s t k with
      | some H => match canonGo s r (t + 1) with
        | some (ts, ms, U, V) => some ((t, H.x) :: ts, H.ms ++ ms, H.U ++ U, H.V ++ V)
        | none => none
      | none => none
    else none
/-- The state at a loop's head: what lives, and nothing else; no block twice. -/
def canon0 (s : St) (ls : List (Nat × LK)) : Option St :=
  match canonGo s ls 0 with
  | some (ts, ms, U, V) => bif nodupB U && apartB U V && nodupB (ms.map (·.1)) then some ⟨s.n, assocSV ts, assocB ms⟩ else none
  | none => none

/-- Slots that hold what another one holds. -/
def srcOf (s : St) (t0 : Nat) : Option Nat → SV
  | none => s.tmps t0
  | some k => match s.tmps t0 with
    | .agg cs => match cutC cs k 1 with
      | some [c] => .v c
      | _ => .v .undef
    | .v (.ptr id (.at 0)) => match s.mem id with
      | some (.box cs) => match cutC cs k 1 with
        | some [c] => .v c
        | _ => .v .undef
      | _ => .v .undef
    | _ => .v .undef
def refsOf (s q : St) : List Cap → List Nat → Option (List Cap)
  | [], [] => some []
  | .ref i :: cs, t0 :: ts => match s.tmps t0, q.tmps t0, refsOf s q cs ts with
    | .v (.ptr j (.at 0)), .v (.ptr m (.at 0)), some r => bif Nat.beq i j then some (.ref m :: r) else none
    | _, _, _ => none
  | _, _ => none
def sames (s : St) : List (Nat × LK) → St → Option St
  | [], q => some q
  | (t, .same t0 k) :: r, q => match s.tmps t, srcOf s t0 k, srcOf q t0 k with
    | .v (.own i), .v (.own j), .v (.own m) => bif Nat.beq i j then sames s r (q.put t (.v (.own m))) else none
    | .v (.ptr i (.at 0)), .v (.ptr j (.at 0)), .v (.ptr m (.at 0)) => bif Nat.beq i j then sames s r (q.put t (.v (.ptr m (.at 0)))) else none
    | _, _, _ => none
  | (t, .clos ts) :: r, q => match s.tmps t with
    | .v (.fn f caps) => match refsOf s q caps ts with
      | some caps => sames s r (q.put t (.v (.fn f caps)))
      | none => none
    | _ => none
  | _ :: r, q => sames s r q
def noSame : List (Nat × LK) → List (Nat × LK)
  | [] => []
  | (_, .sub _ _) :: r => noSame r
  | (_, .same _ _) :: r => noSame r
  | (_, .clos _) :: r => noSame r
  | p :: r => p :: noSame r
def canon (s : St) (ls : List (Nat × LK)) : Option St :=
  match canon0 s (noSame ls) with
  | some q => sames s ls q
  | none => none

/-- The element that lies open is laid open anew. -/
def subs (s : St) : List (Nat × LK) → St → Option St
  | [], q => some q
  | (t, .sub t0 k) :: r, q => match s.tmps t, s.tmps t0, q.tmps t0 with
    | .v (.own i), .v (.own p), .v (.own p') => match s.mem p, q.mem p' with
      | some (.opn _ e _ _ n cs), some (.rows T' e' f' ys) => match cutC cs k 1, cutC (injP (128 * t + 32) e' f' (rd ys n) 0).1 k 1 with
        | some [.own j], some [.own m] => bif Nat.beq i j && Nat.beq e.size e'.size && Nat.ble (injP (128 * t + 32) e' f' (rd ys n) 0).2.2 30 && freshL q (injP (128 * t + 32) e' f' (rd ys n) 0).2.1 then
            subs s r ((q.upds (.set p' .dead :: (sets (injP (128 * t + 32) e' f' (rd ys n) 0).2.1 ++ [.set p' (.opn T' e' f' ys n (injP (128 * t + 32) e' f' (rd ys n) 0).1)]))).put t (.v (.own m)))
          else none
        | _, _ => none
      | _, _ => none
    | _, _, _ => none
  | _ :: r, q => subs s r q
def headIds (s : St) (ls : List (Nat × LK)) : List Nat := ls.flatMap fun p => match p.2 with
  | .sub _ _ => []
  | _ => ownsV s (s.tmps p.1)
def headOf (C : Cfg) (f : Nat) (b : Code) (s : St) : Option St :=
  match C.loop f (firstReg b) with
  | some ls => match canon (closeS (headIds s ls) s) ls with
    | some q => subs s ls q
    | none => none
  | none => none

/-- What the body of a function does: calls by 'env', loops by 'lp'. -/
def den (C : Cfg) (f : Nat) (env : C.Env) (lp : Code → Kont R → St → Option R) : Code → Kont R → St → Option R
  | .skip, K, s => K .normal s
  | .ret, K, s => K .ret s
  | .exit id, K, s => K (.exit id) s
  | .region _ ops draw, K, s => bif draw then opsF C env ops ops.toList s fun s Fs => bif okD C ops Fs then K .normal s else none
    else opsK C env ops ops.toList s (K .normal)
  | .seq a b, K, s => den C f env lp a (seqK (den C f env lp b) K) s
  | .cond c a b, K, s => match s.ev c with
    | .v (.bool c) => bif c then den C f env lp a K s else den C f env lp b K s
    | _ => none
  | .block id b, K, s => den C f env lp b (blockK id K) s
  | .loop b, K, s => match headOf C f b s with
    | some s => lp b K s
    | none => none
  | _, _, _ => none

def loopK (C : Cfg) (f : Nat) (b : Code) (L : St → Option R) (K : Kont R) : Kont R := fun e s => match e with
  | .normal => match headOf C f b s with
    | some s => L s
    | none => none
  | e => K e s

/-- Loops of at most n rounds. -/
def lpN (C : Cfg) (f : Nat) (env : C.Env) : Nat → Code → Kont R → St → Option R
  | 0, _, _, _ => none
  | n + 1, b, K, s => den C f env (lpN C f env n) b (loopK C f b (lpN C f env n b K) K) s

/-- The parameters' slots. -/
def enterAt (i : Nat) (τ : Ty) (f : Fl) (cs : List PV) : Option (List PV × List (Nat × Blk)) := match projAll τ cs with
  | some x => match injP (128 * i + 64) τ f x 0 with
    | (cs, ms, j) => bif Nat.ble j 60 then some (cs, ms) else none
  | none => none
def enter : List PK → List SV → Nat → List (Nat × SV) → List (Nat × Blk) → Option (List (Nat × SV) × List (Nat × Blk))
  | [], [], _, ts, ms => some (ts, ms)
  | .var τ f :: ps, .agg cs :: xs, i, ts, ms => match enterAt i τ f cs with
    | some (cs, m) => enter ps xs (i + 1) ((i, .v (.ptr (128 * i + 127) (.at 0))) :: ts) ((128 * i + 127, .box cs) :: (m ++ ms))
    | none => none
  | .dvar τ f :: ps, .agg cs :: xs, i, ts, ms => match enterAt i τ f cs with
    | some (cs, m) => enter ps xs (i + 1) ((i, .v (.cell (128 * i + 127))) :: ts) ((128 * i + 127, .box cs) :: (m ++ ms))
    | none => none
  | .give τ f :: ps, x :: xs, i, ts, ms | .lend τ f :: ps, x :: xs, i, ts, ms => match x with
    | .v c => match enterAt i τ f [c] with
      | some ([c], m) => enter ps xs (i + 1) ((i, .v c) :: ts) (m ++ ms)
      | _ => none
    | .agg cs => match enterAt i τ f cs with
      | some (cs, m) => enter ps xs (i + 1) ((i, .agg cs) :: ts) (m ++ ms)
      | none => none
    | _ => none
  | _ :: ps, x :: xs, i, ts, ms => enter ps xs (i + 1) ((i, x) :: ts) ms
  | _, _, _, _, _ => none

def one1 : List PV → Bool
  | [c] => Nat.beq c.width 1
  | _ => false
def resCells (C : Cfg) (s : St) : List ResultVar → List (Ty × Bool) → Option (List PV)
  | [], [] => some []
  | .tmp t :: rs, (τ, agg) :: ts => match s.tmps t, resCells C s rs ts with
    | .v .undef, _ => none
    | .v p, some r => bif agg then none else (bif Nat.beq τ.size 1 then some (p :: r) else none)
    | .agg cs, some r => bif agg && Nat.beq (widthC cs) τ.size then some (cs ++ r) else none
    | _, _ => none
  | .cell a t :: rs, (τ, agg) :: ts => match C.ti t, s.tmps a, resCells C s rs ts with
    | some I, .v p, some r => match s.look p I.size with
      | some cs => bif Nat.beq I.size τ.size then (bif agg then (bif I.isAgg then some (cs ++ r) else none) else (bif I.isAgg || !one1 cs then none else some (cs ++ r))) else none
      | none => none
    | _, _, _ => none
  | _, _ => none
/-- The cells of what was lent, by the parameters' numbers. -/
def lentC (id : Nat) : (τ : Ty) → Fl → Nat → List PV × Nat
  | .list _, .own _ _, j => ([.own (id + j)], j + 1)
  | .pair a b, .pair f g, j => match lentC id a f j with
    | (c, j) => match lentC id b g j with
      | (c', j) => (c ++ c', j)
  | .opt _, .box, j => ([], j + 1)
  | _, _, j => ([], j)
def liveB (s : St) (i : Nat) : Bool := match s.mem i with
  | some (.rows _ _ _ _) => true
  | _ => false
def backCells (s : St) : List PK → Nat → Option (List PV)
  | [], _ => some []
  | .var τ _ :: ps, i => match s.mem (128 * i + 127), backCells s ps (i + 1) with
    | some (.box cs), some r => bif Nat.beq (widthC cs) τ.size then some (cs ++ r) else none
    | _, _ => none
  | .dvar τ _ :: ps, i => match s.mem (128 * i + 127), backCells s ps (i + 1) with
    | some (.box cs), some r => bif Nat.beq (widthC cs) τ.size then some (cs ++ r) else none
    | _, _ => none
  | .lend τ f :: ps, i => match backCells s ps (i + 1) with
    | some r => bif (ownsC (lentC (128 * i + 64) τ f 0).1).all (liveB s) then some ((lentC (128 * i + 64) τ f 0).1 ++ r) else none
    | none => none
  | _ :: ps, i => backCells s ps (i + 1)

/-- The own slices in what comes back. -/
def backIds (s : St) : List PK → Nat → List Nat
  | [], _ => []
  | .var _ _ :: ps, i => ownsV s (.v (.ptr (128 * i + 127) (.at 0))) ++ backIds s ps (i + 1)
  | .dvar _ _ :: ps, i => ownsV s (.v (.ptr (128 * i + 127) (.at 0))) ++ backIds s ps (i + 1)
  | .lend τ f :: ps, i => ownsC (lentC (128 * i + 64) τ f 0).1 ++ backIds s ps (i + 1)
  | _ :: ps, i => backIds s ps (i + 1)
def retIds (s : St) (rs : List ResultVar) (ps : List PK) : List Nat := (rs.flatMap fun r => match r with
  | .tmp t => ownsV s (s.tmps t)
  | .cell a _ => ownsV s (s.tmps a)) ++ backIds s ps 0
def ret0 (C : Cfg) (f : Nat) (sg : Sig) (rs : List ResultVar) (s : St) : Option (C.Res f) :=
  match resCells C s rs sg.res, backCells s sg.params 0 with
    | some a, some b => match projF s (C.resTy f) sg.resFl (a ++ b) with
      | some (x, [], U, V) => bif nodupB U && apartB U V then some x else none
      | _ => none
    | _, _ => none
def retK (C : Cfg) (f : Nat) (sg : Sig) (rs : List ResultVar) : Kont (C.Res f) := fun e s => match e with
  | .normal | .ret => ret0 C f sg rs (closeS (retIds s rs sg.params) s)
  | _ => none

/-- What a function does. -/
def denF (C : Cfg) (env : C.Env) (lp : (f : Nat) → Code → Kont (C.Res f) → St → Option (C.Res f)) (f : Nat) (args : List SV) : Option (C.Res f) :=
  match C.fn f, C.sig f with
  | some F, some sg => match F.body, enter sg.params args 0 [] [] with
    | some c, some (ts, ms) => den C f env (lp f) c (retK C f sg F.results.toList) ⟨F.ntmps, assocSV ts, assocB ms⟩
    | _, _ => none
  | _, _ => none

/-- Functions of the library are given by what they come to. -/
def denP (C : Cfg) (env : C.Env) (lp : (f : Nat) → Code → Kont (C.Res f) → St → Option (C.Res f)) (f : Nat) (args : List SV) : Option (C.Res f) :=
  match C.prim f with
  | some p => (p args).bind (projAll (C.resTy f))
  | none => denF C env lp f args

def runN (C : Cfg) : Nat → C.Env
  | 0 => fun _ _ => none
  | n + 1 => fun f args => denP C (runN C n) (fun f => lpN C f (runN C n) n) f args

open Classical in
noncomputable def lim {α : Type} (F : Nat → Option α) : Option α :=
  if h : ∃ r n, F n = some r then some (Classical.choose h) else none

/-- What functions and loops come to, whatever the number of rounds. -/
noncomputable def Den (C : Cfg) : C.Env := fun f args => lim fun n => runN C n f args
noncomputable def Lp (C : Cfg) (f : Nat) (b : Code) (K : Kont R) (s : St) : Option R := lim fun n => lpN C f (Den C) n b K s
/-- A piece of code by its path, and what follows it. -/
def subC : List Nat → Code → Code
  | 0 :: p, .seq a _ => subC p a
  | _ :: p, .seq _ b => subC p b
  | 0 :: p, .cond _ a _ => subC p a
  | _ :: p, .cond _ _ b => subC p b
  | _ :: p, .block _ b => subC p b
  | _ :: p, .loop b => subC p b
  | _, c => c
noncomputable def kontC (C : Cfg) (f : Nat) : List Nat → Code → Kont R → Kont R
  | 0 :: p, .seq a b, K => kontC C f p a (seqK (den C f (Den C) (Lp C f) b) K)
  | _ :: p, .seq _ b, K => kontC C f p b K
  | 0 :: p, .cond _ a _, K => kontC C f p a K
  | _ :: p, .cond _ _ b, K => kontC C f p b K
  | _ :: p, .block id b, K => kontC C f p b (blockK id K)
  | _ :: p, .loop b, K => kontC C f p b (loopK C f b (Lp C f b K) K)
  | _, _, K => K
/-- A loop of a function by its path. -/
noncomputable def LpAt (C : Cfg) (f : Nat) (c : Code) (rs : List ResultVar) (sg : Sig) (p : List Nat) (s : St) : Option (C.Res f) :=
  match subC p c with
  | .loop b => Lp C f b (kontC C f p c (retK C f sg rs)) s
  | _ => none
end
def asc {α : Type} : List (Nat × α) → Nat → Option α
  | [], _ => none
  | (j, x) :: r, t => bif Nat.beq t j then some x else asc r t
def asc2 {α : Type} (l : List (Nat × List (Nat × α))) (f r : Nat) : Option α := match asc l f with | some m => asc m r | none => none
end Go.Ps
