/- A pure interpreter of the model's code: what each operation does. -/
import Derived.Test.YtpfplngeakmghaaPrA
import Derived.Orders
namespace Go.Pr
set_option linter.unusedVariables false

def andI (k : IntKind) (x y : Int) : Int := k.wrap ((BitVec.ofInt k.bits x &&& BitVec.ofInt k.bits y).toNat)
def orI (k : IntKind) (x y : Int) : Int := k.wrap ((BitVec.ofInt k.bits x ||| BitVec.ofInt k.bits y).toNat)
def xorI (k : IntKind) (x y : Int) : Int := k.wrap ((BitVec.ofInt k.bits x ^^^ BitVec.ofInt k.bits y).toNat)
def andNotI (k : IntKind) (x y : Int) : Int := k.wrap ((BitVec.ofInt k.bits x &&& ~~~ BitVec.ofInt k.bits y).toNat)
def shlI (k : IntKind) (x y : Int) : Int := k.wrap (x * 2 ^ (min y.toNat k.bits))
def shrI (k : IntKind) (x y : Int) : Int := x.fdiv (2 ^ (min y.toNat k.bits))
def strEq (a b : ByteArray) : Bool := a.toList == b.toList
def strLt (a b : ByteArray) : Bool := Op.bytesLess a.toList b.toList
def bt (s : ByteArray) (i : Int) : Int := ((s.data.getD i.toNat 0).toNat : Int)
def rd {τ : Ty} (xs : List τ.den) (i : Int) : τ.den := xs.getD i.toNat τ.dflt
def inL (i : Int) (n : Nat) : Bool := decide (0 ≤ i) && decide (i < (n : Int))

section
variable {R : Type}

def binI (op : BinOp) (a : IntKind) (m n : Int) (k : PV → Option R) : Option R :=
  match op with
  | .add => k (.int a (a.wrap (m + n)))
  | .sub => k (.int a (a.wrap (m - n)))
  | .mul => k (.int a (a.wrap (m * n)))
  | .quo => bif decide (n = 0) then none else k (.int a (a.wrap (m.tdiv n)))
  | .rem => bif decide (n = 0) then none else k (.int a (m.tmod n))
  | .and => k (.int a (andI a m n))
  | .or => k (.int a (orI a m n))
  | .xor => k (.int a (xorI a m n))
  | .andNot => k (.int a (andNotI a m n))
  | .eql => k (.bool (decide (m = n)))
  | .neq => k (.bool (!decide (m = n)))
  | .lss => k (.bool (decide (m < n)))
  | .leq => k (.bool (decide (m ≤ n)))
  | .gtr => k (.bool (decide (m > n)))
  | .geq => k (.bool (decide (m ≥ n)))
  | _ => none

def binK (op : BinOp) (x y : PV) (k : PV → Option R) : Option R :=
  match x, y with
  | .int a m, .int b n =>
    match op with
    | .shl => bif decide (n < 0) then none else k (.int a (shlI a m n))
    | .shr => bif decide (n < 0) then none else k (.int a (shrI a m n))
    | op => match decEq a b with
      | .isFalse _ => none
      | .isTrue _ => binI op a m n k
  | .str a, .str b =>
    match op with
    | .add => bif decide (a.size + b.size ≤ 9223372036854775807) then k (.str (a ++ b)) else none
    | .eql => k (.bool (strEq a b))
    | .neq => k (.bool (!strEq a b))
    | .lss => k (.bool (strLt a b))
    | .leq => k (.bool (strLt a b || strEq a b))
    | .gtr => k (.bool (!(strLt a b || strEq a b)))
    | .geq => k (.bool (!strLt a b))
    | _ => none
  | _, _ => none

/-- Equality of two bools. -/
def boolK (C : Cfg) (op : BinOp) (t : TypeId) (a b : Bool) (k : PV → Option R) : Option R :=
  match C.ti t with
  | some I => match I.ty with
    | .bool => match op with
      | .eql => k (.bool (a == b))
      | .neq => k (.bool (!(a == b)))
      | _ => none
    | _ => none
  | none => none

def unK (op : UnOp) (x : PV) (k : PV → Option R) : Option R :=
  match op, x with
  | .neg, .int a n => k (.int a (a.wrap (0 - n)))
  | .xor, .int a n => k (.int a (xorI a (if a.signed then -1 else a.max) n))
  | .not, .bool b => k (.bool (!b))
  | _, _ => none

def pickK (c a b : SV) (k : SV → Option R) : Option R :=
  match c with
  | .v (.bool c) => match a, b with
    | .v (.bool x), .v (.bool y) => k (.v (.bool (bif c then x else y)))
    | a, b => bif c then k a else k b
  | _ => none

/-- The cells of a value. -/
def SV.cells : SV → Option (List PV)
  | .v .undef => none
  | .v p => some [p]
  | .agg cs => some cs
  | .tup _ _ => none

/-- What n cells behind a pointer hold. -/
def St.look (s : St) (p : PV) (n : Nat) : Option (List PV) :=
  match p with
  | .ptr id off => match s.mem id with
    | some (.box cs) => cutC cs off n
    | _ => none
  | .elt id i off => match s.mem id with
    | some (.rows _ e xs) => cutC (inj e (rd xs i)) off n
    | _ => none
  | .cptr τ x off => cutC (inj τ x) off n
  | _ => none

def loadK (C : Cfg) (s : St) (t : TypeId) (p : PV) (k : SV → Option R) : Option R :=
  match C.ti t with
  | some I => match s.look p I.size with
    | some cs => bif I.isAgg then k (.agg cs) else match cs with
      | [c] => bif Nat.beq c.width 1 then k (.v c) else none
      | _ => none
    | none => none
  | none => none

/-- The slices among the cells become data. -/
def St.still (s : St) : List PV → St
  | [] => s
  | .own id :: cs => (s.freeze id).still cs
  | _ :: cs => s.still cs
/-- Cells as data. -/
def St.dat (s : St) : PV → PV
  | .own id => s.norm (.own id)
  | .ptr _ _ => .undef
  | .seg1 _ _ _ _ => .undef
  | .elt _ _ _ => .undef
  | .fnp _ _ => .undef
  | p => p

def storeK (C : Cfg) (s : St) (t : TypeId) (p : PV) (x : SV) (k : St → Option R) : Option R :=
  match C.ti t, x.cells with
  | some I, some new => bif Nat.beq (widthC new) I.size then
      match p with
      | .ptr id off => match s.mem id with
        | some (.box cs) => match putC cs off I.size new with
          | some cs' => k (s.setM id (some (.box cs')))
          | none => none
        | _ => none
      | .elt id i off => match (s.still new).mem id with
        | some (.rows T e xs) => match putC (inj e (rd xs i)) off I.size (new.map s.dat) with
          | some cs' => match projAll e cs' with
            | some x' => k ((s.still new).setM id (some (.rows T e (xs.set i.toNat x'))))
            | none => none
          | none => none
        | _ => none
      | _ => none
    else none
  | _, _ => none

/-- A struct or an array out of its parts. -/
def fillC (place : Nat → Option (Nat × Nat)) (cs : List PV) : List (Nat × SV) → Option (List PV)
  | [] => some cs
  | (i, x) :: rest => match place i, x.cells with
    | some (off, size), some new => bif Nat.beq (widthC new) size then
        match putC cs off size new with
        | some cs => fillC place cs rest
        | none => none
      else none
    | _, _ => none

def placesOf (C : Cfg) (I : TI) : Option (Nat → Option (Nat × Nat)) :=
  match I.sh with
  | .struct fs _ => some fun i => fs[i]?
  | .array _ e => match C.ti e with
    | some E => some fun i => some (i * E.size, E.size)
    | none => none
  | _ => none

def St.evs (s : St) (ps : List (Nat × Operand)) : List (Nat × SV) := ps.map fun p => (p.1, s.ev p.2)

/-- Rows of a slice's literal: its parts, in order. -/
def rowsOf (e : Ty) (s : St) : Nat → List (Nat × SV) → Option (List e.den)
  | _, [] => some []
  | i, (j, x) :: ps => bif Nat.beq i j then
      match x.cells with
      | some c => match projAll e (c.map s.dat), rowsOf e s (i + 1) ps with
        | some x, some xs => some (x :: xs)
        | _, _ => none
      | none => none
    else none

def cellsOfAll : List (Nat × SV) → List PV
  | [] => []
  | (_, x) :: r => (x.cells.getD []) ++ cellsOfAll r

/-- What a slice's value reads as: its element type, its elements, and its own block. -/
def St.asList (s : St) : PV → Option ((e : Ty) × List e.den)
  | .list e xs => some ⟨e, xs⟩
  | .own id => match s.mem id with
    | some (.rows _ e xs) => some ⟨e, xs⟩
    | _ => none
  | _ => none

def bytesOf (xs : List Int) : ByteArray := ⟨(xs.map fun n => UInt8.ofNat n.toNat).toArray⟩
def intsOf (s : ByteArray) : List Int := s.data.toList.map fun b => (b.toNat : Int)

def isSlice (C : Cfg) (t : TypeId) : Bool := match C.ti t with
  | some I => (match I.sh with | .slice _ => true | _ => false)
  | none => false
def isStr (C : Cfg) (t : TypeId) : Bool := match C.ti t with
  | some I => (match I.ty with | .str => true | _ => false)
  | none => false
/-- A slice type whose elements lie as type e says. -/
def isSliceOf (C : Cfg) (t : TypeId) (e : Ty) : Bool := match C.ti t with
  | some I => (match I.sh with
    | .slice q => (match C.ti q with
      | some E => Nat.beq E.size e.size
      | none => false)
    | _ => false)
  | none => false
def lenK (C : Cfg) (s : St) (t : TypeId) (x : SV) (k : PV → Option R) : Option R :=
  match x with
  | .v (.str u) => bif isStr C t then k (.int .i64 (u.size : Int)) else none
  | .v .nils => bif isSlice C t then k (.int .i64 0) else none
  | .v (.list _ xs) => bif isSlice C t then k (.int .i64 (xs.length : Int)) else none
  | .v (.own id) => match s.mem id with
    | some (.rows _ _ xs) => bif isSlice C t then k (.int .i64 (xs.length : Int)) else none
    | _ => none
  | _ => none

/-- What is appended: its elements, as data of type e. -/
def moreOf (s : St) (e : Ty) : PV → Option (List e.den)
  | .nils => some []
  | .list e' xs => match decEq e' e with
    | .isTrue h => some (castL h xs)
    | .isFalse _ => none
  | .own id => match s.mem id with
    | some (.rows _ e' xs) => match decEq e' e with
      | .isTrue h => some (castL h xs)
      | .isFalse _ => none
    | _ => none
  | _ => none

/-- append: only onto nil and onto a slice of the call's own, which is then gone. -/
def appendK (C : Cfg) (s : St) (id : Nat) (sl : TypeId) (x y : PV) (k : PV → St → Option R) : Option R :=
  match C.ti sl with
  | some ⟨.slice e, _, _, _, _⟩ => match C.ti e with
    | some E => bif Nat.ble 1 E.size then match moreOf s E.ty y with
      | some ys => match x with
        | .nils => bif decide (ys.length * E.bytes ≤ 140737488355328) && decide (ys.length ≤ 9223372036854775807) then k (.own id) (s.new id (.rows e E.ty ys)) else none
        | .own j => match s.mem j with
          | some (.rows T e' xs) => bif Nat.beq T e then match decEq e' E.ty with
            | .isTrue h => bif decide ((xs.length + ys.length) * E.bytes ≤ 140737488355328) && decide (xs.length + ys.length ≤ 9223372036854775807) then k (.own id) ((s.setM j none).new id (.rows e E.ty (castL h xs ++ ys))) else none
            | .isFalse _ => none
            else none
          | _ => none
        | _ => none
      | none => none
      else none
    | none => none
  | _ => none

def boundK (x : Option PV) (dflt : Int) (k : Int → Option R) : Option R :=
  match x with
  | none => k dflt
  | some (.int _ n) => k n
  | _ => none

def sliceK (C : Cfg) (s : St) (t : TypeId) (x : SV) (lo hi : Option PV) (k : PV → St → Option R) : Option R :=
  match x with
  | .v (.str u) => bif isStr C t then boundK lo 0 fun l => boundK hi (u.size : Int) fun h =>
      bif decide (0 ≤ l) && decide (l ≤ h) && decide (h ≤ (u.size : Int)) then k (.str (u.extract l.toNat h.toNat)) s else none
    else none
  | .v (.list e xs) => bif isSliceOf C t e then boundK lo 0 fun l => boundK hi (xs.length : Int) fun h =>
      bif decide (0 ≤ l) && decide (l ≤ h) && decide (h ≤ (xs.length : Int)) then k (.list e ((xs.take h.toNat).drop l.toNat)) s else none
    else none
  | .v (.own id) => match s.mem id with
    | some (.rows _ e xs) => bif isSliceOf C t e then boundK lo 0 fun l => boundK hi (xs.length : Int) fun h =>
        bif decide (0 ≤ l) && decide (l ≤ h) && decide (h ≤ (xs.length : Int)) then k (.list e ((xs.take h.toNat).drop l.toNat)) (s.freeze id) else none
      else none
    | _ => none
  | _ => none

def sliceElem (C : Cfg) (t : TypeId) : Option Ty := match C.ti t with
  | some I => (match I.sh with
    | .slice q => (match C.ti q with
      | some E => some E.ty
      | none => none)
    | _ => none)
  | none => none
def convK (C : Cfg) (s : St) (src dst : TypeId) (x : PV) (k : PV → Option R) : Option R :=
  match C.ti src, C.ti dst, x with
  | some _, some D, .int _ n => match D.ty with
    | .int kd => k (.int kd (kd.wrap n))
    | _ => none
  | some I, some D, .str t => match I.ty, D.ty with
    | .str, .str => k (.str t)
    | _, _ => none
  | some _, some D, x => match D.ty, sliceElem C src, s.asList x with
    | .str, some (.int .u8), some ⟨.int .u8, xs⟩ => k (.str (bytesOf xs))
    | _, _, _ => none
  | _, _, _ => none
/-- []byte(s): new data. -/
def bytesK (C : Cfg) (s : St) (src dst : TypeId) (x : PV) (k : PV → Option R) : Option R :=
  match x with
  | .str t => bif isStr C src then match sliceElem C dst with
      | some (.int .u8) => k (.list (.int .u8) (intsOf t))
      | _ => none
    else none
  | _ => none

def fieldOff (C : Cfg) (t : TypeId) (f : Nat) : Option (Nat × Nat) :=
  match C.ti t with
  | some ⟨.struct fs _, _, _, _, _⟩ => fs[f]?
  | _ => none
def fieldAgg (C : Cfg) (t : TypeId) (f : Nat) : Option Bool :=
  match C.ti t with
  | some ⟨.struct _ ags, _, _, _, _⟩ => ags[f]?
  | _ => none

def movePtr (p : PV) (n : Nat) : Option PV :=
  match p with
  | .ptr id off => some (.ptr id (off + n))
  | .elt id i off => some (.elt id i (off + n))
  | .cptr τ x off => some (.cptr τ x (off + n))
  | _ => none

def indexAddrK (C : Cfg) (s : St) (t : TypeId) (x : SV) (i : PV) (k : PV → Option R) : Option R :=
  match i with
  | .int _ n => match x with
    | .v (.list e xs) => bif isSliceOf C t e then (bif inL n xs.length then k (.cptr e (rd xs n) 0) else none) else none
    | .v (.own id) => match s.mem id with
      | some (.rows _ e xs) => bif isSliceOf C t e then (bif inL n xs.length then k (.elt id n 0) else none) else none
      | _ => none
    | _ => none
  | _ => none

def maxF (k : IntKind) (x : Int) : List PV → Option PV
  | [] => some (.int k x)
  | .int _ y :: r => maxF k (if y > x then y else x) r
  | _ => none
def minF (k : IntKind) (x : Int) : List PV → Option PV
  | [] => some (.int k x)
  | .int _ y :: r => minF k (if y < x then y else x) r
  | _ => none
def maxL : List PV → Option PV
  | .int k x :: r => maxF k x r
  | _ => none
def minL : List PV → Option PV
  | .int k x :: r => minF k x r
  | _ => none

def SV.pv : SV → PV
  | .v p => p
  | _ => .undef

/-- An argument as its type has it. -/
def normA (o : Option Ty) (x : SV) : Option SV :=
  match o with
  | none => some x
  | some τ => match x with
    | .v .undef => none
    | .v p => match projAll τ [p] with
      | some d => match inj τ d with
        | [c] => some (.v c)
        | _ => none
      | none => none
    | .agg cs => match projAll τ cs with
      | some d => some (.agg (inj τ d))
      | none => none
    | _ => none
/-- The arguments of a call: what is handed over, the places that come back, the slices of the call's own that the callee sees. -/
def argsOf (s : St) : List PK → List SV → Option (List SV × List (PV × Ty) × List PV)
  | [], [] => some ([], [], [])
  | .val o :: ps, .v p :: xs => match normA o (.v (s.dat p)), argsOf s ps xs with
    | some a, some (as, ms, os) => some (a :: as, ms, p :: os)
    | _, _ => none
  | .val o :: ps, .agg cs :: xs => match normA o (.agg (cs.map s.dat)), argsOf s ps xs with
    | some a, some (as, ms, os) => some (a :: as, ms, cs ++ os)
    | _, _ => none
  | .var τ :: ps, x :: xs => match x.pv with
    | .ptr id off => match s.look (.ptr id off) τ.size with
      | some cs => match projAll τ (cs.map s.dat), argsOf s ps xs with
        | some d, some (as, ms, os) => bif ms.all (fun m => match m.1 with | .ptr j _ => !(Nat.beq j id) | _ => false) then some (.agg (inj τ d) :: as, (.ptr id off, τ) :: ms, cs ++ os) else none
        | _, _ => none
      | none => none
    | _ => none
  | _, _ => none

def cutAll : List PV → List (Ty × Bool) → Option (List (List PV))
  | _, [] => some []
  | cs, (τ, _) :: r => match takeC cs τ.size, dropC cs τ.size with
    | some a, some b => match cutAll b r with
      | some t => some (a :: t)
      | none => none
    | _, _ => none

/-- What comes back into the caller's variables. -/
def backK (s : St) : List (PV × Ty) → List PV → Option St
  | [], _ => some s
  | (.ptr id off, τ) :: ms, cs => match takeC cs τ.size, dropC cs τ.size with
    | some a, some b => match s.mem id with
      | some (.box old) => match putC old off τ.size a with
        | some new => backK (s.setM id (some (.box new))) ms b
        | none => none
      | _ => none
    | _, _ => none
  | _, _ => none

def resSV (sh : List (Ty × Bool)) (cs : List PV) : Option SV :=
  match sh with
  | [] => some (.tup [] [])
  | [(τ, true)] => match takeC cs τ.size with | some a => some (.agg a) | none => none
  | [(τ, false)] => match takeC cs τ.size with | some [c] => some (.v c) | _ => none
  | sh => match takeC cs ((sh.map (·.1.size)).foldr (· + ·) 0) with
    | some a => some (.tup a (sh.map fun x => (x.1.size, x.2)))
    | none => none

/-- The cells of a result; its own slices stand under their numbers. -/
def injF (id : Nat) : (τ : Ty) → Fl → τ.den → Nat → List PV
  | .list _, .own _, _, j => [.own (id + j)]
  | .pair a b, .pair f g, x, j => injF id a f x.1 j ++ injF id b g x.2 (j + f.count)
  | τ, _, x, _ => inj τ x
def newF (id : Nat) : (τ : Ty) → Fl → τ.den → Nat → St → Option St
  | .list e, .own T, xs, j, s => bif Nat.blt j 63 then some (s.new (id + j) (.rows T e xs)) else none
  | .pair a b, .pair f g, x, j, s => match newF id a f x.1 j s with
    | some s => newF id b g x.2 (j + f.count) s
    | none => none
  | _, _, _, _, s => some s

def callK (C : Cfg) (env : C.Env) (id : Nat) (s : St) (g : FuncId) (xs : List SV) (k : SV → St → Option R) : Option R :=
  match C.sig g with
  | some sg => match argsOf s sg.params xs with
    | some (as, ms, os) => (env g as).bind fun r =>
        let s := bif (C.resTy g).lists then s.still os else s
        match resSV sg.res (injF id (C.resTy g) sg.outs r 0), dropC (injF id (C.resTy g) sg.outs r 0) ((sg.res.map (·.1.size)).foldr (· + ·) 0) with
        | some x, some back => bif back.all PV.closed then match backK s ms back with
          | some s => match newF id (C.resTy g) sg.outs r 0 s with
            | some s => k x s
            | none => none
          | none => none
          else none
        | _, _ => none
    | none => none
  | none => none

def extractK (x : SV) (i : Nat) (k : SV → Option R) : Option R :=
  match x with
  | .tup cs sh => match sh[i]? with
    | some (n, agg) => match cutC cs ((sh.take i).foldr (fun a b => a.1 + b) 0) n with
      | some c => bif agg then k (.agg c) else match c with
        | [c] => k (.v c)
        | _ => none
      | none => none
    | none => none
  | _ => none

def fnK (C : Cfg) (env : C.Env) (id : Nat) (s : St) (x : SV) (xs : List SV) (k : SV → St → Option R) : Option R :=
  match x with
  | .v (.fn f τ y) => bif (inj τ y).all (fun p => Nat.beq p.width 1) then callK C env id s f (xs ++ (inj τ y).map .v) k else none
  | _ => none

/-- An operation that is carried out. -/
def doK (C : Cfg) (env : C.Env) (id : Nat) (op : Op) (s : St) (k : SV → St → Option R) : Option R :=
  match op with
  | .move x | .assign x => k (s.ev x) s
  | .pick c a b => pickK (s.ev c) (s.ev a) (s.ev b) fun x => k x s
  | .binOp op t x y _ => match s.ev x, s.ev y with
    | .v (.bool x), .v (.bool y) => boolK C op t x y fun r => k (.v r) s
    | .v x, .v y => binK op x y fun r => k (.v r) s
    | _, _ => none
  | .unOp op _ x => match s.ev x with
    | .v x => unK op x fun r => k (.v r) s
    | _ => none
  | .alloc t => match C.ti t with
    | some I => k (.v (.ptr id 0)) (s.new id (.box I.zero))
    | none => none
  | .box t x => match C.ti t, (s.ev x).cells with
    | some I, some cs => bif Nat.beq (widthC cs) I.size then k (.v (.ptr id 0)) (s.new id (.box cs)) else none
    | _, _ => none
  | .build t ps => match C.ti t with
    | some I => match placesOf C I with
      | some pl => match fillC pl I.zero (s.evs ps.toList) with
        | some cs => k (.agg cs) s
        | none => none
      | none => none
    | none => none
  | .buildSlice t n ps => match C.ti t with
    | some ⟨.slice e, _, _, _, _⟩ => match C.ti e with
      | some E => match rowsOf E.ty s 0 (s.evs ps.toList) with
        | some xs => bif Nat.beq ps.toList.length n && Nat.ble 1 E.size && Nat.ble (n * E.size) 16777216 then k (.v (.own id)) ((s.still (cellsOfAll (s.evs ps.toList))).new id (.rows e E.ty xs)) else none
        | none => none
      | none => none
    | _ => none
  | .load t a => match s.ev a with
    | .v p => loadK C s t p fun x => k x s
    | _ => none
  | .store t a x => match s.ev a with
    | .v p => storeK C s t p (s.ev x) fun s => k (.v .undef) s
    | _ => none
  | .fieldAddr t x f => match s.ev x, fieldOff C t f with
    | .v p, some (off, size) => bif Nat.ble 1 size then (match movePtr p off with | some p => k (.v p) s | none => none) else none
    | _, _ => none
  | .field t x f => match s.ev x, fieldOff C t f, fieldAgg C t f with
    | .agg cs, some (off, size), some agg => match cutC cs off size with
      | some c => bif agg then k (.agg c) s else match c with
        | [c] => bif Nat.beq c.width 1 then k (.v c) s else none
        | _ => none
      | none => none
    | _, _, _ => none
  | .indexAddr t x i => indexAddrK C s t (s.ev x) (s.ev i).pv fun p => k (.v p) s
  | .index t x i => match s.ev x, s.ev i with
    | .v (.str u), .v (.int _ n) => bif isStr C t then (bif inL n u.size then k (.v (.int .u8 (bt u n))) s else none) else none
    | _, _ => none
  | .nilCheck x => match s.ev x with
    | .v (.ptr a b) => k (.v (.ptr a b)) s
    | .v (.elt a b c) => k (.v (.elt a b c)) s
    | .v (.cptr a b c) => k (.v (.cptr a b c)) s
    | _ => none
  | .slice t x lo hi none => sliceK C s t (s.ev x) (lo.map fun o => (s.ev o).pv) (hi.map fun o => (s.ev o).pv) fun p s => k (.v p) s
  | .convert src dst x => match s.ev x with
    | .v p => bif isStr C src && isSlice C dst then bytesK C s src dst p (fun p => k (.v p) s) else convK C s src dst p fun p => k (.v p) s
    | _ => none
  | .extract t i => extractK (s.ev t) i fun x => k x s
  | .makeFunc (.func f) first captured => match first.toList, captured.toList with
    | [], [] => k (.v (.fn f .unit ())) s
    | [], [x] => match s.ev x with
      | .v (.str t) => k (.v (.fn f .str t)) s
      | .v (.int kd n) => k (.v (.fn f (.int kd) n)) s
      | _ => none
    | _, _ => none
  | .call c => match c.callee with
    | .value (.func f) => callK C env id s f (c.args.toList.map s.ev) k
    | .value f => fnK C env id s (s.ev f) (c.args.toList.map s.ev) k
    | .builtin .len => match c.args.toList, c.argTypes.toList with
      | [x], [t] => lenK C s t (s.ev x) fun p => k (.v p) s
      | _, _ => none
    | .builtin .append => match c.args.toList, c.argTypes.toList with
      | [x, y], [t, t'] => bif !Nat.beq t t' then none else appendK C s id t (s.ev x).pv (s.ev y).pv fun p s => k (.v p) s
      | _, _ => none
    | .builtin .max => match maxL (c.args.toList.map fun x => (s.ev x).pv) with
      | some p => k (.v p) s
      | none => none
    | .builtin .min => match minL (c.args.toList.map fun x => (s.ev x).pv) with
      | some p => k (.v p) s
      | none => none
    | _ => none
  | _ => none

def putK (o : Oper) (k : St → Option R) (x : SV) (s : St) : Option R :=
  match o.dst with
  | none => k s
  | some d => bif Nat.blt d s.n then k (s.put d x) else none

/-- One operation of a region, with its guard. -/
def operK (C : Cfg) (env : C.Env) (ops : Array Oper) (o : Oper) (s : St) (k : St → Option R) : Option R :=
  let go (s : St) : Option R := doK C env (64 * o.dst.getD 0) o.op s (putK o k)
  let skip (s : St) : Option R := putK o k (.tup [] []) s
  match o.guard with
  | none => go s
  | some (j, want) => match (ops[j]?).bind (·.dst) with
    | none => none
    | some d => match s.tmps d with
      | .v (.bool c) => bif c then (bif want then go (s.put d (.v (.bool true))) else skip (s.put d (.v (.bool true))))
          else (bif want then skip (s.put d (.v (.bool false))) else go (s.put d (.v (.bool false))))
      | .tup _ _ => skip s
      | _ => none

def opsK (C : Cfg) (env : C.Env) (ops : Array Oper) : List Oper → St → (St → Option R) → Option R
  | [], s, k => k s
  | o :: r, s, k => operK C env ops o s fun s => opsK C env ops r s k

abbrev Kont (R : Type) := Exit → St → Option R
def seqK (d : Kont R → St → Option R) (K : Kont R) : Kont R := fun e s => match e with
  | .normal => d K s
  | e => K e s
def blockK (id : Nat) (K : Kont R) : Kont R := fun e s => match e with
  | .exit j => bif Nat.beq j id then K .normal s else K (.exit j) s
  | e => K e s

def firstReg : Code → Nat
  | .region id _ _ => id
  | .seq a _ => firstReg a
  | .block _ b => firstReg b
  | .loop b => firstReg b
  | .cond _ a _ => firstReg a
  | _ => 0

def assocSV : List (Nat × SV) → Nat → SV
  | [], _ => .v .undef
  | (j, x) :: r, t => bif Nat.beq t j then x else assocSV r t
def assocB : List (Nat × Blk) → Nat → Option Blk
  | [], _ => none
  | (j, x) :: r, t => bif Nat.beq t j then some x else assocB r t

/-- What lives at a loop's head as data is data. -/
def stillLive (s : St) : List (Nat × LK) → St
  | [] => s
  | (t, .val _) :: r => stillLive (match s.tmps t with | .v p => s.still [p] | _ => s) r
  | (t, .agg _) :: r => stillLive (match s.tmps t with | .agg cs => s.still cs | _ => s) r
  | (t, .box _) :: r | (t, .par _) :: r => stillLive (match s.tmps t with
      | .v (.ptr id _) => (match s.mem id with | some (.box cs) => s.still cs | _ => s)
      | _ => s) r
  | _ :: r => stillLive s r

/-- Cells without the call's own blocks. -/
def PV.shut : PV → PV
  | .own _ | .ptr _ _ | .seg1 _ _ _ _ | .elt _ _ _ | .fnp _ _ => .undef
  | p => p
/-- A slot at a loop's head: its value, its block, where the block comes from. -/
def canonAt (s : St) (t : Nat) (k : LK) : Option (SV × Option (Nat × Blk) × Option Nat) :=
  match k, s.tmps t with
  | .val _, .v .undef => none
  | .val τ, .v p => match projAll τ [p.shut] with
    | some x => match inj τ x with
      | [c] => some (.v c, none, none)
      | _ => none
    | none => none
  | .agg τ, .agg cs => match projAll τ (cs.map PV.shut) with
    | some x => some (.agg (inj τ x), none, none)
    | none => none
  | .own T e, .v .nils => bif Nat.ble 1 e.size then some (.v (.own (64 * t)), some (64 * t, .rows T e []), none) else none
  | .own T e, .v (.own id) => match s.mem id with
    | some (.rows T' e' xs) => bif Nat.beq T' T then match decEq e' e with
      | .isTrue h => some (.v (.own (64 * t)), some (64 * t, .rows T e (castL h xs)), some id)
      | .isFalse _ => none
      else none
    | _ => none
  | .box τ, .v (.ptr id 0) => match s.mem id with
    | some (.box cs) => match projAll τ (cs.map PV.shut) with
      | some x => bif Nat.blt (id % 64) 63 then some (.v (.ptr (64 * t) 0), some (64 * t, .box (inj τ x)), some id) else none
      | none => none
    | _ => none
  | .par τ, .v (.ptr id 0) => match s.mem id with
    | some (.box cs) => match projAll τ (cs.map PV.shut) with
      | some x => bif Nat.beq (id % 64) 63 then some (.v (.ptr id 0), some (id, .box (inj τ x)), some id) else none
      | none => none
    | _ => none
  | .ro τ, .v (.cptr τ' x 0) => match decEq τ' τ with
    | .isTrue _ => some (.v (.cptr τ' x 0), none, none)
    | .isFalse _ => none
  | .keep, .v p => bif p.closed then some (.v p, none, none) else none
  | _, _ => none

/-- The slots in increasing order; no block twice. -/
def canonGo (s : St) : List (Nat × LK) → Nat → List Nat → Option (List (Nat × SV) × List (Nat × Blk))
  | [], _, _ => some ([], [])
  | (t, k) :: r, lo, used => bif Nat.ble lo t then
      match canonAt s t k with
      | some (x, none, _) => match canonGo s r (t + 1) used with
        | some (ts, ms) => some ((t, x) :: ts, ms)
        | none => none
      | some (x, some b, none) => match canonGo s r (t + 1) used with
        | some (ts, ms) => some ((t, x) :: ts, b :: ms)
        | none => none
      | some (x, some b, some id) => bif used.any (Nat.beq id) then none else match canonGo s r (t + 1) (id :: used) with
        | some (ts, ms) => some ((t, x) :: ts, b :: ms)
        | none => none
      | none => none
    else none

/-- The state at a loop's head: what lives, and nothing else. -/
def canon (s : St) (ls : List (Nat × LK)) : Option St :=
  let s := stillLive s ls
  match canonGo s ls 0 [] with
  | some (ts, ms) => some ⟨s.n, assocSV ts, assocB ms⟩
  | none => none

def headOf (C : Cfg) (f : FuncId) (b : Code) (s : St) : Option St :=
  match C.loop f (firstReg b) with
  | some ls => canon s ls
  | none => none

def silentOp : Op → Bool
  | .move _ | .assign _ | .pick _ _ _ | .binOp _ _ _ _ _ | .unOp _ _ _ | .load _ _ | .fieldAddr _ _ _ | .field _ _ _ | .indexAddr _ _ _ | .index _ _ _ | .nilCheck _ | .convert _ _ _ | .extract _ _ => true
  | .call c => match c.callee with | .builtin .len => true | _ => false
  | _ => false
def valOnly : List PK → Bool
  | [] => true
  | .val _ :: ps => valOnly ps
  | _ :: _ => false
/-- A call that is handed no variable. -/
def callOp (C : Cfg) : Op → Bool
  | .call c => match c.callee with
    | .value (.func f) => match C.sig f with
      | some sg => valOnly sg.params && sg.outs.isNo
      | none => false
    | _ => false
  | _ => false
def calmOp (C : Cfg) (o : Oper) : Bool := silentOp o.op || callOp C o.op
/-- j waits for i, by n steps at most. -/
def afterT (ops : Array Oper) : Nat → Nat → Nat → Bool
  | 0, _, _ => false
  | n + 1, j, i => match ops[j]? with
    | some oj => oj.after.any fun e => Region.binds .any e && (e.on == i || afterT ops n e.on i)
    | none => false
def freeC (C : Cfg) (ops : Array Oper) (listed : Array Bool) (i : Nat) : Bool :=
  match ops[i]? with
  | none => false
  | some oi => (List.range ops.size).all fun j => j == i || listed.getD j true || match ops[j]? with
      | some oj => (oi.apart ops oj && (calmOp C oi && calmOp C oj) && (silentOp oi.op || silentOp oj.op)) || afterT ops ops.size j i
      | none => true
def lexC (C : Cfg) (ops : Array Oper) : Nat → Nat → Array Bool → Bool
  | 0, _, listed => (Region.ready .any ops listed).isEmpty
  | fuel + 1, k, listed => (Region.ready .any ops listed).contains k && freeC C ops listed k && lexC C ops fuel (k + 1) (listed.setIfInBounds k true)
/-- The order of the text serves every order. -/
def lexB (C : Cfg) (ops : Array Oper) : Bool := lexC C ops ops.size 0 (Array.replicate ops.size false)

/-- What the body of a function does: calls by 'env', loops by 'lp'. -/
def den (C : Cfg) (f : FuncId) (env : C.Env) (lp : Code → Kont R → St → Option R) : Code → Kont R → St → Option R
  | .skip, K, s => K .normal s
  | .ret, K, s => K .ret s
  | .exit id, K, s => K (.exit id) s
  | .region _ ops draw, K, s => bif draw && !lexB C ops then none else opsK C env ops ops.toList s (K .normal)
  | .seq a b, K, s => den C f env lp a (seqK (den C f env lp b) K) s
  | .cond c a b, K, s => match s.ev c with
    | .v (.bool c) => bif c then den C f env lp a K s else den C f env lp b K s
    | _ => none
  | .block id b, K, s => den C f env lp b (blockK id K) s
  | .loop b, K, s => match headOf C f b s with
    | some s => lp b K s
    | none => none
  | _, _, _ => none

def loopK (C : Cfg) (f : FuncId) (b : Code) (L : St → Option R) (K : Kont R) : Kont R := fun e s => match e with
  | .normal => match headOf C f b s with
    | some s => L s
    | none => none
  | e => K e s

/-- Loops of at most n rounds. -/
def lpN (C : Cfg) (f : FuncId) (env : C.Env) : Nat → Code → Kont R → St → Option R
  | 0, _, _, _ => none
  | n + 1, b, K, s => den C f env (lpN C f env n) b (loopK C f b (lpN C f env n b K) K) s

/-- The parameters' slots. -/
def enter : List PK → List SV → Nat → St → Option St
  | [], [], _, s => some s
  | .var _ :: ps, .agg cs :: xs, i, s => enter ps xs (i + 1) ((s.put i (.v (.ptr (64 * i + 63) 0))).setM (64 * i + 63) (some (.box cs)))
  | .val _ :: ps, x :: xs, i, s => enter ps xs (i + 1) (s.put i x)
  | _, _, _, _ => none

def one1 : List PV → Bool
  | [c] => Nat.beq c.width 1
  | _ => false
def resCells (C : Cfg) (s : St) : List ResultVar → List (Ty × Bool) → Option (List PV)
  | [], [] => some []
  | .tmp t :: rs, (τ, agg) :: ts => match s.tmps t, resCells C s rs ts with
    | .v .undef, _ => none
    | .v p, some r => bif agg then none else (bif Nat.beq τ.size 1 then some (p :: r) else none)
    | .agg cs, some r => bif agg && Nat.beq (widthC cs) τ.size then some (cs ++ r) else none
    | _, _ => none
  | .cell a t :: rs, (τ, agg) :: ts => match C.ti t, s.tmps a, resCells C s rs ts with
    | some I, .v p, some r => match s.look p I.size with
      | some cs => bif Nat.beq I.size τ.size then (bif agg then (bif I.isAgg then some (cs ++ r) else none) else (bif I.isAgg || !one1 cs then none else some (cs ++ r))) else none
      | none => none
    | _, _, _ => none
  | _, _ => none

def mutCells (s : St) : List PK → Nat → Option (List PV)
  | [], _ => some []
  | .var τ :: ps, i => match s.mem (64 * i + 63), mutCells s ps (i + 1) with
    | some (.box cs), some r => bif Nat.beq (widthC cs) τ.size then some (cs ++ r) else none
    | _, _ => none
  | .val _ :: ps, i => mutCells s ps (i + 1)

/-- What comes back, with the own slices U under flags, and what else the cells speak of. -/
def projF (s : St) : (τ : Ty) → Fl → List PV → List Nat → List Nat → Option (τ.den × List PV × List Nat × List Nat)
  | .list e, .own T, cs, U, V => match cs with
    | .own i :: cs => match s.mem i with
      | some (.rows T' e' xs) => bif Nat.beq T' T && !(U.any (Nat.beq i)) then match decEq e' e with
        | .isTrue h => some (castL h xs, cs, i :: U, V)
        | .isFalse _ => none
        else none
      | _ => none
    | .nils :: cs => bif Nat.ble 1 e.size then some ([], cs, U, V) else none
    | _ => none
  | .pair a b, .pair f g, cs, U, V => match projF s a f cs U V with
    | some (x, cs, U, V) => match projF s b g cs U V with
      | some (y, cs, U, V) => some ((x, y), cs, U, V)
      | none => none
    | none => none
  | τ, _, cs, U, V => match takeC cs τ.size, dropC cs τ.size with
    | some a, some b => match projAll τ (a.map s.dat) with
      | some x => some (x, b, U, a.flatMap PV.ids ++ V)
      | none => none
    | _, _ => none
def apartB (U V : List Nat) : Bool := U.all fun i => !(V.any (Nat.beq i))
def outF (s : St) (τ : Ty) (fl : Fl) (cs : List PV) : Option τ.den := match projF s τ fl cs [] [] with
  | some (x, [], U, V) => bif apartB U V then some x else none
  | _ => none

def retK (C : Cfg) (f : FuncId) (sg : Sig) (rs : List ResultVar) : Kont (C.Res f) := fun e s => match e with
  | .normal | .ret => match resCells C s rs sg.res, mutCells s sg.params 0 with
    | some a, some b => bif sg.outs.isNo then projAll (C.resTy f) ((a ++ b).map s.dat) else outF s (C.resTy f) sg.outs (a ++ b)
    | _, _ => none
  | _ => none

/-- What a function does. -/
def denF (C : Cfg) (env : C.Env) (lp : (f : FuncId) → Code → Kont (C.Res f) → St → Option (C.Res f)) (f : FuncId) (args : List SV) : Option (C.Res f) :=
  match C.fn f, C.sig f with
  | some F, some sg => match F.body, enter sg.params args 0 ⟨F.ntmps, fun _ => .v .undef, fun _ => none⟩ with
    | some c, some s => den C f env (lp f) c (retK C f sg F.results.toList) s
    | _, _ => none
  | _, _ => none

/-- Functions of the library are given by what they come to. -/
def denP (C : Cfg) (env : C.Env) (lp : (f : FuncId) → Code → Kont (C.Res f) → St → Option (C.Res f)) (f : FuncId) (args : List SV) : Option (C.Res f) :=
  match C.prim f with
  | some p => (p args).bind (projAll (C.resTy f))
  | none => denF C env lp f args

def runN (C : Cfg) : Nat → C.Env
  | 0 => fun _ _ => none
  | n + 1 => fun f args => denP C (runN C n) (fun f => lpN C f (runN C n) n) f args

open Classical in
noncomputable def lim {α : Type} (F : Nat → Option α) : Option α :=
  if h : ∃ r n, F n = some r then some (Classical.choose h) else none

/-- What functions and loops come to, whatever the number of rounds. -/
noncomputable def Den (C : Cfg) : C.Env := fun f args => lim fun n => runN C n f args
noncomputable def Lp (C : Cfg) (f : FuncId) (b : Code) (K : Kont R) (s : St) : Option R := lim fun n => lpN C f (Den C) n b K s
/-- A piece of code by its path, and what follows it. -/
def subC : List Nat → Code → Code
  | 0 :: p, .seq a _ => subC p a
  | _ :: p, .seq _ b => subC p b
  | 0 :: p, .cond _ a _ => subC p a
  | _ :: p, .cond _ _ b => subC p b
  | _ :: p, .block _ b => subC p b
  | _ :: p, .loop b => subC p b
  | _, c => c
noncomputable def kontC (C : Cfg) (f : FuncId) : List Nat → Code → Kont R → Kont R
  | 0 :: p, .seq a b, K => kontC C f p a (seqK (den C f (Den C) (Lp C f) b) K)
  | _ :: p, .seq _ b, K => kontC C f p b K
  | 0 :: p, .cond _ a _, K => kontC C f p a K
  | _ :: p, .cond _ _ b, K => kontC C f p b K
  | _ :: p, .block id b, K => kontC C f p b (blockK id K)
  | _ :: p, .loop b, K => kontC C f p b (loopK C f b (Lp C f b K) K)
  | _, _, K => K
/-- A loop of a function by its path. -/
noncomputable def LpAt (C : Cfg) (f : FuncId) (c : Code) (rs : List ResultVar) (sg : Sig) (p : List Nat) (s : St) : Option (C.Res f) :=
  match subC p c with
  | .loop b => Lp C f b (kontC C f p c (retK C f sg rs)) s
  | _ => none
end
def asc {α : Type} : List (Nat × α) → Nat → Option α
  | [], _ => none
  | (j, x) :: r, t => bif Nat.beq t j then some x else asc r t
def asc2 {α : Type} (l : List (Nat × List (Nat × α))) (f r : Nat) : Option α := match asc l f with | some m => asc m r | none => none
end Go.Pr
