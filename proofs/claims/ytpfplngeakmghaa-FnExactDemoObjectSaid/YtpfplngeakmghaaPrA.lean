/- A pure interpreter of the model's code: the definitions. -/
import Derived.Calls
import Derived.KernelRfl
namespace Go.Pr
set_option linter.unusedVariables false

/-- Types of data. -/
inductive Ty where
  | unit | bool | str
  | int (k : IntKind)
  | list (e : Ty)
  | arr (e : Ty) (n : Nat)
  | pair (a b : Ty)
  deriving DecidableEq

@[reducible] def Ty.den : Ty → Type
  | .unit => Unit
  | .bool => Bool
  | .str => ByteArray
  | .int _ => Int
  | .list e => List e.den
  | .arr e _ => List e.den
  | .pair a b => a.den × b.den

/-- How many cells. -/
def Ty.size : Ty → Nat
  | .unit => 0
  | .arr e n => n * e.size
  | .pair a b => a.size + b.size
  | _ => 1

def Ty.dflt : (τ : Ty) → τ.den
  | .unit => ()
  | .bool => false
  | .str => ByteArray.empty
  | .int _ => 0
  | .list _ => []
  | .arr e n => List.replicate n e.dflt
  | .pair a b => (a.dflt, b.dflt)

def Ty.tup : List Ty → Ty
  | [] => .unit
  | [a] => a
  | a :: b => .pair a (Ty.tup b)

/-- A type that holds slices. -/
def Ty.lists : Ty → Bool
  | .list _ => true
  | .arr e _ => e.lists
  | .pair a b => a.lists || b.lists
  | _ => false

/-- The values of cells. -/
inductive PV where
  | undef
  | bool (b : Bool)
  | int (k : IntKind) (n : Int)
  | str (s : ByteArray)
  | nils
  | nilp
  | list (e : Ty) (xs : List e.den)
  | seg (e : Ty) (n : Nat) (xs : List e.den)
  | own (id : Nat)
  | ptr (id off : Nat)
  | seg1 (id off : Nat) (i : Int) (inner : Nat)
  | elt (id : Nat) (i : Int) (off : Nat)
  | cptr (τ : Ty) (x : τ.den) (off : Nat)
  | fn (f : FuncId) (τ : Ty) (x : τ.den)
  | fnp (f : FuncId) (ids : List Nat)

/-- The values of slots. -/
inductive SV where
  | v (p : PV)
  | agg (cs : List PV)
  | tup (cs : List PV) (sh : List (Nat × Bool))

inductive Blk where
  | box (cs : List PV)
  | rows (T : TypeId) (e : Ty) (xs : List e.den)

structure St where
  n : Nat
  tmps : Nat → SV
  mem : Nat → Option Blk

def PV.width : PV → Nat
  | .seg e n _ => n * e.size
  | _ => 1

def inj : (τ : Ty) → τ.den → List PV
  | .unit, _ => []
  | .bool, b => [.bool b]
  | .str, s => [.str s]
  | .int k, n => [.int k n]
  | .list e, xs => [.list e xs]
  | .arr e n, xs => [.seg e n xs]
  | .pair a b, x => inj a x.1 ++ inj b x.2

def castL {e e' : Ty} (h : e' = e) (xs : List e'.den) : List e.den := h ▸ xs

def repeatP {α : Type} (p : List PV → Option (α × List PV)) : Nat → List PV → Option (List α × List PV)
  | 0, cs => some ([], cs)
  | n + 1, cs => match p cs with
    | some (x, cs) => match repeatP p n cs with
      | some (xs, cs) => some (x :: xs, cs)
      | none => none
    | none => none

/-- The data that cells hold. -/
def proj : (τ : Ty) → List PV → Option (τ.den × List PV)
  | .unit, cs => some ((), cs)
  | .bool, cs => match cs with
    | .bool b :: cs => some (b, cs)
    | _ => none
  | .str, cs => match cs with
    | .str s :: cs => some (s, cs)
    | _ => none
  | .int k, cs => match cs with
    | .int k' n :: cs => match decEq k' k with
      | .isTrue _ => some (n, cs)
      | .isFalse _ => none
    | _ => none
  | .list e, cs => match cs with
    | .list e' xs :: cs => match decEq e' e with
      | .isTrue h => some (castL h xs, cs)
      | .isFalse _ => none
    | .nils :: cs => some ([], cs)
    | _ => none
  | .arr e n, cs => match cs with
    | .seg e' n' xs :: cs => match decEq e' e, decEq n' n with
      | .isTrue h, .isTrue _ => some (castL h xs, cs)
      | _, _ => none
    | cs => repeatP (proj e) n cs
  | .pair a b, cs => match proj a cs with
    | some (x, cs) => match proj b cs with
      | some (y, cs) => some ((x, y), cs)
      | none => none
    | none => none

/-- All cells, nothing left. -/
def projAll (τ : Ty) (cs : List PV) : Option τ.den :=
  match proj τ cs with
  | some (x, []) => some x
  | _ => none

/-- The cells from place n on (a place inside a row of an array is none). -/
def dropC : List PV → Nat → Option (List PV)
  | cs, 0 => some cs
  | [], _ + 1 => none
  | p :: cs, n + 1 => bif Nat.ble p.width (n + 1) then dropC cs (n + 1 - p.width) else none
def takeC : List PV → Nat → Option (List PV)
  | _, 0 => some []
  | [], _ + 1 => none
  | p :: cs, n + 1 => bif Nat.ble p.width (n + 1) then (match takeC cs (n + 1 - p.width) with | some t => some (p :: t) | none => none) else none
def cutC (cs : List PV) (off n : Nat) : Option (List PV) :=
  match dropC cs off with
  | some t => takeC t n
  | none => none
/-- New cells in the place of those from 'off' on. -/
def putC (cs : List PV) (off n : Nat) (new : List PV) : Option (List PV) :=
  match takeC cs off, dropC cs (off + n) with
  | some a, some b => some (a ++ (new ++ b))
  | _, _ => none
def widthC : List PV → Nat
  | [] => 0
  | p :: cs => p.width + widthC cs

/-- What is asked of a type's number. -/
inductive Shape where
  | scalar
  | slice (e : TypeId)
  | struct (fs : List (Nat × Nat)) (ags : List Bool)
  | array (n : Nat) (e : TypeId)
  | other
structure TI where
  sh : Shape
  size : Nat
  bytes : Nat
  zero : List PV
  ty : Ty
def TI.isAgg (t : TI) : Bool := match t.sh with | .struct _ _ | .array _ _ => true | _ => false

/-- How a parameter is handed over: its value; a pointer to a variable that the callee reads and may write. -/
inductive PK where
  | val (o : Option Ty)
  | var (τ : Ty)
/-- Which slices of a result are nobody else's. -/
inductive Fl where
  | no
  | own (T : TypeId)
  | pair (a b : Fl)
def Fl.count : Fl → Nat
  | .no => 0
  | .own _ => 1
  | .pair a b => a.count + b.count
def Fl.isNo : Fl → Bool
  | .no => true
  | _ => false
/-- Results: their types; 'agg': a struct or an array. -/
structure Sig where
  params : List PK
  res : List (Ty × Bool)
  outs : Fl
def Sig.muts (s : Sig) : List Ty := s.params.filterMap fun | .var τ => some τ | _ => none
def Sig.resTy (s : Sig) : Ty := Ty.tup (s.res.map (·.1) ++ s.muts)

/-- What lives at a loop's head. -/
inductive LK where
  | val (τ : Ty)
  | agg (τ : Ty)
  | own (T : TypeId) (e : Ty)
  | box (τ : Ty)
  | ro (τ : Ty)
  | par (τ : Ty)
  | keep

structure Cfg where
  P : Program
  ti : TypeId → Option TI
  fn : FuncId → Option Func
  sig : FuncId → Option Sig
  loop : FuncId → Nat → Option (List (Nat × LK))
  prim : FuncId → Option (List SV → Option (List PV))

def Cfg.resTy (C : Cfg) (f : FuncId) : Ty := match C.sig f with | some s => s.resTy | none => .unit
@[reducible] def Cfg.Res (C : Cfg) (f : FuncId) : Type := (C.resTy f).den
@[reducible] def Cfg.Env (C : Cfg) : Type := (f : FuncId) → List SV → Option (C.Res f)

def constPV : Value → PV
  | .bool b => .bool b
  | .int k n => .int k n
  | .string s => .str s
  | .slice none 0 0 => .nils
  | .pointer none => .nilp
  | _ => .undef
def constSV : Value → SV
  | .agg cs => bif cs.toList.all (fun v => match v with | .agg _ | .tuple _ => false | _ => true) then .agg (cs.toList.map constPV) else .v .undef
  | v => .v (constPV v)
def St.ev (s : St) : Operand → SV
  | .tmp t => s.tmps t
  | .const v => constSV v
  | .func f => .v (.fn f .unit ())
  | .global _ => .v .undef
def St.put (s : St) (d : Nat) (x : SV) : St := { s with tmps := fun t => bif Nat.beq t d then x else s.tmps t }
def St.setM (s : St) (id : Nat) (b : Option Blk) : St := { s with mem := fun t => bif Nat.beq t id then b else s.mem t }

/-- Nothing speaks of block id any more. -/
def PV.kill (id : Nat) : PV → PV
  | .own j => bif Nat.beq j id then .undef else .own j
  | .ptr j o => bif Nat.beq j id then .undef else .ptr j o
  | .seg1 j o i q => bif Nat.beq j id then .undef else .seg1 j o i q
  | .elt j i o => bif Nat.beq j id then .undef else .elt j i o
  | .fnp f ids => bif ids.any (Nat.beq id) then .undef else .fnp f ids
  | p => p
def SV.map (f : PV → PV) : SV → SV
  | .v p => .v (f p)
  | .agg cs => .agg (cs.map f)
  | .tup cs sh => .tup (cs.map f) sh
def Blk.map (f : PV → PV) : Blk → Blk
  | .box cs => .box (cs.map f)
  | b => b
def St.kill (s : St) (id : Nat) : St :=
  { s with tmps := fun t => (s.tmps t).map (PV.kill id), mem := fun t => (s.mem t).map (Blk.map (PV.kill id)) }
/-- A new block. -/
def St.new (s : St) (id : Nat) (b : Blk) : St := (s.kill id).setM id (some (b.map (PV.kill id)))

/-- A slice of the call's own, as data. -/
def St.norm (s : St) : PV → PV
  | .own id => match s.mem id with
    | some (.rows _ e xs) => .list e xs
    | _ => .undef
  | p => p
/-- The block of a slice of the call's own is written no more: it is data from here on. -/
def PV.freeze (id : Nat) (e : Ty) (xs : List e.den) : PV → PV
  | .own j => bif Nat.beq j id then .list e xs else .own j
  | .elt j i o => bif Nat.beq j id then .cptr e (xs.getD i.toNat e.dflt) o else .elt j i o
  | .seg1 j o i q => .seg1 j o i q
  | p => p
def St.freeze (s : St) (id : Nat) : St := match s.mem id with
  | some (.rows _ e xs) =>
    { s with tmps := fun t => (s.tmps t).map (PV.freeze id e xs), mem := fun t => bif Nat.beq t id then none else (s.mem t).map (Blk.map (PV.freeze id e xs)) }
  | _ => s
def PV.ids : PV → List Nat
  | .own i => [i]
  | .ptr i _ => [i]
  | .seg1 i _ _ _ => [i]
  | .elt i _ _ => [i]
  | .fnp _ l => l
  | _ => []

def PV.closed : PV → Bool
  | .own _ | .ptr _ _ | .seg1 _ _ _ _ | .elt _ _ _ | .fnp _ _ => false
  | _ => true

end Go.Pr
