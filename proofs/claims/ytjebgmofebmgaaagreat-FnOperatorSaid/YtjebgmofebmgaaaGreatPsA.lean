/- A pure interpreter of the model's code, second state: values, blocks, states. -/
import Derived.Calls
import Derived.KernelRfl
namespace Go.Ps
set_option linter.unusedVariables false

/-- Types of data. 'opt e': a pointer to data, or nil. -/
inductive Ty where
  | unit | bool | str
  | int (k : IntKind)
  | list (e : Ty)
  | arr (e : Ty) (n : Nat)
  | pair (a b : Ty)
  | opt (e : Ty)
  deriving DecidableEq

@[reducible] def Ty.den : Ty → Type
  | .unit => Unit
  | .bool => Bool
  | .str => ByteArray
  | .int _ => Int
  | .list e => List e.den
  | .arr e _ => List e.den
  | .pair a b => a.den × b.den
  | .opt e => Option e.den

/-- How many cells. -/
def Ty.size : Ty → Nat
  | .unit => 0
  | .arr e n => n * e.size
  | .pair a b => a.size + b.size
  | _ => 1

def Ty.dflt : (τ : Ty) → τ.den
  | .unit => ()
  | .bool => false
  | .str => ByteArray.empty
  | .int _ => 0
  | .list _ => []
  | .arr e n => List.replicate n e.dflt
  | .pair a b => (a.dflt, b.dflt)
  | .opt _ => none

/-- A type that speaks of blocks. -/
def Ty.lists : Ty → Bool
  | .list _ => true
  | .opt _ => true
  | .arr e _ => e.lists
  | .pair a b => a.lists || b.lists
  | _ => false

def Ty.tup : List Ty → Ty
  | [] => .unit
  | [a] => a
  | a :: b => .pair a (Ty.tup b)

/-- Which slices of data are nobody else's; 'own T f': a slice of type-T elements, f of each element's; 'box': a variable. -/
inductive Fl where
  | no
  | own (T : TypeId) (f : Fl)
  | box
  | pair (a b : Fl)
  deriving DecidableEq
def Fl.tup : List Fl → Fl
  | [] => .no
  | [a] => a
  | a :: b => .pair a (Fl.tup b)
def Fl.isNo : Fl → Bool
  | .no => true
  | _ => false
/-- Elements without flags of their own: under 'box', numbers alone. -/
def Fl.flat : Fl → Ty → Bool
  | .no, _ => true
  | .box, .int _ => true
  | _, _ => false
/-- Data of this type speaks of blocks that others may hold. -/
def Ty.shares : Ty → Fl → Bool
  | .list e, .own _ f => e.shares f
  | .list _, _ => true
  | .opt e, .box => e.shares .no
  | .opt _, _ => true
  | .arr e _, _ => e.shares .no
  | .pair a b, .pair f g => a.shares f || b.shares g
  | .pair a b, _ => a.shares .no || b.shares .no
  | _, _ => false

/-- A place in a variable or an element: n cells behind its begin; element j of the array there, and n cells behind its begin. -/
inductive Sub where
  | at (n : Nat)
  | arr (o : Nat) (e : Ty) (m : Nat) (j : Int) (n : Nat)
/-- What a function value holds: data; a pointer to data; a pointer to a variable of the call's own. -/
inductive Cap where
  | dat (τ : Ty) (x : τ.den)
  | agg (τ : Ty) (x : τ.den)
  | cref (τ : Ty) (x : τ.den)
  | ref (id : Nat)

/-- The values of cells. -/
inductive PV where
  | undef
  | bool (b : Bool)
  | int (k : IntKind) (n : Int)
  | str (s : ByteArray)
  | nils
  | nilp
  | list (e : Ty) (xs : List e.den)
  | seg (e : Ty) (n : Nat) (xs : List e.den)
  | own (id : Nat)
  | ptr (id : Nat) (p : Sub)
  | elt (id : Nat) (i : Int) (p : Sub)
  | cptr (τ : Ty) (x : τ.den) (off : Nat)
  | fn (f : FuncId) (caps : List Cap)
  | dopt (e : Ty) (x : Option e.den)
  | cell (id : Nat)
  | view (id : Nat) (l h : Int)

/-- The values of slots. -/
inductive SV where
  | v (p : PV)
  | agg (cs : List PV)
  | tup (cs : List PV) (sh : List (Nat × Bool))

/-- Blocks: a variable; a slice; both when nobody writes them any more; what is gone; a slice of which element i lies open in cells. -/
inductive Blk where
  | box (cs : List PV)
  | rows (T : TypeId) (e : Ty) (f : Fl) (xs : List e.den)
  | fbox (cs : List PV)
  | frows (e : Ty) (xs : List e.den)
  | dead
  | opn (T : TypeId) (e : Ty) (f : Fl) (xs : List e.den) (i : Int) (cs : List PV)
def Blk.frz : Blk → Blk
  | .box cs => .fbox cs
  | .rows _ e _ xs => .frows e xs
  | .opn _ _ _ _ _ _ => .dead
  | b => b

structure St where
  n : Nat
  tmps : Nat → SV
  mem : Nat → Option Blk

/-- What an operation does to the blocks. -/
inductive Upd where
  | frz (id : Nat)
  | set (id : Nat) (b : Blk)
def St.put (s : St) (d : Nat) (x : SV) : St := { s with tmps := fun t => bif Nat.beq t d then x else s.tmps t }
def St.setM (s : St) (id : Nat) (b : Option Blk) : St := { s with mem := fun t => bif Nat.beq t id then b else s.mem t }
def St.upd (s : St) : Upd → St
  | .frz id => s.setM id ((s.mem id).map Blk.frz)
  | .set id b => s.setM id (some b)
def St.upds (s : St) : List Upd → St
  | [] => s
  | u :: us => (s.upd u).upds us

def PV.width : PV → Nat
  | .seg e n _ => n * e.size
  | _ => 1

def inj : (τ : Ty) → τ.den → List PV
  | .unit, _ => []
  | .bool, b => [.bool b]
  | .str, s => [.str s]
  | .int k, n => [.int k n]
  | .list e, xs => [.list e xs]
  | .arr e n, xs => [.seg e n xs]
  | .pair a b, x => inj a x.1 ++ inj b x.2
  | .opt e, x => [.dopt e x]

def castO {e e' : Ty} (h : e' = e) (x : Option e'.den) : Option e.den := h ▸ x
def castL {e e' : Ty} (h : e' = e) (xs : List e'.den) : List e.den := h ▸ xs

def repeatP {α : Type} (p : List PV → Option (α × List PV)) : Nat → List PV → Option (List α × List PV)
  | 0, cs => some ([], cs)
  | n + 1, cs => match p cs with
    | some (x, cs) => match repeatP p n cs with
      | some (xs, cs) => some (x :: xs, cs)
      | none => none
    | none => none

/-- The data that cells hold. -/
def proj : (τ : Ty) → List PV → Option (τ.den × List PV)
  | .unit, cs => some ((), cs)
  | .bool, cs => match cs with
    | .bool b :: cs => some (b, cs)
    | _ => none
  | .str, cs => match cs with
    | .str s :: cs => some (s, cs)
    | _ => none
  | .int k, cs => match cs with
    | .int k' n :: cs => match decEq k' k with
      | .isTrue _ => some (n, cs)
      | .isFalse _ => none
    | _ => none
  | .list e, cs => match cs with
    | .list e' xs :: cs => match decEq e' e with
      | .isTrue h => some (castL h xs, cs)
      | .isFalse _ => none
    | .nils :: cs => some ([], cs)
    | _ => none
  | .arr e n, cs => match cs with
    | .seg e' n' xs :: cs => match decEq e' e, decEq n' n with
      | .isTrue h, .isTrue _ => some (castL h xs, cs)
      | _, _ => none
    | cs => repeatP (proj e) n cs
  | .pair a b, cs => match proj a cs with
    | some (x, cs) => match proj b cs with
      | some (y, cs) => some ((x, y), cs)
      | none => none
    | none => none
  | .opt e, cs => match cs with
    | .nilp :: cs => some (none, cs)
    | .dopt e' x :: cs => match decEq e' e with
      | .isTrue h => some (castO h x, cs)
      | .isFalse _ => none
    | _ => none

/-- All cells, nothing left. -/
def projAll (τ : Ty) (cs : List PV) : Option τ.den :=
  match proj τ cs with
  | some (x, []) => some x
  | _ => none

/-- The cells from place n on (a place inside a row of an array is none). -/
def dropC : List PV → Nat → Option (List PV)
  | cs, 0 => some cs
  | [], _ + 1 => none
  | p :: cs, n + 1 => bif Nat.ble p.width (n + 1) then dropC cs (n + 1 - p.width) else none
def takeC : List PV → Nat → Option (List PV)
  | _, 0 => some []
  | [], _ + 1 => none
  | p :: cs, n + 1 => bif Nat.ble p.width (n + 1) then (match takeC cs (n + 1 - p.width) with | some t => some (p :: t) | none => none) else none
def cutC (cs : List PV) (off n : Nat) : Option (List PV) :=
  match dropC cs off with
  | some t => takeC t n
  | none => none
/-- New cells in the place of those from 'off' on. -/
def putC (cs : List PV) (off n : Nat) (new : List PV) : Option (List PV) :=
  match takeC cs off, dropC cs (off + n) with
  | some a, some b => some (a ++ (new ++ b))
  | _, _ => none
def widthC : List PV → Nat
  | [] => 0
  | p :: cs => p.width + widthC cs

def rd {τ : Ty} (xs : List τ.den) (i : Int) : τ.den := xs.getD i.toNat τ.dflt
def inL (i : Int) (n : Nat) : Bool := decide (0 ≤ i) && decide (i < (n : Int))
/-- The array that stands at place o. -/
def segAt (cs : List PV) (o : Nat) (e : Ty) (m : Nat) : Option (List e.den) :=
  match cutC cs o (m * e.size) with
  | some c => projAll (.arr e m) c
  | none => none
/-- n cells at a place. -/
def lookC (cs : List PV) (p : Sub) (n : Nat) : Option (List PV) :=
  match p with
  | .at o => cutC cs o n
  | .arr o e m j q => match segAt cs o e m with
    | some xs => cutC (inj e (rd xs j)) q n
    | none => none
/-- New cells at a place; 'dat': what data the new cells are. -/
def storeC (dat : PV → PV) (cs : List PV) (p : Sub) (n : Nat) (new : List PV) : Option (List PV) :=
  match p with
  | .at o => putC cs o n new
  | .arr o e m j q => match segAt cs o e m with
    | some xs => match putC (inj e (rd xs j)) q n (new.map dat) with
      | some c => match projAll e c with
        | some x => putC cs o (m * e.size) [.seg e m (xs.set j.toNat x)]
        | none => none
      | none => none
    | none => none

/-- What is asked of a type's number. -/
inductive Shape where
  | scalar
  | slice (e : TypeId)
  | struct (fs : List (Nat × Nat)) (ags : List Bool) (tys : List TypeId)
  | array (n : Nat) (e : TypeId)
  | other
structure TI where
  sh : Shape
  size : Nat
  bytes : Nat
  zero : List PV
  ty : Ty
  eq : Bool
def TI.isAgg (t : TI) : Bool := match t.sh with | .struct _ _ _ | .array _ _ => true | _ => false

/-- How a parameter is handed over: as it is; as data, of which some slices are the callee's then ('give') or are lent to it ('lend'); a pointer to a variable that the callee reads ('ro') and may write ('var'); a pointer to a variable that holds a pointer to what the callee may write ('dvar'). -/
inductive PK where
  | raw
  | val (τ : Ty)
  | give (τ : Ty) (f : Fl)
  | lend (τ : Ty) (f : Fl)
  | ro (τ : Ty)
  | var (τ : Ty) (f : Fl)
  | dvar (τ : Ty) (f : Fl)
/-- The slices that are lent. -/
def lentTy : Ty → Fl → Ty
  | .list e, .own _ _ => .list e
  | .pair a b, .pair f g => .pair (lentTy a f) (lentTy b g)
  | _, _ => .unit
def lentFl : Ty → Fl → Fl
  | .list _, .own T f => .own T f
  | .pair a b, .pair f g => .pair (lentFl a f) (lentFl b g)
  | _, _ => .no
/-- Results: their types; 'agg': a struct or an array; their flags. -/
structure Sig where
  params : List PK
  res : List (Ty × Bool)
  outs : List Fl
def PK.back : PK → List (Ty × Fl)
  | .var τ f => [(τ, f)]
  | .dvar τ f => [(τ, f)]
  | .lend τ f => [(lentTy τ f, lentFl τ f)]
  | _ => []
def Sig.back (s : Sig) : List (Ty × Fl) := s.params.flatMap PK.back
def Sig.resTy (s : Sig) : Ty := Ty.tup (s.res.map (·.1) ++ s.back.map (·.1))
def Sig.resFl (s : Sig) : Fl := Fl.tup (s.outs ++ s.back.map (·.2))

/-- What lives at a loop's head. 'same t0 k': what slot t0 holds (at cell k of its variable or struct). 'clos ts': a function value over the variables that the slots ts point at. 'sub t0 k': the slice at cell k of the element that lies open in the slice of slot t0. -/
inductive LK where
  | val (τ : Ty) (f : Fl)
  | agg (τ : Ty) (f : Fl)
  | box (τ : Ty) (f : Fl)
  | par (τ : Ty) (f : Fl)
  | pown (T : TypeId) (e : Ty) (f : Fl)
  | ro (τ : Ty)
  | keep
  | same (t0 : Nat) (k : Option Nat)
  | clos (ts : List Nat)
  | sub (t0 : Nat) (k : Nat)

/-- 'fns': the text of a number; 'real': the program's number of it (a function may stand under several numbers, with other parameters); 'alts': the numbers to try at a call. -/
structure Cfg where
  P : Program
  ti : TypeId → Option TI
  fn : Nat → Option Func
  real : Nat → FuncId
  alts : FuncId → List Nat
  sig : Nat → Option Sig
  loop : Nat → Nat → Option (List (Nat × LK))
  elf : Nat → Nat → Fl
  prim : Nat → Option (List SV → Option (List PV))

def Cfg.resTy (C : Cfg) (f : Nat) : Ty := match C.sig f with | some s => s.resTy | none => .unit
@[reducible] def Cfg.Res (C : Cfg) (f : Nat) : Type := (C.resTy f).den
@[reducible] def Cfg.Env (C : Cfg) : Type := (f : Nat) → List SV → Option (C.Res f)

def constPV : Value → PV
  | .bool b => .bool b
  | .int k n => .int k n
  | .string s => .str s
  | .slice none 0 0 => .nils
  | .pointer none => .nilp
  | _ => .undef
def constSV : Value → SV
  | .agg cs => bif cs.toList.all (fun v => match v with | .agg _ | .tuple _ => false | _ => true) then .agg (cs.toList.map constPV) else .v .undef
  | v => .v (constPV v)
def St.ev (s : St) : Operand → SV
  | .tmp t => s.tmps t
  | .const v => constSV v
  | .func f => .v (.fn f [])
  | .global _ => .v .undef

/-- What a slice's value reads as. -/
def St.asList (s : St) : PV → Option ((e : Ty) × List e.den)
  | .list e xs => some ⟨e, xs⟩
  | .own id => match s.mem id with
    | some (.rows _ e _ xs) => some ⟨e, xs⟩
    | some (.frows e xs) => some ⟨e, xs⟩
    | _ => none
  | .view id l h => match s.mem id with
    | some (.rows _ e _ xs) => some ⟨e, (xs.take h.toNat).drop l.toNat⟩
    | some (.frows e xs) => some ⟨e, (xs.take h.toNat).drop l.toNat⟩
    | _ => none
  | _ => none
/-- The same, for its length alone: an element may lie open. -/
def St.asRow (s : St) : PV → Option ((e : Ty) × List e.den)
  | .own id => match s.mem id with
    | some (.opn _ e _ xs _ _) => some ⟨e, xs⟩
    | _ => s.asList (.own id)
  | p => s.asList p
/-- A cell as data. -/
def St.dat (s : St) : PV → PV
  | .own id => match s.asList (.own id) with
    | some ⟨e, xs⟩ => .list e xs
    | none => .undef
  | .view id l h => match s.asList (.view id l h) with
    | some ⟨e, xs⟩ => .list e xs
    | none => .undef
  | .ptr _ _ => .undef
  | .elt _ _ _ => .undef
  | .cell _ => .undef
  | .fn f caps => bif caps.all (fun c => match c with | .ref _ => false | _ => true) then .fn f caps else .undef
  | p => p
/-- The call's own blocks that a cell as data speaks of. -/
def PV.owns : PV → List Nat
  | .own id => [id]
  | .view id _ _ => [id]
  | _ => []
def ownsC (cs : List PV) : List Nat := cs.flatMap PV.owns
def frzC (cs : List PV) : List Upd := (ownsC cs).map .frz
def PV.closed : PV → Bool
  | .own _ | .ptr _ _ | .elt _ _ _ | .cell _ | .view _ _ _ => false
  | .fn _ caps => caps.all fun c => match c with | .ref _ => false | _ => true
  | _ => true
end Go.Ps
