/- Every operation hands on to what follows just once; what it looks at. -/
import Derived.Test.YtjebgmofebmgaaaGreatPsOa
namespace Go.Ps
set_option linter.unusedVariables false
variable {C : Cfg} {R : Type}

theorem condB {α β : Type} (c : Bool) (x y : Option α) (k : α → Option β) : (bif c then x else y).bind k = bif c then x.bind k else y.bind k := by cases c <;> rfl
theorem condN {β : Type} (c : Bool) (x x' y y' : Option β) (h : x = x') (h' : y = y') : (bif c then x else y) = bif c then x' else y' := by rw [h, h']

abbrev duo {α β : Type} : α → β → Option (α × β) := fun x y => some (x, y)
abbrev un2 {α β γ : Type} (k : α → β → γ) : α × β → γ := fun p => k p.1 p.2
abbrev tri {α β γ : Type} : α → β → γ → Option (α × β × γ) := fun x y z => some (x, y, z)
abbrev un3 {α β γ δ : Type} (k : α → β → γ → δ) : α × β × γ → δ := fun p => k p.1 p.2.1 p.2.2

theorem binI_f (op : BinOp) (a : IntKind) (m n : Int) (k : PV → Option R) : binI op a m n k = (binI op a m n some).bind k := by
  cases op <;> simp only [binI] <;> (repeat' (first | rfl | (simp only [condB]; apply condN) | split))
theorem binK_f (op : BinOp) (x y : PV) (k : PV → Option R) : binK op x y k = (binK op x y some).bind k := by
  cases x <;> cases y <;> try rfl
  case int.int a m b n =>
    simp only [binK]
    split
    · (repeat' (first | rfl | (simp only [condB]; apply condN) | split))
    · (repeat' (first | rfl | (simp only [condB]; apply condN) | split))
    · split
      · rfl
      · exact binI_f op a m n k
  case str.str a b => simp only [binK]; (repeat' (first | rfl | (simp only [condB]; apply condN) | split))
theorem boolK_f (op : BinOp) (t : TypeId) (x y : Bool) (k : PV → Option R) : boolK C op t x y k = (boolK C op t x y some).bind k := by
  unfold boolK; (repeat' (first | rfl | (simp only [condB]; apply condN) | split))
theorem eqK_f (op : BinOp) (t : TypeId) (x y : List PV) (k : PV → Option R) : eqK C op t x y k = (eqK C op t x y some).bind k := by
  unfold eqK; (repeat' (first | rfl | (simp only [condB]; apply condN) | split))
theorem unK_f (op : UnOp) (x : PV) (k : PV → Option R) : unK op x k = (unK op x some).bind k := by
  unfold unK; (repeat' (first | rfl | (simp only [condB]; apply condN) | split))
theorem pickK_f (c a b : SV) (k : SV → Option R) : pickK c a b k = (pickK c a b some).bind k := by
  unfold pickK; (repeat' (first | rfl | (simp only [condB]; apply condN) | split))
theorem asSV_f (I : TI) (cs : List PV) (k : SV → Option R) : asSV I cs k = (asSV I cs some).bind k := by
  unfold asSV; (repeat' (first | rfl | (simp only [condB]; apply condN) | split))
theorem openK_f (s : St) (id : Nat) (I : TI) (p : PV) (k : SV → List Upd → Option R) : openK s id I p k = (openK s id I p duo).bind (un2 k) := by
  unfold openK asSV; (repeat' (first | rfl | (simp only [condB]; apply condN) | split))
theorem loadK_f (s : St) (id : Nat) (t : TypeId) (p : PV) (k : SV → List Upd → Option R) : loadK C s id t p k = (loadK C s id t p duo).bind (un2 k) := by
  unfold loadK
  split
  · split
    · unfold asSV; (repeat' (first | rfl | (simp only [condB]; apply condN) | split))
    · exact openK_f _ _ _ _ _
  · rfl
theorem storeK_f (s : St) (t : TypeId) (p : PV) (x : SV) (k : List Upd → List Nat → Option R) : storeK C s t p x k = (storeK C s t p x duo).bind (un2 k) := by
  unfold storeK; (repeat' (first | rfl | (simp only [condB]; apply condN) | split))
theorem lenK_f (s : St) (t : TypeId) (x : PV) (k : PV → Option R) : lenK C s t x k = (lenK C s t x some).bind k := by
  unfold lenK; (repeat' (first | rfl | (simp only [condB]; apply condN) | split))
theorem freshK_f (s : St) (id : Nat) (x : Option R) {α : Type} (y : Option α) (k : α → Option R) (h : x = y.bind k) : freshK s id x = (freshK s id y).bind k := by
  unfold freshK; split; exact h; rfl
theorem appendK_f (s : St) (id : Nat) (sl : TypeId) (x y : PV) (k : PV → List Upd → Option R) : appendK C s id sl x y k = (appendK C s id sl x y duo).bind (un2 k) := by
  unfold appendK freshK; (repeat' (first | rfl | (simp only [condB]; apply condN) | split))
theorem sliceK_f (s : St) (t : TypeId) (x : PV) (lo hi : Option PV) (k : PV → List Upd → Option R) : sliceK C s t x lo hi k = (sliceK C s t x lo hi duo).bind (un2 k) := by
  unfold sliceK boundK; (repeat' (first | rfl | (simp only [condB]; apply condN) | split))
theorem cutK_f (s : St) (id : Nat) (t : TypeId) (x : PV) (lo hi : Option PV) (k : PV → List Upd → Option R) : cutK C s id t x lo hi k = (cutK C s id t x lo hi duo).bind (un2 k) := by
  unfold cutK boundK freshK; (repeat' (first | rfl | (simp only [condB]; apply condN) | split))
theorem viewK_f (s : St) (t : TypeId) (x : PV) (lo hi : Option PV) (k : PV → Option R) : viewK C s t x lo hi k = (viewK C s t x lo hi some).bind k := by
  unfold viewK boundK; (repeat' (first | rfl | (simp only [condB]; apply condN) | split))
theorem convK_f (s : St) (src dst : TypeId) (x : PV) (k : PV → Option R) : convK C s src dst x k = (convK C s src dst x some).bind k := by
  unfold convK; (repeat' (first | rfl | (simp only [condB]; apply condN) | split))
theorem bytesK_f (s : St) (id : Nat) (src dst : TypeId) (x : PV) (k : PV → List Upd → Option R) : bytesK C s id src dst x k = (bytesK C s id src dst x duo).bind (un2 k) := by
  unfold bytesK freshK; (repeat' (first | rfl | (simp only [condB]; apply condN) | split))
theorem makeSliceK_f (s : St) (id : Nat) (t : TypeId) (n : PV) (k : PV → List Upd → Option R) : makeSliceK C s id t n k = (makeSliceK C s id t n duo).bind (un2 k) := by
  unfold makeSliceK freshK; (repeat' (first | rfl | (simp only [condB]; apply condN) | split))
theorem indexAddrK_f (s : St) (t : TypeId) (x i : PV) (k : PV → Option R) : indexAddrK C s t x i k = (indexAddrK C s t x i some).bind k := by
  unfold indexAddrK; (repeat' (first | rfl | (simp only [condB]; apply condN) | split))
theorem indexK_f (t : TypeId) (x : SV) (i : PV) (k : SV → Option R) : indexK C t x i k = (indexK C t x i some).bind k := by
  unfold indexK asSV; (repeat' (first | rfl | (simp only [condB]; apply condN) | split))
theorem extractK_f (x : SV) (i : Nat) (k : SV → Option R) : extractK x i k = (extractK x i some).bind k := by
  unfold extractK; (repeat' (first | rfl | (simp only [condB]; apply condN) | split))
theorem buildK_f (t : TypeId) (ps : List (Nat × SV)) (k : List PV → Option R) : buildK C t ps k = (buildK C t ps some).bind k := by
  unfold buildK; (repeat' (first | rfl | (simp only [condB]; apply condN) | split))
theorem makeFuncK_f (s : St) (f : FuncId) (xs : List SV) (k : PV → List Upd → List Nat → Option R) : makeFuncK C s f xs k = (makeFuncK C s f xs tri).bind (un3 k) := by
  unfold makeFuncK; (repeat' (first | rfl | (simp only [condB]; apply condN) | split))

/-- A call's two sides. -/
def callR (C : Cfg) (id : Nat) (s : St) (g : Nat) (sg : Sig) (A : Ar) (r : C.Res g) : Option (SV × List Upd × List Nat) :=
  match injP id (C.resTy g) sg.resFl r 0 with
  | (cs, new, j) => match resSV sg.res cs, dropC cs ((sg.res.map (·.1.size)).foldr (· + ·) 0) with
    | some x, some back => bif Nat.ble j 32 && freshL s new && nodupB (new.map (·.1)) && nodupB (ownsC back) then
        match backU s new A.bk back with
        | some us => some (x, (bif (C.resTy g).shares sg.resFl then A.V.map .frz else []) ++ ((A.U ++ A.P).map (.set · .dead) ++ sets new) ++ us, A.V)
        | none => none
      else none
    | _, _ => none
def callC (C : Cfg) (g : Nat) (sg : Sig) (A : Ar) : Bool := nodupB (A.U ++ A.P) && apartB (A.U ++ A.P) A.V && (!(C.resTy g).shares sg.resFl || noPar A.V) && nodupB (bkI A.bk) && (bkI A.bk).all (fun i => (A.U ++ A.P).any (Nat.beq i))
theorem call1_f (env : C.Env) (id : Nat) (s : St) (g : Nat) (sg : Sig) (A : Ar) (k : SV → List Upd → List Nat → Option R) :
    call1 C env id s g sg A k = bif callC C g sg A then (env g A.as).bind fun r => (callR C id s g sg A r).bind (un3 k) else none := by
  unfold call1
  refine condN _ _ _ _ _ (congrArg _ (funext fun r => ?_)) rfl
  rw [injK_P]
  unfold callR
  generalize injP id (C.resTy g) sg.resFl r 0 = q
  obtain ⟨cs, new, j⟩ := q
  simp only []
  cases resSV sg.res cs with
  | none => rfl
  | some x =>
    cases dropC cs ((sg.res.map (·.1.size)).foldr (· + ·) 0) with
    | none => rfl
    | some back =>
      simp only []
      rw [condB]
      refine condN _ _ _ _ _ ?_ rfl
      cases backU s new A.bk back <;> rfl
/-- Which function is called, with what. -/
def callG (C : Cfg) (s : St) (xs : List SV) : List Nat → Option (Nat × Sig × Ar)
  | [] => none
  | g :: gs => match C.sig g with
    | some sg => match argsOf s sg.params xs with
      | some A => some (g, sg, A)
      | none => callG C s xs gs
    | none => callG C s xs gs
theorem callL_f (env : C.Env) (id : Nat) (s : St) (xs : List SV) (k : SV → List Upd → List Nat → Option R) : ∀ gs, callL C env id s xs k gs = (callG C s xs gs).bind fun p => call1 C env id s p.1 p.2.1 p.2.2 k
  | [] => rfl
  | g :: gs => by
    have ih := callL_f env id s xs k gs
    simp only [callL, callG]
    cases hs : C.sig g with
    | none => exact ih
    | some sg =>
      simp only []
      cases ha : argsOf s sg.params xs with
      | none => exact ih
      | some A => rfl
theorem call1_f2 (env : C.Env) (id : Nat) (s : St) (g : Nat) (sg : Sig) (A : Ar) (k : SV → List Upd → List Nat → Option R) : call1 C env id s g sg A k = (call1 C env id s g sg A tri).bind (un3 k) := by
  rw [call1_f, call1_f (k := tri), condB]
  refine condN _ _ _ _ _ ?_ rfl
  rw [Option.bind_assoc]
  refine congrArg _ (funext fun r => ?_)
  rw [Option.bind_assoc]
  rfl
theorem callK_f2 (env : C.Env) (id : Nat) (s : St) (f : FuncId) (xs : List SV) (k : SV → List Upd → List Nat → Option R) : callK C env id s f xs k = (callK C env id s f xs tri).bind (un3 k) := by
  unfold callK
  rw [callL_f, callL_f (k := tri), Option.bind_assoc]
  exact congrArg _ (funext fun p => call1_f2 _ _ _ _ _ _ _)
theorem fnK_f (env : C.Env) (id : Nat) (s : St) (x : SV) (xs : List SV) (k : SV → List Upd → List Nat → Option R) : fnK C env id s x xs k = (fnK C env id s x xs tri).bind (un3 k) := by
  unfold fnK
  split
  · split
    · rw [condB]
      exact condN _ _ _ _ _ (callK_f2 _ _ _ _ _ _) rfl
    · rfl
  · rfl

theorem doK_f (env : C.Env) (id : Nat) (op : Op) (s : St) (k : SV → List Upd → List Nat → Option R) : doK C env id op s k = (doK C env id op s tri).bind (un3 k) := by
  cases op <;> simp only [doK, freshK] <;> (repeat' (first | rfl | (simp only [condB]; apply condN) | apply condN | split))
  all_goals first
    | ((conv => lhs; rw [pickK_f]); (conv => rhs; arg 1; rw [pickK_f]); rw [Option.bind_assoc]; rfl)
    | ((conv => lhs; rw [boolK_f]); (conv => rhs; arg 1; rw [boolK_f]); rw [Option.bind_assoc]; rfl)
    | ((conv => lhs; rw [eqK_f]); (conv => rhs; arg 1; rw [eqK_f]); rw [Option.bind_assoc]; rfl)
    | ((conv => lhs; rw [binK_f]); (conv => rhs; arg 1; rw [binK_f]); rw [Option.bind_assoc]; rfl)
    | ((conv => lhs; rw [unK_f]); (conv => rhs; arg 1; rw [unK_f]); rw [Option.bind_assoc]; rfl)
    | ((conv => lhs; rw [loadK_f]); (conv => rhs; arg 1; rw [loadK_f]); rw [Option.bind_assoc]; rfl)
    | ((conv => lhs; rw [storeK_f]); (conv => rhs; arg 1; rw [storeK_f]); rw [Option.bind_assoc]; rfl)
    | ((conv => lhs; rw [lenK_f]); (conv => rhs; arg 1; rw [lenK_f]); rw [Option.bind_assoc]; rfl)
    | ((conv => lhs; rw [indexAddrK_f]); (conv => rhs; arg 1; rw [indexAddrK_f]); rw [Option.bind_assoc]; rfl)
    | ((conv => lhs; rw [indexK_f]); (conv => rhs; arg 1; rw [indexK_f]); rw [Option.bind_assoc]; rfl)
    | ((conv => lhs; rw [convK_f]); (conv => rhs; arg 1; rw [convK_f]); rw [Option.bind_assoc]; rfl)
    | ((conv => lhs; rw [bytesK_f]); (conv => rhs; arg 1; rw [bytesK_f]); rw [Option.bind_assoc]; rfl)
    | ((conv => lhs; rw [buildK_f]); (conv => rhs; arg 1; rw [buildK_f]); rw [Option.bind_assoc]; rfl)
    | ((conv => lhs; rw [extractK_f]); (conv => rhs; arg 1; rw [extractK_f]); rw [Option.bind_assoc]; rfl)
    | ((conv => lhs; rw [appendK_f]); (conv => rhs; arg 1; rw [appendK_f]); rw [Option.bind_assoc]; rfl)
    | ((conv => lhs; rw [sliceK_f]); (conv => rhs; arg 1; rw [sliceK_f]); rw [Option.bind_assoc]; rfl)
    | ((conv => lhs; rw [viewK_f]); (conv => rhs; arg 1; rw [viewK_f]); rw [Option.bind_assoc]; rfl)
    | ((conv => lhs; rw [cutK_f]); (conv => rhs; arg 1; rw [cutK_f]); rw [Option.bind_assoc]; rfl)
    | ((conv => lhs; rw [makeSliceK_f]); (conv => rhs; arg 1; rw [makeSliceK_f]); rw [Option.bind_assoc]; rfl)
    | ((conv => lhs; rw [makeFuncK_f]); (conv => rhs; arg 1; rw [makeFuncK_f]); rw [Option.bind_assoc]; rfl)
    | exact callK_f2 _ _ _ _ _ _ | exact fnK_f _ _ _ _ _ _ | skip
end Go.Ps
