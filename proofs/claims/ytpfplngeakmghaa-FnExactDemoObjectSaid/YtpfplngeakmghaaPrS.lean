/- Limits: every operation hands on to what follows just once. -/
import Derived.Test.YtpfplngeakmghaaPrB
namespace Go.Pr
set_option linter.unusedVariables false
variable {C : Cfg} {R : Type}

theorem condB {α β : Type} (c : Bool) (x y : Option α) (k : α → Option β) : (bif c then x else y).bind k = bif c then x.bind k else y.bind k := by cases c <;> rfl
theorem condN {β : Type} (c : Bool) (x x' y y' : Option β) (h : x = x') (h' : y = y') : (bif c then x else y) = bif c then x' else y' := by rw [h, h']


theorem binI_f (op : BinOp) (a : IntKind) (m n : Int) (k : PV → Option R) : binI op a m n k = (binI op a m n some).bind k := by
  cases op <;> simp only [binI] <;> (repeat' (first | rfl | (simp only [condB]; apply condN) | split))
theorem binK_f (op : BinOp) (x y : PV) (k : PV → Option R) : binK op x y k = (binK op x y some).bind k := by
  cases x <;> cases y <;> try rfl
  case int.int a m b n =>
    simp only [binK]
    split
    · (repeat' (first | rfl | (simp only [condB]; apply condN) | split))
    · (repeat' (first | rfl | (simp only [condB]; apply condN) | split))
    · split
      · rfl
      · exact binI_f op a m n k
  case str.str a b => simp only [binK]; (repeat' (first | rfl | (simp only [condB]; apply condN) | split))
theorem boolK_f (op : BinOp) (t : TypeId) (x y : Bool) (k : PV → Option R) : boolK C op t x y k = (boolK C op t x y some).bind k := by
  unfold boolK; (repeat' (first | rfl | (simp only [condB]; apply condN) | split))
theorem unK_f (op : UnOp) (x : PV) (k : PV → Option R) : unK op x k = (unK op x some).bind k := by
  unfold unK; (repeat' (first | rfl | (simp only [condB]; apply condN) | split))
theorem pickK_f (c a b : SV) (k : SV → Option R) : pickK c a b k = (pickK c a b some).bind k := by
  unfold pickK; (repeat' (first | rfl | (simp only [condB]; apply condN) | split))
theorem loadK_f (s : St) (t : TypeId) (p : PV) (k : SV → Option R) : loadK C s t p k = (loadK C s t p some).bind k := by
  unfold loadK; (repeat' (first | rfl | (simp only [condB]; apply condN) | split))
theorem storeK_f (s : St) (t : TypeId) (p : PV) (x : SV) (k : St → Option R) : storeK C s t p x k = (storeK C s t p x some).bind k := by
  unfold storeK; (repeat' (first | rfl | (simp only [condB]; apply condN) | split))
theorem lenK_f (s : St) (t : TypeId) (x : SV) (k : PV → Option R) : lenK C s t x k = (lenK C s t x some).bind k := by
  unfold lenK; (repeat' (first | rfl | (simp only [condB]; apply condN) | split))
theorem boundK_f (x : Option PV) (d : Int) (k : Int → Option R) : boundK x d k = (boundK x d some).bind k := by
  unfold boundK; (repeat' (first | rfl | (simp only [condB]; apply condN) | split))
abbrev duo {α β : Type} : α → β → Option (α × β) := fun x y => some (x, y)
abbrev un2 {α β γ : Type} (k : α → β → γ) : α × β → γ := fun p => k p.1 p.2
theorem appendK_f (s : St) (id : Nat) (sl : TypeId) (x y : PV) (k : PV → St → Option R) : appendK C s id sl x y k = (appendK C s id sl x y duo).bind (un2 k) := by
  unfold appendK; (repeat' (first | rfl | (simp only [condB]; apply condN) | split))
theorem sliceK_f (s : St) (t : TypeId) (x : SV) (lo hi : Option PV) (k : PV → St → Option R) : sliceK C s t x lo hi k = (sliceK C s t x lo hi duo).bind (un2 k) := by
  unfold sliceK boundK; (repeat' (first | rfl | (simp only [condB]; apply condN) | split))
theorem convK_f (s : St) (src dst : TypeId) (x : PV) (k : PV → Option R) : convK C s src dst x k = (convK C s src dst x some).bind k := by
  unfold convK; (repeat' (first | rfl | (simp only [condB]; apply condN) | split))
theorem bytesK_f (s : St) (src dst : TypeId) (x : PV) (k : PV → Option R) : bytesK C s src dst x k = (bytesK C s src dst x some).bind k := by
  unfold bytesK; (repeat' (first | rfl | (simp only [condB]; apply condN) | split))
theorem indexAddrK_f (s : St) (t : TypeId) (x : SV) (i : PV) (k : PV → Option R) : indexAddrK C s t x i k = (indexAddrK C s t x i some).bind k := by
  unfold indexAddrK; (repeat' (first | rfl | (simp only [condB]; apply condN) | split))
theorem extractK_f (x : SV) (i : Nat) (k : SV → Option R) : extractK x i k = (extractK x i some).bind k := by
  unfold extractK; (repeat' (first | rfl | (simp only [condB]; apply condN) | split))

/-- A call's two sides. -/
def callP (C : Cfg) (id : Nat) (s : St) (g : FuncId) (xs : List SV) : Option (List SV × (C.Res g → Option (SV × St))) :=
  match C.sig g with
  | some sg => match argsOf s sg.params xs with
    | some (as, ms, os) => some (as, fun r =>
        let s := bif (C.resTy g).lists then s.still os else s
        match resSV sg.res (injF id (C.resTy g) sg.outs r 0), dropC (injF id (C.resTy g) sg.outs r 0) ((sg.res.map (·.1.size)).foldr (· + ·) 0) with
        | some x, some back => bif back.all PV.closed then match backK s ms back with
          | some s => match newF id (C.resTy g) sg.outs r 0 s with
            | some s => some (x, s)
            | none => none
          | none => none
          else none
        | _, _ => none)
    | none => none
  | none => none
theorem callK_f (env : C.Env) (id : Nat) (s : St) (g : FuncId) (xs : List SV) (k : SV → St → Option R) : callK C env id s g xs k = (callP C id s g xs).bind fun p => (env g p.1).bind fun r => (p.2 r).bind (un2 k) := by
  unfold callK callP
  cases C.sig g with
  | none => rfl
  | some sg =>
    simp only []
    cases argsOf s sg.params xs with
    | none => rfl
    | some q =>
      obtain ⟨as, ms, os⟩ := q
      simp only [Option.bind_some]
      refine congrArg _ (funext fun r => ?_)
      generalize (bif (C.resTy g).lists then s.still os else s) = s1
      generalize injF id (C.resTy g) sg.outs r 0 = cs
      cases resSV sg.res cs with
      | none => rfl
      | some x =>
        cases dropC cs ((sg.res.map (·.1.size)).foldr (· + ·) 0) with
        | none => rfl
        | some back =>
          simp only [condB]
          refine condN _ _ _ _ _ ?_ rfl
          cases backK s1 ms back with
          | none => rfl
          | some s2 =>
            simp only []
            cases newF id (C.resTy g) sg.outs r 0 s2 <;> rfl
theorem callK_f2 (env : C.Env) (id : Nat) (s : St) (g : FuncId) (xs : List SV) (k : SV → St → Option R) : callK C env id s g xs k = (callK C env id s g xs duo).bind (un2 k) := by
  rw [callK_f, callK_f (k := duo), Option.bind_assoc]
  congr 1; funext p
  rw [Option.bind_assoc]
  congr 1; funext r
  rw [Option.bind_assoc]
  rfl
theorem fnK_f (env : C.Env) (id : Nat) (s : St) (x : SV) (xs : List SV) (k : SV → St → Option R) : fnK C env id s x xs k = (fnK C env id s x xs duo).bind (un2 k) := by
  unfold fnK
  split
  · rw [condB]
    exact condN _ _ _ _ _ (callK_f2 _ _ _ _ _ _) rfl
  · rfl

theorem doK_f (env : C.Env) (id : Nat) (op : Op) (s : St) (k : SV → St → Option R) : doK C env id op s k = (doK C env id op s duo).bind (un2 k) := by
  cases op <;> simp only [doK] <;> (repeat' (first | rfl | (simp only [condB]; apply condN) | split))
  all_goals first
    | ((conv => lhs; rw [pickK_f]); (conv => rhs; arg 1; rw [pickK_f]); rw [Option.bind_assoc]; rfl) | ((conv => lhs; rw [boolK_f]); (conv => rhs; arg 1; rw [boolK_f]); rw [Option.bind_assoc]; rfl) | ((conv => lhs; rw [binK_f]); (conv => rhs; arg 1; rw [binK_f]); rw [Option.bind_assoc]; rfl) | ((conv => lhs; rw [unK_f]); (conv => rhs; arg 1; rw [unK_f]); rw [Option.bind_assoc]; rfl) | ((conv => lhs; rw [loadK_f]); (conv => rhs; arg 1; rw [loadK_f]); rw [Option.bind_assoc]; rfl) | ((conv => lhs; rw [storeK_f]); (conv => rhs; arg 1; rw [storeK_f]); rw [Option.bind_assoc]; rfl) | ((conv => lhs; rw [lenK_f]); (conv => rhs; arg 1; rw [lenK_f]); rw [Option.bind_assoc]; rfl) | ((conv => lhs; rw [indexAddrK_f]); (conv => rhs; arg 1; rw [indexAddrK_f]); rw [Option.bind_assoc]; rfl) | ((conv => lhs; rw [convK_f]); (conv => rhs; arg 1; rw [convK_f]); rw [Option.bind_assoc]; rfl) | ((conv => lhs; rw [bytesK_f]); (conv => rhs; arg 1; rw [bytesK_f]); rw [Option.bind_assoc]; rfl) | ((conv => lhs; rw [extractK_f]); (conv => rhs; arg 1; rw [extractK_f]); rw [Option.bind_assoc]; rfl)
    | ((conv => lhs; rw [appendK_f]); (conv => rhs; arg 1; rw [appendK_f]); rw [Option.bind_assoc]; rfl) | ((conv => lhs; rw [sliceK_f]); (conv => rhs; arg 1; rw [sliceK_f]); rw [Option.bind_assoc]; rfl) | exact callK_f2 _ _ _ _ _ _ | exact fnK_f _ _ _ _ _ _ | skip
end Go.Pr
