/- Twins with fuel: what they come to, the functions come to. -/
import Derived.Test.YtjebgmofebmgaaaGreatPsW
namespace Go.Ps
/-- A name in a tree. -/
def letB {α β : Type} (x : α) (f : α → β) : β := f x
/-- Ways that meet. -/
def joinB {α β : Type} (f : α → β) (k : α) : β := f k
/-- Nil or a pointer. -/
def optC {α β : Type} (x : Option α) (a : β) (f : α → β) : β := match x with
  | none => a
  | some y => f y
def Le {α : Type} (x y : Option α) : Prop := ∀ r, x = some r → y = some r
theorem Le.refl {α : Type} (x : Option α) : Le x x := fun _ h => h
theorem Le.none {α : Type} (y : Option α) : Le none y := fun _ h => by simp at h
theorem Le.of_eq {α : Type} {x y : Option α} (h : x = y) : Le x y := h ▸ Le.refl x
theorem Le.trans_eq {α : Type} {x y z : Option α} (h : Le x y) (e : z = y) : Le x z := e ▸ h
theorem Le.cond {α : Type} {c : Bool} {x x' y y' : Option α} (h : Le x x') (h' : Le y y') : Le (bif c then x else y) (bif c then x' else y') := by cases c; exact h'; exact h
theorem Le.bind {α β : Type} {x x' : Option α} {k k' : α → Option β} (h : Le x x') (hk : ∀ a, Le (k a) (k' a)) : Le (x.bind k) (x'.bind k') := by
  intro r e
  rw [Option.bind_eq_some_iff] at e ⊢
  obtain ⟨a, h1, h2⟩ := e
  exact ⟨a, h a h1, hk a r h2⟩
theorem Le.letB {α β : Type} {x : α} {f g : α → Option β} (h : ∀ a, Le (f a) (g a)) : Le (letB x f) (letB x g) := h x
theorem Le.optC {α β : Type} {x : Option α} {a a' : Option β} {f g : α → Option β} (h : Le a a') (k : ∀ y, Le (f y) (g y)) : Le (optC x a f) (optC x a' g) := by cases x; exact h; exact k _
/-- A function's equation, and a loop's, by computation. -/
theorem denE {C : Cfg} {f : Nat} {args : List SV} {y : Option (C.Res f)} (h : denP C (Den C) (fun f => Lp C f) f args = y := by kernel_rfl) : Den C f args = y := (Den_eq C f args).trans h
theorem lpE {C : Cfg} {f : Nat} {R : Type} {b : Code} {K : Kont R} {s : St} {y : Option R} (h : den C f (Den C) (Lp C f) b (loopK C f b (Lp C f b K) K) s = y := by kernel_rfl) : Lp C f b K s = y := (Lp_eq C f b K s).trans h
end Go.Ps
