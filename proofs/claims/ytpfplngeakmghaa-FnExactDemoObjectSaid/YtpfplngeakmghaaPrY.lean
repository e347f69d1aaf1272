/- Twins with fuel: what they come to, the functions come to. -/
import Derived.Test.YtpfplngeakmghaaPrU
namespace Go.Pr
def Le {α : Type} (x y : Option α) : Prop := ∀ r, x = some r → y = some r
theorem Le.refl {α : Type} (x : Option α) : Le x x := fun _ h => h
theorem Le.none {α : Type} (y : Option α) : Le none y := fun _ h => by simp at h
theorem Le.of_eq {α : Type} {x y : Option α} (h : x = y) : Le x y := h ▸ Le.refl x
theorem Le.trans_eq {α : Type} {x y z : Option α} (h : Le x y) (e : z = y) : Le x z := e ▸ h
theorem Le.cond {α : Type} {c : Bool} {x x' y y' : Option α} (h : Le x x') (h' : Le y y') : Le (bif c then x else y) (bif c then x' else y') := by cases c; exact h'; exact h
theorem Le.bind {α β : Type} {x x' : Option α} {k k' : α → Option β} (h : Le x x') (hk : ∀ a, Le (k a) (k' a)) : Le (x.bind k) (x'.bind k') := by
  intro r e
  rw [Option.bind_eq_some_iff] at e ⊢
  obtain ⟨a, h1, h2⟩ := e
  exact ⟨a, h a h1, hk a r h2⟩
end Go.Pr
