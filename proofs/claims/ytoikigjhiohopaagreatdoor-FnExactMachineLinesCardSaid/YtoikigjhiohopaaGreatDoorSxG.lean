/- strconv's contract at this program; what the world holds: the table of powers of ten. -/
import Derived.Test.YtoikigjhiohopaaGreatDoorSxIa
import Derived.Test.YtoikigjhiohopaaGreatDoorShelf
import Derived.Shelf.Strconv.Itoa3
import Derived.Lib.AppendIntMem
namespace Go.Proofs.YtoikigjhiohopaaGreatDoor.S
open Go.Ps Go.RowKit
theorem g_tab : Tryz.prog.globalNamed "internal/strconv.uint64pow10" = some 0 := by kernel_rfl
noncomputable abbrev inv : Inv := tabInv Tryz.prog "internal/strconv.uint64pow10" 0 .u64 Lib.pow10Tab g_tab
theorem prim_ok : PrimOKI inv cfg := by
  intro f p hp args r hr
  have hp0 := hp
  simp only [cfg, prims, asc] at hp
  rcases cond_some hp with ⟨hf, hp⟩ | ⟨_, hp⟩
  · have hf := Nat.eq_of_beq_eq_true hf
    subst hf
    cases hp
    exact primItoa_ok (C := cfg) (I := inv) (by kernel_rfl) (fun S n w h1 h2 hI => (Tryz.internal_strconv_FormatInt_10 n h1 h2 w hI.2).mono fun e w' ⟨he, k, os, hw⟩ => ⟨he, hw ▸ Lib.below_grow _ _ (Nat.le_refl _) _ _⟩) _ _ hr
  simp at hp
end Go.Proofs.YtoikigjhiohopaaGreatDoor.S
