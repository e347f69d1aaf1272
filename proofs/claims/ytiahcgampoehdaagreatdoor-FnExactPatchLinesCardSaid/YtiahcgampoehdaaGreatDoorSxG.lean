import Derived.Test.YtiahcgampoehdaaGreatDoorSxIa
import Derived.Test.YtiahcgampoehdaaGreatDoorShelf
import Derived.Test.YtiahcgampoehdaaGreatDoorSxH
import Derived.Shelf.Strconv.Itoa3
import Derived.Lib.AppendIntMem
namespace Go.Proofs.YtiahcgampoehdaaGreatDoor.S
open Go.Ps Go.RowKit
theorem OR:Tryz.prog.globalNamed "internal/strconv.uint64pow10" =some 0:=by kernel_rfl
noncomputable abbrev inv:zw:=I7 Tryz.prog "internal/strconv.uint64pow10" 0 .u64 Lib.pow10Tab OR
theorem Hz:tv inv cfg:=by
 intro f p hp args r hr
 have hp0:=hp
 simp only[cfg,IQ,lM]at hp
 rcases ac hp with⟨hf,hp⟩|⟨_,hp⟩
 ·have hf:=Nat.eq_of_beq_eq_true hf
  subst hf
  cases hp
  exact vD (C:=cfg) (I:=inv) (by kernel_rfl) (fun S n w h1 h2 hI=>(Tryz.internal_strconv_FormatInt_10 n h1 h2 w hI.2).mono fun e w' ⟨he,k,os,hw⟩=>⟨he,hw▸Lib.below_grow _ _ (Nat.le_refl _) _ _⟩) _ _ hr
 rcases ac hp with⟨hf,hp⟩|⟨_,hp⟩
 ·have hf:=Nat.eq_of_beq_eq_true hf
  subst hf
  cases hp
  exact((q9 (C:=cfg) (by kernel_rfl) (fun s c w h1 h2=>Tryz.strings_Repeat s c w h1 h2)) _ _ hr).all inv
 rcases ac hp with⟨hf,hp⟩|⟨_,hp⟩
 ·have hf:=Nat.eq_of_beq_eq_true hf
  subst hf
  cases hp
  exact((ly (C:=cfg) (e:=Y1) (b:=56) (T:=81) (by decide) (by kernel_rfl) (fun p m c news w h h1 h2=>Ja p m c news w h h1 h2)) _ _ hr).all inv
 rcases ac hp with⟨hf,hp⟩|⟨_,hp⟩
 ·have hf:=Nat.eq_of_beq_eq_true hf
  subst hf
  cases hp
  exact((qX (C:=cfg) (e:=Y0) (b:=32) (T:=200) (by decide) (by kernel_rfl) (fun v n us p m c news w h1 h2 h3 h4=>xP v n us p m c news w h1 h2 h3 h4)) _ _ hr).all inv
 rcases ac hp with⟨hf,hp⟩|⟨_,hp⟩
 ·have hf:=Nat.eq_of_beq_eq_true hf
  subst hf
  cases hp
  exact((ly (C:=cfg) (e:=Y0) (b:=32) (T:=200) (by decide) (by kernel_rfl) (fun p m c news w h h1 h2=>Jb p m c news w h h1 h2)) _ _ hr).all inv
 simp at hp
end Go.Proofs.YtiahcgampoehdaaGreatDoor.S
