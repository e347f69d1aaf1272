import Derived.Test.YtijpmnicihmoaaaGreatDoorSxIa
import Derived.Test.YtijpmnicihmoaaaGreatDoorShelf
import Derived.Test.YtijpmnicihmoaaaGreatDoorSxH
import Derived.Shelf.Strconv.Itoa3
import Derived.Lib.AppendIntMem
namespace Go.Proofs.YtijpmnicihmoaaaGreatDoor.S
open Go.Ps Go.RowKit
theorem Rr:Tryz.prog.globalNamed "internal/strconv.uint64pow10" =some 0:=by kernel_rfl
noncomputable abbrev inv:wo:=KG Tryz.prog "internal/strconv.uint64pow10" 0 .u64 Lib.pow10Tab Rr
theorem J4 {S:Nat→Prop} {w:World} (h:inv.at_ S w):Lib.TabIs Tryz.prog w "internal/strconv.uint64pow10" .u64 Lib.pow10Tab:=h.2
theorem J5:uE inv cfg:=by
 intro f p hp args r hr
 have hp0:=hp
 simp only[cfg,Kl,mw]at hp
 rcases ah hp with⟨hf,hp⟩|⟨_,hp⟩
 ·have hf:=aQ hf
  subst hf
  cases hp
  exact wT (C:=cfg) (I:=inv) (by kernel_rfl) (fun S n w h1 h2 hI=>(Tryz.internal_strconv_FormatInt_10 n h1 h2 w (J4 hI)).mono fun e w' ⟨he,k,os,hw⟩=>⟨he,hw▸Lib.below_grow _ _ (Nat.le_refl _) _ _⟩) _ _ hr
 rcases ah hp with⟨hf,hp⟩|⟨_,hp⟩
 ·have hf:=aQ hf
  subst hf
  cases hp
  exact((sq (C:=cfg) (by kernel_rfl) (fun s c w h1 h2=>Tryz.strings_Repeat s c w h1 h2)) _ _ hr).all inv
 rcases ah hp with⟨hf,hp⟩|⟨_,hp⟩
 ·have hf:=aQ hf
  subst hf
  cases hp
  exact((me (C:=cfg) (e:=Y0) (b:=56) (T:=98) (by decide) (by kernel_rfl) (fun p m c news w h h1 h2=>Oc p m c news w h h1 h2)) _ _ hr).all inv
 rcases ah hp with⟨hf,hp⟩|⟨_,hp⟩
 ·have hf:=aQ hf
  subst hf
  cases hp
  exact((sj (C:=cfg) (e:=Y2) (b:=32) (T:=206) (by decide) (by kernel_rfl) (fun v n us p m c news w h1 h2 h3 h4=>zh v n us p m c news w h1 h2 h3 h4)) _ _ hr).all inv
 rcases ah hp with⟨hf,hp⟩|⟨_,hp⟩
 ·have hf:=aQ hf
  subst hf
  cases hp
  exact((me (C:=cfg) (e:=Y2) (b:=32) (T:=206) (by decide) (by kernel_rfl) (fun p m c news w h h1 h2=>Od p m c news w h h1 h2)) _ _ hr).all inv
 simp at hp
end Go.Proofs.YtijpmnicihmoaaaGreatDoor.S
