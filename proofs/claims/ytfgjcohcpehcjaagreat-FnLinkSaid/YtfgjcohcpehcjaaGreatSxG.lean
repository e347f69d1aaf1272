import Derived.Test.YtfgjcohcpehcjaaGreatSxIa
import Derived.Test.YtfgjcohcpehcjaaGreatPsZg
import Derived.Below
import Derived.Deep.Draws
import Derived.Deep.AppendLies
import Derived.Maps.AppendAt
import Derived.OwnWalk
import Derived.Laws.MakeOwn
import Derived.Laws.OwnMore
import Derived.Deep.OwnRows
import Derived.Tactics
import Derived.Laws.Slices
import Derived.WalkKit
import Derived.KernelRfl
import Derived.RowKit3
import Derived.Deep.LoopGhost
import Derived.Deep.QuietTactic
import Derived.BigQuiet
import Derived.WideLaws
import Derived.Deep.DeepCutAuto
import Derived.Deep.CutBlock
import Derived.Deep.RegionHeld3
import Derived.Laws.Rows
import Derived.ArgAppend
import Derived.Laws.IdiomCopy
import Derived.OrdersHeld
import Derived.RowKit
import Derived.Shelf.RegionOpenPlain
import Derived.Lib.Walk
import Derived.Lib.SliceRun
namespace Go.Proofs.YtfgjcohcpehcjaaGreat.S
open Go.Ps Go.RowKit Go.Lib Go.Shelf Go.Proofs
set_option linter.unusedVariables false
structure Ic (p:Prop):Prop where
 out:p
theorem I1:SlLaysE0.n41 Tryz.prog (rn 69 23 47):=⟨by kernel_rfl,⟨Tryz.f69.name,by decide,Tryz.func69.trans (congrArg some (by kernel_rfl))⟩,Tryz.underlying4,Tryz.isAgg4,Tryz.sizeOf4,Tryz.zeroValue4,Tryz.underlying23,Tryz.isAgg23,Tryz.sizeOf23,Tryz.zeroValue23⟩
theorem Dn:AC cfg:=by
 intro f p hp
 simp only[cfg,DJ,lG]at hp
 rcases ab hp with⟨hf,hp⟩|⟨_,hp⟩
 ·have hf:=aG hf
  subst hf
  cases hp
  exact rV (C:=cfg) (T:=47) (by decide) (by kernel_rfl) (GG (C:=cfg) Cj I1 rfl (by decide))
 simp at hp
end Go.Proofs.YtfgjcohcpehcjaaGreat.S
