import Derived.Test.YtfgjcohcpehcjaaGreatPsX
import Derived.Lib.RepeatB
import Derived.Below
namespace Go.Ps
open Go.RowKit
set_option linter.unusedVariables false
theorem oU {w w':World} {M:Nat→Nat→Prop} (h:Below w.heap.size w w'):cM w w' M where
 os:=h.os
 tape:=h.tape
 output:=h.output
 size:=h.size
 block b hlt _:=h.block b hlt
 cells b hlt o _:=⟨World.cell?_of_block (a:=⟨b,o,none⟩) (h.block b hlt),trivial⟩
 frozen b hlt o:=World.frozen?_of_block (a:=⟨b,o,none⟩) (h.block b hlt)
 there b hlt o:=by rw[World.cell?_of_block (a:=⟨b,o,none⟩) (h.block b hlt)]
theorem oV {w w':World} (h:cM w w' (DN [] [])):Below w.heap.size w w':=
 ⟨h.os,h.tape,h.output,h.size,fun k hk=>h.block k hk fun o hM=>by
  rcases hM with hM|⟨o0,n,hM,_⟩
  ·cases hM
  ·cases hM⟩
end Go.Ps
