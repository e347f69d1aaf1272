import Derived.Test.YtfgjcohcpehcjaaGreatPsZ
import Derived.Shelf.SlLaysE0
import Derived.Shelf.RegionOpenPlain
import Derived.WalkKit
import Derived.Deep.LoopGhost
import Derived.Lib.Walk
import Derived.Lib.SliceRun
namespace Go.Ps
open Go.Shelf Go.RowKit Go.Lib Go.Proofs
set_option linter.unusedVariables false
def rn (f s e:Nat):Ren:=⟨fun|41=>f|n=>n,fun|22=>s|23=>e|4=>4|n=>n,fun n=>n⟩
theorem yX {P:Program} {ρ:Ren} (L:SlLaysE0.n41 P ρ) (n c:Nat) (w:World):Calls P (ρ.f 41) #[.slice none n c] w fun e w'=>e= .returned (.slice none 0 0)∧w'=w:=by
 have mixed:=L.mixed;have t4:=L.t4;have a4:=L.a4;have z4:=L.z4;have v4:=L.v4;have t22:=L.t22;have a22:=L.a22;have z22:=L.z22;have v22:=L.v22
 have q22:∀(w:World) (a:Option Addr) (n c n' c':Nat),(binOp .eql (ρ.t 22) (.slice a n c) (.slice none n' c')).run P w= .ok (.bool a.isNone) w:=fun w a n c n' c'=>Lib.run_eql_slice_nil w _ _ a n c n' c' L.t22
 obtain⟨_,_,FG⟩:=L.f41
 go_enter FG,SlBodyN.n41_ntmps ρ
 go_wp2
 go_ret
 exact⟨rfl,rfl⟩
structure DX (p:Prop):Prop where
 out:p
set_option maxHeartbeats 2000000 in
set_option maxRecDepth 100000 in
theorem wn {P:Program} {ρ:Ren} (L:SlLaysE0.n41 P ρ) (i0:TypeInfo) (z:Value) (size bytes:Nat) (hi:P.info? (ρ.t 23)=some i0) (hz0:i0.zero=some z) (hz1:i0.size=size) (hz2:i0.bytes=bytes) (hzs:z.cells.size=size) (hsz:0<size)
  (z23:∀w,(Go.sizeOf (ρ.t 23)).run P w= .ok size w) (ad:Addr) (n c:Nat) (news:List Value) (w:World) (hl:news.length=n*size) (hn:n≤maxLen) (hbig:n*bytes≤140737488355328)
  (hc:∀j u,news[j]? =some u→w.cell? (ad.add j)=some u) (h1:∀u∈news,u.oneCell'=true):
  Calls P (ρ.f 41) #[.slice (some ad) n c] w fun e w'=>∃v':Value,e= .returned v'∧w'.ownsRow w.heap.size (ρ.t 23) size v' n news∧Below w.heap.size w w':=by
 have mixed:=L.mixed;have t4:=L.t4;have a4:=L.a4;have z4:=L.z4;have v4:=L.v4;have t22:=L.t22;have a22:=L.a22;have z22:=L.z22;have v22:=L.v22
 have q22:∀(w:World) (a:Option Addr) (n c n' c':Nat),(binOp .eql (ρ.t 22) (.slice a n c) (.slice none n' c')).run P w= .ok (.bool a.isNone) w:=fun w a n c n' c'=>Lib.run_eql_slice_nil w _ _ a n c n' c' L.t22
 have u22:∀w,Sem.run P (underlying (ρ.t 22)) w= .ok (TypeDesc.slice (ρ.t 23)) w:=run_underlying t22
 have A:=DX.mk hc
 clear hc
 obtain⟨_,_,FG⟩:=L.f41
 go_enter FG,SlBodyN.n41_ntmps ρ
 go_wp2_with (at_builtin;refine wpList_append_own _ rfl _ _ (ρ.t 22) rfl w.heap.size (ρ.t 23) i0 z size bytes t22 hi hz0 hz1 hz2 hzs hsz _ _ _ rfl (World.ownsRow_made w #[] 0 (Nat.le_refl _) (Nat.zero_le _) (by simp)) ad n c news rfl ?qc1 ?qc2 ?qc3 ?qc4 ?qc5 ?qc6 ?_)
 any_goals (first|exact hl|exact h1|(rw[Nat.zero_add];first|exact hn|exact hbig)|(intro j u hj;exact Lib.cell?_alloc_some _ (A.out j u hj)))
 case qc6=>simp
 intro v' w1 hown hgrow hnil
 go_wp2
 go_ret
 refine⟨v',rfl,by simpa using hown, ?_⟩
 exact((Below.refl _ w).alloc (Nat.le_refl _) _).grown hgrow (by simp) (by intro k hk;simp[Value.ownBlock]at hk;omega)
theorem GG {C:b9} (hC:C.OK) {f S E:Nat} {I:TI} (L:SlLaysE0.n41 C.P (rn f S E)) (hI:C.ti E=some I) (hsz:0<I.size) (p:Option Addr) (m c:Nat) (news:List Value) (w:World) (h:rU w p m c news I.size) (h1:m≤maxLen) (h2:m*I.bytes≤140737488355328):
  Calls C.P f #[.slice p m c] w fun x w'=>∃v:Value,x= .returned v∧w'.ownsRow w.heap.size E I.size v m news∧Below w.heap.size w w':=by
 cases p with
 |none=>
  obtain⟨rfl,rfl⟩:=h.nil rfl
  have hn:news=[]:=List.eq_nil_of_length_eq_zero (by simpa using h.len)
  subst hn
  refine(yX L 0 0 w).mono ?_
  rintro x w' ⟨rfl,rfl⟩
  exact⟨_,rfl,World.ownsRow_nil _ _ _ _,Below.refl _ _⟩
 |some ad=>
  obtain⟨⟨i0,z,hi,hz1,hz2,hz0,_,hzs⟩,_⟩:=hC.ti E _ hI
  exact wn L i0 z I.size I.bytes hi hz0 hz1 hz2 hzs hsz (fun w=>by have:=bL (w:=w) hi;rw[hz1]at this;exact this) ad m c news w h.len h1 h2 (h.cells ad rfl) h.one
end Go.Ps
