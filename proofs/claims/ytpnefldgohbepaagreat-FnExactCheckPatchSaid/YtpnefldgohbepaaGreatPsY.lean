import Derived.Test.YtpnefldgohbepaaGreatPsX
import Derived.Lib.RepeatB
import Derived.Below
namespace Go.Ps
open Go.RowKit
set_option linter.unusedVariables false
def sZ (s:ByteArray) (n:Int):ByteArray:=⟨(Lib.repeatL s.data.toList n.toNat).toArray⟩
def mm:List SV→Option (List PV)
 | [.v (.str s),.v (.int .i64 n)]=>bif decide (0≤n)&&decide (n≤9223372036854775807)&&decide (s.size*n.toNat≤140737488355328)then some [.str (sZ s n)]else none
 |_=>none
theorem ky {w w':World} {M:Nat→Nat→Prop} (h:Below w.heap.size w w'):c8 w w' M where
 os:=h.os
 tape:=h.tape
 output:=h.output
 size:=h.size
 block b hlt _:=h.block b hlt
 cells b hlt o _:=⟨World.cell?_of_block (a:=⟨b,o,none⟩) (h.block b hlt),trivial⟩
 frozen b hlt o:=World.frozen?_of_block (a:=⟨b,o,none⟩) (h.block b hlt)
 there b hlt o:=by rw[World.cell?_of_block (a:=⟨b,o,none⟩) (h.block b hlt)]
theorem qV {w w':World} (h:c8 w w' (LR [] [])):Below w.heap.size w w':=
 ⟨h.os,h.tape,h.output,h.size,fun k hk=>h.block k hk fun o hM=>by
  rcases hM with hM|⟨o0,n,hM,_⟩
  ·cases hM
  ·cases hM⟩
theorem s8 {C:cv} {f:Nat} (hsig:C.sig f=some ⟨[.val .str,.val (.int .i64)],[(.str,false)],[.no]⟩)
  (H:∀(s:ByteArray) (c:Nat) (w:World),c≤9223372036854775807→s.size*c≤140737488355328→Calls C.P (C.real f) #[.string s,.int .i64 c] w fun e w'=>e= .returned (.string ⟨(Lib.repeatL s.data.toList c).toArray⟩)∧Below w.heap.size w w'):
  ∀args (r:C.Res f),(mm args).bind (bn (C.resTy f))=some r→kt C f args r:=by
 intro args r hr sg hsg S w vals K B hS hA hOB hOK
 rw[hsig]at hsg
 simp only[aa]at hsg
 subst hsg
 have hT:C.resTy f= .str:=by unfold cv.resTy;rw[hsig];rfl
 have hF:(⟨[.val .str,.val (.int .i64)],[(.str,false)],[.no]⟩:ki).resFl= .no:=rfl
 rw[hF]
 change Ty.den (C.resTy f)at r
 change _=some r at hr
 generalize C.resTy f=τ at*
 subst hT
 unfold mm at hr
 split at hr
 ·rename_i s n
  cases hc:decide (0≤n)&&decide (n≤9223372036854775807)&&decide (s.size*n.toNat≤140737488355328)with
  |false=>rw[hc]at hr;simp at hr
  |true=>
   rw[hc]at hr
   simp only[ae,af]at hr
   have h0:=eV (τ:= .str) (d:=sZ s n) hr
   subst h0
   simp only[az,aW]at hc
   cases hA with
   |plain _ h1 t=>
    cases t with
    |plain _ h2 t=>
     cases t
     have e1:=aO.of_v h1 (by simp)
     have e2:=aO.of_v h2 (by simp)
     simp only[bd,aC,and_true]at e1 e2
     subst e1
     subst e2
     have hn:((n.toNat:Nat):Int)=n:=Int.toNat_of_nonneg hc.1.1
     have:=H s n.toNat w (by omega) hc.2
     rw[hn]at this
     refine this.mono ?_
     rintro x w' ⟨rfl,hb⟩
     exact⟨_,[_],[_],[],S,[],rfl,rfl,⟨[_],[],_,[],rfl,rfl,rfl,fun h=>(by cases h),fun _=>rfl,rfl,rfl⟩,rfl,ky hb,fun _ x=>x,fun _=> .inl,⟨by simp,fun k hk=>by cases hk⟩,⟨rfl,rfl⟩⟩
 ·simp at hr
end Go.Ps
