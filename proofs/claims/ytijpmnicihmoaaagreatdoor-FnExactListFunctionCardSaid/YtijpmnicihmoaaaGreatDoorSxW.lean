import Derived.Test.YtijpmnicihmoaaaGreatDoorSxP
import Derived.Test.YtijpmnicihmoaaaGreatDoorSxPa
import Derived.Test.YtijpmnicihmoaaaGreatDoorSxPb
import Derived.Test.YtijpmnicihmoaaaGreatDoorSxG
namespace Go.Proofs.YtijpmnicihmoaaaGreatDoor.S
open Go.Ps Go.RowKit
set_option linter.unusedVariables false
theorem walk (a0:Ty.den S.TSys) (w0:o6 S.TSys a0) (a1:Ty.den .str) (w1:o6 .str a1) (W:World) (hI:inv.at_ (InHeap W) W) (us0:List Value) (r0:aE (InHeap W) W S.TSys a0 us0) (v1:Value) (r1:aE (InHeap W) W .str a1 [v1]):Calls Tryz.prog 3 #[(.agg us0.toArray),v1] W fun e W'=>e= .returned (.bool true)∧Below W.heap.size W W':=by
 have hsig:cfg.sig 3=some ⟨[.val S.TSys,.val .str],[(.bool,false)],[.no]⟩:=by kernel_rfl
 have h:jf inv cfg 3 [.agg (inj S.TSys a0),.v (.str a1)] (show cfg.Res 3 from true):=yG uW J5 (nV a0 w0 a1)
 refine(h _ hsig (InHeap W) W [.agg us0.toArray,v1] [] [] (fun _ h=>h) (.plain rfl ⟨us0,rfl,cH S.TSys a0 us0 r0⟩ (.plain rfl (aK.v r1) .nil)) ⟨by simp,fun k hk=>by cases hk⟩ ⟨by simp,fun k hk=>by cases hk⟩ hI).mono ?_
 rintro e W' ⟨v,xs,us,ms,S',B',rfl,rfl,ht,hm,hk,_,_,_,hT⟩
 obtain⟨u,v,y,ys,rfl,rfl,hl,_,h2,rfl,rfl⟩:=ht
 have hm':ms=[]:=hm
 subst hm'
 have:=h2 rfl
 subst this
 have hT':[y]++[]++[]=[Value.bool true]:=hT.1
 simp only[List.append_nil,aD,and_true]at hT'
 subst hT'
 exact⟨rfl,ql hk⟩
end Go.Proofs.YtijpmnicihmoaaaGreatDoor.S
