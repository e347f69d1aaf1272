import Derived.Test.YtiahcgampoehdaaGreatDoorSxPa
import Derived.Test.YtiahcgampoehdaaGreatDoorSxG
namespace Go.Proofs.YtiahcgampoehdaaGreatDoor.S
open Go.Ps Go.RowKit
theorem walk (a0:Ty.den TSys) (w0:pC TSys a0) (W:World) (hI:inv.at_ (InHeap W) W) (us0:List Value) (r0:aq (InHeap W) W TSys a0 us0):Calls Tryz.prog 4 #[(.agg us0.toArray)] W fun e W'=>e= .returned (.bool true)∧Below W.heap.size W W':=by
 have hsig:cfg.sig 4=some ⟨[.val TSys],[(.bool,false)],[.no]⟩:=by kernel_rfl
 have h:iD inv cfg 4 [.agg (inj TSys a0)] (show cfg.Res 4 from true):=xn um Hz (FK a0 w0)
 refine(h _ hsig (InHeap W) W [.agg us0.toArray] [] [] (fun _ h=>h) (.plain rfl ⟨us0,rfl,cd TSys a0 us0 r0⟩ .nil) ⟨by simp,fun k hk=>by cases hk⟩ ⟨by simp,fun k hk=>by cases hk⟩ hI).mono ?_
 rintro e W' ⟨v,xs,us,ms,S',B',rfl,rfl,ht,hm,hk,_,_,_,hT⟩
 obtain⟨u,v,y,ys,rfl,rfl,hl,_,h2,rfl,rfl⟩:=ht
 have hm':ms=[]:=hm
 subst hm'
 have:=h2 rfl
 subst this
 have hT':[y]++[]++[]=[Value.bool true]:=hT.1
 simp only[List.append_nil,List.cons.injEq,and_true]at hT'
 subst hT'
 exact⟨rfl,pp hk⟩
end Go.Proofs.YtiahcgampoehdaaGreatDoor.S
