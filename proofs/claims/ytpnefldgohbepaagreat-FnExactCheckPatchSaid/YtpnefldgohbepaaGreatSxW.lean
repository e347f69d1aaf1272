import Derived.Test.YtpnefldgohbepaaGreatSxP
import Derived.Test.YtpnefldgohbepaaGreatSxPa
import Derived.Test.YtpnefldgohbepaaGreatSxPb
import Derived.Test.YtpnefldgohbepaaGreatSxG
namespace Go.Proofs.YtpnefldgohbepaaGreat.S
open Go.Ps Go.RowKit
set_option linter.unusedVariables false
theorem walk (a0:Ty.den TSys) (w0:mX TSys a0) (a1:Ty.den .str) (w1:mX .str a1) (W:World) (us0:List Value) (r0:aJ (jE W) W TSys a0 us0) (v1:Value) (r1:aJ (jE W) W .str a1 [v1]):Calls Tryz.prog 3 #[(.agg us0.toArray),v1] W fun e W'=>e= .returned (.bool true)∧Below W.heap.size W W':=by
 have hsig:cfg.sig 3=some ⟨[.val TSys,.val .str],[(.bool,false)],[.no]⟩:=by kernel_rfl
 have h:kt cfg 3 [.agg (inj TSys a0),.v (.str a1)] (show cfg.Res 3 from true):=C4 eS Kd (rX a0 w0 a1)
 refine(h _ hsig (jE W) W [.agg us0.toArray,v1] [] [] (fun _ h=>h) (.plain rfl ⟨us0,rfl,cO TSys a0 us0 r0⟩ (.plain rfl (aO.v r1) .nil)) ⟨by simp,fun k hk=>by cases hk⟩ ⟨by simp,fun k hk=>by cases hk⟩).mono ?_
 rintro e W' ⟨v,xs,us,ms,S',B',rfl,rfl,ht,hm,hk,_,_,_,hT⟩
 obtain⟨u,v,y,ys,rfl,rfl,hl,_,h2,rfl,rfl⟩:=ht
 have hm':ms=[]:=hm
 subst hm'
 have:=h2 rfl
 subst this
 have hT':[y]++[]++[]=[Value.bool true]:=hT.1
 simp only[List.append_nil,aC,and_true]at hT'
 subst hT'
 exact⟨rfl,qV hk⟩
end Go.Proofs.YtpnefldgohbepaaGreat.S
