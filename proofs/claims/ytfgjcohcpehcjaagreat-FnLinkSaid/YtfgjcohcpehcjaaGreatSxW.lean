import Derived.Test.YtfgjcohcpehcjaaGreatSxP
import Derived.Test.YtfgjcohcpehcjaaGreatSxPa
import Derived.Test.YtfgjcohcpehcjaaGreatSxG
namespace Go.Proofs.YtfgjcohcpehcjaaGreat.S
open Go.Ps Go.RowKit
theorem walk (a0:Ty.den (.list (.int .u8))) (w0:yU (.list (.int .u8)) a0) (a1:Ty.den (.list (.int .u8))) (w1:yU (.list (.int .u8)) a1) (W:World) (v0:Value) (r0:aw (iU W) W (.list (.int .u8)) a0 [v0]) (v1:Value) (r1:aw (iU W) W (.list (.int .u8)) a1 [v1]):Calls Tryz.prog 3 #[v0,v1] W fun e W'=>e= .returned (.bool true)∧Below W.heap.size W W':=by
 have hsig:cfg.sig 3=some ⟨[.val (.list (.int .u8)),.val (.list (.int .u8))],[(.bool,false)],[.no]⟩:=by kernel_rfl
 have h:oC cfg 3 [.v (.list (.int .u8) a0),.v (.list (.int .u8) a1)] (show cfg.Res 3 from true):=yC Cj Dn (Ca a0 a1 w0.2 w1.2)
 refine(h _ hsig (iU W) W [v0,v1] [] [] (fun _ h=>h) (.plain rfl (aC.v r0) (.plain rfl (aC.v r1) .nil)) ⟨by simp,fun k hk=>by cases hk⟩ ⟨by simp,fun k hk=>by cases hk⟩).mono ?_
 rintro e W' ⟨v,xs,us,ms,S',B',rfl,rfl,ht,hm,hk,_,_,_,hT⟩
 obtain⟨u,v,y,ys,rfl,rfl,hl,_,h2,rfl,rfl⟩:=ht
 have hm':ms=[]:=hm
 subst hm'
 have:=h2 rfl
 subst this
 have hT':[y]++[]++[]=[Value.bool true]:=hT.1
 simp only[List.append_nil,ay,and_true]at hT'
 subst hT'
 exact⟨rfl,oV hk⟩
end Go.Proofs.YtfgjcohcpehcjaaGreat.S
