import Derived.Test.YtnjljkceeijaaaaGreatSxPb
import Derived.Test.YtnjljkceeijaaaaGreatSxG
namespace Go.Proofs.YtnjljkceeijaaaaGreat.S
open Go.Ps Go.RowKit
theorem walk (a0:Ty.den TSys) (w0:nP TSys a0) (a1:Ty.den TSys) (w1:nP TSys a1) (W:World) (us0:List Value) (r0:ap (iZ W) W TSys a0 us0) (us1:List Value) (r1:ap (iZ W) W TSys a1 us1):Calls Tryz.prog 3 #[(.agg us0.toArray),(.agg us1.toArray)] W fun e W'=>e= .returned (.bool true)∧Below W.heap.size W W':=by
 have hsig:cfg.sig 3=some ⟨[.val TSys,.val TSys],[(.bool,false)],[.no]⟩:=by kernel_rfl
 have h:lQ cfg 3 [.agg (inj TSys a0),.agg (inj TSys a1)] (show cfg.Res 3 from true):=Bf uR II (qx a0 a1 w0 w1)
 refine(h _ hsig (iZ W) W [.agg us0.toArray,.agg us1.toArray] [] [] (fun _ h=>h) (.plain rfl ⟨us0,rfl,bT TSys a0 us0 r0⟩ (.plain rfl ⟨us1,rfl,bT TSys a1 us1 r1⟩ .nil)) ⟨by simp,fun k hk=>by cases hk⟩ ⟨by simp,fun k hk=>by cases hk⟩).mono ?_
 rintro e W' ⟨v,xs,us,ms,S',B',rfl,rfl,ht,hm,hk,_,_,_,hT⟩
 obtain⟨u,v,y,ys,rfl,rfl,hl,_,h2,rfl,rfl⟩:=ht
 have hm':ms=[]:=hm
 subst hm'
 have:=h2 rfl
 subst this
 have hT':[y]++[]++[]=[Value.bool true]:=hT.1
 simp only[List.append_nil,List.cons.injEq,and_true]at hT'
 subst hT'
 exact⟨rfl,pO hk⟩
end Go.Proofs.YtnjljkceeijaaaaGreat.S
