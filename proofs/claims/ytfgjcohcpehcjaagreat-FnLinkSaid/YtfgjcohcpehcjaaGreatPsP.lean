import Derived.Test.YtfgjcohcpehcjaaGreatPsOa
namespace Go.Ps
set_option linter.unusedVariables false
variable {C:b9} {R:Type}
theorem ct {α β:Type} (c:Bool) (x y:Option α) (k:α→Option β):(bif c then x else y).bind k=bif c then x.bind k else y.bind k:=by cases c<;>rfl
theorem cd {β:Type} (c:Bool) (x x' y y':Option β) (h:x=x') (h':y=y'):(bif c then x else y)=bif c then x' else y':=by rw[h,h']
abbrev ej {α β:Type}:α→β→Option (α×β):=fun x y=>some (x,y)
abbrev lq {α β γ:Type} (k:α→β→γ):α×β→γ:=fun p=>k p.1 p.2
abbrev gR {α β γ:Type}:α→β→γ→Option (α×β×γ):=fun x y z=>some (x,y,z)
abbrev Ck {α β γ δ:Type} (k:α→β→γ→δ):α×β×γ→δ:=fun p=>k p.1 p.2.1 p.2.2
theorem DO (op:BinOp) (a:IntKind) (m n:Int) (k:PV→Option R):yP op a m n k=(yP op a m n some).bind k:=by
 cases op<;>simp only[yP]<;>(repeat' (first|rfl|(simp only[ct];apply cd)|split))
theorem AA (op:BinOp) (x y:PV) (k:PV→Option R):so op x y k=(so op x y some).bind k:=by
 cases x<;>cases y<;>try rfl
 case int.int a m b n=>
  simp only[so]
  split
  ·(repeat' (first|rfl|(simp only[ct];apply cd)|split))
  ·(repeat' (first|rfl|(simp only[ct];apply cd)|split))
  ·split
   ·rfl
   ·exact DO op a m n k
 case str.str a b=>simp only[so];(repeat' (first|rfl|(simp only[ct];apply cd)|split))
theorem xt (op:BinOp) (t:TypeId) (x y:Bool) (k:PV→Option R):qO C op t x y k=(qO C op t x y some).bind k:=by
 unfold qO;(repeat' (first|rfl|(simp only[ct];apply cd)|split))
theorem Dr (op:BinOp) (t:TypeId) (x y:List PV) (k:PV→Option R):Gp C op t x y k=(Gp C op t x y some).bind k:=by
 unfold Gp;(repeat' (first|rfl|(simp only[ct];apply cd)|split))
theorem Ds (op:UnOp) (x:PV) (k:PV→Option R):DT op x k=(DT op x some).bind k:=by
 unfold DT;(repeat' (first|rfl|(simp only[ct];apply cd)|split))
theorem xu (c a b:SV) (k:SV→Option R):qN c a b k=(qN c a b some).bind k:=by
 unfold qN;(repeat' (first|rfl|(simp only[ct];apply cd)|split))
theorem Cw (s:St) (id:Nat) (I:TI) (p:PV) (k:SV→List bJ→Option R):oY s id I p k=(oY s id I p ej).bind (lq k):=by
 unfold oY qd;(repeat' (first|rfl|(simp only[ct];apply cd)|split))
theorem rY (s:St) (id:Nat) (t:TypeId) (p:PV) (k:SV→List bJ→Option R):kx C s id t p k=(kx C s id t p ej).bind (lq k):=by
 unfold kx
 split
 ·split
  ·unfold qd;(repeat' (first|rfl|(simp only[ct];apply cd)|split))
  ·exact Cw _ _ _ _ _
 ·rfl
theorem oI (s:St) (t:TypeId) (p:PV) (x:SV) (k:List bJ→List Nat→Option R):gX C s t p x k=(gX C s t p x ej).bind (lq k):=by
 unfold gX;(repeat' (first|rfl|(simp only[ct];apply cd)|split))
theorem vF (s:St) (t:TypeId) (x:PV) (k:PV→Option R):qe C s t x k=(qe C s t x some).bind k:=by
 unfold qe;(repeat' (first|rfl|(simp only[ct];apply cd)|split))
theorem ml (s:St) (id:Nat) (sl:TypeId) (x y:PV) (k:PV→List bJ→Option R):dS C s id sl x y k=(dS C s id sl x y ej).bind (lq k):=by
 unfold dS cw;(repeat' (first|rfl|(simp only[ct];apply cd)|split))
theorem vG (s:St) (sl:TypeId) (x y:PV) (k:PV→List bJ→Option R):mu C s sl x y k=(mu C s sl x y ej).bind (lq k):=by
 unfold mu;(repeat' (first|rfl|(simp only[ct];apply cd)|split))
theorem oJ (s:St) (t:TypeId) (x:PV) (lo hi:Option PV) (k:PV→List bJ→Option R):gZ C s t x lo hi k=(gZ C s t x lo hi ej).bind (lq k):=by
 unfold gZ dZ;(repeat' (first|rfl|(simp only[ct];apply cd)|split))
theorem vH (s:St) (id:Nat) (t:TypeId) (x:PV) (lo hi:Option PV) (k:PV→List bJ→Option R):sr C s id t x lo hi k=(sr C s id t x lo hi ej).bind (lq k):=by
 unfold sr dZ cw;(repeat' (first|rfl|(simp only[ct];apply cd)|split))
theorem rZ (s:St) (t:TypeId) (x:PV) (lo hi:Option PV) (k:PV→Option R):lD C s t x lo hi k=(lD C s t x lo hi some).bind k:=by
 unfold lD dZ;(repeat' (first|rfl|(simp only[ct];apply cd)|split))
theorem sa (s:St) (src dst:TypeId) (x:PV) (k:PV→Option R):ky C s src dst x k=(ky C s src dst x some).bind k:=by
 unfold ky;(repeat' (first|rfl|(simp only[ct];apply cd)|split))
theorem oK (s:St) (id:Nat) (src dst:TypeId) (x:PV) (k:PV→List bJ→Option R):g7 C s id src dst x k=(g7 C s id src dst x ej).bind (lq k):=by
 unfold g7 cw;(repeat' (first|rfl|(simp only[ct];apply cd)|split))
theorem iP (s:St) (id:Nat) (t:TypeId) (n:PV) (k:PV→List bJ→Option R):cK C s id t n k=(cK C s id t n ej).bind (lq k):=by
 unfold cK cw;(repeat' (first|rfl|(simp only[ct];apply cd)|split))
theorem iQ (s:St) (t:TypeId) (x i:PV) (k:PV→Option R):cr C s t x i k=(cr C s t x i some).bind k:=by
 unfold cr;(repeat' (first|rfl|(simp only[ct];apply cd)|split))
theorem tC (t:TypeId) (x:SV) (i:PV) (k:SV→Option R):kT C t x i k=(kT C t x i some).bind k:=by
 unfold kT qd;(repeat' (first|rfl|(simp only[ct];apply cd)|split))
theorem oL (x:SV) (i:Nat) (k:SV→Option R):iw x i k=(iw x i some).bind k:=by
 unfold iw;(repeat' (first|rfl|(simp only[ct];apply cd)|split))
theorem tD (t:TypeId) (ps:List (Nat×SV)) (k:List PV→Option R):mt C t ps k=(mt C t ps some).bind k:=by
 unfold mt;(repeat' (first|rfl|(simp only[ct];apply cd)|split))
theorem gB (s:St) (f:FuncId) (xs:List SV) (k:PV→List bJ→List Nat→Option R):dv C s f xs k=(dv C s f xs gR).bind (Ck k):=by
 unfold dv;(repeat' (first|rfl|(simp only[ct];apply cd)|split))
def tE (C:b9) (id:Nat) (s:St) (g:Nat) (sg:ki) (A:Ar) (r:C.Res g):Option (SV×List bJ×List Nat):=
 match aL id (C.resTy g) sg.resFl r 0 with
 |(cs,new,j)=>match t6 sg.res cs,bm cs ((sg.res.map (·.1.size)).foldr (· + ·) 0)with
  |some x,some back=>bif Nat.ble j 32&&fX s new&&dj (new.map (·.1))&&dj (aM back)then
    match eN s new A.bk back with
    |some us=>some (x,(bif (C.resTy g).shares sg.resFl then A.V.map .frz else[])++((A.U++A.P).map (.set · .dead)++cJ new)++us,A.V)
    |none=>none
   else none
  |_,_=>none
def xw (C:b9) (g:Nat) (sg:ki) (A:Ar):Bool:=dj (A.U++A.P)&&g8 (A.U++A.P) A.V&&(!(C.resTy g).shares sg.resFl||xC A.V)&&dj (o3 A.bk)&&(o3 A.bk).all (fun i=>(A.U++A.P).any (Nat.beq i))
theorem lr (env:C.Env) (id:Nat) (s:St) (g:Nat) (sg:ki) (A:Ar) (k:SV→List bJ→List Nat→Option R):
  nb C env id s g sg A k=bif xw C g sg A then(env g A.as).bind fun r=>(tE C id s g sg A r).bind (Ck k)else none:=by
 unfold nb
 refine cd _ _ _ _ _ (congrArg _ (funext fun r=> ?_)) rfl
 rw[Ah]
 unfold tE
 generalize aL id (C.resTy g) sg.resFl r 0=q
 obtain⟨cs,new,j⟩:=q
 simp only[]
 cases t6 sg.res cs with
 |none=>rfl
 |some x=>
  cases bm cs ((sg.res.map (·.1.size)).foldr (· + ·) 0)with
  |none=>rfl
  |some back=>
   simp only[]
   rw[ct]
   refine cd _ _ _ _ _ ?_ rfl
   cases eN s new A.bk back<;>rfl
def tF (C:b9) (s:St) (xs:List SV):List Nat→Option (Nat×ki×Ar)
 | []=>none
 |g::gs=>match C.sig g with
  |some sg=>match cx s sg.params xs with
   |some A=>some (g,sg,A)
   |none=>tF C s xs gs
  |none=>tF C s xs gs
theorem nM (env:C.Env) (id:Nat) (s:St) (xs:List SV) (k:SV→List bJ→List Nat→Option R):∀gs,jw C env id s xs k gs=(tF C s xs gs).bind fun p=>nb C env id s p.1 p.2.1 p.2.2 k
 | []=>rfl
 |g::gs=>by
  have ih:=nM env id s xs k gs
  simp only[jw,tF]
  cases hs:C.sig g with
  |none=>exact ih
  |some sg=>
   simp only[]
   cases ha:cx s sg.params xs with
   |none=>exact ih
   |some A=>rfl
theorem AB (env:C.Env) (id:Nat) (s:St) (g:Nat) (sg:ki) (A:Ar) (k:SV→List bJ→List Nat→Option R):nb C env id s g sg A k=(nb C env id s g sg A gR).bind (Ck k):=by
 rw[lr,lr (k:=gR),ct]
 refine cd _ _ _ _ _ ?_ rfl
 rw[Option.bind_assoc]
 refine congrArg _ (funext fun r=> ?_)
 rw[Option.bind_assoc]
 rfl
theorem tG (env:C.Env) (id:Nat) (s:St) (f:FuncId) (xs:List SV) (k:SV→List bJ→List Nat→Option R):ja C env id s f xs k=(ja C env id s f xs gR).bind (Ck k):=by
 unfold ja
 rw[nM,nM (k:=gR),Option.bind_assoc]
 exact congrArg _ (funext fun p=>AB _ _ _ _ _ _ _)
theorem Gx (env:C.Env) (id:Nat) (s:St) (x:SV) (xs:List SV) (k:SV→List bJ→List Nat→Option R):Cl C env id s x xs k=(Cl C env id s x xs gR).bind (Ck k):=by
 unfold Cl
 split
 ·split
  ·rw[ct]
   exact cd _ _ _ _ _ (tG _ _ _ _ _ _) rfl
  ·rfl
 ·rfl
theorem Dt (env:C.Env) (id:Nat) (op:Op) (s:St) (k:SV→List bJ→List Nat→Option R):wg C env id op s k=(wg C env id op s gR).bind (Ck k):=by
 cases op<;>simp only[wg,cw]<;>(repeat' (first|rfl|(simp only[ct];apply cd)|apply cd|split))
 all_goals first
  |((conv=>lhs;rw[xu]);(conv=>rhs;arg 1;rw[xu]);rw[Option.bind_assoc];rfl)
  |((conv=>lhs;rw[xt]);(conv=>rhs;arg 1;rw[xt]);rw[Option.bind_assoc];rfl)
  |((conv=>lhs;rw[Dr]);(conv=>rhs;arg 1;rw[Dr]);rw[Option.bind_assoc];rfl)
  |((conv=>lhs;rw[AA]);(conv=>rhs;arg 1;rw[AA]);rw[Option.bind_assoc];rfl)
  |((conv=>lhs;rw[Ds]);(conv=>rhs;arg 1;rw[Ds]);rw[Option.bind_assoc];rfl)
  |((conv=>lhs;rw[rY]);(conv=>rhs;arg 1;rw[rY]);rw[Option.bind_assoc];rfl)
  |((conv=>lhs;rw[oI]);(conv=>rhs;arg 1;rw[oI]);rw[Option.bind_assoc];rfl)
  |((conv=>lhs;rw[vF]);(conv=>rhs;arg 1;rw[vF]);rw[Option.bind_assoc];rfl)
  |((conv=>lhs;rw[iQ]);(conv=>rhs;arg 1;rw[iQ]);rw[Option.bind_assoc];rfl)
  |((conv=>lhs;rw[tC]);(conv=>rhs;arg 1;rw[tC]);rw[Option.bind_assoc];rfl)
  |((conv=>lhs;rw[sa]);(conv=>rhs;arg 1;rw[sa]);rw[Option.bind_assoc];rfl)
  |((conv=>lhs;rw[oK]);(conv=>rhs;arg 1;rw[oK]);rw[Option.bind_assoc];rfl)
  |((conv=>lhs;rw[tD]);(conv=>rhs;arg 1;rw[tD]);rw[Option.bind_assoc];rfl)
  |((conv=>lhs;rw[oL]);(conv=>rhs;arg 1;rw[oL]);rw[Option.bind_assoc];rfl)
  |((conv=>lhs;rw[ml]);(conv=>rhs;arg 1;rw[ml]);rw[Option.bind_assoc];rfl)
  |((conv=>lhs;rw[vG]);(conv=>rhs;arg 1;rw[vG]);rw[Option.bind_assoc];rfl)
  |((conv=>lhs;rw[oJ]);(conv=>rhs;arg 1;rw[oJ]);rw[Option.bind_assoc];rfl)
  |((conv=>lhs;rw[rZ]);(conv=>rhs;arg 1;rw[rZ]);rw[Option.bind_assoc];rfl)
  |((conv=>lhs;rw[vH]);(conv=>rhs;arg 1;rw[vH]);rw[Option.bind_assoc];rfl)
  |((conv=>lhs;rw[iP]);(conv=>rhs;arg 1;rw[iP]);rw[Option.bind_assoc];rfl)
  |((conv=>lhs;rw[gB]);(conv=>rhs;arg 1;rw[gB]);rw[Option.bind_assoc];rfl)
  |exact tG _ _ _ _ _ _|exact Gx _ _ _ _ _ _|skip
end Go.Ps
