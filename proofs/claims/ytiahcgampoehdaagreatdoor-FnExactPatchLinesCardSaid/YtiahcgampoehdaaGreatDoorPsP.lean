import Derived.Test.YtiahcgampoehdaaGreatDoorPsOa
namespace Go.Ps
set_option linter.unusedVariables false
variable {C:bP} {R:Type}
theorem cC {α β:Type} (c:Bool) (x y:Option α) (k:α→Option β):(bif c then x else y).bind k=bif c then x.bind k else y.bind k:=by cases c<;>rfl
theorem cu {β:Type} (c:Bool) (x x' y y':Option β) (h:x=x') (h':y=y'):(bif c then x else y)=bif c then x' else y':=by rw[h,h']
abbrev eX {α β:Type}:α→β→Option (α×β):=fun x y=>some (x,y)
abbrev o8 {α β γ:Type} (k:α→β→γ):α×β→γ:=fun p=>k p.1 p.2
abbrev jd {α β γ:Type}:α→β→γ→Option (α×β×γ):=fun x y z=>some (x,y,z)
abbrev G4 {α β γ δ:Type} (k:α→β→γ→δ):α×β×γ→δ:=fun p=>k p.1 p.2.1 p.2.2
theorem IZ (op:BinOp) (a:IntKind) (m n:Int) (k:PV→Option R):A3 op a m n k=(A3 op a m n some).bind k:=by
 cases op<;>simp only[A3]<;>(repeat' (first|rfl|(simp only[cC];apply cu)|split))
theorem Es (op:BinOp) (x y:PV) (k:PV→Option R):tC op x y k=(tC op x y some).bind k:=by
 cases x<;>cases y<;>try rfl
 case int.int a m b n=>
  simp only[tC]
  split
  ·(repeat' (first|rfl|(simp only[cC];apply cu)|split))
  ·(repeat' (first|rfl|(simp only[cC];apply cu)|split))
  ·split
   ·rfl
   ·exact IZ op a m n k
 case str.str a b=>simp only[tC];(repeat' (first|rfl|(simp only[cC];apply cu)|split))
theorem zx (op:BinOp) (t:TypeId) (x y:Bool) (k:PV→Option R):sd C op t x y k=(sd C op t x y some).bind k:=by
 unfold sd;(repeat' (first|rfl|(simp only[cC];apply cu)|split))
theorem Ix (op:BinOp) (t:TypeId) (x y:List PV) (k:PV→Option R):Ov C op t x y k=(Ov C op t x y some).bind k:=by
 unfold Ov;(repeat' (first|rfl|(simp only[cC];apply cu)|split))
theorem Iy (op:UnOp) (x:PV) (k:PV→Option R):I4 op x k=(I4 op x some).bind k:=by
 unfold I4;(repeat' (first|rfl|(simp only[cC];apply cu)|split))
theorem zy (c a b:SV) (k:SV→Option R):sb c a b k=(sb c a b some).bind k:=by
 unfold sb;(repeat' (first|rfl|(simp only[cC];apply cu)|split))
theorem Hl (s:St) (id:Nat) (I:TI) (p:PV) (k:SV→List bE→Option R):pr s id I p k=(pr s id I p eX).bind (o8 k):=by
 unfold pr rb;(repeat' (first|rfl|(simp only[cC];apply cu)|split))
theorem tr (s:St) (id:Nat) (t:TypeId) (p:PV) (k:SV→List bE→Option R):kC C s id t p k=(kC C s id t p eX).bind (o8 k):=by
 unfold kC
 split
 ·split
  ·unfold rb;(repeat' (first|rfl|(simp only[cC];apply cu)|split))
  ·exact Hl _ _ _ _ _
 ·rfl
theorem o9 (s:St) (t:TypeId) (p:PV) (x:SV) (k:List bE→List Nat→Option R):gC C s t p x k=(gC C s t p x eX).bind (o8 k):=by
 unfold gC;(repeat' (first|rfl|(simp only[cC];apply cu)|split))
theorem xj (s:St) (t:TypeId) (x:PV) (k:PV→Option R):rc C s t x k=(rc C s t x some).bind k:=by
 unfold rc;(repeat' (first|rfl|(simp only[cC];apply cu)|split))
theorem mz (s:St) (id:Nat) (sl:TypeId) (x y:PV) (k:PV→List bE→Option R):dF C s id sl x y k=(dF C s id sl x y eX).bind (o8 k):=by
 unfold dF cv;(repeat' (first|rfl|(simp only[cC];apply cu)|split))
theorem pb (s:St) (t:TypeId) (x:PV) (lo hi:Option PV) (k:PV→List bE→Option R):gD C s t x lo hi k=(gD C s t x lo hi eX).bind (o8 k):=by
 unfold gD iL;(repeat' (first|rfl|(simp only[cC];apply cu)|split))
theorem tt (s:St) (src dst:TypeId) (x:PV) (k:PV→Option R):kE C s src dst x k=(kE C s src dst x some).bind k:=by
 unfold kE;(repeat' (first|rfl|(simp only[cC];apply cu)|split))
theorem pc (s:St) (id:Nat) (src dst:TypeId) (x:PV) (k:PV→List bE→Option R):gE C s id src dst x k=(gE C s id src dst x eX).bind (o8 k):=by
 unfold gE cv;(repeat' (first|rfl|(simp only[cC];apply cu)|split))
theorem iF (s:St) (id:Nat) (t:TypeId) (n:PV) (k:PV→List bE→Option R):cq C s id t n k=(cq C s id t n eX).bind (o8 k):=by
 unfold cq cv;(repeat' (first|rfl|(simp only[cC];apply cu)|split))
theorem iG (s:St) (t:TypeId) (x i:PV) (k:PV→Option R):b9 C s t x i k=(b9 C s t x i some).bind k:=by
 unfold b9;(repeat' (first|rfl|(simp only[cC];apply cu)|split))
theorem uX (t:TypeId) (x:SV) (i:PV) (k:SV→Option R):k8 C t x i k=(k8 C t x i some).bind k:=by
 unfold k8 rb;(repeat' (first|rfl|(simp only[cC];apply cu)|split))
theorem pd (x:SV) (i:Nat) (k:SV→Option R):ig x i k=(ig x i some).bind k:=by
 unfold ig;(repeat' (first|rfl|(simp only[cC];apply cu)|split))
theorem uY (t:TypeId) (ps:List (Nat×SV)) (k:List PV→Option R):mG C t ps k=(mG C t ps some).bind k:=by
 unfold mG;(repeat' (first|rfl|(simp only[cC];apply cu)|split))
theorem gk (s:St) (f:FuncId) (xs:List SV) (k:PV→List bE→List Nat→Option R):dj C s f xs k=(dj C s f xs jd).bind (G4 k):=by
 unfold dj;(repeat' (first|rfl|(simp only[cC];apply cu)|split))
def uZ (C:bP) (id:Nat) (s:St) (g:Nat) (sg:je) (A:Ar) (r:C.Res g):Option (SV×List bE×List Nat):=
 match aE id (C.resTy g) sg.resFl r 0 with
 |(cs,new,j)=>match vA sg.res cs,aY cs ((sg.res.map (·.1.size)).foldr (· + ·) 0)with
  |some x,some back=>bif Nat.ble j 32&&fM s new&&c6 (new.map (·.1))&&c6 (aF back)then
    match ep s new A.bk back with
    |some us=>some (x,(bif (C.resTy g).shares sg.resFl then A.V.map .frz else[])++((A.U++A.P).map (.set · .dead)++cp new)++us,A.V)
    |none=>none
   else none
  |_,_=>none
def zz (C:bP) (g:Nat) (sg:je) (A:Ar):Bool:=c6 (A.U++A.P)&&gF (A.U++A.P) A.V&&(!(C.resTy g).shares sg.resFl||zE A.V)&&c6 (pt A.bk)&&(pt A.bk).all (fun i=>(A.U++A.P).any (Nat.beq i))
theorem lA (env:C.Env) (id:Nat) (s:St) (g:Nat) (sg:je) (A:Ar) (k:SV→List bE→List Nat→Option R):
  ns C env id s g sg A k=bif zz C g sg A then(env g A.as).bind fun r=>(uZ C id s g sg A r).bind (G4 k)else none:=by
 unfold ns
 refine cu _ _ _ _ _ (congrArg _ (funext fun r=> ?_)) rfl
 rw[DZ]
 unfold uZ
 generalize aE id (C.resTy g) sg.resFl r 0=q
 obtain⟨cs,new,j⟩:=q
 simp only[]
 cases vA sg.res cs with
 |none=>rfl
 |some x=>
  cases aY cs ((sg.res.map (·.1.size)).foldr (· + ·) 0)with
  |none=>rfl
  |some back=>
   simp only[]
   rw[cC]
   refine cu _ _ _ _ _ ?_ rfl
   cases ep s new A.bk back<;>rfl
def u0 (C:bP) (s:St) (xs:List SV):List Nat→Option (Nat×je×Ar)
 | []=>none
 |g::gs=>match C.sig g with
  |some sg=>match cf s sg.params xs with
   |some A=>some (g,sg,A)
   |none=>u0 C s xs gs
  |none=>u0 C s xs gs
theorem n6 (env:C.Env) (id:Nat) (s:St) (xs:List SV) (k:SV→List bE→List Nat→Option R):∀gs,jw C env id s xs k gs=(u0 C s xs gs).bind fun p=>ns C env id s p.1 p.2.1 p.2.2 k
 | []=>rfl
 |g::gs=>by
  have ih:=n6 env id s xs k gs
  simp only[jw,u0]
  cases hs:C.sig g with
  |none=>exact ih
  |some sg=>
   simp only[]
   cases ha:cf s sg.params xs with
   |none=>exact ih
   |some A=>rfl
theorem Et (env:C.Env) (id:Nat) (s:St) (g:Nat) (sg:je) (A:Ar) (k:SV→List bE→List Nat→Option R):ns C env id s g sg A k=(ns C env id s g sg A jd).bind (G4 k):=by
 rw[lA,lA (k:=jd),cC]
 refine cu _ _ _ _ _ ?_ rfl
 rw[Option.bind_assoc]
 refine congrArg _ (funext fun r=> ?_)
 rw[Option.bind_assoc]
 rfl
theorem u3 (env:C.Env) (id:Nat) (s:St) (f:FuncId) (xs:List SV) (k:SV→List bE→List Nat→Option R):ja C env id s f xs k=(ja C env id s f xs jd).bind (G4 k):=by
 unfold ja
 rw[n6,n6 (k:=jd),Option.bind_assoc]
 exact congrArg _ (funext fun p=>Et _ _ _ _ _ _ _)
theorem OI (env:C.Env) (id:Nat) (s:St) (x:SV) (xs:List SV) (k:SV→List bE→List Nat→Option R):I5 C env id s x xs k=(I5 C env id s x xs jd).bind (G4 k):=by
 unfold I5
 split
 ·split
  ·exact u3 _ _ _ _ _ _
  ·rfl
 ·rfl
theorem Iz (env:C.Env) (id:Nat) (op:Op) (s:St) (k:SV→List bE→List Nat→Option R):xH C env id op s k=(xH C env id op s jd).bind (G4 k):=by
 cases op<;>simp only[xH,cv]<;>(repeat' (first|rfl|(simp only[cC];apply cu)|split))
 all_goals first
  |((conv=>lhs;rw[zy]);(conv=>rhs;arg 1;rw[zy]);rw[Option.bind_assoc];rfl)
  |((conv=>lhs;rw[zx]);(conv=>rhs;arg 1;rw[zx]);rw[Option.bind_assoc];rfl)
  |((conv=>lhs;rw[Ix]);(conv=>rhs;arg 1;rw[Ix]);rw[Option.bind_assoc];rfl)
  |((conv=>lhs;rw[Es]);(conv=>rhs;arg 1;rw[Es]);rw[Option.bind_assoc];rfl)
  |((conv=>lhs;rw[Iy]);(conv=>rhs;arg 1;rw[Iy]);rw[Option.bind_assoc];rfl)
  |((conv=>lhs;rw[tr]);(conv=>rhs;arg 1;rw[tr]);rw[Option.bind_assoc];rfl)
  |((conv=>lhs;rw[o9]);(conv=>rhs;arg 1;rw[o9]);rw[Option.bind_assoc];rfl)
  |((conv=>lhs;rw[xj]);(conv=>rhs;arg 1;rw[xj]);rw[Option.bind_assoc];rfl)
  |((conv=>lhs;rw[iG]);(conv=>rhs;arg 1;rw[iG]);rw[Option.bind_assoc];rfl)
  |((conv=>lhs;rw[uX]);(conv=>rhs;arg 1;rw[uX]);rw[Option.bind_assoc];rfl)
  |((conv=>lhs;rw[tt]);(conv=>rhs;arg 1;rw[tt]);rw[Option.bind_assoc];rfl)
  |((conv=>lhs;rw[pc]);(conv=>rhs;arg 1;rw[pc]);rw[Option.bind_assoc];rfl)
  |((conv=>lhs;rw[uY]);(conv=>rhs;arg 1;rw[uY]);rw[Option.bind_assoc];rfl)
  |((conv=>lhs;rw[pd]);(conv=>rhs;arg 1;rw[pd]);rw[Option.bind_assoc];rfl)
  |((conv=>lhs;rw[mz]);(conv=>rhs;arg 1;rw[mz]);rw[Option.bind_assoc];rfl)
  |((conv=>lhs;rw[pb]);(conv=>rhs;arg 1;rw[pb]);rw[Option.bind_assoc];rfl)
  |((conv=>lhs;rw[iF]);(conv=>rhs;arg 1;rw[iF]);rw[Option.bind_assoc];rfl)
  |((conv=>lhs;rw[gk]);(conv=>rhs;arg 1;rw[gk]);rw[Option.bind_assoc];rfl)
  |exact u3 _ _ _ _ _ _|exact OI _ _ _ _ _ _|skip
end Go.Ps
