import Derived.Test.YtnjljkceeijaaaaGreatPsOa
namespace Go.Ps
set_option linter.unusedVariables false
variable {C:bS} {R:Type}
theorem cE {α β:Type} (c:Bool) (x y:Option α) (k:α→Option β):(bif c then x else y).bind k=bif c then x.bind k else y.bind k:=by cases c<;>rfl
theorem cv {β:Type} (c:Bool) (x x' y y':Option β) (h:x=x') (h':y=y'):(bif c then x else y)=bif c then x' else y':=by rw[h,h']
abbrev fh {α β:Type}:α→β→Option (α×β):=fun x y=>some (x,y)
abbrev pB {α β γ:Type} (k:α→β→γ):α×β→γ:=fun p=>k p.1 p.2
abbrev js {α β γ:Type}:α→β→γ→Option (α×β×γ):=fun x y z=>some (x,y,z)
abbrev Hv {α β γ δ:Type} (k:α→β→γ→δ):α×β×γ→δ:=fun p=>k p.1 p.2.1 p.2.2
theorem JC (op:BinOp) (a:IntKind) (m n:Int) (k:PV→Option R):Bt op a m n k=(Bt op a m n some).bind k:=by
 cases op<;>simp only[Bt]<;>(repeat' (first|rfl|(simp only[cE];apply cv)|split))
theorem EO (op:BinOp) (x y:PV) (k:PV→Option R):tZ op x y k=(tZ op x y some).bind k:=by
 cases x<;>cases y<;>try rfl
 case int.int a m b n=>
  simp only[tZ]
  split
  ·(repeat' (first|rfl|(simp only[cE];apply cv)|split))
  ·(repeat' (first|rfl|(simp only[cE];apply cv)|split))
  ·split
   ·rfl
   ·exact JC op a m n k
 case str.str a b=>simp only[tZ];(repeat' (first|rfl|(simp only[cE];apply cv)|split))
theorem zU (op:BinOp) (t:TypeId) (x y:Bool) (k:PV→Option R):sC C op t x y k=(sC C op t x y some).bind k:=by
 unfold sC;(repeat' (first|rfl|(simp only[cE];apply cv)|split))
theorem I7 (op:BinOp) (t:TypeId) (x y:List PV) (k:PV→Option R):O6 C op t x y k=(O6 C op t x y some).bind k:=by
 unfold O6;(repeat' (first|rfl|(simp only[cE];apply cv)|split))
theorem I8 (op:UnOp) (x:PV) (k:PV→Option R):JH op x k=(JH op x some).bind k:=by
 unfold JH;(repeat' (first|rfl|(simp only[cE];apply cv)|split))
theorem zV (c a b:SV) (k:SV→Option R):sy c a b k=(sy c a b some).bind k:=by
 unfold sy;(repeat' (first|rfl|(simp only[cE];apply cv)|split))
theorem HO (s:St) (id:Nat) (I:TI) (p:PV) (k:SV→List bG→Option R):pQ s id I p k=(pQ s id I p fh).bind (pB k):=by
 unfold pQ rv;(repeat' (first|rfl|(simp only[cE];apply cv)|split))
theorem tR (s:St) (id:Nat) (t:TypeId) (p:PV) (k:SV→List bG→Option R):kT C s id t p k=(kT C s id t p fh).bind (pB k):=by
 unfold kT
 split
 ·split
  ·unfold rv;(repeat' (first|rfl|(simp only[cE];apply cv)|split))
  ·exact HO _ _ _ _ _
 ·rfl
theorem pC (s:St) (t:TypeId) (p:PV) (x:SV) (k:List bG→List Nat→Option R):gW C s t p x k=(gW C s t p x fh).bind (pB k):=by
 unfold gW;(repeat' (first|rfl|(simp only[cE];apply cv)|split))
theorem xP (s:St) (t:TypeId) (x:PV) (k:PV→Option R):rx C s t x k=(rx C s t x some).bind k:=by
 unfold rx;(repeat' (first|rfl|(simp only[cE];apply cv)|split))
theorem mS (s:St) (id:Nat) (sl:TypeId) (x y:PV) (k:PV→List bG→Option R):dJ C s id sl x y k=(dJ C s id sl x y fh).bind (pB k):=by
 unfold dJ cw;(repeat' (first|rfl|(simp only[cE];apply cv)|split))
theorem pD (s:St) (t:TypeId) (x:PV) (lo hi:Option PV) (k:PV→List bG→Option R):gX C s t x lo hi k=(gX C s t x lo hi fh).bind (pB k):=by
 unfold gX iY;(repeat' (first|rfl|(simp only[cE];apply cv)|split))
theorem tS (s:St) (src dst:TypeId) (x:PV) (k:PV→Option R):kV C s src dst x k=(kV C s src dst x some).bind k:=by
 unfold kV;(repeat' (first|rfl|(simp only[cE];apply cv)|split))
theorem pE (s:St) (id:Nat) (src dst:TypeId) (x:PV) (k:PV→List bG→Option R):gY C s id src dst x k=(gY C s id src dst x fh).bind (pB k):=by
 unfold gY cw;(repeat' (first|rfl|(simp only[cE];apply cv)|split))
theorem iS (s:St) (id:Nat) (t:TypeId) (n:PV) (k:PV→List bG→Option R):cr C s id t n k=(cr C s id t n fh).bind (pB k):=by
 unfold cr cw;(repeat' (first|rfl|(simp only[cE];apply cv)|split))
theorem iT (s:St) (t:TypeId) (x i:PV) (k:PV→Option R):cb C s t x i k=(cb C s t x i some).bind k:=by
 unfold cb;(repeat' (first|rfl|(simp only[cE];apply cv)|split))
theorem vv (t:TypeId) (x:SV) (i:PV) (k:SV→Option R):lx C t x i k=(lx C t x i some).bind k:=by
 unfold lx rv;(repeat' (first|rfl|(simp only[cE];apply cv)|split))
theorem pF (x:SV) (i:Nat) (k:SV→Option R):iB x i k=(iB x i some).bind k:=by
 unfold iB;(repeat' (first|rfl|(simp only[cE];apply cv)|split))
theorem vw (t:TypeId) (ps:List (Nat×SV)) (k:List PV→Option R):mZ C t ps k=(mZ C t ps some).bind k:=by
 unfold mZ;(repeat' (first|rfl|(simp only[cE];apply cv)|split))
theorem gD (s:St) (f:FuncId) (xs:List SV) (k:PV→List bG→List Nat→Option R):dj C s f xs k=(dj C s f xs js).bind (Hv k):=by
 unfold dj;(repeat' (first|rfl|(simp only[cE];apply cv)|split))
def vz (C:bS) (id:Nat) (s:St) (g:Nat) (sg:jx) (A:Ar) (r:C.Res g):Option (SV×List bG×List Nat):=
 match aH id (C.resTy g) sg.resFl r 0 with
 |(cs,new,j)=>match v7 sg.res cs,a8 cs ((sg.res.map (·.1.size)).foldr (· + ·) 0)with
  |some x,some back=>bif Nat.ble j 32&&fV s new&&c6 (new.map (·.1))&&c6 (aJ back)then
    match eD s new A.bk back with
    |some us=>some (x,(bif (C.resTy g).shares sg.resFl then A.V.map .frz else[])++((A.U++A.P).map (.set · .dead)++cq new)++us,A.V)
    |none=>none
   else none
  |_,_=>none
def zW (C:bS) (g:Nat) (sg:jx) (A:Ar):Bool:=c6 (A.U++A.P)&&gZ (A.U++A.P) A.V&&(!(C.resTy g).shares sg.resFl||Aa A.V)&&c6 (pR A.bk)&&(pR A.bk).all (fun i=>(A.U++A.P).any (Nat.beq i))
theorem lS (env:C.Env) (id:Nat) (s:St) (g:Nat) (sg:jx) (A:Ar) (k:SV→List bG→List Nat→Option R):
  nO C env id s g sg A k=bif zW C g sg A then(env g A.as).bind fun r=>(vz C id s g sg A r).bind (Hv k)else none:=by
 unfold nO
 refine cv _ _ _ _ _ (congrArg _ (funext fun r=> ?_)) rfl
 rw[Ex]
 unfold vz
 generalize aH id (C.resTy g) sg.resFl r 0=q
 obtain⟨cs,new,j⟩:=q
 simp only[]
 cases v7 sg.res cs with
 |none=>rfl
 |some x=>
  cases a8 cs ((sg.res.map (·.1.size)).foldr (· + ·) 0)with
  |none=>rfl
  |some back=>
   simp only[]
   rw[cE]
   refine cv _ _ _ _ _ ?_ rfl
   cases eD s new A.bk back<;>rfl
def vA (C:bS) (s:St) (xs:List SV):List Nat→Option (Nat×jx×Ar)
 | []=>none
 |g::gs=>match C.sig g with
  |some sg=>match ci s sg.params xs with
   |some A=>some (g,sg,A)
   |none=>vA C s xs gs
  |none=>vA C s xs gs
theorem oB (env:C.Env) (id:Nat) (s:St) (xs:List SV) (k:SV→List bG→List Nat→Option R):∀gs,jL C env id s xs k gs=(vA C s xs gs).bind fun p=>nO C env id s p.1 p.2.1 p.2.2 k
 | []=>rfl
 |g::gs=>by
  have ih:=oB env id s xs k gs
  simp only[jL,vA]
  cases hs:C.sig g with
  |none=>exact ih
  |some sg=>
   simp only[]
   cases ha:ci s sg.params xs with
   |none=>exact ih
   |some A=>rfl
theorem EP (env:C.Env) (id:Nat) (s:St) (g:Nat) (sg:jx) (A:Ar) (k:SV→List bG→List Nat→Option R):nO C env id s g sg A k=(nO C env id s g sg A js).bind (Hv k):=by
 rw[lS,lS (k:=js),cE]
 refine cv _ _ _ _ _ ?_ rfl
 rw[Option.bind_assoc]
 refine congrArg _ (funext fun r=> ?_)
 rw[Option.bind_assoc]
 rfl
theorem vB (env:C.Env) (id:Nat) (s:St) (f:FuncId) (xs:List SV) (k:SV→List bG→List Nat→Option R):jo C env id s f xs k=(jo C env id s f xs js).bind (Hv k):=by
 unfold jo
 rw[oB,oB (k:=js),Option.bind_assoc]
 exact congrArg _ (funext fun p=>EP _ _ _ _ _ _ _)
theorem Po (env:C.Env) (id:Nat) (s:St) (x:SV) (xs:List SV) (k:SV→List bG→List Nat→Option R):JI C env id s x xs k=(JI C env id s x xs js).bind (Hv k):=by
 unfold JI
 split
 ·split
  ·exact vB _ _ _ _ _ _
  ·rfl
 ·rfl
theorem I9 (env:C.Env) (id:Nat) (op:Op) (s:St) (k:SV→List bG→List Nat→Option R):yk C env id op s k=(yk C env id op s js).bind (Hv k):=by
 cases op<;>simp only[yk,cw]<;>(repeat' (first|rfl|(simp only[cE];apply cv)|split))
 all_goals first
  |((conv=>lhs;rw[zV]);(conv=>rhs;arg 1;rw[zV]);rw[Option.bind_assoc];rfl)
  |((conv=>lhs;rw[zU]);(conv=>rhs;arg 1;rw[zU]);rw[Option.bind_assoc];rfl)
  |((conv=>lhs;rw[I7]);(conv=>rhs;arg 1;rw[I7]);rw[Option.bind_assoc];rfl)
  |((conv=>lhs;rw[EO]);(conv=>rhs;arg 1;rw[EO]);rw[Option.bind_assoc];rfl)
  |((conv=>lhs;rw[I8]);(conv=>rhs;arg 1;rw[I8]);rw[Option.bind_assoc];rfl)
  |((conv=>lhs;rw[tR]);(conv=>rhs;arg 1;rw[tR]);rw[Option.bind_assoc];rfl)
  |((conv=>lhs;rw[pC]);(conv=>rhs;arg 1;rw[pC]);rw[Option.bind_assoc];rfl)
  |((conv=>lhs;rw[xP]);(conv=>rhs;arg 1;rw[xP]);rw[Option.bind_assoc];rfl)
  |((conv=>lhs;rw[iT]);(conv=>rhs;arg 1;rw[iT]);rw[Option.bind_assoc];rfl)
  |((conv=>lhs;rw[vv]);(conv=>rhs;arg 1;rw[vv]);rw[Option.bind_assoc];rfl)
  |((conv=>lhs;rw[tS]);(conv=>rhs;arg 1;rw[tS]);rw[Option.bind_assoc];rfl)
  |((conv=>lhs;rw[pE]);(conv=>rhs;arg 1;rw[pE]);rw[Option.bind_assoc];rfl)
  |((conv=>lhs;rw[vw]);(conv=>rhs;arg 1;rw[vw]);rw[Option.bind_assoc];rfl)
  |((conv=>lhs;rw[pF]);(conv=>rhs;arg 1;rw[pF]);rw[Option.bind_assoc];rfl)
  |((conv=>lhs;rw[mS]);(conv=>rhs;arg 1;rw[mS]);rw[Option.bind_assoc];rfl)
  |((conv=>lhs;rw[pD]);(conv=>rhs;arg 1;rw[pD]);rw[Option.bind_assoc];rfl)
  |((conv=>lhs;rw[iS]);(conv=>rhs;arg 1;rw[iS]);rw[Option.bind_assoc];rfl)
  |((conv=>lhs;rw[gD]);(conv=>rhs;arg 1;rw[gD]);rw[Option.bind_assoc];rfl)
  |exact vB _ _ _ _ _ _|exact Po _ _ _ _ _ _|skip
end Go.Ps
