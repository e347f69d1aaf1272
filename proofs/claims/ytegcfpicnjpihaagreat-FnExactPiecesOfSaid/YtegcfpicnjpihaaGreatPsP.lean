import Derived.Test.YtegcfpicnjpihaaGreatPsOa
namespace Go.Ps
set_option linter.unusedVariables false
variable {C:bP} {R:Type}
theorem cB {α β:Type} (c:Bool) (x y:Option α) (k:α→Option β):(bif c then x else y).bind k=bif c then x.bind k else y.bind k:=by cases c<;>rfl
theorem cv {β:Type} (c:Bool) (x x' y y':Option β) (h:x=x') (h':y=y'):(bif c then x else y)=bif c then x' else y':=by rw[h,h']
abbrev eS {α β:Type}:α→β→Option (α×β):=fun x y=>some (x,y)
abbrev oO {α β γ:Type} (k:α→β→γ):α×β→γ:=fun p=>k p.1 p.2
abbrev iW {α β γ:Type}:α→β→γ→Option (α×β×γ):=fun x y z=>some (x,y,z)
abbrev Gm {α β γ δ:Type} (k:α→β→γ→δ):α×β×γ→δ:=fun p=>k p.1 p.2.1 p.2.2
theorem Il (op:BinOp) (a:IntKind) (m n:Int) (k:PV→Option R):Al op a m n k=(Al op a m n some).bind k:=by
 cases op<;>simp only[Al]<;>(repeat' (first|rfl|(simp only[cB];apply cv)|split))
theorem DK (op:BinOp) (x y:PV) (k:PV→Option R):sR op x y k=(sR op x y some).bind k:=by
 cases x<;>cases y<;>try rfl
 case int.int a m b n=>
  simp only[sR]
  split
  ·(repeat' (first|rfl|(simp only[cB];apply cv)|split))
  ·(repeat' (first|rfl|(simp only[cB];apply cv)|split))
  ·split
   ·rfl
   ·exact Il op a m n k
 case str.str a b=>simp only[sR];(repeat' (first|rfl|(simp only[cB];apply cv)|split))
theorem yL (op:BinOp) (t:TypeId) (x y:Bool) (k:PV→Option R):rA C op t x y k=(rA C op t x y some).bind k:=by
 unfold rA;(repeat' (first|rfl|(simp only[cB];apply cv)|split))
theorem HT (op:BinOp) (t:TypeId) (x y:List PV) (k:PV→Option R):NI C op t x y k=(NI C op t x y some).bind k:=by
 unfold NI;(repeat' (first|rfl|(simp only[cB];apply cv)|split))
theorem HU (op:UnOp) (x:PV) (k:PV→Option R):Iq op x k=(Iq op x some).bind k:=by
 unfold Iq;(repeat' (first|rfl|(simp only[cB];apply cv)|split))
theorem yM (c a b:SV) (k:SV→Option R):rz c a b k=(rz c a b some).bind k:=by
 unfold rz;(repeat' (first|rfl|(simp only[cB];apply cv)|split))
theorem GF (s:St) (id:Nat) (I:TI) (p:PV) (k:SV→List bD→Option R):o6 s id I p k=(o6 s id I p eS).bind (oO k):=by
 unfold o6 qD;(repeat' (first|rfl|(simp only[cB];apply cv)|split))
theorem sJ (s:St) (id:Nat) (t:TypeId) (p:PV) (k:SV→List bD→Option R):kr C s id t p k=(kr C s id t p eS).bind (oO k):=by
 unfold kr
 split
 ·split
  ·unfold qD;(repeat' (first|rfl|(simp only[cB];apply cv)|split))
  ·exact GF _ _ _ _ _
 ·rfl
theorem oP (s:St) (t:TypeId) (p:PV) (x:SV) (k:List bD→List Nat→Option R):gw C s t p x k=(gw C s t p x eS).bind (oO k):=by
 unfold gw;(repeat' (first|rfl|(simp only[cB];apply cv)|split))
theorem wG (s:St) (t:TypeId) (x:PV) (k:PV→Option R):qE C s t x k=(qE C s t x some).bind k:=by
 unfold qE;(repeat' (first|rfl|(simp only[cB];apply cv)|split))
theorem mg (s:St) (id:Nat) (sl:TypeId) (x y:PV) (k:PV→List bD→Option R):dB C s id sl x y k=(dB C s id sl x y eS).bind (oO k):=by
 unfold dB cw;(repeat' (first|rfl|(simp only[cB];apply cv)|split))
theorem oQ (s:St) (t:TypeId) (x:PV) (lo hi:Option PV) (k:PV→List bD→Option R):gy C s t x lo hi k=(gy C s t x lo hi eS).bind (oO k):=by
 unfold gy iC;(repeat' (first|rfl|(simp only[cB];apply cv)|split))
theorem sK (s:St) (src dst:TypeId) (x:PV) (k:PV→Option R):kt C s src dst x k=(kt C s src dst x some).bind k:=by
 unfold kt;(repeat' (first|rfl|(simp only[cB];apply cv)|split))
theorem oR (s:St) (id:Nat) (src dst:TypeId) (x:PV) (k:PV→List bD→Option R):gz C s id src dst x k=(gz C s id src dst x eS).bind (oO k):=by
 unfold gz cw;(repeat' (first|rfl|(simp only[cB];apply cv)|split))
theorem iv (s:St) (id:Nat) (t:TypeId) (n:PV) (k:PV→List bD→Option R):cq C s id t n k=(cq C s id t n eS).bind (oO k):=by
 unfold cq cw;(repeat' (first|rfl|(simp only[cB];apply cv)|split))
theorem iw (s:St) (t:TypeId) (x i:PV) (k:PV→Option R):bZ C s t x i k=(bZ C s t x i some).bind k:=by
 unfold bZ;(repeat' (first|rfl|(simp only[cB];apply cv)|split))
theorem ul (t:TypeId) (x:SV) (i:PV) (k:SV→Option R):kP C t x i k=(kP C t x i some).bind k:=by
 unfold kP qD;(repeat' (first|rfl|(simp only[cB];apply cv)|split))
theorem oS (x:SV) (i:Nat) (k:SV→Option R):g9 x i k=(g9 x i some).bind k:=by
 unfold g9;(repeat' (first|rfl|(simp only[cB];apply cv)|split))
theorem um (t:TypeId) (ps:List (Nat×SV)) (k:List PV→Option R):mq C t ps k=(mq C t ps some).bind k:=by
 unfold mq;(repeat' (first|rfl|(simp only[cB];apply cv)|split))
theorem gb (s:St) (f:FuncId) (xs:List SV) (k:PV→List bD→List Nat→Option R):de C s f xs k=(de C s f xs iW).bind (Gm k):=by
 unfold de;(repeat' (first|rfl|(simp only[cB];apply cv)|split))
def uq (C:bP) (id:Nat) (s:St) (g:Nat) (sg:i5) (A:Ar) (r:C.Res g):Option (SV×List bD×List Nat):=
 match aD id (C.resTy g) sg.resFl r 0 with
 |(cs,new,j)=>match uP sg.res cs,aY cs ((sg.res.map (·.1.size)).foldr (· + ·) 0)with
  |some x,some back=>bif Nat.ble j 32&&fG s new&&cW (new.map (·.1))&&cW (aE back)then
    match ei s new A.bk back with
    |some us=>some (x,(bif (C.resTy g).shares sg.resFl then A.V.map .frz else[])++((A.U++A.P).map (.set · .dead)++cp new)++us,A.V)
    |none=>none
   else none
  |_,_=>none
def yN (C:bP) (g:Nat) (sg:i5) (A:Ar):Bool:=cW (A.U++A.P)&&gA (A.U++A.P) A.V&&(!(C.resTy g).shares sg.resFl||yT A.V)&&cW (o7 A.bk)&&(o7 A.bk).all (fun i=>(A.U++A.P).any (Nat.beq i))
theorem lh (env:C.Env) (id:Nat) (s:St) (g:Nat) (sg:i5) (A:Ar) (k:SV→List bD→List Nat→Option R):
  na C env id s g sg A k=bif yN C g sg A then(env g A.as).bind fun r=>(uq C id s g sg A r).bind (Gm k)else none:=by
 unfold na
 refine cv _ _ _ _ _ (congrArg _ (funext fun r=> ?_)) rfl
 rw[Dt]
 unfold uq
 generalize aD id (C.resTy g) sg.resFl r 0=q
 obtain⟨cs,new,j⟩:=q
 simp only[]
 cases uP sg.res cs with
 |none=>rfl
 |some x=>
  cases aY cs ((sg.res.map (·.1.size)).foldr (· + ·) 0)with
  |none=>rfl
  |some back=>
   simp only[]
   rw[cB]
   refine cv _ _ _ _ _ ?_ rfl
   cases ei s new A.bk back<;>rfl
def ur (C:bP) (s:St) (xs:List SV):List Nat→Option (Nat×i5×Ar)
 | []=>none
 |g::gs=>match C.sig g with
  |some sg=>match cg s sg.params xs with
   |some A=>some (g,sg,A)
   |none=>ur C s xs gs
  |none=>ur C s xs gs
theorem nM (env:C.Env) (id:Nat) (s:St) (xs:List SV) (k:SV→List bD→List Nat→Option R):∀gs,jj C env id s xs k gs=(ur C s xs gs).bind fun p=>na C env id s p.1 p.2.1 p.2.2 k
 | []=>rfl
 |g::gs=>by
  have ih:=nM env id s xs k gs
  simp only[jj,ur]
  cases hs:C.sig g with
  |none=>exact ih
  |some sg=>
   simp only[]
   cases ha:cg s sg.params xs with
   |none=>exact ih
   |some A=>rfl
theorem DL (env:C.Env) (id:Nat) (s:St) (g:Nat) (sg:i5) (A:Ar) (k:SV→List bD→List Nat→Option R):na C env id s g sg A k=(na C env id s g sg A iW).bind (Gm k):=by
 rw[lh,lh (k:=iW),cB]
 refine cv _ _ _ _ _ ?_ rfl
 rw[Option.bind_assoc]
 refine congrArg _ (funext fun r=> ?_)
 rw[Option.bind_assoc]
 rfl
theorem ut (env:C.Env) (id:Nat) (s:St) (f:FuncId) (xs:List SV) (k:SV→List bD→List Nat→Option R):iT C env id s f xs k=(iT C env id s f xs iW).bind (Gm k):=by
 unfold iT
 rw[nM,nM (k:=iW),Option.bind_assoc]
 exact congrArg _ (funext fun p=>DL _ _ _ _ _ _ _)
theorem NU (env:C.Env) (id:Nat) (s:St) (x:SV) (xs:List SV) (k:SV→List bD→List Nat→Option R):Ir C env id s x xs k=(Ir C env id s x xs iW).bind (Gm k):=by
 unfold Ir
 split
 ·split
  ·exact ut _ _ _ _ _ _
  ·rfl
 ·rfl
theorem HV (env:C.Env) (id:Nat) (op:Op) (s:St) (k:SV→List bD→List Nat→Option R):w4 C env id op s k=(w4 C env id op s iW).bind (Gm k):=by
 cases op<;>simp only[w4,cw]<;>(repeat' (first|rfl|(simp only[cB];apply cv)|split))
 all_goals first
  |((conv=>lhs;rw[yM]);(conv=>rhs;arg 1;rw[yM]);rw[Option.bind_assoc];rfl)
  |((conv=>lhs;rw[yL]);(conv=>rhs;arg 1;rw[yL]);rw[Option.bind_assoc];rfl)
  |((conv=>lhs;rw[HT]);(conv=>rhs;arg 1;rw[HT]);rw[Option.bind_assoc];rfl)
  |((conv=>lhs;rw[DK]);(conv=>rhs;arg 1;rw[DK]);rw[Option.bind_assoc];rfl)
  |((conv=>lhs;rw[HU]);(conv=>rhs;arg 1;rw[HU]);rw[Option.bind_assoc];rfl)
  |((conv=>lhs;rw[sJ]);(conv=>rhs;arg 1;rw[sJ]);rw[Option.bind_assoc];rfl)
  |((conv=>lhs;rw[oP]);(conv=>rhs;arg 1;rw[oP]);rw[Option.bind_assoc];rfl)
  |((conv=>lhs;rw[wG]);(conv=>rhs;arg 1;rw[wG]);rw[Option.bind_assoc];rfl)
  |((conv=>lhs;rw[iw]);(conv=>rhs;arg 1;rw[iw]);rw[Option.bind_assoc];rfl)
  |((conv=>lhs;rw[ul]);(conv=>rhs;arg 1;rw[ul]);rw[Option.bind_assoc];rfl)
  |((conv=>lhs;rw[sK]);(conv=>rhs;arg 1;rw[sK]);rw[Option.bind_assoc];rfl)
  |((conv=>lhs;rw[oR]);(conv=>rhs;arg 1;rw[oR]);rw[Option.bind_assoc];rfl)
  |((conv=>lhs;rw[um]);(conv=>rhs;arg 1;rw[um]);rw[Option.bind_assoc];rfl)
  |((conv=>lhs;rw[oS]);(conv=>rhs;arg 1;rw[oS]);rw[Option.bind_assoc];rfl)
  |((conv=>lhs;rw[mg]);(conv=>rhs;arg 1;rw[mg]);rw[Option.bind_assoc];rfl)
  |((conv=>lhs;rw[oQ]);(conv=>rhs;arg 1;rw[oQ]);rw[Option.bind_assoc];rfl)
  |((conv=>lhs;rw[iv]);(conv=>rhs;arg 1;rw[iv]);rw[Option.bind_assoc];rfl)
  |((conv=>lhs;rw[gb]);(conv=>rhs;arg 1;rw[gb]);rw[Option.bind_assoc];rfl)
  |exact ut _ _ _ _ _ _|exact NU _ _ _ _ _ _|skip
end Go.Ps
