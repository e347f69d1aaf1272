import Derived.Test.YtijpmnicihmoaaaGreatDoorPsOa
namespace Go.Ps
set_option linter.unusedVariables false
variable {C:cr} {R:Type}
theorem cX {α β:Type} (c:Bool) (x y:Option α) (k:α→Option β):(bif c then x else y).bind k=bif c then x.bind k else y.bind k:=by cases c<;>rfl
theorem cV {β:Type} (c:Bool) (x x' y y':Option β) (h:x=x') (h':y=y'):(bif c then x else y)=bif c then x' else y':=by rw[h,h']
abbrev fV {α β:Type}:α→β→Option (α×β):=fun x y=>some (x,y)
abbrev un2 {α β γ:Type} (k:α→β→γ):α×β→γ:=fun p=>k p.1 p.2
abbrev jF {α β γ:Type}:α→β→γ→Option (α×β×γ):=fun x y z=>some (x,y,z)
abbrev IE {α β γ δ:Type} (k:α→β→γ→δ):α×β×γ→δ:=fun p=>k p.1 p.2.1 p.2.2
theorem KF (op:BinOp) (a:IntKind) (m n:Int) (k:PV→Option R):Cl op a m n k=(Cl op a m n some).bind k:=by
 cases op<;>simp only[Cl]<;>(repeat' (first|rfl|(simp only[cX];apply cV)|split))
theorem FW (op:BinOp) (x y:PV) (k:PV→Option R):uQ op x y k=(uQ op x y some).bind k:=by
 cases x<;>cases y<;>try rfl
 case int.int a m b n=>
  simp only[uQ]
  split
  ·(repeat' (first|rfl|(simp only[cX];apply cV)|split))
  ·(repeat' (first|rfl|(simp only[cX];apply cV)|split))
  ·split
   ·rfl
   ·exact KF op a m n k
 case str.str a b=>simp only[uQ];(repeat' (first|rfl|(simp only[cX];apply cV)|split))
theorem AP (op:BinOp) (t:TypeId) (x y:Bool) (k:PV→Option R):tx C op t x y k=(tx C op t x y some).bind k:=by
 unfold tx;(repeat' (first|rfl|(simp only[cX];apply cV)|split))
theorem Kd (op:BinOp) (t:TypeId) (x y:List PV) (k:PV→Option R):Qr C op t x y k=(Qr C op t x y some).bind k:=by
 unfold Qr;(repeat' (first|rfl|(simp only[cX];apply cV)|split))
theorem Ke (op:UnOp) (x:PV) (k:PV→Option R):KK op x k=(KK op x some).bind k:=by
 unfold KK;(repeat' (first|rfl|(simp only[cX];apply cV)|split))
theorem AQ (c a b:SV) (k:SV→Option R):tw c a b k=(tw c a b some).bind k:=by
 unfold tw;(repeat' (first|rfl|(simp only[cX];apply cV)|split))
theorem IW (s:St) (id:Nat) (I:TI) (p:PV) (k:SV→List cc→Option R):qo s id I p k=(qo s id I p fV).bind (un2 k):=by
 unfold qo so;(repeat' (first|rfl|(simp only[cX];apply cV)|split))
theorem uH (s:St) (id:Nat) (t:TypeId) (p:PV) (k:SV→List cc→Option R):lm C s id t p k=(lm C s id t p fV).bind (un2 k):=by
 unfold lm
 split
 ·split
  ·unfold so;(repeat' (first|rfl|(simp only[cX];apply cV)|split))
  ·exact IW _ _ _ _ _
 ·rfl
theorem qa (s:St) (t:TypeId) (p:PV) (x:SV) (k:List cc→List Nat→Option R):ig C s t p x k=(ig C s t p x fV).bind (un2 k):=by
 unfold ig;(repeat' (first|rfl|(simp only[cX];apply cV)|split))
theorem yF (s:St) (t:TypeId) (x:PV) (k:PV→Option R):sq C s t x k=(sq C s t x some).bind k:=by
 unfold sq;(repeat' (first|rfl|(simp only[cX];apply cV)|split))
theorem ni (s:St) (id:Nat) (sl:TypeId) (x y:PV) (k:PV→List cc→Option R):ej C s id sl x y k=(ej C s id sl x y fV).bind (un2 k):=by
 unfold ej cY;(repeat' (first|rfl|(simp only[cX];apply cV)|split))
theorem qb (s:St) (t:TypeId) (x:PV) (lo hi:Option PV) (k:PV→List cc→Option R):ii C s t x lo hi k=(ii C s t x lo hi fV).bind (un2 k):=by
 unfold ii jp;(repeat' (first|rfl|(simp only[cX];apply cV)|split))
theorem uI (s:St) (src dst:TypeId) (x:PV) (k:PV→Option R):lr C s src dst x k=(lr C s src dst x some).bind k:=by
 unfold lr;(repeat' (first|rfl|(simp only[cX];apply cV)|split))
theorem qc (s:St) (id:Nat) (src dst:TypeId) (x:PV) (k:PV→List cc→Option R):ij C s id src dst x k=(ij C s id src dst x fV).bind (un2 k):=by
 unfold ij cY;(repeat' (first|rfl|(simp only[cX];apply cV)|split))
theorem ji (s:St) (id:Nat) (t:TypeId) (n:PV) (k:PV→List cc→Option R):cU C s id t n k=(cU C s id t n fV).bind (un2 k):=by
 unfold cU cY;(repeat' (first|rfl|(simp only[cX];apply cV)|split))
theorem jj (s:St) (t:TypeId) (x i:PV) (k:PV→Option R):cH C s t x i k=(cH C s t x i some).bind k:=by
 unfold cH;(repeat' (first|rfl|(simp only[cX];apply cV)|split))
theorem wq (t:TypeId) (x:SV) (i:PV) (k:SV→Option R):lR C t x i k=(lR C t x i some).bind k:=by
 unfold lR so;(repeat' (first|rfl|(simp only[cX];apply cV)|split))
theorem qd (x:SV) (i:Nat) (k:SV→Option R):iR x i k=(iR x i some).bind k:=by
 unfold iR;(repeat' (first|rfl|(simp only[cX];apply cV)|split))
theorem wr (t:TypeId) (ps:List (Nat×SV)) (k:List PV→Option R):ns C t ps k=(ns C t ps some).bind k:=by
 unfold ns;(repeat' (first|rfl|(simp only[cX];apply cV)|split))
theorem gY (s:St) (f:FuncId) (xs:List SV) (k:PV→List cc→List Nat→Option R):dP C s f xs k=(dP C s f xs jF).bind (IE k):=by
 unfold dP;(repeat' (first|rfl|(simp only[cX];apply cV)|split))
def ws (C:cr) (id:Nat) (s:St) (g:Nat) (sg:jL) (A:Ar) (r:C.Res g):Option (SV×List cc×List Nat):=
 match aY id (C.resTy g) sg.resFl r 0 with
 |(cs,new,j)=>match wQ sg.res cs,bx cs ((sg.res.map (·.1.size)).foldr (· + ·) 0)with
  |some x,some back=>bif Nat.ble j 32&&gC s new&&dF (new.map (·.1))&&dF (aZ back)then
    match eY s new A.bk back with
    |some us=>some (x,(bif (C.resTy g).shares sg.resFl then A.V.map .frz else[])++((A.U++A.P).map (.set · .dead)++cT new)++us,A.V)
    |none=>none
   else none
  |_,_=>none
def AR (C:cr) (g:Nat) (sg:jL) (A:Ar):Bool:=dF (A.U++A.P)&&ik (A.U++A.P) A.V&&(!(C.resTy g).shares sg.resFl||AW A.V)&&dF (qp A.bk)&&(qp A.bk).all (fun i=>(A.U++A.P).any (Nat.beq i))
theorem mh (env:C.Env) (id:Nat) (s:St) (g:Nat) (sg:jL) (A:Ar) (k:SV→List cc→List Nat→Option R):
  oe C env id s g sg A k=bif AR C g sg A then(env g A.as).bind fun r=>(ws C id s g sg A r).bind (IE k)else none:=by
 unfold oe
 refine cV _ _ _ _ _ (congrArg _ (funext fun r=> ?_)) rfl
 rw[FE]
 unfold ws
 generalize aY id (C.resTy g) sg.resFl r 0=q
 obtain⟨cs,new,j⟩:=q
 simp only[]
 cases wQ sg.res cs with
 |none=>rfl
 |some x=>
  cases bx cs ((sg.res.map (·.1.size)).foldr (· + ·) 0)with
  |none=>rfl
  |some back=>
   simp only[]
   rw[cX]
   refine cV _ _ _ _ _ ?_ rfl
   cases eY s new A.bk back<;>rfl
def wt (C:cr) (s:St) (xs:List SV):List Nat→Option (Nat×jL×Ar)
 | []=>none
 |g::gs=>match C.sig g with
  |some sg=>match cM s sg.params xs with
   |some A=>some (g,sg,A)
   |none=>wt C s xs gs
  |none=>wt C s xs gs
theorem oV (env:C.Env) (id:Nat) (s:St) (xs:List SV) (k:SV→List cc→List Nat→Option R):∀gs,ki C env id s xs k gs=(wt C s xs gs).bind fun p=>oe C env id s p.1 p.2.1 p.2.2 k
 | []=>rfl
 |g::gs=>by
  have ih:=oV env id s xs k gs
  simp only[ki,wt]
  cases hs:C.sig g with
  |none=>exact ih
  |some sg=>
   simp only[]
   cases ha:cM s sg.params xs with
   |none=>exact ih
   |some A=>rfl
theorem FX (env:C.Env) (id:Nat) (s:St) (g:Nat) (sg:jL) (A:Ar) (k:SV→List cc→List Nat→Option R):oe C env id s g sg A k=(oe C env id s g sg A jF).bind (IE k):=by
 rw[mh,mh (k:=jF),cX]
 refine cV _ _ _ _ _ ?_ rfl
 rw[Option.bind_assoc]
 refine congrArg _ (funext fun r=> ?_)
 rw[Option.bind_assoc]
 rfl
theorem wu (env:C.Env) (id:Nat) (s:St) (f:FuncId) (xs:List SV) (k:SV→List cc→List Nat→Option R):jH C env id s f xs k=(jH C env id s f xs jF).bind (IE k):=by
 unfold jH
 rw[oV,oV (k:=jF),Option.bind_assoc]
 exact congrArg _ (funext fun p=>FX _ _ _ _ _ _ _)
theorem QB (env:C.Env) (id:Nat) (s:St) (x:SV) (xs:List SV) (k:SV→List cc→List Nat→Option R):IF C env id s x xs k=(IF C env id s x xs jF).bind (IE k):=by
 unfold IF
 split
 ·split
  ·rw[cX]
   exact cV _ _ _ _ _ (wu _ _ _ _ _ _) rfl
  ·rfl
 ·rfl
theorem Kf (env:C.Env) (id:Nat) (op:Op) (s:St) (k:SV→List cc→List Nat→Option R):y6 C env id op s k=(y6 C env id op s jF).bind (IE k):=by
 cases op<;>simp only[y6,cY]<;>(repeat' (first|rfl|(simp only[cX];apply cV)|split))
 all_goals first
  |((conv=>lhs;rw[AQ]);(conv=>rhs;arg 1;rw[AQ]);rw[Option.bind_assoc];rfl)
  |((conv=>lhs;rw[AP]);(conv=>rhs;arg 1;rw[AP]);rw[Option.bind_assoc];rfl)
  |((conv=>lhs;rw[Kd]);(conv=>rhs;arg 1;rw[Kd]);rw[Option.bind_assoc];rfl)
  |((conv=>lhs;rw[FW]);(conv=>rhs;arg 1;rw[FW]);rw[Option.bind_assoc];rfl)
  |((conv=>lhs;rw[Ke]);(conv=>rhs;arg 1;rw[Ke]);rw[Option.bind_assoc];rfl)
  |((conv=>lhs;rw[uH]);(conv=>rhs;arg 1;rw[uH]);rw[Option.bind_assoc];rfl)
  |((conv=>lhs;rw[qa]);(conv=>rhs;arg 1;rw[qa]);rw[Option.bind_assoc];rfl)
  |((conv=>lhs;rw[yF]);(conv=>rhs;arg 1;rw[yF]);rw[Option.bind_assoc];rfl)
  |((conv=>lhs;rw[jj]);(conv=>rhs;arg 1;rw[jj]);rw[Option.bind_assoc];rfl)
  |((conv=>lhs;rw[wq]);(conv=>rhs;arg 1;rw[wq]);rw[Option.bind_assoc];rfl)
  |((conv=>lhs;rw[uI]);(conv=>rhs;arg 1;rw[uI]);rw[Option.bind_assoc];rfl)
  |((conv=>lhs;rw[qc]);(conv=>rhs;arg 1;rw[qc]);rw[Option.bind_assoc];rfl)
  |((conv=>lhs;rw[wr]);(conv=>rhs;arg 1;rw[wr]);rw[Option.bind_assoc];rfl)
  |((conv=>lhs;rw[qd]);(conv=>rhs;arg 1;rw[qd]);rw[Option.bind_assoc];rfl)
  |((conv=>lhs;rw[ni]);(conv=>rhs;arg 1;rw[ni]);rw[Option.bind_assoc];rfl)
  |((conv=>lhs;rw[qb]);(conv=>rhs;arg 1;rw[qb]);rw[Option.bind_assoc];rfl)
  |((conv=>lhs;rw[ji]);(conv=>rhs;arg 1;rw[ji]);rw[Option.bind_assoc];rfl)
  |((conv=>lhs;rw[gY]);(conv=>rhs;arg 1;rw[gY]);rw[Option.bind_assoc];rfl)
  |exact wu _ _ _ _ _ _|exact QB _ _ _ _ _ _|skip
end Go.Ps
