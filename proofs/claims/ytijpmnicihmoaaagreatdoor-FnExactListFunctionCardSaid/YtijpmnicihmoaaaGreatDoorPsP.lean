import Derived.Test.YtijpmnicihmoaaaGreatDoorPsOa
namespace Go.Ps
set_option linter.unusedVariables false
variable {C:co} {R:Type}
theorem cW {α β:Type} (c:Bool) (x y:Option α) (k:α→Option β):(bif c then x else y).bind k=bif c then x.bind k else y.bind k:=by cases c<;>rfl
theorem cT {β:Type} (c:Bool) (x x' y y':Option β) (h:x=x') (h':y=y'):(bif c then x else y)=bif c then x' else y':=by rw[h,h']
abbrev fW {α β:Type}:α→β→Option (α×β):=fun x y=>some (x,y)
abbrev un2 {α β γ:Type} (k:α→β→γ):α×β→γ:=fun p=>k p.1 p.2
abbrev jI {α β γ:Type}:α→β→γ→Option (α×β×γ):=fun x y z=>some (x,y,z)
abbrev IE {α β γ δ:Type} (k:α→β→γ→δ):α×β×γ→δ:=fun p=>k p.1 p.2.1 p.2.2
theorem Kz (op:BinOp) (a:IntKind) (m n:Int) (k:PV→Option R):Cn op a m n k=(Cn op a m n some).bind k:=by
 cases op<;>simp only[Cn]<;>(repeat' (first|rfl|(simp only[cW];apply cT)|split))
theorem FZ (op:BinOp) (x y:PV) (k:PV→Option R):uK op x y k=(uK op x y some).bind k:=by
 cases x<;>cases y<;>try rfl
 case int.int a m b n=>
  simp only[uK]
  split
  ·(repeat' (first|rfl|(simp only[cW];apply cT)|split))
  ·(repeat' (first|rfl|(simp only[cW];apply cT)|split))
  ·split
   ·rfl
   ·exact Kz op a m n k
 case str.str a b=>simp only[uK];(repeat' (first|rfl|(simp only[cW];apply cT)|split))
theorem AU (op:BinOp) (t:TypeId) (x y:Bool) (k:PV→Option R):tr C op t x y k=(tr C op t x y some).bind k:=by
 unfold tr;(repeat' (first|rfl|(simp only[cW];apply cT)|split))
theorem J9 (op:BinOp) (t:TypeId) (x y:List PV) (k:PV→Option R):Qc C op t x y k=(Qc C op t x y some).bind k:=by
 unfold Qc;(repeat' (first|rfl|(simp only[cW];apply cT)|split))
theorem Ka (op:UnOp) (x:PV) (k:PV→Option R):KE op x k=(KE op x some).bind k:=by
 unfold KE;(repeat' (first|rfl|(simp only[cW];apply cT)|split))
theorem AV (c a b:SV) (k:SV→Option R):tq c a b k=(tq c a b some).bind k:=by
 unfold tq;(repeat' (first|rfl|(simp only[cW];apply cT)|split))
theorem IV (s:St) (id:Nat) (I:TI) (p:PV) (k:SV→List ca→Option R):qn s id I p k=(qn s id I p fW).bind (un2 k):=by
 unfold qn sr;(repeat' (first|rfl|(simp only[cW];apply cT)|split))
theorem uB (s:St) (id:Nat) (t:TypeId) (p:PV) (k:SV→List ca→Option R):lm C s id t p k=(lm C s id t p fW).bind (un2 k):=by
 unfold lm
 split
 ·split
  ·unfold sr;(repeat' (first|rfl|(simp only[cW];apply cT)|split))
  ·exact IV _ _ _ _ _
 ·rfl
theorem p9 (s:St) (t:TypeId) (p:PV) (x:SV) (k:List ca→List Nat→Option R):ig C s t p x k=(ig C s t p x fW).bind (un2 k):=by
 unfold ig;(repeat' (first|rfl|(simp only[cW];apply cT)|split))
theorem yC (s:St) (t:TypeId) (x:PV) (k:PV→Option R):ss C s t x k=(ss C s t x some).bind k:=by
 unfold ss;(repeat' (first|rfl|(simp only[cW];apply cT)|split))
theorem nh (s:St) (id:Nat) (sl:TypeId) (x y:PV) (k:PV→List ca→Option R):ei C s id sl x y k=(ei C s id sl x y fW).bind (un2 k):=by
 unfold ei cX;(repeat' (first|rfl|(simp only[cW];apply cT)|split))
theorem qa (s:St) (t:TypeId) (x:PV) (lo hi:Option PV) (k:PV→List ca→Option R):ii C s t x lo hi k=(ii C s t x lo hi fW).bind (un2 k):=by
 unfold ii jo;(repeat' (first|rfl|(simp only[cW];apply cT)|split))
theorem uC (s:St) (src dst:TypeId) (x:PV) (k:PV→Option R):lr C s src dst x k=(lr C s src dst x some).bind k:=by
 unfold lr;(repeat' (first|rfl|(simp only[cW];apply cT)|split))
theorem qb (s:St) (id:Nat) (src dst:TypeId) (x:PV) (k:PV→List ca→Option R):ij C s id src dst x k=(ij C s id src dst x fW).bind (un2 k):=by
 unfold ij cX;(repeat' (first|rfl|(simp only[cW];apply cT)|split))
theorem jh (s:St) (id:Nat) (t:TypeId) (n:PV) (k:PV→List ca→Option R):cR C s id t n k=(cR C s id t n fW).bind (un2 k):=by
 unfold cR cX;(repeat' (first|rfl|(simp only[cW];apply cT)|split))
theorem ji (s:St) (t:TypeId) (x i:PV) (k:PV→Option R):cD C s t x i k=(cD C s t x i some).bind k:=by
 unfold cD;(repeat' (first|rfl|(simp only[cW];apply cT)|split))
theorem wq (t:TypeId) (x:SV) (i:PV) (k:SV→Option R):lR C t x i k=(lR C t x i some).bind k:=by
 unfold lR sr;(repeat' (first|rfl|(simp only[cW];apply cT)|split))
theorem qc (x:SV) (i:Nat) (k:SV→Option R):iQ x i k=(iQ x i some).bind k:=by
 unfold iQ;(repeat' (first|rfl|(simp only[cW];apply cT)|split))
theorem wr (t:TypeId) (ps:List (Nat×SV)) (k:List PV→Option R):nr C t ps k=(nr C t ps some).bind k:=by
 unfold nr;(repeat' (first|rfl|(simp only[cW];apply cT)|split))
theorem gX (s:St) (f:FuncId) (xs:List SV) (k:PV→List ca→List Nat→Option R):dN C s f xs k=(dN C s f xs jI).bind (IE k):=by
 unfold dN;(repeat' (first|rfl|(simp only[cW];apply cT)|split))
def ws (C:co) (id:Nat) (s:St) (g:Nat) (sg:jO) (A:Ar) (r:C.Res g):Option (SV×List ca×List Nat):=
 match aX id (C.resTy g) sg.resFl r 0 with
 |(cs,new,j)=>match wQ sg.res cs,bu cs ((sg.res.map (·.1.size)).foldr (· + ·) 0)with
  |some x,some back=>bif Nat.ble j 32&&gE s new&&dE (new.map (·.1))&&dE (aZ back)then
    match fe s new A.bk back with
    |some us=>some (x,(bif (C.resTy g).shares sg.resFl then A.V.map .frz else[])++((A.U++A.P).map (.set · .dead)++cQ new)++us,A.V)
    |none=>none
   else none
  |_,_=>none
def AW (C:co) (g:Nat) (sg:jO) (A:Ar):Bool:=dE (A.U++A.P)&&ik (A.U++A.P) A.V&&(!(C.resTy g).shares sg.resFl||A3 A.V)&&dE (qo A.bk)&&(qo A.bk).all (fun i=>(A.U++A.P).any (Nat.beq i))
theorem mg (env:C.Env) (id:Nat) (s:St) (g:Nat) (sg:jO) (A:Ar) (k:SV→List ca→List Nat→Option R):
  od C env id s g sg A k=bif AW C g sg A then(env g A.as).bind fun r=>(ws C id s g sg A r).bind (IE k)else none:=by
 unfold od
 refine cT _ _ _ _ _ (congrArg _ (funext fun r=> ?_)) rfl
 rw[FH]
 unfold ws
 generalize aX id (C.resTy g) sg.resFl r 0=q
 obtain⟨cs,new,j⟩:=q
 simp only[]
 cases wQ sg.res cs with
 |none=>rfl
 |some x=>
  cases bu cs ((sg.res.map (·.1.size)).foldr (· + ·) 0)with
  |none=>rfl
  |some back=>
   simp only[]
   rw[cW]
   refine cT _ _ _ _ _ ?_ rfl
   cases fe s new A.bk back<;>rfl
def wt (C:co) (s:St) (xs:List SV):List Nat→Option (Nat×jO×Ar)
 | []=>none
 |g::gs=>match C.sig g with
  |some sg=>match cJ s sg.params xs with
   |some A=>some (g,sg,A)
   |none=>wt C s xs gs
  |none=>wt C s xs gs
theorem oS (env:C.Env) (id:Nat) (s:St) (xs:List SV) (k:SV→List ca→List Nat→Option R):∀gs,km C env id s xs k gs=(wt C s xs gs).bind fun p=>od C env id s p.1 p.2.1 p.2.2 k
 | []=>rfl
 |g::gs=>by
  have ih:=oS env id s xs k gs
  simp only[km,wt]
  cases hs:C.sig g with
  |none=>exact ih
  |some sg=>
   simp only[]
   cases ha:cJ s sg.params xs with
   |none=>exact ih
   |some A=>rfl
theorem F2 (env:C.Env) (id:Nat) (s:St) (g:Nat) (sg:jO) (A:Ar) (k:SV→List ca→List Nat→Option R):od C env id s g sg A k=(od C env id s g sg A jI).bind (IE k):=by
 rw[mg,mg (k:=jI),cW]
 refine cT _ _ _ _ _ ?_ rfl
 rw[Option.bind_assoc]
 refine congrArg _ (funext fun r=> ?_)
 rw[Option.bind_assoc]
 rfl
theorem wu (env:C.Env) (id:Nat) (s:St) (f:FuncId) (xs:List SV) (k:SV→List ca→List Nat→Option R):jK C env id s f xs k=(jK C env id s f xs jI).bind (IE k):=by
 unfold jK
 rw[oS,oS (k:=jI),Option.bind_assoc]
 exact congrArg _ (funext fun p=>F2 _ _ _ _ _ _ _)
theorem Qq (env:C.Env) (id:Nat) (s:St) (x:SV) (xs:List SV) (k:SV→List ca→List Nat→Option R):IF C env id s x xs k=(IF C env id s x xs jI).bind (IE k):=by
 unfold IF
 split
 ·split
  ·rw[cW]
   exact cT _ _ _ _ _ (wu _ _ _ _ _ _) rfl
  ·rfl
 ·rfl
theorem Kb (env:C.Env) (id:Nat) (op:Op) (s:St) (k:SV→List ca→List Nat→Option R):yX C env id op s k=(yX C env id op s jI).bind (IE k):=by
 cases op<;>simp only[yX,cX]<;>(repeat' (first|rfl|(simp only[cW];apply cT)|split))
 all_goals first
  |((conv=>lhs;rw[AV]);(conv=>rhs;arg 1;rw[AV]);rw[Option.bind_assoc];rfl)
  |((conv=>lhs;rw[AU]);(conv=>rhs;arg 1;rw[AU]);rw[Option.bind_assoc];rfl)
  |((conv=>lhs;rw[J9]);(conv=>rhs;arg 1;rw[J9]);rw[Option.bind_assoc];rfl)
  |((conv=>lhs;rw[FZ]);(conv=>rhs;arg 1;rw[FZ]);rw[Option.bind_assoc];rfl)
  |((conv=>lhs;rw[Ka]);(conv=>rhs;arg 1;rw[Ka]);rw[Option.bind_assoc];rfl)
  |((conv=>lhs;rw[uB]);(conv=>rhs;arg 1;rw[uB]);rw[Option.bind_assoc];rfl)
  |((conv=>lhs;rw[p9]);(conv=>rhs;arg 1;rw[p9]);rw[Option.bind_assoc];rfl)
  |((conv=>lhs;rw[yC]);(conv=>rhs;arg 1;rw[yC]);rw[Option.bind_assoc];rfl)
  |((conv=>lhs;rw[ji]);(conv=>rhs;arg 1;rw[ji]);rw[Option.bind_assoc];rfl)
  |((conv=>lhs;rw[wq]);(conv=>rhs;arg 1;rw[wq]);rw[Option.bind_assoc];rfl)
  |((conv=>lhs;rw[uC]);(conv=>rhs;arg 1;rw[uC]);rw[Option.bind_assoc];rfl)
  |((conv=>lhs;rw[qb]);(conv=>rhs;arg 1;rw[qb]);rw[Option.bind_assoc];rfl)
  |((conv=>lhs;rw[wr]);(conv=>rhs;arg 1;rw[wr]);rw[Option.bind_assoc];rfl)
  |((conv=>lhs;rw[qc]);(conv=>rhs;arg 1;rw[qc]);rw[Option.bind_assoc];rfl)
  |((conv=>lhs;rw[nh]);(conv=>rhs;arg 1;rw[nh]);rw[Option.bind_assoc];rfl)
  |((conv=>lhs;rw[qa]);(conv=>rhs;arg 1;rw[qa]);rw[Option.bind_assoc];rfl)
  |((conv=>lhs;rw[jh]);(conv=>rhs;arg 1;rw[jh]);rw[Option.bind_assoc];rfl)
  |((conv=>lhs;rw[gX]);(conv=>rhs;arg 1;rw[gX]);rw[Option.bind_assoc];rfl)
  |exact wu _ _ _ _ _ _|exact Qq _ _ _ _ _ _|skip
end Go.Ps
