import Derived.Test.YtpnefldgohbepaaGreatPsOa
namespace Go.Ps
set_option linter.unusedVariables false
variable {C:cv} {R:Type}
theorem db {α β:Type} (c:Bool) (x y:Option α) (k:α→Option β):(bif c then x else y).bind k=bif c then x.bind k else y.bind k:=by cases c<;>rfl
theorem c9 {β:Type} (c:Bool) (x x' y y':Option β) (h:x=x') (h':y=y'):(bif c then x else y)=bif c then x' else y':=by rw[h,h']
abbrev gm {α β:Type}:α→β→Option (α×β):=fun x y=>some (x,y)
abbrev un2 {α β γ:Type} (k:α→β→γ):α×β→γ:=fun p=>k p.1 p.2
abbrev jY {α β γ:Type}:α→β→γ→Option (α×β×γ):=fun x y z=>some (x,y,z)
abbrev JG {α β γ δ:Type} (k:α→β→γ→δ):α×β×γ→δ:=fun p=>k p.1 p.2.1 p.2.2
theorem LS (op:BinOp) (a:IntKind) (m n:Int) (k:PV→Option R):Dg op a m n k=(Dg op a m n some).bind k:=by
 cases op<;>simp only[Dg]<;>(repeat' (first|rfl|(simp only[db];apply c9)|split))
theorem GY (op:BinOp) (x y:PV) (k:PV→Option R):vv op x y k=(vv op x y some).bind k:=by
 cases x<;>cases y<;>try rfl
 case int.int a m b n=>
  simp only[vv]
  split
  ·(repeat' (first|rfl|(simp only[db];apply c9)|split))
  ·(repeat' (first|rfl|(simp only[db];apply c9)|split))
  ·split
   ·rfl
   ·exact LS op a m n k
 case str.str a b=>simp only[vv];(repeat' (first|rfl|(simp only[db];apply c9)|split))
theorem BI (op:BinOp) (t:TypeId) (x y:Bool) (k:PV→Option R):t4 C op t x y k=(t4 C op t x y some).bind k:=by
 unfold t4;(repeat' (first|rfl|(simp only[db];apply c9)|split))
theorem Lh (op:BinOp) (t:TypeId) (x y:List PV) (k:PV→Option R):R8 C op t x y k=(R8 C op t x y some).bind k:=by
 unfold R8;(repeat' (first|rfl|(simp only[db];apply c9)|split))
theorem Li (op:UnOp) (x:PV) (k:PV→Option R):LX op x k=(LX op x some).bind k:=by
 unfold LX;(repeat' (first|rfl|(simp only[db];apply c9)|split))
theorem BJ (c a b:SV) (k:SV→Option R):tZ c a b k=(tZ c a b some).bind k:=by
 unfold tZ;(repeat' (first|rfl|(simp only[db];apply c9)|split))
theorem JZ (s:St) (id:Nat) (I:TI) (p:PV) (k:SV→List cj→Option R):qX s id I p k=(qX s id I p gm).bind (un2 k):=by
 unfold qX s9;(repeat' (first|rfl|(simp only[db];apply c9)|split))
theorem vh (s:St) (id:Nat) (t:TypeId) (p:PV) (k:SV→List cj→Option R):lO C s id t p k=(lO C s id t p gm).bind (un2 k):=by
 unfold lO
 split
 ·split
  ·unfold s9;(repeat' (first|rfl|(simp only[db];apply c9)|split))
  ·exact JZ _ _ _ _ _
 ·rfl
theorem qJ (s:St) (t:TypeId) (p:PV) (x:SV) (k:List cj→List Nat→Option R):iF C s t p x k=(iF C s t p x gm).bind (un2 k):=by
 unfold iF;(repeat' (first|rfl|(simp only[db];apply c9)|split))
theorem zk (s:St) (t:TypeId) (x:PV) (k:PV→Option R):tb C s t x k=(tb C s t x some).bind k:=by
 unfold tb;(repeat' (first|rfl|(simp only[db];apply c9)|split))
theorem nP (s:St) (id:Nat) (sl:TypeId) (x y:PV) (k:PV→List cj→Option R):eJ C s id sl x y k=(eJ C s id sl x y gm).bind (un2 k):=by
 unfold eJ dc;(repeat' (first|rfl|(simp only[db];apply c9)|split))
theorem qK (s:St) (t:TypeId) (x:PV) (lo hi:Option PV) (k:PV→List cj→Option R):iG C s t x lo hi k=(iG C s t x lo hi gm).bind (un2 k):=by
 unfold iG jD;(repeat' (first|rfl|(simp only[db];apply c9)|split))
theorem vj (s:St) (src dst:TypeId) (x:PV) (k:PV→Option R):lQ C s src dst x k=(lQ C s src dst x some).bind k:=by
 unfold lQ;(repeat' (first|rfl|(simp only[db];apply c9)|split))
theorem qL (s:St) (id:Nat) (src dst:TypeId) (x:PV) (k:PV→List cj→Option R):iH C s id src dst x k=(iH C s id src dst x gm).bind (un2 k):=by
 unfold iH dc;(repeat' (first|rfl|(simp only[db];apply c9)|split))
theorem jx (s:St) (id:Nat) (t:TypeId) (n:PV) (k:PV→List cj→Option R):cZ C s id t n k=(cZ C s id t n gm).bind (un2 k):=by
 unfold cZ dc;(repeat' (first|rfl|(simp only[db];apply c9)|split))
theorem jy (s:St) (t:TypeId) (x i:PV) (k:PV→Option R):cK C s t x i k=(cK C s t x i some).bind k:=by
 unfold cK;(repeat' (first|rfl|(simp only[db];apply c9)|split))
theorem wK (t:TypeId) (x:SV) (i:PV) (k:SV→Option R):mo C t x i k=(mo C t x i some).bind k:=by
 unfold mo s9;(repeat' (first|rfl|(simp only[db];apply c9)|split))
theorem qM (x:SV) (i:Nat) (k:SV→Option R):jf x i k=(jf x i some).bind k:=by
 unfold jf;(repeat' (first|rfl|(simp only[db];apply c9)|split))
theorem wL (t:TypeId) (ps:List (Nat×SV)) (k:List PV→Option R):nV C t ps k=(nV C t ps some).bind k:=by
 unfold nV;(repeat' (first|rfl|(simp only[db];apply c9)|split))
theorem ik (s:St) (f:FuncId) (xs:List SV) (k:PV→List cj→List Nat→Option R):d7 C s f xs k=(d7 C s f xs jY).bind (JG k):=by
 unfold d7;(repeat' (first|rfl|(simp only[db];apply c9)|split))
def wM (C:cv) (id:Nat) (s:St) (g:Nat) (sg:ki) (A:Ar) (r:C.Res g):Option (SV×List cj×List Nat):=
 match aZ id (C.resTy g) sg.resFl r 0 with
 |(cs,new,j)=>match xg sg.res cs,bA cs ((sg.res.map (·.1.size)).foldr (· + ·) 0)with
  |some x,some back=>bif Nat.ble j 32&&gP s new&&dP (new.map (·.1))&&dP (a7 back)then
    match fy s new A.bk back with
    |some us=>some (x,(bif (C.resTy g).shares sg.resFl then A.V.map .frz else[])++((A.U++A.P).map (.set · .dead)++cY new)++us,A.V)
    |none=>none
   else none
  |_,_=>none
def BK (C:cv) (g:Nat) (sg:ki) (A:Ar):Bool:=dP (A.U++A.P)&&iI (A.U++A.P) A.V&&(!(C.resTy g).shares sg.resFl||BR A.V)&&dP (qY A.bk)&&(qY A.bk).all (fun i=>(A.U++A.P).any (Nat.beq i))
theorem mM (env:C.Env) (id:Nat) (s:St) (g:Nat) (sg:ki) (A:Ar) (k:SV→List cj→List Nat→Option R):
  oP C env id s g sg A k=bif BK C g sg A then(env g A.as).bind fun r=>(wM C id s g sg A r).bind (JG k)else none:=by
 unfold oP
 refine c9 _ _ _ _ _ (congrArg _ (funext fun r=> ?_)) rfl
 rw[GH]
 unfold wM
 generalize aZ id (C.resTy g) sg.resFl r 0=q
 obtain⟨cs,new,j⟩:=q
 simp only[]
 cases xg sg.res cs with
 |none=>rfl
 |some x=>
  cases bA cs ((sg.res.map (·.1.size)).foldr (· + ·) 0)with
  |none=>rfl
  |some back=>
   simp only[]
   rw[db]
   refine c9 _ _ _ _ _ ?_ rfl
   cases fy s new A.bk back<;>rfl
def wN (C:cv) (s:St) (xs:List SV):List Nat→Option (Nat×ki×Ar)
 | []=>none
 |g::gs=>match C.sig g with
  |some sg=>match cQ s sg.params xs with
   |some A=>some (g,sg,A)
   |none=>wN C s xs gs
  |none=>wN C s xs gs
theorem pH (env:C.Env) (id:Nat) (s:St) (xs:List SV) (k:SV→List cj→List Nat→Option R):∀gs,kF C env id s xs k gs=(wN C s xs gs).bind fun p=>oP C env id s p.1 p.2.1 p.2.2 k
 | []=>rfl
 |g::gs=>by
  have ih:=pH env id s xs k gs
  simp only[kF,wN]
  cases hs:C.sig g with
  |none=>exact ih
  |some sg=>
   simp only[]
   cases ha:cQ s sg.params xs with
   |none=>exact ih
   |some A=>rfl
theorem GZ (env:C.Env) (id:Nat) (s:St) (g:Nat) (sg:ki) (A:Ar) (k:SV→List cj→List Nat→Option R):oP C env id s g sg A k=(oP C env id s g sg A jY).bind (JG k):=by
 rw[mM,mM (k:=jY),db]
 refine c9 _ _ _ _ _ ?_ rfl
 rw[Option.bind_assoc]
 refine congrArg _ (funext fun r=> ?_)
 rw[Option.bind_assoc]
 rfl
theorem wO (env:C.Env) (id:Nat) (s:St) (f:FuncId) (xs:List SV) (k:SV→List cj→List Nat→Option R):ke C env id s f xs k=(ke C env id s f xs jY).bind (JG k):=by
 unfold ke
 rw[pH,pH (k:=jY),Option.bind_assoc]
 exact congrArg _ (funext fun p=>GZ _ _ _ _ _ _ _)
theorem So (env:C.Env) (id:Nat) (s:St) (x:SV) (xs:List SV) (k:SV→List cj→List Nat→Option R):JH C env id s x xs k=(JH C env id s x xs jY).bind (JG k):=by
 unfold JH
 split
 ·split
  ·rw[db]
   exact c9 _ _ _ _ _ (wO _ _ _ _ _ _) rfl
  ·rfl
 ·rfl
theorem Lj (env:C.Env) (id:Nat) (op:Op) (s:St) (k:SV→List cj→List Nat→Option R):zI C env id op s k=(zI C env id op s jY).bind (JG k):=by
 cases op<;>simp only[zI,dc]<;>(repeat' (first|rfl|(simp only[db];apply c9)|split))
 all_goals first
  |((conv=>lhs;rw[BJ]);(conv=>rhs;arg 1;rw[BJ]);rw[Option.bind_assoc];rfl)
  |((conv=>lhs;rw[BI]);(conv=>rhs;arg 1;rw[BI]);rw[Option.bind_assoc];rfl)
  |((conv=>lhs;rw[Lh]);(conv=>rhs;arg 1;rw[Lh]);rw[Option.bind_assoc];rfl)
  |((conv=>lhs;rw[GY]);(conv=>rhs;arg 1;rw[GY]);rw[Option.bind_assoc];rfl)
  |((conv=>lhs;rw[Li]);(conv=>rhs;arg 1;rw[Li]);rw[Option.bind_assoc];rfl)
  |((conv=>lhs;rw[vh]);(conv=>rhs;arg 1;rw[vh]);rw[Option.bind_assoc];rfl)
  |((conv=>lhs;rw[qJ]);(conv=>rhs;arg 1;rw[qJ]);rw[Option.bind_assoc];rfl)
  |((conv=>lhs;rw[zk]);(conv=>rhs;arg 1;rw[zk]);rw[Option.bind_assoc];rfl)
  |((conv=>lhs;rw[jy]);(conv=>rhs;arg 1;rw[jy]);rw[Option.bind_assoc];rfl)
  |((conv=>lhs;rw[wK]);(conv=>rhs;arg 1;rw[wK]);rw[Option.bind_assoc];rfl)
  |((conv=>lhs;rw[vj]);(conv=>rhs;arg 1;rw[vj]);rw[Option.bind_assoc];rfl)
  |((conv=>lhs;rw[qL]);(conv=>rhs;arg 1;rw[qL]);rw[Option.bind_assoc];rfl)
  |((conv=>lhs;rw[wL]);(conv=>rhs;arg 1;rw[wL]);rw[Option.bind_assoc];rfl)
  |((conv=>lhs;rw[qM]);(conv=>rhs;arg 1;rw[qM]);rw[Option.bind_assoc];rfl)
  |((conv=>lhs;rw[nP]);(conv=>rhs;arg 1;rw[nP]);rw[Option.bind_assoc];rfl)
  |((conv=>lhs;rw[qK]);(conv=>rhs;arg 1;rw[qK]);rw[Option.bind_assoc];rfl)
  |((conv=>lhs;rw[jx]);(conv=>rhs;arg 1;rw[jx]);rw[Option.bind_assoc];rfl)
  |((conv=>lhs;rw[ik]);(conv=>rhs;arg 1;rw[ik]);rw[Option.bind_assoc];rfl)
  |exact wO _ _ _ _ _ _|exact So _ _ _ _ _ _|skip
end Go.Ps
