import Derived.Test.YtfgjcohcpehcjaaGreatSxP
namespace Go.Proofs.YtfgjcohcpehcjaaGreat.S
open Go.Ps
set_option linter.unusedVariables false
set_option maxRecDepth 100000
theorem hY (o:bo) (hz:ObjSz o) (x5 x6:bU) (x8:gJ) (x9 x10:bU) (s:IK) (c:Int) (hc:c≠0):∀k i:Nat,i+k=o.2.2.2.2.1.length→
  ei.c x5 x6 o x8 x9 x10 s c o.2.2.2.2.1 (o.2.2.2.2.1.length:Int) (i:Int)=ei.d x5 x6 x8 x9 x10 s c o.2.2.1 (o.2.2.1.length:Int) 0:=by
 have h1:=hz.r
 intro k
 induction k with
 |zero=>
   intro i h;have:i=o.2.2.2.2.1.length:=by omega
   subst this;rw[ei.c_eq,ap,ai (a9 _),af]
 |succ k ih=>
  intro i h
  have hi:i<o.2.2.2.2.1.length:=by omega
  rw[ei.c_eq,ap,aq,ah hi,au i _ hi (by omega),ai hc,ih (i+1) (by omega)];rfl
abbrev ZL:gJ:=([],[],[],[])
abbrev ZA:bU:=(0,0,0)
theorem zP (t:List eF) (o:bo) (ht:zL t) (ho:eg o) (x5 x6:bU) (x8:gJ) (x9 x10:bU) (a b:bU):∀(k i:Nat) (l:gJ),i+k=o.2.2.2.2.1.length→fM o l→
  ∃l' c,ei.c x5 x6 o x8 x9 x10 (l,t,o) 0 o.2.2.2.2.1 (o.2.2.2.2.1.length:Int) (i:Int)=ei.d x5 x6 x8 x9 x10 (l',t,o) c o.2.2.1 (o.2.2.1.length:Int) 0∧
   (c=0→fM o l'∧(l'.1,l'.2.2.1)=(l.1,l.2.2.1)∧gQ.a t o ZL ZA ZA l a b (i:Int)=gQ.b t o ZL ZA ZA l' a b [] 0)∧(c≠0→gQ.a t o ZL ZA ZA l a b (i:Int)=some (ZL,ZA,ZA,c)):=by
 have h1:=ho.r
 intro k
 induction k with
 |zero=>
  intro i l h hl
  have:i=o.2.2.2.2.1.length:=by omega
  subst this
  rw[ei.c_eq,ap,ai (a9 _),af,gQ.a_eq,ap,ai (a9 _),af]
  exact⟨l,0,rfl,fun _=>⟨hl,rfl,rfl⟩,fun h=>absurd rfl h⟩
 |succ k ih=>
  intro i l h hl
  have hi:i<o.2.2.2.2.1.length:=by omega
  obtain⟨l1,c,e1,e2,hl1,hl2⟩:=wU t o l (rd (τ:=a8) o.2.2.2.2.1 (i:Int)) ht ho hl (zN (ho.rel i hi))
  rw[ei.c_eq,ap,aq,ah hi,au i _ hi (by omega),gQ.a_eq,ap,aq,ah hi,au i _ hi (by omega),e1,e2]
  simp only[ac,decide_true,ae]
  by_cases hc:c=0
  ·subst hc
   obtain⟨l',c',g1,g2,g3⟩:=ih (i+1) l1 (by omega) hl1
   exact⟨l',c',g1,fun h=>⟨(g2 h).1,(g2 h).2.1.trans hl2,(g2 h).2.2⟩,g3⟩
  ·rw[hY o ho.toObjSz x5 x6 x8 x9 x10 (l1,t,o) c hc k (i+1) (by omega),ai hc]
   exact⟨l1,c,rfl,fun h=>absurd h hc,fun _=>rfl⟩
theorem eI (o:bo) (hz:ObjSz o) (x5 x6:bU) (x8:gJ) (x9 x10:bU) (s:IK) (c:Int) (hc:c≠0):∀k i:Nat,i+k=o.2.2.1.length→
  ei.d x5 x6 x8 x9 x10 s c o.2.2.1 (o.2.2.1.length:Int) (i:Int)=some (ZL,ZA,ZA,c):=by
 have h1:=hz.f
 intro k
 induction k with
 |zero=>
   intro i h;have:i=o.2.2.1.length:=by omega
   subst this;rw[ei.d_eq,ap,ai (a9 _),af,ai hc];rfl
 |succ k ih=>
  intro i h
  have hi:i<o.2.2.1.length:=by omega
  rw[ei.d_eq,ap,aq,ah hi,au i _ hi (by omega),ai hc,ih (i+1) (by omega)];rfl
structure GO (t:List eF) (a b:bU) (o:bo) (v:gJ×bU×bU×Int):Prop where
 lnk:fM o v.1
 ea:v.2.1=(dC o a b).2.1
 eb:v.2.2.1=(dC o a b).2.2.1
 ok:(dC o a b).2.2.2=true
 ats:v.1.1=(dC o a b).1.1
 das:v.1.2.2.1=(dC o a b).1.2.2.1
 names:gq t o=0
 dec:∀j:Nat,j<o.2.2.1.length→xO (rd (τ:= .str) v.1.2.1 (j:Int))
theorem uO (f:Int) (hf:f≠0) (ok:Bool):after f ok=f:=by unfold after;rw[ak (fun h=>hf h.1)]
theorem C6 {t:List eF} (h:uB t=true):zL t:=by
 unfold uB at h
 rw[aB,bh,fw]at h
 refine⟨h.1,fun i hi=> ?_⟩
 have:=h.2 i (Nat.zero_le _) (by omega)
 unfold uA at this
 cases h1:dG (rd (τ:=cb) t (i:Int))with
 |true=>rfl
 |false=>rw[h1]at this;cases this
theorem uP {x:bS} (h:ce x=true):(1≤x.1∧x.1≤64)∧jE x∧((aX (cP x.1).1).1=false→x.2.1=0)∧((aX (cP x.1).1).2.1=false→x.2.2.1=0)∧((aX (cP x.1).1).2.2=false→x.2.2.2.1=0)∧gf (cP x.1).1 x.2.2.2.2=true:=by
 simp only[ce,aB,Bool.or_eq_true,bh]at h
 obtain⟨⟨⟨⟨⟨⟨⟨⟨⟨⟨⟨h1,h2⟩,h3⟩,h4⟩,h5⟩,h6⟩,h7⟩,h8⟩,a⟩,b⟩,c⟩,d⟩:=h
 have hf:=gg (n:=x.1) h1 h2
 refine⟨⟨h1,h2⟩,⟨⟨h3,h4⟩,⟨h5,h6⟩,⟨h7,h8⟩, ?_⟩,fun e=> ?_,fun e=> ?_,fun e=> ?_,d⟩
 ·generalize (cP x.1).1=f at d hf
  rcases ga hf with rfl|rfl|rfl|rfl|rfl|rfl|rfl|rfl|rfl<;>simp[gf]at d<;>omega
 ·simpa[e]using a
 ·simpa[e]using b
 ·simpa[e]using c
def GP (b p:Int) (n:Nat):List (Int×Int):=bP (fun i=>(b+128*(i:Int),p)) 0 n
def L1:List (Int×Int):=GP 4096 4 8
def L2:List (Int×Int):=L1++GP 8192 4 8
def L3:List (Int×Int):=L2++GP 16384 3 2
def L4:List (Int×Int):=L3++GP 20480 3 2
def L5:List (Int×Int):=L4++GP 32768 11 4
def GQ (L:List (Int×Int)) (m:Int):Bool:=decide (L.length≤64)&&L.all fun q=>decide (0≤q.1)&&decide (q.1≤1048575)&&decide (q.1<m)
theorem b1:GQ L1 8192=true:=by decide
theorem b2:GQ L2 16384=true:=by decide
theorem b3:GQ L3 20480=true:=by decide
theorem b4:GQ L4 32768=true:=by decide
theorem b5:GQ L5 33792=true:=by decide
theorem fy {τ:Ty} (l:List τ.den) (i:Nat) (h:i<l.length):rd (τ:=τ) l (i:Int)∈l:=by rw[bj l i h];exact List.getElem_mem h
theorem BC {τ:Ty} {l:List τ.den} {x:τ.den} (h:x∈l):∃i:Nat,i<l.length∧rd (τ:=τ) l (i:Int)=x:=by
 obtain⟨i,hi,e⟩:=List.mem_iff_getElem.1 h
 exact⟨i,hi,by rw[bj l i hi];exact e⟩
theorem pA {t:List eF} {n:ByteArray}:eG t n<0↔∀e∈t,e.1≠n:=by
 unfold eG
 rcases gk (fun i=>decide ((rd (τ:=cb) t (i:Int)).1=n)) t.length 0 with⟨h1,h2⟩|⟨j,h1,h2,h3,h4,_⟩
 ·refine⟨fun _ e he hn=> ?_,fun _=>by rw[h1];decide⟩
  obtain⟨i,hi,hr⟩:=BC (τ:=cb) he
  have:=h2 i (Nat.zero_le _) (by omega)
  rw[decide_eq_false_iff_not,hr]at this
  exact this hn
 ·refine⟨fun h=>by rw[h1]at h;omega,fun h=> ?_⟩
  rw[bh]at h4
  exact absurd h4 (h _ (fy (τ:=cb) t j (by omega)))
structure uQ (t:List eF):Prop where
 len:t.length≤64
 ent:∀e∈t,dG e=true
 dis:t.Pairwise fun a b=>a.1≠b.1
theorem uR {t:List eF}:uB t=true↔uQ t:=by
 unfold uB
 rw[aB,bh,fw]
 have key:∀i:Nat,i<t.length→(uA t i=true↔dG (rd (τ:=cb) t (i:Int))=true∧∀e∈t.take i,e.1≠(rd (τ:=cb) t (i:Int)).1):=by
  intro i hi
  unfold uA
  rw[←pA]
  cases dG (rd (τ:=cb) t (i:Int))<;>simp
 constructor
 ·rintro⟨h1,h2⟩
  refine⟨h1,fun e he=> ?_, ?_⟩
  ·obtain⟨i,hi,hr⟩:=BC (τ:=cb) he
   rw[←hr];exact((key i hi).1 (h2 i (Nat.zero_le _) (by omega))).1
  ·rw[List.pairwise_iff_getElem]
   intro i j hi hj hij
   have:=((key j hj).1 (h2 j (Nat.zero_le _) (by omega))).2 t[i] (by rw[List.mem_take_iff_getElem];exact⟨i,by omega,rfl⟩)
   rw[bj (τ:=cb) t j hj]at this
   exact this
 ·rintro⟨h1,h2,h3⟩
  refine⟨h1,fun i _ hi=>(key i (by omega)).2 ⟨h2 _ (fy (τ:=cb) t i (by omega)),fun e he=> ?_⟩⟩
  obtain⟨j,hj,rfl⟩:=List.mem_take_iff_getElem.1 he
  rw[bj (τ:=cb) t i (by omega)]
  exact(List.pairwise_iff_getElem.1 h3) j i (by omega) (by omega) (by omega)
def ql (o:bo) (l:gJ) (owner:Int) (i:Nat):eF:=((rd (τ:=aN) o.2.2.1 (i:Int)).1,1,rd (τ:= .int .i64) l.1 (i:Int),(fh o i:Int),(rd (τ:=aN) o.2.2.1 (i:Int)).2.2.1,owner)
def BD (o:bo) (l:gJ) (owner:Int) (i:Nat):eF:=((rd (τ:=bI) o.2.2.2.1 (i:Int)).1,2,rd (τ:= .int .i64) l.2.2.1 (i:Int),(kj o i:Int),0,owner)
def sK (t:List eF) (o:bo) (l:gJ) (owner:Int):List eF:=
 (t++cQ (fun i=> !(rd (τ:=aN) o.2.2.1 (i:Int)).2.1) (ql o l owner) 0 o.2.2.1.length)++bP (BD o l owner) 0 o.2.2.2.1.length
theorem la (n:Nat) (h:n≤4096):aD n 56=true:=by simp[aD];omega
theorem lb (t:List eF) (o:bo) (l:gJ) (owner:Int) (ht:t.length≤64) (hz:ObjSz o) (hl:fM o l):n5 t o l owner=some (sK t o l owner):=by
 have h1:=hz.f
 have h2:=hz.d
 have hf:=cF (fun i=> !(rd (τ:=aN) o.2.2.1 (i:Int)).2.1) (ql o l owner) o.2.2.1.length 0
 rw[F9,GU,la _ (by omega)]
 simp only[ac,ae]
 rw[d7 (L:=fun acc i=>n5.a owner o l acc o.2.2.1 (o.2.2.1.length:Int) i) (fun i=> !(rd (τ:=aN) o.2.2.1 (i:Int)).2.1) (ql o l owner) o.2.2.1.length t fun acc i hi ha=> ?_]
 ·show n5.a owner o l _ o.2.2.1 (o.2.2.1.length:Int) (o.2.2.1.length:Int)=_
  rw[n5.a_eq,ap,ai (a9 _),af]
  rw[fg (L:=fun acc i=>n5.b owner l acc o.2.2.2.1 (o.2.2.2.1.length:Int) i) (BD o l owner) o.2.2.2.1.length (t++cQ (fun i=> !(rd (τ:=aN) o.2.2.1 (i:Int)).2.1) (ql o l owner) 0 o.2.2.1.length) fun acc i hi ha=> ?_]
  ·show n5.b owner l _ o.2.2.2.1 (o.2.2.2.1.length:Int) (o.2.2.2.1.length:Int)=_
   rw[n5.b_eq,ap,ai (a9 _),af];rfl
  ·show n5.b owner l acc o.2.2.2.1 (o.2.2.2.1.length:Int) (i:Int)=_
   rw[List.length_append]at ha
   rw[n5.b_eq,ap,aq,ah hi,au i _ hi (by omega),aq,show decide (i<l.2.2.1.length)=true from ah (by rw[hl.d];exact hi),la _ (by simp;omega)];rfl
 ·show n5.a owner o l acc o.2.2.1 (o.2.2.1.length:Int) (i:Int)=_
  rw[n5.a_eq,ap,aq,ah hi,au i _ hi (by omega),aq,show decide (i<l.1.length)=true from ah (by rw[hl.a];exact hi),la _ (by simp;omega)]
  cases (rd (τ:=aN) o.2.2.1 (i:Int)).2.1<;>rfl
theorem qm (t:List eF) (o:bo) (l:gJ) (owner:Int) (ht:t.length≤64) (hz:ObjSz o) (hl:fM o l):p7 t o l owner=some (sK t o l owner):=by
 have h1:=hz.f
 have h2:=hz.d
 have hf:=cF (fun i=> !(rd (τ:=aN) o.2.2.1 (i:Int)).2.1) (ql o l owner) o.2.2.1.length 0
 rw[Gd,la _ (by omega)]
 simp only[ac]
 rw[d7 (L:=fun acc i=>p7.a owner o l acc i) (fun i=> !(rd (τ:=aN) o.2.2.1 (i:Int)).2.1) (ql o l owner) o.2.2.1.length t fun acc i hi ha=> ?_]
 ·rw[p7.a_eq,ap,ai (a9 _),af]
  rw[fg (L:=fun acc i=>p7.b owner o l acc i) (BD o l owner) o.2.2.2.1.length (t++cQ (fun i=> !(rd (τ:=aN) o.2.2.1 (i:Int)).2.1) (ql o l owner) 0 o.2.2.1.length) fun acc i hi ha=> ?_]
  ·rw[p7.b_eq,ap,ai (a9 _),af];rfl
  ·show p7.b owner o l acc (i:Int)=_
   rw[List.length_append]at ha
   rw[p7.b_eq,ap,aq,ah hi,au i _ hi (by omega),aq,aq,show decide (i<l.2.2.1.length)=true from ah (by rw[hl.d];exact hi),show decide (i<l.2.2.2.length)=true from ah (by rw[hl.b];exact hi),la _ (by simp;omega),hl.bs i hi];rfl
 ·show p7.a owner o l acc (i:Int)=_
  rw[p7.a_eq,ap,aq,ah hi,au i _ hi (by omega),aq,aq,show decide (i<l.1.length)=true from ah (by rw[hl.a];exact hi),show decide (i<l.2.1.length)=true from ah (by rw[hl.c];exact hi),la _ (by simp;omega),hl.cs i hi]
  cases (rd (τ:=aN) o.2.2.1 (i:Int)).2.1<;>rfl
theorem qn (o:bo) (l:gJ) (hz:ObjSz o) (hl:fM o l):sT l o=some true:=by
 have h1:=hz.f
 have h2:=hz.d
 rw[F8,hl.a,hl.c,hl.d,hl.b]
 simp only[decide_true,aV,af]
 rw[fb (L:=sT.a l o o.2.2.1 (o.2.2.1.length:Int)) (fun _=>true) o.2.2.1.length ?_ fun i hi=> ?_]
 ·rw[(fw _ _ _).2 fun _ _ _=>rfl]
 ·rw[sT.a_eq,ap,ai (a9 _),af]
  rw[fb (L:=sT.b l o.2.2.2.1 (o.2.2.2.1.length:Int)) (fun _=>true) o.2.2.2.1.length ?_ fun i hi=> ?_]
  ·rw[(fw _ _ _).2 fun _ _ _=>rfl]
  ·rw[sT.b_eq,ap,ai (a9 _),af]
  ·rw[sT.b_eq,ap,aq,ah hi,au i _ hi (by omega),aq,show decide (i<l.2.2.2.length)=true from ah (by rw[hl.b];exact hi),hl.bs i hi,show decide ((kj o i:Int)=((rd (τ:=bI) o.2.2.2.1 (i:Int)).2.size:Int))=true from ah rfl];rfl
 ·rw[sT.a_eq,ap,aq,ah hi,au i _ hi (by omega),aq,show decide (i<l.2.1.length)=true from ah (by rw[hl.c];exact hi),hl.cs i hi,show decide ((fh o i:Int)=((rd (τ:=aN) o.2.2.1 (i:Int)).2.2.2.size:Int))=true from ah rfl];rfl
theorem fQ {α:Type} (p:Nat→Bool) (f:Nat→α) (x:α):∀k i,x∈cQ p f i k→∃j,i≤j∧j<i+k∧p j=true∧f j=x
 |0,i,h=>by cases h
 |k+1,i,h=>by
  rw[cQ]at h
  cases hp:p i with
  |false=>
   rw[hp,af]at h
   obtain⟨j,h1,h2,h3⟩:=fQ p f x k (i+1) h
   exact⟨j,by omega,by omega,h3⟩
  |true=>
   rw[hp,ac]at h
   rcases List.mem_cons.1 h with rfl|h
   ·exact⟨i,Nat.le_refl _,by omega,hp,rfl⟩
   ·obtain⟨j,h1,h2,h3⟩:=fQ p f x k (i+1) h
    exact⟨j,by omega,by omega,h3⟩
theorem pB {α:Type} (p:Nat→Bool) (f:Nat→α) (R:α→α→Prop):∀k i,(∀a b,i≤a→a<b→b<i+k→R (f a) (f b))→(cQ p f i k).Pairwise R
 |0,_,_=>List.Pairwise.nil
 |k+1,i,h=>by
  have ih:=pB p f R k (i+1) fun a b h1 h2 h3=>h a b (by omega) h2 (by omega)
  rw[cQ]
  cases p i with
  |false=>exact ih
  |true=>
   rw[ac]
   refine List.Pairwise.cons (fun x hx=> ?_) ih
   obtain⟨j,h1,h2,_,rfl⟩:=fQ p f x k (i+1) hx
   exact h i j (Nat.le_refl _) (by omega) (by omega)
theorem mQ {α:Type} (f:Nat→α) (R:α→α→Prop):∀k i,(∀a b,i≤a→a<b→b<i+k→R (f a) (f b))→(bP f i k).Pairwise R
 |0,_,_=>List.Pairwise.nil
 |k+1,i,h=>by
  have ih:=mQ f R k (i+1) fun a b h1 h2 h3=>h a b (by omega) h2 (by omega)
  rw[bP]
  refine List.Pairwise.cons (fun x hx=> ?_) ih
  obtain⟨j,h1,h2,rfl⟩:=(eH f x k (i+1)).1 hx
  exact h i j (Nat.le_refl _) (by omega) (by omega)
theorem eg.dis_ff {o:bo} (h:eg o) (a b:Nat) (hab:a<b) (hb:b<o.2.2.1.length):(rd (τ:=aN) o.2.2.1 (a:Int)).1≠(rd (τ:=aN) o.2.2.1 (b:Int)).1:=by
 have:=(ke (h.fun_ b hb)).2.1
 rw[lR o b (by omega)]at this
 intro e
 have:hJ (bP (fun i=>(rd (τ:=aN) o.2.2.1 (i:Int)).1) 0 b) (rd (τ:=aN) o.2.2.1 (b:Int)).1=true:=jJ.2 ((eH _ _ _ _).2 ⟨a,Nat.zero_le _,by omega,e⟩)
 simp_all
theorem eg.dis_fd {o:bo} (h:eg o) (a b:Nat) (ha:a<o.2.2.1.length) (hb:b<o.2.2.2.1.length):(rd (τ:=aN) o.2.2.1 (a:Int)).1≠(rd (τ:=bI) o.2.2.2.1 (b:Int)).1:=by
 have:=(iG (h.dat b hb)).2.1
 rw[iZ o b (by omega),pr,Bool.or_eq_false_iff]at this
 intro e
 have h2:hJ (bP (fun i=>(rd (τ:=aN) o.2.2.1 (i:Int)).1) 0 o.2.2.1.length) (rd (τ:=bI) o.2.2.2.1 (b:Int)).1=true:=jJ.2 ((eH _ _ _ _).2 ⟨a,Nat.zero_le _,by omega,e⟩)
 rw[h2]at this
 exact absurd this.1 (by decide)
theorem eg.dis_dd {o:bo} (h:eg o) (a b:Nat) (hab:a<b) (hb:b<o.2.2.2.1.length):(rd (τ:=bI) o.2.2.2.1 (a:Int)).1≠(rd (τ:=bI) o.2.2.2.1 (b:Int)).1:=by
 have:=(iG (h.dat b hb)).2.1
 rw[iZ o b (by omega),pr,Bool.or_eq_false_iff]at this
 intro e
 have h2:hJ (bP (fun i=>(rd (τ:=bI) o.2.2.2.1 (i:Int)).1) 0 b) (rd (τ:=bI) o.2.2.2.1 (b:Int)).1=true:=jJ.2 ((eH _ _ _ _).2 ⟨a,Nat.zero_le _,by omega,e⟩)
 rw[h2]at this
 exact absurd this.2 (by decide)
theorem uS {t:List eF} {o:bo} (h:gq t o=0):(∀i,i<o.2.2.1.length→Cm t o i=0)∧(∀i,i<o.2.2.2.1.length→DE t o i=0):=by
 unfold gq at h
 by_cases h1:(bn (Cm t o) 0 o.2.2.1.length).2=0
 ·rw[av h1]at h
  exact⟨fun i hi=>(dn _ _ _).1 h1 i (Nat.zero_le _) (by omega),fun i hi=>(dn _ _ _).1 h i (Nat.zero_le _) (by omega)⟩
 ·rw[ak h1]at h;exact absurd h h1
theorem C7 {t:List eF} {o:bo} {i:Nat} (h:Cm t o i=0) (hr:(rd (τ:=aN) o.2.2.1 (i:Int)).2.1=false):eG t (rd (τ:=aN) o.2.2.1 (i:Int)).1<0:=by
 unfold Cm at h
 rw[hr]at h
 simp only[Bool.false_eq_true,if_false]at h
 split at h
 ·cases h
 ·omega
theorem C8 {t:List eF} {o:bo} {i:Nat} (h:DE t o i=0):eG t (rd (τ:=bI) o.2.2.2.1 (i:Int)).1<0:=by
 unfold DE at h
 split at h
 ·cases h
 ·omega
theorem ry {x:Int} (h:Em x):b6 x=true:=by
 unfold b6
 obtain⟨h1,h2,h3⟩:=h
 rw[show(decide (0≤x)&&decide (x≤1048575))=true by simp;omega,ac,bh,Int.tmod_eq_emod_of_nonneg h1];omega
theorem uT (t:List eF) (o:bo) (l:gJ) (owner:Int) (hz:ObjSz o):(sK t o l owner).length≤t.length+8:=by
 have h1:=hz.f
 have h2:=hz.d
 have hf:=cF (fun i=> !(rd (τ:=aN) o.2.2.1 (i:Int)).2.1) (ql o l owner) o.2.2.1.length 0
 unfold sK
 rw[List.length_append,List.length_append,aW];omega
theorem C9 {t:List eF} {o:bo} {l:gJ} {owner:Int} (ht:uQ t) (ho:eg o) (hl:fM o l) (hn:gq t o=0) (how:1≤owner∧owner≤6) (hlen:t.length≤56):uQ (sK t o l owner):=by
 obtain⟨n1,n2⟩:=uS hn
 refine⟨by have:=uT t o l owner ho.toObjSz;omega,fun e he=> ?_, ?_⟩
 ·unfold sK at he
  rcases List.mem_append.1 he with he|he
  ·rcases List.mem_append.1 he with he|he
   ·exact ht.ent e he
   ·obtain⟨j,_,hj,_,rfl⟩:=fQ _ _ _ _ _ he
    have hf:=ke (ho.fun_ j (by omega))
    have hs:=ho.fsz_pos j (by omega)
    have ha:=hl.fa j (by omega)
    unfold dG ql
    simp only
    rw[hf.1,ry ha,bH.2 (show(1:Int)≤(fh o j:Int)∧(fh o j:Int)≤1024 by omega),bH.2 (show 0≤owner∧owner≤6 by omega)]
    unfold uz
    rw[hf.2.2.1];rfl
  ·obtain⟨j,_,hj,rfl⟩:=(eH _ _ _ _).1 he
   have hf:=iG (ho.dat j (by omega))
   have hs:=ho.dsz_pos j (by omega)
   have ha:=hl.ds j (by omega)
   unfold dG BD
   simp only
   rw[hf.1,ry ha,bH.2 (show(1:Int)≤(kj o j:Int)∧(kj o j:Int)≤1024 by omega),bH.2 (show 0≤owner∧owner≤6 by omega)]
   rfl
 ·unfold sK
  rw[List.pairwise_append,List.pairwise_append]
  refine⟨⟨ht.dis,pB _ _ _ _ _ fun a b _ h2 h3=>ho.dis_ff a b h2 (by omega),fun a ha b hb=> ?_⟩,mQ _ _ _ _ fun a b _ h2 h3=>ho.dis_dd a b h2 (by omega),fun a ha b hb=> ?_⟩
  ·obtain⟨j,_,hj,hp,rfl⟩:=fQ _ _ _ _ _ hb
   have:=C7 (n1 j (by omega)) (by simpa using hp)
   exact pA.1 this a ha
  ·obtain⟨k,_,hk,rfl⟩:=(eH _ _ _ _).1 hb
   rcases List.mem_append.1 ha with ha|ha
   ·exact pA.1 (C8 (n2 k (by omega))) a ha
   ·obtain⟨j,_,hj,hp,rfl⟩:=fQ _ _ _ _ _ ha
    exact ho.dis_fd j k (by omega) (by omega)
def Eo (s:iD):Int:=bif decide (s.2.1=1)then IntKind.wrap .i64 (4096+s.2.2.1)else IntKind.wrap .i64 (16384+s.2.2.1)
theorem BE (s:iD):Z2 s=some (Eo s):=by
 rw[GW]
 unfold Eo
 cases decide (s.2.1=1)<;>rfl
def Da (im:iY) (i:Nat):eF:=((rd (τ:=dz) im.2.2 (i:Int)).1,(rd (τ:=dz) im.2.2 (i:Int)).2.1,Eo (rd (τ:=dz) im.2.2 (i:Int)),(rd (τ:=dz) im.2.2 (i:Int)).2.2.2.1,(rd (τ:=dz) im.2.2 (i:Int)).2.2.2.2,0)
def wX (im:iY):List eF:=bP (Da im) 0 im.2.2.length
theorem zQ (im:iY) (hn:im.2.2.length≤16):Z3 im=some (wX im):=by
 rw[GX,fg (L:=fun acc i=>Z3.a im acc i) (Da im) im.2.2.length [] fun acc i hi ha=> ?_]
 ·rw[Z3.a_eq,ap,ai (a9 _),af,List.nil_append];rfl
 ·show Z3.a im acc (i:Int)=_
  rw[Z3.a_eq,ap,aq,ah hi,au i _ hi (by omega),BE]
  simp only[ac,ae]
  rw[la _ (by simp at ha⊢;omega)];rfl
theorem sH.sym {im:iY} (h:sH im) (i:Nat) (hi:i<im.2.2.length):uy im (rd (τ:=dz) im.2.2 (i:Int))∧GL (rd (τ:=dz) im.2.2 (i:Int)):=by
 obtain⟨E,hE,_⟩:=h.chain
 rw[bj (τ:=dz) im.2.2 i hi]
 exact⟨(rf hE i hi).1,h.funs i hi⟩
theorem Db {im:iY} {s:iD} (hz:xN im) (h:uy im s) (hk:s.2.1=1):Eo s=4096+s.2.2.1:=by
 have:=h.func hk;have:=h.at0;have:=h.size;have:=hz.c
 unfold Eo
 rw[ah hk,ac,aQ (by omega) (by omega)]
theorem Dc {im:iY} {s:iD} (hz:xN im) (h:uy im s) (hk:s.2.1=2):Eo s=16384+s.2.2.1:=by
 have:=h.data hk;have:=h.at0;have:=h.size;have:=hz.d
 unfold Eo
 rw[ai (by omega),af,aQ (by omega) (by omega)]
theorem BF {im:iY} (h:sH im):uQ (wX im):=by
 have hz:=h.sz
 have hn:=hz.n
 have hc:=hz.c
 have hd:=hz.d
 refine⟨by unfold wX;rw[aW];omega,fun e he=> ?_, ?_⟩
 ·unfold wX at he
  obtain⟨i,_,hi,rfl⟩:=(eH _ _ _ _).1 he
  obtain⟨hS,hG⟩:=h.sym i (by omega)
  unfold Da
  obtain⟨s,hs⟩:∃s:iD,rd (τ:=dz) im.2.2 (i:Int)=s:=⟨_,rfl⟩
  rw[hs]at hS hG⊢
  have h0:=hS.at0
  have h1:=hS.size
  unfold dG
  simp only
  rw[hS.name]
  rcases hS.kind with hk|hk
  ·obtain⟨g1,g2,g3⟩:=hG hk
   have hf:=hS.func hk
   rw[Db hz hS hk,g1,bH.2 (show 1≤s.2.2.2.1∧s.2.2.2.1≤1024 by omega)]
   unfold uz
   rw[ah hk,g2];rfl
  ·have hf:=hS.data hk
   rw[Dc hz hS hk,bH.2 (show 1≤s.2.2.2.1∧s.2.2.2.1≤1024 by omega)]
   have hcode:b6 (16384+s.2.2.1)=true:=by
    unfold b6
    rw[show(decide (0≤16384+s.2.2.1)&&decide (16384+s.2.2.1≤1048575))=true by simp;omega,ac,bh,Int.tmod_eq_emod_of_nonneg (by omega)];omega
   rw[hcode]
   unfold uz
   rw[ah hk,ah hf.2.2.2,ai (show¬s.2.1=1 by omega)];rfl
 ·unfold wX
  refine mQ _ _ _ _ fun a b _ hab hb=> ?_
  obtain⟨E,hE,_⟩:=h.chain
  have:=(rf hE b (by omega)).2
  intro e
  unfold Da at e
  simp only at e
  rw[bj (τ:=dz) im.2.2 a (by omega),bj (τ:=dz) im.2.2 b (by omega)]at e
  unfold zp at this
  have h2:(im.2.2.take b).any (fun y=>decide (y.1=(im.2.2[b]'(by omega)).1))=true:=List.any_eq_true.2 ⟨im.2.2[a]'(by omega),List.mem_take_iff_getElem.2 ⟨a,by omega,rfl⟩,ah e⟩
  rw[h2]at this
  cases this
theorem rz {L:Int→Option Bool} {n m:Nat} (p:Nat→Bool) (hend:n=m→L (n:Int)=some true) (hstep:n=m→∀i:Nat,i<n→L (i:Int)=bif p i then L ((i+1:Nat):Int)else some false):
  (bif (!decide ((n:Int)=(m:Int)))then some false else L 0)=some (decide (n=m)&&mH p 0 n):=by
 by_cases h:n=m
 ·rw[ah (show(n:Int)=(m:Int) by omega),ah h,fb p n (hend h) (hstep h)];rfl
 ·rw[ai (show¬(n:Int)=(m:Int) by omega),ai h];rfl
def IL (a b:List Int):Bool:=decide (a.length=b.length)&&mH (fun i=>decide ((rd (τ:= .int .i64) a (i:Int):Int)=rd (τ:= .int .i64) b (i:Int))) 0 a.length
def IM (a b:List ByteArray):Bool:=decide (a.length=b.length)&&mH (fun i=>decide ((rd (τ:= .str) a (i:Int):ByteArray)=rd (τ:= .str) b (i:Int))) 0 a.length
def uU (x:bS):List Int:=pT (dO (cP x.1) x) 4
def kG:List bS→List Int
 | []=>[]
 |x::l=>uU x++kG l
def cg (l:List bS):ByteArray:=bp (kG l)
theorem lZ (x:bS):(uU x).length=4:=gj 4 _
theorem l0:∀l:List bS,(kG l).length=4*l.length
 | []=>rfl
 |x::l=>by rw[kG,List.length_append,lZ,l0 l,List.length_cons];omega
theorem dp (l:List bS):(cg l).size=4*l.length:=by rw[cg,cV,l0]
theorem l5:∀a b:List bS,kG (a++b)=kG a++kG b
 | [],_=>rfl
 |x::a,b=>by rw[List.cons_append,kG,kG,l5 a b,aZ]
theorem pC (xs ys:List Int):bp (xs++ys)=bp xs++bp ys:=by
 apply ByteArray.ext
 rw[ByteArray.data_append]
 simp[bp]
theorem hZ (a b:List bS):cg (a++b)=cg a++cg b:=by rw[cg,l5,pC];rfl
def dH (x:bS):Prop:=(1≤x.1∧x.1≤64)∧jE x∧((cP x.1).1=1→x.2.2.2.2%4096=0)
theorem dH.right {x:bS} (h:ce x=true):dH x:=by
 obtain⟨h1,hr,_,_,_,hi⟩:=uP h
 refine⟨h1,hr,fun e=> ?_⟩
 rw[e]at hi
 simp[gf]at hi
 exact hi.2
theorem nG (l:List bS) (hl:l.length≤1000) (hr:∀x∈l,dH x):∀(b a:List bS),l=a++b→Zi.a l (cg a) (a.length:Int)=some (cg l):=by
 intro b
 induction b with
 |nil=>
  intro a e
  rw[List.append_nil]at e
  subst e
  rw[Zi.a_eq,ap,ai (a9 _),af]
 |cons x b ih=>
  intro a e
  have hlen:l.length=a.length+(b.length+1):=by rw[e];simp
  obtain⟨h1,hrg,hu⟩:=hr x (by rw[e];simp)
  have hrd:rd (τ:=cp) l (a.length:Int)=x:=by rw[bj _ _ (by omega)];simp[e]
  rw[Zi.a_eq,ap,ah (show a.length<l.length by omega),aq,ah (show a.length<l.length by omega),hrd,au a.length l.length (by omega) (by omega)]
  simp only[ac]
  rw[fE x h1.1 h1.2 hrg hu]
  simp only[ae]
  have hp:Zd (dO (cP x.1) x) 4=some (bp (uU x)):=gK _ 4 (by decide)
  rw[hp]
  simp only[ae]
  rw[ah (show(cg a).size+(bp (uU x)).size≤9223372036854775807 by rw[dp,cV,lZ];omega),ac]
  have h2:=ih (a++[x]) (by rw[e];simp)
  have h3:cg (a++[x])=cg a++bp (uU x):=by rw[hZ];simp[cg,kG]
  rw[List.length_append,List.length_singleton,h3]at h2
  exact h2
theorem lc (l:List bS) (hl:l.length≤1000) (hr:∀x∈l,dH x):Zi l=some (cg l):=by
 rw[He]
 exact nG l hl hr l [] rfl
abbrev da:Type:=List Int×Int×Int
structure aS (K:Nat) (s:da):Prop where
 b:∀x∈s.1,0≤x∧x≤255
 n:s.1.length≤1048576
 a0:0≤s.2.1
 a1:s.2.1+(K:Int)≤4611686018427387904
 s0:0≤s.2.2
 s1:s.2.2<2147483648
theorem aS.mono {K K':Nat} {s:da} (h:aS K s) (hk:K'≤K):aS K' s:=⟨h.b,h.n,h.a0,by have:=h.a1;omega,h.s0,h.s1⟩
theorem l6 {K:Nat} {s:da} (h:aS (K+1) s):∃(v:Int) (t:da),Z4 s=some (v,t)∧0≤v∧v≤255∧aS K t:=by
 obtain⟨c,a,d⟩:=s
 obtain⟨hb,hn,ha,ha',hs,hs'⟩:=h
 simp only at hb hn ha ha' hs hs'
 rw[GY]
 simp only
 rw[aQ (n:=a+1) (by omega) (by omega),aQ (n:=a+1-1) (by omega) (by omega),show a+1-1=a by omega]
 by_cases hi:a+1≤(c.length:Int)
 ·rw[ah hi,inL_true ha (by omega)]
  simp only[ac]
  obtain⟨k,rfl⟩:∃k:Nat,a=k:=⟨a.toNat,by omega⟩
  rw[bj (τ:= .int .u8) c k (by omega)]
  have hc:=hb (c[k]'(by omega)) (List.getElem_mem _)
  generalize (c[k]'(by omega):Int)=x at*
  rw[aQ (n:=x) (by omega) (by omega),aQ (n:=d*31) (by omega) (by omega),aQ (n:=d*31+x) (by omega) (by omega),aQ (n:=d*31+x+7) (by omega) (by omega)]
  refine⟨_,_,rfl,hc.1,hc.2,⟨hb,hn,by simp only;omega,by simp only;omega, ?_, ?_⟩⟩
  ·simp only;rw[Int.tmod_eq_emod_of_nonneg (by omega)];omega
  ·simp only;rw[Int.tmod_eq_emod_of_nonneg (by omega)];omega
 ·rw[ai hi]
  simp only[af]
  by_cases hj:a+1>3000
  ·rw[ah hj]
   exact⟨_,_,rfl,by omega,by omega,⟨hb,hn,by simp only;omega,by simp only;omega,hs,hs'⟩⟩
  ·rw[ai hj,aQ (n:=d*1103515245) (by omega) (by omega),aQ (n:=d*1103515245+12345) (by omega) (by omega)]
   simp only[af]
   have h0:0≤(d*1103515245+12345).tmod 2147483648∧(d*1103515245+12345).tmod 2147483648<2147483648:=by
    rw[Int.tmod_eq_emod_of_nonneg (by omega)];omega
   generalize (d*1103515245+12345).tmod 2147483648=e at*
   have h1:0≤e.tdiv 65536∧e.tdiv 65536<32768:=by rw[Int.tdiv_eq_ediv_of_nonneg h0.1];omega
   rw[aQ (n:=e.tdiv 65536) (by omega) (by omega)]
   have h2:0≤(e.tdiv 65536).tmod 256∧(e.tdiv 65536).tmod 256≤255:=by rw[Int.tmod_eq_emod_of_nonneg h1.1];omega
   exact⟨_,_,rfl,h2.1,h2.2,⟨hb,hn,by simp only;omega,by simp only;omega,h0.1,h0.2⟩⟩
theorem bl {K:Nat} {s:da} (h:aS (K+3) s) (n:Int):∃(v:Int) (t:da),Z5 s n=some (v,t)∧0≤v∧(1≤n→v<n)∧(n≤1→v=0)∧aS K t:=by
 rw[GZ]
 by_cases h1:n≤1
 ·rw[ah h1]
  exact⟨0,s,rfl,by omega,by omega,fun _=>rfl,h.mono (by omega)⟩
 ·rw[ai h1]
  simp only[af]
  by_cases h2:n≤256
  ·obtain⟨v,t,e,v0,v1,ht⟩:=l6 (h.mono (show K+1≤K+3 by omega))
   rw[ah h2,e,ai (show¬n=0 by omega)]
   simp only[ac,af,ae]
   refine⟨_,t,rfl, ?_,fun _=> ?_,fun h=>absurd h h1,ht⟩<;>rw[Int.tmod_eq_emod_of_nonneg v0]
   ·exact Int.emod_nonneg _ (by omega)
   ·exact Int.emod_lt_of_pos _ (by omega)
  ·obtain⟨v,t,e,v0,v1,ht⟩:=l6 (h.mono (show K+2+1≤K+3 by omega))
   obtain⟨v',t',e',v0',v1',ht'⟩:=l6 (ht.mono (show K+1+1≤K+2 by omega))
   obtain⟨v'',t'',e'',v0'',v1'',ht''⟩:=l6 (ht'.mono (show K+1≤K+1 by omega))
   rw[ai h2,e]
   simp only[af,ae]
   rw[e']
   simp only[ae]
   rw[e'']
   simp only[ae]
   rw[ai (show¬n=0 by omega),aQ (n:=v*65536) (by omega) (by omega),aQ (n:=v'*256) (by omega) (by omega),aQ (n:=v*65536+v'*256) (by omega) (by omega),aQ (n:=v*65536+v'*256+v'') (by omega) (by omega)]
   simp only[af]
   refine⟨_,t'',rfl, ?_,fun _=> ?_,fun h=>absurd h h1,ht''⟩<;>rw[Int.tmod_eq_emod_of_nonneg (by omega)]
   ·exact Int.emod_nonneg _ (by omega)
   ·exact Int.emod_lt_of_pos _ (by omega)
theorem dD {K:Nat} {s:da} (h:aS (K+3) s) (n:Int):∃(v:Bool) (t:da),Zm s n=some (v,t)∧aS K t:=by
 obtain⟨v,t,e,_,_,_,ht⟩:=bl h n
 rw[Hi,e]
 exact⟨_,t,rfl,ht⟩
theorem rA (a:List Int) (hb:∀x∈a,0≤x∧x≤255) (hn:a.length≤1048576):∃s:da,Z1 a=some (some s)∧aS 1000000000 s:=by
 refine⟨_,GV a,⟨hb,hn,by simp,by simp, ?_, ?_⟩⟩<;>simp only<;>rw[Int.tmod_eq_emod_of_nonneg (by omega)]<;>omega
def jO (a:Int):Prop:=a=5∨a=6∨a=7∨a=10∨a=11∨a=12∨a=28
theorem wY {K:Nat} {s:da} (h:aS (K+3) s):∃(a:Int) (t:da),Z9 s=some (a,t)∧jO a∧aS K t:=by
 obtain⟨v,t,e,v0,v1,_,ht⟩:=bl h 7
 have v1:=v1 (by decide)
 rw[G5,e]
 simp only[ae]
 rw[inL_true v0 (by simp;omega)]
 refine⟨_,t,rfl, ?_,ht⟩
 have:v=0∨v=1∨v=2∨v=3∨v=4∨v=5∨v=6:=by omega
 rcases this with rfl|rfl|rfl|rfl|rfl|rfl|rfl<;>simp[jO,rd]
def jP (f:Int):Prop:=f=16∨f=32∨f=48∨f=64∨f=128
theorem BG {K:Nat} {s:da} (h:aS (K+3) s):∃(a:Int) (t:da),Z6 s=some (a,t)∧jP a∧aS K t:=by
 obtain⟨v,t,e,v0,v1,_,ht⟩:=bl h 6
 have v1:=v1 (by decide)
 rw[G4,e]
 simp only[ae]
 rw[inL_true v0 (by simp;omega)]
 refine⟨_,t,rfl, ?_,ht⟩
 have:v=0∨v=1∨v=2∨v=3∨v=4∨v=5:=by omega
 rcases this with rfl|rfl|rfl|rfl|rfl|rfl<;>simp[jP,rd]
theorem jP.ok {f:Int} (h:jP f):dl f=true:=by rcases h with rfl|rfl|rfl|rfl|rfl<;>rfl
inductive nH (f:Int) (C D:Int→Prop):List bS→Prop where
 |alu (n a b c:Int) (hn:(31≤n∧n≤40)∨(50≤n∧n≤62)) (ha:jO a) (hb:jO b) (hc:jO c):nH f C D [(n,a,b,c,0)]
 |imm (a b i:Int) (ha:jO a) (hb:jO b) (hi: -8≤i∧i≤31):nH f C D [(22,a,b,0,i)]
 |data (a d:Int) (ha:jO a) (hd:D d):nH f C D [(1,13,0,0,d/4096*4096),(14,a,13,0,d%4096),(22,a,a,0,1),(21,0,13,a,d%4096)]
 |stack (a b c i k:Int) (ha:jO a) (hb:jO b) (hc:jO c) (hi: -8≤i∧i≤31) (hk:0≤k∧8*k≤f-16):nH f C D [(21,0,2,b,8*k),(22,a,b,0,i),(14,c,2,0,8*k)]
 |call (i:Int) (hi:C i):nH f C D [(3,1,0,0,i)]
 |out:nH f C D [(22,17,0,0,3),(63,0,0,0,0)]
 |skip (n a b i:Int) (hn:5≤n∧n≤10) (ha:jO a) (hb:jO b) (hi: -8≤i∧i≤31):nH f C D [(n,0,a,b,8),(22,a,b,0,i)]
 |turn (k a b i:Int) (hk:1≤k∧k≤4) (ha:jO a) (hb:jO b) (hi: -8≤i∧i≤31):nH f C D [(22,9,0,0,k),(22,a,b,0,i),(22,9,9,0,-1),(6,0,9,0,-8)]
 |sys (v x y:Int) (hv:1≤v∧v≤12) (hx:0≤x∧x≤4) (hy:0≤y∧y≤3):nH f C D [(22,17,0,0,v),(22,10,0,0,x),(22,11,0,0,y),(63,0,0,0,0)]
theorem nH.len {f:Int} {C D:Int→Prop} {l:List bS} (h:nH f C D l):1≤l.length∧l.length≤4:=by cases h<;>simp
def nI (d:Int):Prop:=0≤d∧d≤1048575∧d%8=0∧d%4096≤2047
def zR (c:Int):Prop:= -1099511627776≤c∧c≤1099511627776
theorem Dd {K:Nat} {s:da} (h:aS (K+24) s) (i a f:Int) (calls datas:List Int) (hf:jP f) (hi:0≤i∧i≤1000) (ha:0≤a∧a≤1048575) (hc:∀c∈calls,zR c) (hd:∀d∈datas,nI d) (hcl:calls.length≤256) (hdl:datas.length≤256):
  ∃(l:List bS) (t:da),Za s i a f calls datas=some (l,t)∧nH f (fun m=>∃c∈calls,m=c-a-4*i) (· ∈datas) l∧aS K t:=by
 obtain⟨ra,s1,e1,r1,h1⟩:=wY (h.mono (show K+21+3≤K+24 by omega))
 obtain⟨rb,s2,e2,r2,h2⟩:=wY (h1.mono (show K+18+3≤K+21 by omega))
 obtain⟨rc,s3,e3,r3,h3⟩:=wY (h2.mono (show K+15+3≤K+18 by omega))
 obtain⟨v4,s4,e4,p4,q4,_,h4⟩:=bl (h3.mono (show K+12+3≤K+15 by omega)) 40
 obtain⟨v5,s5,e5,p5,q5,_,h5⟩:=bl (h4.mono (show K+9+3≤K+12 by omega)) 11
 have q4:=q4 (by decide);have q5:=q5 (by decide)
 have him: -8≤v4-8∧v4-8≤31:=by omega
 rw[G6,e1];simp only[ae]
 rw[e2];simp only[ae]
 rw[e3];simp only[ae]
 rw[e4];simp only[ae]
 rw[e5];simp only[ae,aA]
 rw[aQ (n:=v4-8) (by omega) (by omega),aQ (n:=4*i) (by omega) (by omega)]
 have plain:∃(l:List bS) (t:da),some ([((22:Int),ra,rb,(0:Int),v4-8)],s5)=some (l,t)∧nH f (fun m=>∃c∈calls,m=c-a-4*i) (· ∈datas) l∧aS K t:=⟨_,_,rfl,.imm _ _ _ r1 r2 him,h5.mono (by omega)⟩
 have:v5=0∨v5=1∨(v5=2∨v5=3)∨v5=4∨(v5=5∨v5=6)∨v5=7∨v5=8∨v5=9∨v5=10:=by omega
 rcases this with rfl|rfl|h23|rfl|h56|rfl|rfl|rfl|rfl
 ·obtain⟨v,t,e,p,q,_,ht⟩:=bl (h5.mono (show K+6+3≤K+9 by omega)) 10
  have q:=q (by decide)
  simp only[decide_true,ac,e,ae]
  rw[aQ (n:=31+v) (by omega) (by omega)]
  exact⟨_,_,rfl,.alu _ _ _ _ (.inl (by omega)) r1 r2 r3,ht.mono (by omega)⟩
 ·obtain⟨v,t,e,p,q,_,ht⟩:=bl (h5.mono (show K+6+3≤K+9 by omega)) 13
  have q:=q (by decide)
  simp only[show decide ((1:Int)=0)=false from rfl,decide_true,ac,af,e,ae]
  rw[aQ (n:=50+v) (by omega) (by omega)]
  exact⟨_,_,rfl,.alu _ _ _ _ (.inr (by omega)) r1 r2 r3,ht.mono (by omega)⟩
 ·have hdat:∃(l:List bS) (t:da),(bif decide ((datas.length:Int)>0)then((Z5 s5 (datas.length:Int)).bind fun r9=>bif aH r9.1 (datas.length)then some ([((1:Int),(13:Int),(0:Int),(0:Int),(IntKind.wrap .i64 ((IntKind.wrap .i64 ((rd (τ:=(.int .i64)) datas r9.1).tdiv 4096))*4096))),(14,ra,13,0,((rd (τ:=(.int .i64)) datas r9.1).tmod 4096)),(22,ra,ra,0,1),(21,0,13,ra,((rd (τ:=(.int .i64)) datas r9.1).tmod 4096))],r9.2)else none)else some ([(22,ra,rb,0,v4-8)],s5))=some (l,t)∧nH f (fun m=>∃c∈calls,m=c-a-4*i) (· ∈datas) l∧aS K t:=by
   by_cases hdn:(datas.length:Int)>0
   ·obtain⟨v,t,e,p,q,_,ht⟩:=bl (h5.mono (show K+6+3≤K+9 by omega)) (datas.length:Int)
    have q:=q (by omega)
    rw[ah hdn,e]
    simp only[ac,ae]
    rw[inL_true p q]
    simp only[ac]
    obtain⟨k,rfl⟩:∃k:Nat,v=k:=⟨v.toNat,by omega⟩
    have hk:k<datas.length:=by omega
    rw[bj (τ:= .int .i64) datas k hk]
    have hdk:=hd _ (List.getElem_mem hk)
    have hmem:(datas[k]:Int)∈datas:=List.getElem_mem hk
    generalize (datas[k]:Int)=d at*
    obtain⟨d0,d1,d2,d3⟩:=hdk
    rw[Int.tdiv_eq_ediv_of_nonneg d0,Int.tmod_eq_emod_of_nonneg d0,aQ (n:=d/4096) (by omega) (by omega),aQ (n:=d/4096*4096) (by omega) (by omega)]
    exact⟨_,_,rfl,.data _ _ r1 hmem,ht.mono (by omega)⟩
   ·rw[ai hdn];exact plain
  rcases h23 with rfl|rfl<;>exact hdat
 ·simp only[show decide ((4:Int)=0)=false from rfl,show decide ((4:Int)=1)=false from rfl,show decide ((4:Int)=2)=false from rfl,show decide ((4:Int)=3)=false from rfl,decide_true,ac,af]
  by_cases hf3:f≥32
  ·have ht8:f.tdiv 8=f/8:=Int.tdiv_eq_ediv_of_nonneg (by omega)
   have hfr:f≤128∧f%8=0:=by rcases hf with rfl|rfl|rfl|rfl|rfl<;>decide
   obtain⟨v,t,e,p,q,_,ht⟩:=bl (h5.mono (show K+6+3≤K+9 by omega)) (f/8-1)
   have q:=q (by omega)
   rw[ah hf3,ht8,aQ (n:=f/8) (by omega) (by omega),aQ (n:=f/8-1) (by omega) (by omega),e]
   simp only[ac,ae]
   rw[aQ (n:=8*v) (by omega) (by omega)]
   exact⟨_,_,rfl,.stack _ _ _ _ _ r1 r2 r3 him ⟨p,by omega⟩,ht.mono (by omega)⟩
  ·rw[ai hf3];exact plain
 ·have hcal:∃(l:List bS) (t:da),(bif decide ((calls.length:Int)>0)then((Z5 s5 (calls.length:Int)).bind fun r12=>bif aH r12.1 (calls.length)then some ([((3:Int),(1:Int),(0:Int),(0:Int),(IntKind.wrap .i64 ((IntKind.wrap .i64 ((rd (τ:=(.int .i64)) calls r12.1)-a))-(4*i))))],r12.2)else none)else some ([(22,ra,rb,0,v4-8)],s5))=some (l,t)∧nH f (fun m=>∃c∈calls,m=c-a-4*i) (· ∈datas) l∧aS K t:=by
   by_cases hcn:(calls.length:Int)>0
   ·obtain⟨v,t,e,p,q,_,ht⟩:=bl (h5.mono (show K+6+3≤K+9 by omega)) (calls.length:Int)
    have q:=q (by omega)
    rw[ah hcn,e]
    simp only[ac,ae]
    rw[inL_true p q]
    simp only[ac]
    obtain⟨k,rfl⟩:∃k:Nat,v=k:=⟨v.toNat,by omega⟩
    have hk:k<calls.length:=by omega
    rw[bj (τ:= .int .i64) calls k hk]
    have hck:=hc _ (List.getElem_mem hk)
    have hmem:(calls[k]:Int)∈calls:=List.getElem_mem hk
    generalize (calls[k]:Int)=c at*
    obtain⟨c0,c1⟩:=hck
    rw[aQ (n:=c-a) (by omega) (by omega),aQ (n:=c-a-4*i) (by omega) (by omega)]
    exact⟨_,_,rfl,.call _ ⟨c,hmem,rfl⟩,ht.mono (by omega)⟩
   ·rw[ai hcn];exact plain
  rcases h56 with rfl|rfl<;>exact hcal
 ·exact⟨_,_,rfl,.out,h5.mono (by omega)⟩
 ·obtain⟨v,t,e,p,q,_,ht⟩:=bl (h5.mono (show K+6+3≤K+9 by omega)) 6
  have q:=q (by decide)
  simp only[e,ae]
  rw[aQ (n:=5+v) (by omega) (by omega)]
  exact⟨_,_,rfl,.skip _ _ _ _ (by omega) r1 r2 him,ht.mono (by omega)⟩
 ·obtain⟨v,t,e,p,q,_,ht⟩:=bl (h5.mono (show K+6+3≤K+9 by omega)) 4
  have q:=q (by decide)
  simp only[e,ae]
  rw[aQ (n:=1+v) (by omega) (by omega)]
  exact⟨_,_,rfl,.turn _ _ _ _ (by omega) r1 r2 him,ht.mono (by omega)⟩
 ·obtain⟨v,t,e,p,q,_,ht⟩:=bl (h5.mono (show K+6+3≤K+9 by omega)) 12
  obtain⟨v',t',e',p',q',_,ht'⟩:=bl (ht.mono (show K+3+3≤K+6 by omega)) 5
  obtain⟨v'',t'',e'',p'',q'',_,ht''⟩:=bl (ht'.mono (show K+3≤K+3 by omega)) 4
  have q:=q (by decide);have q':=q' (by decide);have q'':=q'' (by decide)
  simp only[e,e',e'',ae]
  rw[aQ (n:=1+v) (by omega) (by omega)]
  exact⟨_,_,rfl,.sys _ _ _ (by omega) (by omega) (by omega),ht''⟩
inductive gy (f:Int) (C:Int→Int→Prop) (D:Int→Prop):Int→List bS→Prop where
 |nil (i:Int):gy f C D i []
 |cons (i:Int) (l m:List bS) (h:nH f (C i) D l) (k:gy f C D (i+l.length) m):gy f C D i (l++m)
theorem gy.snoc {f:Int} {C:Int→Int→Prop} {D:Int→Prop}:∀{i:Int} {l m:List bS},gy f C D i l→nH f (C (i+l.length)) D m→gy f C D i (l++m):=by
 intro i l m h k
 induction h with
 |nil i=>
  have:=gy.cons i m [] (by simpa using k) (.nil _)
  simpa using this
 |cons i l' m' h' _ ih=>
  rw[aZ]
  refine .cons i l' (m'++m) h' (ih ?_)
  rw[List.length_append]at k
  have:i+((l'.length+m'.length:Nat):Int)=i+(l'.length:Int)+(m'.length:Int):=by omega
  rw[this]at k;exact k
def bG (f:Int):List bS:=[(22,2,2,0,0-f),(21,0,2,1,f-8)]
def c7 (f:Int):List bS:=[(14,1,2,0,f-8),(22,2,2,0,f),(4,0,1,0,0)]
theorem jP.range {f:Int} (h:jP f):16≤f∧f≤128∧f%16=0:=by rcases h with rfl|rfl|rfl|rfl|rfl<;>decide
theorem De {f:Int} (h:jP f):Z8 f=some (bG f):=by
 have:=h.range
 rw[DG,aQ (n:=0-f) (by omega) (by omega),aQ (n:=f-8) (by omega) (by omega)];rfl
theorem sL {f:Int} (h:jP f):Z7 f=some (c7 f):=GJ f ⟨h.range.1,h.range.2.1⟩
theorem l7 {K:Nat} {s:da} (n:Nat) (h:aS (K+24*n) s) (a f:Int) (calls datas:List Int) (hf:jP f) (ha:0≤a∧a≤1048575) (hc:∀c∈calls,zR c) (hd:∀d∈datas,nI d) (hcl:calls.length≤256) (hdl:datas.length≤256) (hn:n≤1000):
  ∃(b:List bS) (t:da),Zb s a f (n:Int) calls datas=some (bG f++b++c7 f,t)∧gy f (fun i m=>∃c∈calls,m=c-a-4*i) (· ∈datas) 2 b∧b.length≤51∧(1≤n→1≤b.length)∧b.length≤4*n∧aS K t:=by
 rw[G7,De hf]
 simp only[ae]
 have key:∀(k j:Nat) (s:da) (b:List bS),j+k=n→aS (K+24*k) s→b.length≤51→(1≤j→1≤b.length)→b.length≤4*j→gy f (fun i m=>∃c∈calls,m=c-a-4*i) (· ∈datas) 2 b→
   ∃(d:List bS) (t:da),Zb.a s a f (n:Int) calls datas (bG f++b) (j:Int)=some (bG f++d++c7 f,t)∧gy f (fun i m=>∃c∈calls,m=c-a-4*i) (· ∈datas) 2 d∧d.length≤51∧(1≤n→1≤d.length)∧d.length≤4*n∧aS K t:=by
  intro k
  induction k with
  |zero=>
   intro j s b hj hs hb hb1 hb4 hp
   have hjn:j=n:=by omega
   subst hjn
   rw[Zb.a_eq,aA,ap,ai (a9 _)]
   simp only[af]
   rw[sL hf]
   simp only[ae]
   rw[aY (by simp[bG,c7];omega) (by simp[bG,c7];omega),ac]
   exact⟨b,s,rfl,hp,hb,hb1,hb4,hs.mono (by omega)⟩
  |succ k ih=>
   intro j s b hj hs hb hb1 hb4 hp
   rw[Zb.a_eq,aA,ap,ah (show j<n by omega)]
   simp only[ac]
   by_cases hlen:((bG f++b).length:Int)<50
   ·have hl2:(bG f++b).length=b.length+2:=by simp[bG]
    obtain⟨l,s',e,hl,hs'⟩:=Dd (hs.mono (show K+24*k+24≤K+24*(k+1) by omega)) (((bG f++b).length:Nat):Int) a f calls datas hf (by omega) ha hc hd hcl hdl
    have hll:=hl.len
    rw[ah hlen,e]
    simp only[ac,ae]
    rw[aY (by omega) (by omega),ac,au j n (by omega) (by omega),aZ]
    refine ih (j+1) s' (b++l) (by omega) hs' (by rw[List.length_append];omega) (fun _=>by rw[List.length_append];omega) (by rw[List.length_append];omega) (hp.snoc ?_)
    have e2:(((bG f++b).length:Nat):Int)=2+(b.length:Int):=by omega
    rw[e2]at hl
    exact hl
   ·rw[ai hlen]
    simp only[af]
    rw[sL hf]
    simp only[ae]
    have hl2:(bG f++b).length=b.length+2:=by simp[bG]
    rw[aY (by simp[bG,c7];omega) (by simp[bG,c7];omega),ac]
    exact⟨b,s,rfl,hp,hb,fun _=>by omega,by omega,hs.mono (by omega)⟩
 have:=key n 0 s [] (by omega) h (by simp) (by omega) (by simp) (.nil _)
 rw[List.append_nil]at this
 exact this
def pD (f:Int) (C:Int→Int→Prop) (lo hi i:Int) (x:bS):Prop:=
 (∃m,x=(3,1,0,0,m)∧C i m)∨
 (ce x=true∧x.1≠3∧x.1≠4∧x.2.1≠1∧x.2.1≠2∧(5≤x.1→x.1≤10→x.2.2.2.2%4=0∧lo≤i+x.2.2.2.2/4∧i+x.2.2.2.2/4≤hi)∧(11≤x.1→x.1≤21→x.2.2.1=2→0≤x.2.2.2.2∧x.2.2.2.2≤f-8-(gh x.1).1∧x.2.2.2.2% (gh x.1).1=0))
theorem pD.mono {f:Int} {C:Int→Int→Prop} {lo hi lo' hi' i:Int} {x:bS} (h:pD f C lo hi i x) (h1:lo'≤lo) (h2:hi≤hi'):pD f C lo' hi' i x:=by
 rcases h with h|⟨a,b,c,d,e,g,k⟩
 ·exact .inl h
 ·exact .inr ⟨a,b,c,d,e,fun p q=>by obtain⟨u,v,w⟩:=g p q;exact⟨u,by omega,by omega⟩,k⟩
theorem jO.range {a:Int} (h:jO a):0≤a∧a≤31∧a≠1∧a≠2:=by rcases h with rfl|rfl|rfl|rfl|rfl|rfl|rfl<;>decide
theorem GR {n:Int} (h:(31≤n∧n≤40)∨(50≤n∧n≤62)):(cP n).1=8:=by
 obtain⟨k,rfl⟩:=ng (n:=n) (by omega) (by omega)
 revert k
 decide
theorem GS {n:Int} (h:5≤n∧n≤10):(cP n).1=4:=by
 obtain⟨k,rfl⟩:=ng (n:=n) (by omega) (by omega)
 revert k
 decide
theorem iH {n d a b i:Int} (f:Int) (hf:(cP n).1=f) (hn:1≤n∧n≤64) (hd:0≤d∧d≤31) (ha:0≤a∧a≤31) (hb:0≤b∧b≤31) (g1:(aX f).1=true∨d=0) (g2:(aX f).2.1=true∨a=0) (g3:(aX f).2.2=true∨b=0) (hi:gf f i=true):ce (n,d,a,b,i)=true:=by
 simp only[ce,aB,Bool.or_eq_true,bh,hf]
 exact⟨⟨⟨⟨⟨⟨⟨⟨⟨⟨⟨hn.1,hn.2⟩,hd.1⟩,hd.2⟩,ha.1⟩,ha.2⟩,hb.1⟩,hb.2⟩,g1⟩,g2⟩,g3⟩,hi⟩
theorem GT {i:Int} (h: -2048≤i∧i≤2047):gf 3 i=true:=by simp[gf];omega
theorem H8 {i:Int} (h: -2048≤i∧i≤2047):gf 5 i=true:=by simp[gf];omega
theorem H9 {i:Int} (h: -4096≤i∧i≤4094∧i%2=0):gf 4 i=true:=by simp[gf];omega
theorem Ia {i:Int} (h: -2147483648≤i∧i≤2147479552∧i%4096=0):gf 1 i=true:=by simp[gf];omega
theorem ld {a b i:Int} (ha:0≤a∧a≤31) (hb:0≤b∧b≤31) (h: -2048≤i∧i≤2047):ce (22,a,b,0,i)=true:=iH 3 rfl (by decide) ha hb (by decide) (.inl rfl) (.inl rfl) (.inr rfl) (GT h)
theorem d8 {a b i:Int} (ha:0≤a∧a≤31) (hb:0≤b∧b≤31) (h: -2048≤i∧i≤2047):ce (14,a,b,0,i)=true:=iH 3 rfl (by decide) ha hb (by decide) (.inl rfl) (.inl rfl) (.inr rfl) (GT h)
theorem pU {a b i:Int} (ha:0≤a∧a≤31) (hb:0≤b∧b≤31) (h: -2048≤i∧i≤2047):ce (21,0,a,b,i)=true:=iH 5 rfl (by decide) (by decide) ha hb (.inr rfl) (.inl rfl) (.inl rfl) (H8 h)
theorem r1 {a i:Int} (ha:0≤a∧a≤31) (h: -2147483648≤i∧i≤2147479552∧i%4096=0):ce (1,a,0,0,i)=true:=iH 1 rfl (by decide) ha (by decide) (by decide) (.inl rfl) (.inr rfl) (.inr rfl) (Ia h)
theorem r8 {n a b c:Int} (h:(31≤n∧n≤40)∨(50≤n∧n≤62)) (ha:0≤a∧a≤31) (hb:0≤b∧b≤31) (hc:0≤c∧c≤31):ce (n,a,b,c,0)=true:=iH 8 (GR h) (by omega) ha hb hc (.inl rfl) (.inl rfl) (.inl rfl) rfl
theorem IN {n a b i:Int} (h:5≤n∧n≤10) (ha:0≤a∧a≤31) (hb:0≤b∧b≤31) (hi: -4096≤i∧i≤4094∧i%2=0):ce (n,0,a,b,i)=true:=iH 4 (GS h) (by omega) (by decide) ha hb (.inr rfl) (.inl rfl) (.inl rfl) (H9 hi)
theorem IO:ce (63,0,0,0,0)=true:=by decide+kernel
theorem pD.plain {f:Int} {C:Int→Int→Prop} {lo hi i n a b c m:Int} (hr:ce (n,a,b,c,m)=true) (hn:n=1∨22≤n) (ha:a≠1∧a≠2):pD f C lo hi i (n,a,b,c,m):=by
 refine .inr ⟨hr, ?_, ?_,ha.1,ha.2,fun h h'=> ?_,fun h h'=> ?_⟩<;>simp only at* <;>omega
theorem pD.mem {f:Int} {C:Int→Int→Prop} {lo hi i n a b c m:Int} (hr:ce (n,a,b,c,m)=true) (hn:11≤n∧n≤21) (ha:a≠1∧a≠2) (hb:b=2→0≤m∧m≤f-8-(gh n).1∧m% (gh n).1=0):pD f C lo hi i (n,a,b,c,m):=by
 refine .inr ⟨hr, ?_, ?_,ha.1,ha.2,fun h h'=> ?_,fun h h' h2=>hb h2⟩<;>simp only at* <;>omega
theorem pD.br {f:Int} {C:Int→Int→Prop} {lo hi i n b c m:Int} (hr:ce (n,0,b,c,m)=true) (hn:5≤n∧n≤10) (hm:m%4=0∧lo≤i+m/4∧i+m/4≤hi):pD f C lo hi i (n,0,b,c,m):=by
 refine .inr ⟨hr, ?_, ?_,by simp,by simp,fun h h'=>hm,fun h h'=> ?_⟩<;>simp only at* <;>omega
theorem nH.ins {f:Int} {C:Int→Int→Prop} {D:Int→Prop} (hD:∀d,D d→nI d) (hf:jP f) {i:Int} {l:List bS} (h:nH f (C i) D l):∀(j:Nat) (x:bS),l[j]? =some x→pD f C i (i+l.length) (i+j) x:=by
 have hfr:=hf.range
 cases h with
 |alu n a b c hn ha hb hc=>
  have:=ha.range;have:=hb.range;have:=hc.range
  intro j x e
  match j,e with
  |0,e=>cases e;exact .plain (r8 hn (by omega) (by omega) (by omega)) (by omega) (by omega)
 |imm a b m ha hb hi=>
  have:=ha.range;have:=hb.range
  intro j x e
  match j,e with
  |0,e=>cases e;exact .plain (ld (by omega) (by omega) (by omega)) (by omega) (by omega)
 |data a d ha hd=>
  have:=ha.range
  obtain⟨d0,d1,d2,d3⟩:=hD d hd
  intro j x e
  match j,e with
  |0,e=>cases e;exact .plain (r1 (by omega) (by omega)) (by omega) (by omega)
  |1,e=>cases e;exact .mem (d8 (by omega) (by omega) (by omega)) (by omega) (by omega) (by omega)
  |2,e=>cases e;exact .plain (ld (by omega) (by omega) (by omega)) (by omega) (by omega)
  |3,e=>cases e;exact .mem (pU (by omega) (by omega) (by omega)) (by omega) (by omega) (by omega)
 |stack a b c m k ha hb hc hi hk=>
  have:=ha.range;have:=hb.range;have:=hc.range
  intro j x e
  match j,e with
  |0,e=>cases e;exact .mem (pU (by omega) (by omega) (by omega)) (by omega) (by omega) (fun _=>by simp[gh];omega)
  |1,e=>cases e;exact .plain (ld (by omega) (by omega) (by omega)) (by omega) (by omega)
  |2,e=>cases e;exact .mem (d8 (by omega) (by omega) (by omega)) (by omega) (by omega) (fun _=>by simp[gh];omega)
 |call m hm=>
  intro j x e
  match j,e with
  |0,e=>cases e;exact .inl ⟨m,rfl,by simpa using hm⟩
 |out=>
  intro j x e
  match j,e with
  |0,e=>cases e;exact .plain (ld (by omega) (by omega) (by omega)) (by omega) (by omega)
  |1,e=>cases e;exact .plain IO (by omega) (by omega)
 |skip n a b m hn ha hb hi=>
  have:=ha.range;have:=hb.range
  intro j x e
  match j,e with
  |0,e=>cases e;exact .br (IN hn (by omega) (by omega) (by omega)) hn (by simp;omega)
  |1,e=>cases e;exact .plain (ld (by omega) (by omega) (by omega)) (by omega) (by omega)
 |turn k a b m hk ha hb hi=>
  have:=ha.range;have:=hb.range
  intro j x e
  match j,e with
  |0,e=>cases e;exact .plain (ld (by omega) (by omega) (by omega)) (by omega) (by omega)
  |1,e=>cases e;exact .plain (ld (by omega) (by omega) (by omega)) (by omega) (by omega)
  |2,e=>cases e;exact .plain (ld (by omega) (by omega) (by omega)) (by omega) (by omega)
  |3,e=>cases e;exact .br (IN (by omega) (by omega) (by omega) (by omega)) (by omega) (by simp;omega)
 |sys v x y hv hx hy=>
  intro j x e
  match j,e with
  |0,e=>cases e;exact .plain (ld (by omega) (by omega) (by omega)) (by omega) (by omega)
  |1,e=>cases e;exact .plain (ld (by omega) (by omega) (by omega)) (by omega) (by omega)
  |2,e=>cases e;exact .plain (ld (by omega) (by omega) (by omega)) (by omega) (by omega)
  |3,e=>cases e;exact .plain IO (by omega) (by omega)
theorem gy.ins {f:Int} {C:Int→Int→Prop} {D:Int→Prop} (hD:∀d,D d→nI d) (hf:jP f) {s:Int} {b:List bS} (h:gy f C D s b):∀(j:Nat) (x:bS),b[j]? =some x→pD f C s (s+b.length) (s+j) x:=by
 induction h with
 |nil i=>intro j x e;cases e
 |cons i l m h k ih=>
  intro j x e
  rw[List.length_append]
  by_cases hj:j<l.length
  ·rw[List.getElem?_append_left hj]at e
   exact(h.ins hD hf j x e).mono (Int.le_refl _) (by omega)
  ·rw[List.getElem?_append_right (by omega)]at e
   have:=ih (j-l.length) x e
   have e1:i+(l.length:Int)+((j-l.length:Nat):Int)=i+(j:Int):=by omega
   rw[e1]at this
   exact this.mono (by omega) (by omega)
def jc (f:Int) (b:List bS):List bS:=bG f++b++c7 f
theorem nn (f:Int) (b:List bS):(jc f b).length=b.length+5:=by simp[jc,bG,c7]
theorem pE (f:Int) (b:List bS) (i:Nat) (x:bS) (h:(jc f b)[i]? =some x):
  (i=0∧x=(22,2,2,0,0-f))∨(i=1∧x=(21,0,2,1,f-8))∨(∃j,i=j+2∧j<b.length∧b[j]? =some x)∨(i=b.length+2∧x=(14,1,2,0,f-8))∨(i=b.length+3∧x=(22,2,2,0,f))∨(i=b.length+4∧x=(4,0,1,0,0)):=by
 unfold jc bG c7 at h
 match i with
 |0=>exact .inl ⟨rfl,by cases h;rfl⟩
 |1=>exact .inr (.inl ⟨rfl,by cases h;rfl⟩)
 |j+2=>
  right;right
  simp only[List.cons_append,List.nil_append,List.getElem?_cons_succ]at h
  by_cases hj:j<b.length
  ·rw[List.getElem?_append_left hj]at h
   exact .inl ⟨j,rfl,hj,h⟩
  ·rw[List.getElem?_append_right (by omega)]at h
   right
   obtain⟨k,rfl⟩:∃k,j=b.length+k:=⟨j-b.length,by omega⟩
   rw[Nat.add_sub_cancel_left]at h
   match k with
   |0=>simp at h;exact .inl ⟨by omega,h.symm⟩
   |1=>simp at h;exact .inr (.inl ⟨by omega,h.symm⟩)
   |2=>simp at h;exact .inr (.inr ⟨by omega,h.symm⟩)
   |k+3=>simp at h
theorem Ep {xs:List bS} {i:Nat} (h:i<xs.length):∃x,xs[i]? =some x∧rd (τ:=cp) xs (i:Int)=x:=⟨xs[i],by simp[h],bj (τ:=cp) xs i h⟩
theorem nH.mono {f:Int} {C C' D D':Int→Prop} {l:List bS} (hC:∀m,C m→C' m) (hD:∀d,D d→D' d) (h:nH f C D l):nH f C' D' l:=by
 cases h with
 |alu n a b c hn ha hb hc=>exact .alu n a b c hn ha hb hc
 |imm a b i ha hb hi=>exact .imm a b i ha hb hi
 |data a d ha hd=>exact .data a d ha (hD d hd)
 |stack a b c i k ha hb hc hi hk=>exact .stack a b c i k ha hb hc hi hk
 |call i hi=>exact .call i (hC i hi)
 |out=>exact .out
 |skip n a b i hn ha hb hi=>exact .skip n a b i hn ha hb hi
 |turn k a b i hk ha hb hi=>exact .turn k a b i hk ha hb hi
 |sys v x y hv hx hy=>exact .sys v x y hv hx hy
theorem gy.mono {f:Int} {C C':Int→Int→Prop} {D D':Int→Prop} (hC:∀i m,C i m→C' i m) (hD:∀d,D d→D' d) {i:Int} {l:List bS} (h:gy f C D i l):gy f C' D' i l:=by
 induction h with
 |nil i=>exact .nil i
 |cons i l m h _ ih=>exact .cons i l m (h.mono (hC i) hD) ih
def BH (a:List Int):Prop:=∀x∈a,0≤x∧x≤255
theorem BI {n d a b i:Int} (hn:1≤n∧n≤64) (hd:0≤d∧d≤31) (ha:0≤a∧a≤31) (hb:0≤b∧b≤31) (hi: -4611686018427387904≤i∧i≤4611686018427387904) (hu:(cP n).1≠1):dH (n,d,a,b,i):=
 ⟨hn,⟨hd,ha,hb,by simp only;omega⟩,fun e=>absurd e hu⟩
theorem BJ {f:Int} {C:Int→Int→Prop} {D:Int→Prop} (hD:∀d,D d→nI d) (hf:jP f) {b:List bS} (h:gy f C D 2 b) (hC:∀(j:Nat) (m:Int),j<b.length→C (2+j) m→ -4611686018427387904≤m∧m≤4611686018427387904):∀x∈jc f b,dH x:=by
 have hfr:=hf.range
 intro x hx
 obtain⟨i,hi⟩:=List.getElem?_of_mem hx
 rcases pE f b i x hi with⟨_,rfl⟩|⟨_,rfl⟩|⟨j,_,hj,hb⟩|⟨_,rfl⟩|⟨_,rfl⟩|⟨_,rfl⟩
 ·exact dH.right (ld (by decide) (by decide) (by omega))
 ·exact dH.right (pU (by decide) (by decide) (by omega))
 ·rcases h.ins hD hf j x hb with⟨m,rfl,hm⟩|h
  ·have:=hC j m hj hm
   exact BI (by decide) (by decide) (by decide) (by decide) this (by decide)
  ·exact dH.right h.1
 ·exact dH.right (d8 (by decide) (by decide) (by omega))
 ·exact dH.right (ld (by decide) (by decide) (by omega))
 ·exact dH.right (by decide+kernel)
theorem BK (a b:ByteArray):(a++b).size=a.size+b.size:=ByteArray.size_append
theorem Df {K:Nat} {s:da} (n:Nat) (hn:n≤1000) (h:aS (K+n) s):∃(t:ByteArray) (s':da),Zo s (n:Int)=some (t,s')∧t.size=n∧aS K s':=by
 rw[Hk]
 have key:∀(k i:Nat) (s:da) (xs:List Int),i+k=n→xs.length=i→aS (K+k) s→∃(t:ByteArray) (s':da),Zo.a s (n:Int) xs (i:Int)=some (t,s')∧t.size=n∧aS K s':=by
  intro k
  induction k with
  |zero=>
   intro i s xs h1 h2 hs
   have:i=n:=by omega
   subst this
   rw[Zo.a_eq,ap,ai (a9 _)]
   exact⟨_,_,rfl,by rw[cV];exact h2,hs⟩
  |succ k ih=>
   intro i s xs h1 h2 hs
   obtain⟨v,s1,e,_,_,hs1⟩:=l6 (hs.mono (show K+k+1≤K+(k+1) by omega))
   rw[Zo.a_eq,ap,ah (show i<n by omega),e]
   simp only[ac,ae]
   rw[aY (by simp;omega) (by simp;omega),au i n (by omega) (by omega)]
   exact ih (i+1) s1 _ (by omega) (by simp;exact h2) hs1
 exact key n 0 s [] (by omega) rfl h
def pF (S:List iD) (i:Int) (k:Int) (x:bS):bS:=
 if x.1=3∧x.2.1=1 then(x.1,x.2.1,x.2.2.1,x.2.2.2.1,(rd (τ:=dz) S ((x.2.2.2.2+4*k)/1000000-1)).2.2.1-(rd (τ:=dz) S i).2.2.1-4*k)else x
def c8 (S:List iD) (i:Int):Int→List bS→List bS
 |_,[]=>[]
 |k,x::l=>pF S i k x::c8 S i (k+1) l
theorem bx (S:List iD) (i:Int):∀(l:List bS) (k:Int),(c8 S i k l).length=l.length
 | [],_=>rfl
 |x::l,k=>by simp[c8,bx S i l]
theorem gM (S:List iD) (i:Int):∀(l m:List bS) (k:Int),c8 S i k (l++m)=c8 S i k l++c8 S i (k+l.length) m
 | [],m,k=>by simp[c8]
 |x::l,m,k=>by
  simp only[List.cons_append,c8,gM S i l m (k+1),List.length_cons]
  rw[show k+1+(l.length:Int)=k+((l.length+1:Nat):Int) by omega]
theorem uV (S:List iD) (i:Int):∀(l:List bS) (k:Int) (j:Nat) (x:bS),l[j]? =some x→(c8 S i k l)[j]? =some (pF S i (k+j) x)
 | [],_,_,_,h=>by simp at h
 |y::l,k,0,x,h=>by simp at h;subst h;simp[c8]
 |y::l,k,j+1,x,h=>by
  have:=uV S i l (k+1) j x (by simpa using h)
  simp only[c8,List.getElem?_cons_succ,this]
  rw[show k+1+(j:Int)=k+((j+1:Nat):Int) by omega]
theorem a7 {S:List iD} {i k:Int} {x:bS} (h:x.1≠3):pF S i k x=x:=by
 unfold pF;rw[ak fun e=>h e.1]
def fA (S:List iD) (i:Int) (l:List bS) (k:Nat):List bS:=(c8 S i 0 l).take k++l.drop k
theorem zS (S:List iD) (i:Int) (l:List bS):fA S i l 0=l:=by simp[fA]
theorem zT (S:List iD) (i:Int) (l:List bS):fA S i l l.length=c8 S i 0 l:=by
 unfold fA
 rw[List.take_of_length_le (by rw[bx];exact Nat.le_refl _),List.drop_length,List.append_nil]
theorem np (S:List iD) (i:Int) (l:List bS) (k:Nat) (h:k≤l.length):(fA S i l k).length=l.length:=by
 simp[fA,bx];omega
theorem uW (S:List iD) (i:Int) (l:List bS) (k:Nat) (h:k<l.length):(fA S i l k)[k]? =l[k]? :=by
 unfold fA
 rw[List.getElem?_append_right (by simp[bx];omega)]
 simp only[List.length_take,bx,List.getElem?_drop]
 rw[show k+(k-min k l.length)=k by omega]
theorem rB (S:List iD) (i:Int) (l:List bS) (k:Nat) (h:k<l.length):(fA S i l k).set k (pF S i k l[k])=fA S i l (k+1):=by
 unfold fA
 have h1:((c8 S i 0 l).take k).length=k:=by simp[bx];omega
 rw[List.set_append_right _ _ (by omega),h1,Nat.sub_self,List.drop_eq_getElem_cons h,List.set_cons_zero]
 have h2:(c8 S i 0 l)[k]? =some (pF S i (0+k) l[k]):=uV S i l 0 k l[k] (by simp[h])
 rw[List.take_add_one,h2,Int.zero_add]
 simp
theorem rC (S:List iD) (i:Int) (l:List bS) (k:Nat) (h:k<l.length) (he:pF S i k l[k]=l[k]):fA S i l (k+1)=fA S i l k:=by
 rw[←rB S i l k h,he]
 have:=uW S i l k h
 apply List.ext_getElem?
 intro j
 rw[List.getElem?_set]
 split
 ·rename_i e
  subst e
  rw[np S i l k (by omega),av h,this];simp[h]
 ·rfl
theorem nH.fix {S:List iD} {i f:Int} {C C':Int→Prop} {D:Int→Prop} {k:Int} (hC:∀m,C m→C' ((rd (τ:=dz) S ((m+4*k)/1000000-1)).2.2.1-(rd (τ:=dz) S i).2.2.1-4*k)) {l:List bS} (h:nH f C D l):nH f C' D (c8 S i k l):=by
 cases h with
 |alu n a b c hn ha hb hc=>
  simp only[c8];rw[a7 (by simp only;omega)];exact .alu n a b c hn ha hb hc
 |imm a b i ha hb hi=>simp only[c8];rw[a7 (by simp)];exact .imm a b i ha hb hi
 |data a d ha hd=>
  simp only[c8]
  rw[a7 (by simp),a7 (by simp),a7 (by simp),a7 (by simp)];exact .data a d ha hd
 |stack a b c i k ha hb hc hi hk=>
  simp only[c8]
  rw[a7 (by simp),a7 (by simp),a7 (by simp)];exact .stack a b c i k ha hb hc hi hk
 |call m hm=>
  simp only[c8,pF,and_self,↓reduceIte]
  exact .call _ (hC m hm)
 |out=>simp only[c8];rw[a7 (by simp),a7 (by simp)];exact .out
 |skip n a b i hn ha hb hi=>
  simp only[c8]
  rw[a7 (by simp only;omega),a7 (by simp)];exact .skip n a b i hn ha hb hi
 |turn k a b i hk ha hb hi=>
  simp only[c8]
  rw[a7 (by simp),a7 (by simp),a7 (by simp),a7 (by simp)];exact .turn k a b i hk ha hb hi
 |sys v x y hv hx hy=>
  simp only[c8]
  rw[a7 (by simp),a7 (by simp),a7 (by simp),a7 (by simp)];exact .sys v x y hv hx hy
theorem gy.fix {S:List iD} {i f:Int} {C C':Int→Int→Prop} {D:Int→Prop} (hC:∀k m,C k m→C' k ((rd (τ:=dz) S ((m+4*k)/1000000-1)).2.2.1-(rd (τ:=dz) S i).2.2.1-4*k)) {k:Int} {l:List bS} (h:gy f C D k l):gy f C' D k (c8 S i k l):=by
 induction h with
 |nil k=>exact .nil k
 |cons k l m h _ ih=>
  rw[gM]
  refine .cons k _ _ (h.fix (hC k)) ?_
  rw[bx];exact ih
theorem BL (S:List iD) (i f:Int) (b:List bS):c8 S i 0 (jc f b)=jc f (c8 S i 2 b):=by
 unfold jc
 rw[gM,gM]
 congr 1
abbrev Fn:Type:=Int×List bS
def db:List Fn→Nat
 | []=>0
 |p::r=>p.2.length+db r
def i6:List Fn→List bS
 | []=>[]
 |p::r=>p.2++i6 r
def HC:List ByteArray:=[(⟨#[109,97,105,110]⟩:ByteArray),(⟨#[119,111,114,107]⟩:ByteArray),(⟨#[108,101,97,102]⟩:ByteArray),(⟨#[116,105,99,107]⟩:ByteArray),(⟨#[112,97,100]⟩:ByteArray),(⟨#[99,97,108,99]⟩:ByteArray)]
def BM (k:Nat):ByteArray:=rd (τ:= .str) HC (k:Int)
def dI:Nat→Nat→List Fn→List iD
 |_,_,[]=>[]
 |k,a,p::r=>(BM k,1,((4*a:Nat):Int),((4*p.2.length:Nat):Int),p.1)::dI (k+1) (a+p.2.length) r
theorem fB:∀l:List Fn,(i6 l).length=db l
 | []=>rfl
 |q::l=>by simp[i6,db,fB l]
theorem mR:∀(l:List Fn) (p:Fn),i6 (l++[p])=i6 l++p.2
 | [],p=>by simp[i6]
 |q::l,p=>by simp[i6,mR l p]
theorem rD:∀(l:List Fn) (p:Fn) (k a:Nat),dI k a (l++[p])=dI k a l++[(BM (k+l.length),1,((4*(a+db l):Nat):Int),((4*p.2.length:Nat):Int),p.1)]
 | [],p,k,a=>by simp[dI,db]
 |q::l,p,k,a=>by
  simp only[List.cons_append,dI,rD l p,List.length_cons,db]
  rw[show k+1+l.length=k+(l.length+1) by omega,show a+q.2.length+db l=a+(q.2.length+db l) by omega]
theorem bW:∀(l:List Fn) (k a:Nat),(dI k a l).length=l.length
 | [],_,_=>rfl
 |q::l,k,a=>by simp[dI,bW l]
theorem nZ (l:List Fn) (m:Nat) (h:∀p∈l,p.2.length≤m):db l≤m*l.length:=by
 induction l with
 |nil=>simp[db]
 |cons p l ih=>
  have h1:=h p (by simp)
  have h2:=ih fun q hq=>h q (by simp[hq])
  simp only[db,List.length_cons,Nat.mul_add];omega
def zU (C:Int→Int→Prop) (D:Int→Prop) (p:Fn):Prop:=jP p.1∧∃b,p.2=jc p.1 b∧gy p.1 C D 2 b∧b.length≤24∧1≤b.length
theorem zU.len {C:Int→Int→Prop} {D:Int→Prop} {p:Fn} (h:zU C D p):p.2.length≤29∧6≤p.2.length:=by
 obtain⟨_,b,e,_,h1,h2⟩:=h
 rw[e,nn];omega
theorem sM:Zc=some HC:=G8
def BN (calls:List Int):Int→Int→Prop:=fun i m=>∃c∈calls,m=c-0-4*i
theorem BO {C:Int→Int→Prop} {D:Int→Prop} (hD:∀d,D d→nI d) {p:Fn} (h:zU C D p) (hC:∀(j:Nat) (m:Int),j≤100→C j m→ -4611686018427387904≤m∧m≤4611686018427387904):∀x∈p.2,dH x:=by
 obtain⟨hf,b,e,hp,h1,h2⟩:=h
 rw[e]
 refine BJ hD hf hp fun j m hj hm=>hC (2+j) m (by omega) ?_
 have:((2+j:Nat):Int)=2+(j:Int):=by omega
 rw[this];exact hm
theorem BP {α:Type} (l:List α) (d x:α):(l++[d]).set l.length x=l++[x]:=by
 rw[List.set_append_right _ _ (Nat.le_refl _)];simp
theorem wZ (im0:iY) (n words:Int) (calls datas:List Int) (hn:n≤5) (hc:∀c∈calls,zR c) (hd:∀d∈datas,nI d) (hcl:calls.length≤256) (hdl:datas.length≤256) {K:Nat}:∀(k i:Nat) (s:da) (fs:List Fn),(i:Int)+k=n→fs.length=i→(∀p∈fs,zU (BN calls) (· ∈datas) p)→aS (K+150*k) s→
  ∃(fs':List Fn) (t:da),fs'.length=i+k∧(∀p∈fs',zU (BN calls) (· ∈datas) p)∧aS K t∧
   Zj.c s im0 n words datas calls (cg (i6 fs),⟨#[]⟩,dI 0 0 fs) (fs.map (·.2)) (i:Int)=Zj.d t im0 n words (⟨#[]⟩,⟨#[]⟩,dI 0 0 fs') (fs'.map (·.2)) 0:=by
 intro k
 induction k with
 |zero=>
  intro i s fs hk hl hfs hs
  refine⟨fs,s,by omega,hfs,hs.mono (by omega), ?_⟩
  rw[Zj.c_eq,ai (show¬(i:Int)<n by omega)];rfl
 |succ k ih=>
  intro i s fs hk hl hfs hs
  obtain⟨f,s1,e1,hf,h1⟩:=BG (hs.mono (show K+150*k+147+3≤K+150*(k+1) by omega))
  obtain⟨v,s2,e2,p2,q2,_,h2⟩:=bl (h1.mono (show K+150*k+144+3≤K+150*k+147 by omega)) 6
  have q2:=q2 (by decide)
  obtain⟨m,hm⟩:∃m:Nat,1+v=m:=⟨(1+v).toNat,by omega⟩
  obtain⟨b,s3,e3,hp,_,hb1,hb4,h3⟩:=l7 (K:=K+150*k) m (h2.mono (by omega)) 0 f calls datas hf (by decide) hc hd hcl hdl (by omega)
  have hD:zU (BN calls) (· ∈datas) (f,jc f b):=⟨hf,b,rfl,hp,by omega,hb1 (by omega)⟩
  have hlen:(bG f++b++c7 f).length=b.length+5:=nn f b
  have hls:=nZ fs 29 fun p hp=>(hfs p hp).len.1
  have hsz:(cg (i6 fs)).size=4*db fs:=by rw[dp,fB]
  have henc:∀x∈bG f++b++c7 f,dH x:=BO (p:=(f,jc f b)) hd hD fun j m hj hm=>by
   obtain⟨c,hcm,rfl⟩:=hm
   have:=hc c hcm
   unfold zR at this;omega
  rw[Zj.c_eq,ah (show(i:Int)<n by omega),e1]
  simp only[ac,ae]
  rw[e2]
  simp only[ae]
  rw[aQ (n:=1+v) (by omega) (by omega),hm,e3,sM]
  simp only[ae]
  rw[aY (by simp;omega) (by simp;omega),inL_true (by omega) (by simp[HC];omega),aY (by simp[bW];omega) (by simp[bW];omega),lc _ (by omega) henc]
  simp only[ac,ae]
  rw[ah (by rw[dp,dp,hlen,fB];omega),ac,au i 5 (by omega) (by omega),aQ (n:=4*((bG f++b++c7 f).length:Int)) (by omega) (by omega),hsz]
  have hset:((fs.map (·.2))++[([]:List bS)]).set (fs.map (·.2)).length (bG f++b++c7 f)=(fs++[(f,jc f b)]).map (·.2):=by
   rw[BP,List.map_append];rfl
  have hcat:cg (i6 fs)++cg (bG f++b++c7 f)=cg (i6 (fs++[(f,jc f b)])):=by
   rw[mR,hZ (i6 fs)];rfl
  have hsym:dI 0 0 fs++[((rd (τ:= .str) HC (i:Int)),1,((4*db fs:Nat):Int),4*((bG f++b++c7 f).length:Int),f)]=dI 0 0 (fs++[(f,jc f b)]):=by
   rw[rD,Nat.zero_add,Nat.zero_add,hl]
   have:((4*(jc f b).length:Nat):Int)=4*((bG f++b++c7 f).length:Int):=by rw[show(bG f++b++c7 f)=jc f b from rfl];omega
   rw[this];rfl
  obtain⟨fs',t,g1,g2,g3,g4⟩:=ih (i+1) s3 (fs++[(f,jc f b)]) (by omega) (by simp[hl]) (fun p hp=>by
   rcases List.mem_append.1 hp with hp|hp
   ·exact hfs p hp
   ·rw[List.mem_singleton.1 hp];exact hD) h3
  refine⟨fs',t,by omega,g2,g3, ?_⟩
  rw[←g4]
  have hset':((fs.map (·.2))++[([]:List bS)]).set (fs.map (·.2)).length (bG f++b++c7 f)=List.map (·.2) (fs++[(f,jc f b)]):=hset
  rw[hset',hcat,hsym]
theorem xS {τ:Ty} (xs:List τ.den) (i:Nat) (x:τ.den) (h:i<xs.length):rd (τ:=τ) (xs.set i x) (i:Int)=x:=by
 rw[bj _ i (by simpa using h)];simp
def w2 (S:List iD):Prop:=S.length≤16∧∀j:Nat,j<S.length→∃v:Int,(rd (τ:=dz) S (j:Int)).2.2.1=v∧0≤v∧v≤100000
def BQ (n:Nat) (L:List bS):Prop:=∀(k:Nat) (x:bS),L[k]? =some x→x.1=3→x.2.1=1→∃t:Nat,t<n∧x.2.2.2.2=1000000*((t:Int)+1)-4*(k:Int)
theorem zV (s:da) (im0:iY) (n words:Int) (S:List iD) (code:ByteArray) (i:Nat) (L:List bS) (codes:List (List bS)) (hL:L.length≤100) (hS:w2 S) (hi:i<S.length) (hic:i<codes.length) (hc:BQ S.length L):
  ∀(j k:Nat),k+j=L.length→Zj.f s im0 n words (code,⟨#[]⟩,S) (codes.set i (fA S (i:Int) L k)) (i:Int) (i:Int) (k:Int)=Zj.f s im0 n words (code,⟨#[]⟩,S) (codes.set i (c8 S (i:Int) 0 L)) (i:Int) (i:Int) (L.length:Int):=by
 intro j
 induction j with
 |zero=>
  intro k hk
  have:k=L.length:=by omega
  subst this
  rw[zT]
 |succ j ih=>
  intro k hk
  have hkl:k<L.length:=by omega
  rw[←ih (k+1) (by omega)]
  have hrd:rd (τ:= .list cp) (codes.set i (fA S (i:Int) L k)) (i:Int)=fA S (i:Int) L k:=xS (τ:= .list cp) codes i _ hic
  have hhl:=np S (i:Int) L k (by omega)
  have hel:rd (τ:=cp) (fA S (i:Int) L k) (k:Int)=L[k]:=kb (τ:=cp) _ k _ (by rw[uW _ _ _ _ hkl];simp[hkl])
  rw[Zj.f_eq,hrd,hhl,ap,ah hkl]
  simp only[ac,aA]
  rw[aq,ah hkl,hel,au k L.length hkl (by omega)]
  simp only[ac,aT,List.set_set]
  by_cases h3:L[k].1=3
  ·by_cases h1:L[k].2.1=1
   ·obtain⟨t,ht,hm⟩:=hc k L[k] (by simp[hkl]) h3 h1
    have e1:L[k].2.2.2.2+4*(k:Int)=1000000*((t:Int)+1):=by omega
    have hti:=hS.1
    obtain⟨A,hA,hA0,hA1⟩:=hS.2 t ht
    obtain⟨B,hB,hB0,hB1⟩:=hS.2 i hi
    rw[ah h3,ah h1]
    simp only[ac]
    rw[aQ (n:=4*(k:Int)) (by omega) (by omega),e1,aQ (n:=1000000*((t:Int)+1)) (by omega) (by omega),Int.tdiv_eq_ediv_of_nonneg (by omega),show 1000000*((t:Int)+1)/1000000=(t:Int)+1 by omega,aQ (n:=(t:Int)+1) (by omega) (by omega),aQ (n:=(t:Int)+1-1) (by omega) (by omega),show(t:Int)+1-1=(t:Int) by omega,aq,ah ht,aq,ah hi]
    simp only[ac,letB]
    rw[hA,hB,aQ (n:=A-B) (by omega) (by omega),aQ (n:=A-B-4*(k:Int)) (by omega) (by omega)]
    rw[←rB S (i:Int) L k hkl]
    have hf:pF S (i:Int) (k:Int) L[k]=(L[k].1,L[k].2.1,L[k].2.2.1,L[k].2.2.2.1,A-B-4*(k:Int)):=by
     unfold pF
     rw[av ⟨h3,h1⟩,e1,show 1000000*((t:Int)+1)/1000000-1=(t:Int) by omega,hA,hB]
    rw[hf]
   ·rw[ah h3,ai h1]
    simp only[ac,af]
    rw[rC S (i:Int) L k hkl (by unfold pF;rw[ak fun e=>h1 e.2])]
  ·rw[ai h3]
   simp only[af]
   rw[rC S (i:Int) L k hkl (a7 h3)]
def kk (S:List iD):Nat→List Fn→List Fn
 |_,[]=>[]
 |i,p::r=>(p.1,c8 S (i:Int) 0 p.2)::kk S (i+1) r
theorem gO (S:List iD):∀(r:List Fn) (i:Nat),(kk S i r).length=r.length
 | [],_=>rfl
 |p::r,i=>by simp[kk,gO S r]
theorem rE (S:List iD):∀(r:List Fn) (i k a:Nat),dI k a (kk S i r)=dI k a r
 | [],_,_,_=>rfl
 |p::r,i,k,a=>by simp only[kk,dI,bx,rE S r]
theorem uX (s:da) (im0:iY) (n words:Int) (S:List iD) (hS:w2 S):∀(r g:List Fn),((g.length+r.length:Nat):Int)=n→g.length+r.length≤S.length→(∀q∈g,q.2.length≤100)→(∀q∈r,q.2.length≤100∧BQ S.length q.2∧∀i:Nat,i<S.length→∀x∈c8 S (i:Int) 0 q.2,dH x)→
  Zj.d s im0 n words (cg (i6 g),⟨#[]⟩,S) (g.map (·.2)++r.map (·.2)) (g.length:Int)=Zj.e s im0 words (cg (i6 (g++kk S g.length r)),⟨#[]⟩,S) 0:=by
 intro r
 induction r with
 |nil=>
  intro g hn hg h1 h2
  rw[Zj.d_eq,ai (by simp at hn;omega)]
  simp[kk]
 |cons p r ih=>
  intro g hn hg h1 h2
  obtain⟨p1,p2,p3⟩:=h2 p (by simp)
  have hlen:((g.map (·.2)++(p::r).map (·.2)):List (List bS)).length=g.length+(r.length+1):=by simp
  have hrd:rd (τ:= .list cp) (g.map (·.2)++(p::r).map (·.2)) (g.length:Int)=p.2:=kb (τ:= .list cp) _ g.length _ (by rw[List.getElem?_append_right (by simp)];simp)
  have hset:∀X:List bS,((g.map (·.2)++(p::r).map (·.2)):List (List bS)).set g.length X=g.map (·.2)++X::r.map (·.2):=fun X=>by
   rw[List.set_append_right _ _ (by simp)];simp
  have hls:=nZ g 100 h1
  have hsl:=hS.1
  simp only[List.length_cons]at hn hg
  rw[Zj.d_eq,ah (by omega),aq,hlen,ah (by omega),hrd]
  simp only[ac,aT]
  have hz:=zV s im0 n words S (cg (i6 g)) g.length p.2 (g.map (·.2)++(p::r).map (·.2)) p1 hS (by omega) (by rw[hlen];omega) p2 p.2.length 0 (by omega)
  rw[zS]at hz
  have hz':Zj.f s im0 n words (cg (i6 g),⟨#[]⟩,S) ((g.map (·.2)++(p::r).map (·.2)).set g.length p.2) (g.length:Int) (g.length:Int) 0=_:=hz
  rw[hz',Zj.f_eq]
  have hrd2:rd (τ:= .list cp) ((g.map (·.2)++(p::r).map (·.2)).set g.length (c8 S (g.length:Int) 0 p.2)) (g.length:Int)=c8 S (g.length:Int) 0 p.2:=xS (τ:= .list cp) _ _ _ (by rw[hlen];omega)
  rw[hrd2,bx,ap,ai (a9 _)]
  simp only[af]
  rw[lc _ (by rw[bx];omega) (p3 g.length (by omega))]
  simp only[ae]
  rw[ah (by rw[dp,dp,fB,bx];omega),ac,aT,List.set_set,hset,au g.length (g.length+1) (by omega) (by omega)]
  have:=ih (g++[(p.1,c8 S (g.length:Int) 0 p.2)]) (by simp;omega) (by simp;omega) (fun q hq=>by
   rcases List.mem_append.1 hq with hq|hq
   ·exact h1 q hq
   ·rw[List.mem_singleton.1 hq];simp only;rw[bx];omega) (fun q hq=>h2 q (by simp[hq]))
  simp only[List.length_append,List.length_cons,List.length_nil,Nat.zero_add,List.map_append,List.map_cons,List.map_nil,aZ,List.cons_append,List.nil_append]at this
  rw[mR,hZ]at this
  rw[this]
  simp only[kk]
def pV (w c:Int):List iD:=if w>0 then((⟨#[99,111,117,110,116]⟩:ByteArray),2,0,8*c,0)::(if c<w then[((⟨#[108,105,115,116]⟩:ByteArray),2,8*c,8*(w-c),0)]else[])else[]
theorem w4 (im0:iY) (words:Int) (code:ByteArray) (S:List iD) (hw:0≤words∧words≤7) (hS:S.length≤10) {K:Nat}:∀(k i:Nat) (s:da) (dat:ByteArray),(i:Int)+k=words→dat.size=8*i→aS (K+3+3*k) s→
  ∃(dat':ByteArray) (c:Int) (t:da),(dat'.size:Int)=8*words∧1≤c∧(words>0→c≤words)∧aS K t∧Zj.e s im0 words (code,dat,S) (i:Int)=some ((code,dat',S++pV words c),t):=by
 intro k
 induction k with
 |zero=>
  intro i s dat hk hd hs
  rw[Zj.e_eq,ai (by omega)]
  simp only[af]
  by_cases h0:words>0
  ·obtain⟨v,t,e,p,q,_,ht⟩:=bl (hs.mono (show K+3≤K+3+3*0 by omega)) words
   have q:=q (by omega)
   rw[ah h0,e]
   simp only[ac,ae]
   rw[aQ (n:=1+v) (by omega) (by omega),aQ (n:=8*(1+v)) (by omega) (by omega),aY (by simp;omega) (by simp;omega)]
   simp only[ac]
   by_cases h1:1+v<words
   ·rw[ah h1,aQ (n:=words-(1+v)) (by omega) (by omega),aQ (n:=8*(words-(1+v))) (by omega) (by omega),aY (by simp;omega) (by simp;omega)]
    refine⟨dat,1+v,t,by omega,by omega,fun _=>by omega,ht, ?_⟩
    simp[pV,h0,h1]
   ·rw[ai h1]
    refine⟨dat,1+v,t,by omega,by omega,fun _=>by omega,ht, ?_⟩
    simp[pV,h0,h1]
  ·rw[ai h0]
   refine⟨dat,1,s,by omega,by omega,fun h=>absurd h h0,hs.mono (by omega), ?_⟩
   simp[pV,h0]
 |succ k ih=>
  intro i s dat hk hd hs
  obtain⟨v,t,e,p,q,_,ht⟩:=bl (hs.mono (show K+3+3*k+3≤K+3+3*(k+1) by omega)) 50
  rw[Zj.e_eq,ah (by omega),e]
  simp only[ac,ae]
  rw[show Zd v 8=some (bp (pT v 8)) from gK v 8 (by omega)]
  simp only[ae]
  rw[ah (by rw[cV,gj,hd];omega),ac,au i 7 (by omega) (by omega)]
  exact ih (i+1) t (dat++bp (pT v 8)) (by omega) (by rw[BK,cV,gj,hd];omega) ht
def BR (w d:Int):Prop:=∃i:Nat,(i:Int)<w∧d=16384+8*(i:Int)
theorem BR.ok {w d:Int} (hw:w≤7) (h:BR w d):nI d:=by
 obtain⟨i,h1,rfl⟩:=h
 unfold nI;omega
def dE (gs:List Fn) (t:Nat):Nat:=db (gs.take t)
theorem uY (s:da) (im0:iY) (n words:Int) (hw:words≤7):∀(k i:Nat) (l:List Int),(i:Int)+k=words→l.length=i→(∀d∈l,BR words d)→
  ∃l',l'.length=i+k∧(∀d∈l',BR words d)∧Zj.a s im0 n words l (i:Int)=Zj.b s im0 n words l' [] 0:=by
 intro k
 induction k with
 |zero=>
  intro i l hk hl hd
  refine⟨l,by omega,hd, ?_⟩
  rw[Zj.a_eq,ai (by omega)];rfl
 |succ k ih=>
  intro i l hk hl hd
  obtain⟨l',g1,g2,g3⟩:=ih (i+1) (l++[16384+8*(i:Int)]) (by omega) (by simp[hl]) (fun d hd'=>by
   rcases List.mem_append.1 hd' with h|h
   ·exact hd d h
   ·rw[List.mem_singleton.1 h];exact⟨i,by omega,rfl⟩)
  refine⟨l',by omega,g2, ?_⟩
  rw[←g3,Zj.a_eq,ah (by omega),aY (by simp;omega) (by simp;omega),aQ (n:=8*(i:Int)) (by omega) (by omega),aQ (n:=16384+8*(i:Int)) (by omega) (by omega),au i 7 (by omega) (by omega)]
  rfl
def Dg (n:Int) (c:Int):Prop:=∃t:Nat,(t:Int)<n∧c=1000000*((t:Int)+1)
theorem uZ (s:da) (im0:iY) (n words:Int) (datas:List Int) (hn:n≤5):∀(k i:Nat) (l:List Int),(i:Int)+k=n→l.length=i→(∀d∈l,Dg n d)→
  ∃l',l'.length=i+k∧(∀d∈l',Dg n d)∧Zj.b s im0 n words datas l (i:Int)=Zj.c s im0 n words datas l' (⟨#[]⟩,⟨#[]⟩,[]) [] 0:=by
 intro k
 induction k with
 |zero=>
  intro i l hk hl hd
  refine⟨l,by omega,hd, ?_⟩
  rw[Zj.b_eq,ai (by omega)];rfl
 |succ k ih=>
  intro i l hk hl hd
  obtain⟨l',g1,g2,g3⟩:=ih (i+1) (l++[1000000*((i:Int)+1)]) (by omega) (by simp[hl]) (fun d hd'=>by
   rcases List.mem_append.1 hd' with h|h
   ·exact hd d h
   ·rw[List.mem_singleton.1 h];exact⟨i,by omega,rfl⟩)
  refine⟨l',by omega,g2, ?_⟩
  rw[←g3,Zj.b_eq,ah (by omega),aY (by simp;omega) (by simp;omega),aQ (n:=(i:Int)+1) (by omega) (by omega),aQ (n:=1000000*((i:Int)+1)) (by omega) (by omega)]
  rfl
theorem pG:∀(l:List Fn) (k a j:Nat) (p:Fn),l[j]? =some p→(dI k a l)[j]? =some (BM (k+j),1,((4*(a+dE l j):Nat):Int),((4*p.2.length:Nat):Int),p.1)
 | [],_,_,_,_,h=>by simp at h
 |q::l,k,a,0,p,h=>by simp at h;subst h;simp[dI,dE,db]
 |q::l,k,a,j+1,p,h=>by
  have:=pG l (k+1) (a+q.2.length) j p (by simpa using h)
  simp only[dI,List.getElem?_cons_succ,this,dE,List.take_succ_cons,db]
  rw[show k+1+j=k+(j+1) by omega,Nat.add_assoc]
theorem sN (l:List Fn) (m j:Nat) (h:∀p∈l,p.2.length≤m):dE l j≤m*l.length:=by
 have h1:=nZ (l.take j) m fun p hp=>h p (List.mem_of_mem_take hp)
 have h2:(l.take j).length≤l.length:=by simp;omega
 exact Nat.le_trans h1 (Nat.mul_le_mul_left m h2)
theorem u6 (S:List iD):∀(r:List Fn) (i j:Nat) (p:Fn),r[j]? =some p→(kk S i r)[j]? =some (p.1,c8 S ((i+j:Nat):Int) 0 p.2)
 | [],_,_,_,h=>by simp at h
 |q::r,i,0,p,h=>by simp at h;subst h;simp[kk]
 |q::r,i,j+1,p,h=>by
  have:=u6 S r (i+1) j p (by simpa using h)
  simp only[kk,List.getElem?_cons_succ,this]
  rw[show i+1+j=i+(j+1) by omega]
theorem pH (S:List iD):∀(r:List Fn) (i t:Nat),dE (kk S i r) t=dE r t
 | [],_,_=>rfl
 |q::r,i,0=>by simp[dE,db]
 |q::r,i,t+1=>by
  have:=pH S r (i+1) t
  simp only[dE,kk,List.take_succ_cons,db,bx]at this⊢
  rw[this]
theorem pI (fs:List Fn) (h5:fs.length≤5) (hl:∀p∈fs,p.2.length≤29) (t:Nat) (ht:t<fs.length):(rd (τ:=dz) (dI 0 0 fs) (t:Int)).2.2.1=4*(dE fs t:Int):=by
 have:=pG fs 0 0 t fs[t] (by simp[ht])
 rw[kb (τ:=dz) _ t _ this]
 show((4*(0+dE fs t):Nat):Int)=_
 omega
theorem u7 (fs:List Fn) (h5:fs.length≤5) (hl:∀p∈fs,p.2.length≤29):w2 (dI 0 0 fs):=by
 refine⟨by rw[bW];omega,fun j hj=> ?_⟩
 rw[bW]at hj
 have:=sN fs 29 j hl
 exact⟨4*(dE fs j:Int),pI fs h5 hl j hj,by omega,by omega⟩
def Ib (gs:List Fn) (j:Nat):Int→Int→Prop:=fun k m=>∃t:Nat,t<gs.length∧m=4*(dE gs t:Int)-4*(dE gs j:Int)-4*k
structure dJ (im:iY) (gs:List Fn) (w c:Int):Prop where
 hn:1≤gs.length∧gs.length≤5
 hw:0≤w∧w≤7
 hc:1≤c∧(w>0→c≤w)
 code:im.1=cg (i6 gs)
 data:(im.2.1.size:Int)=8*w
 syms:im.2.2=dI 0 0 gs++pV w c
 funs:∀(j:Nat) (p:Fn),gs[j]? =some p→zU (Ib gs j) (BR w) p
theorem zU.calls {n:Nat} {calls:List Int} {D:Int→Prop} (hD:∀d,D d→nI d) (hc:∀c∈calls,Dg (n:Int) c) {p:Fn} (h:zU (BN calls) D p):BQ n p.2:=by
 obtain⟨hf,b,e,hp,h1,h2⟩:=h
 intro k x hx h3 h1'
 rw[e]at hx
 rcases pE p.1 b k x hx with⟨_,rfl⟩|⟨_,rfl⟩|⟨j,hj,hjb,hb⟩|⟨_,rfl⟩|⟨_,rfl⟩|⟨_,rfl⟩
 ·simp at h3
 ·simp at h3
 ·rcases hp.ins hD hf j x hb with⟨m,rfl,c,hcm,rfl⟩|h
  ·obtain⟨t,ht,rfl⟩:=hc c hcm
   exact⟨t,by omega,by simp only;omega⟩
  ·exact absurd h3 h.2.1
 ·simp at h3
 ·simp at h3
 ·simp at h3
theorem zU.fixed {n:Nat} {calls:List Int} {D:Int→Prop} (hc:∀c∈calls,Dg (n:Int) c) {S:List iD} {O:Nat→Int} (hO:∀t:Nat,t<n→(rd (τ:=dz) S (t:Int)).2.2.1=O t) {p:Fn} (h:zU (BN calls) D p) (j:Nat) (hj:j<n):
  zU (fun k m=>∃t:Nat,t<n∧m=O t-O j-4*k) D (p.1,c8 S (j:Int) 0 p.2):=by
 obtain⟨hf,b,e,hp,h1,h2⟩:=h
 refine⟨hf,c8 S (j:Int) 2 b,by simp only;rw[e,BL],gy.fix (fun k m hm=> ?_) hp,by rw[bx];exact h1,by rw[bx];exact h2⟩
 obtain⟨c,hcm,rfl⟩:=hm
 obtain⟨t,ht,rfl⟩:=hc c hcm
 refine⟨t,by omega, ?_⟩
 rw[show(1000000*((t:Int)+1)-0-4*k+4*k)/1000000-1=(t:Int) by omega,hO t (by omega),hO j hj]
theorem BS {K:Nat} {s:da} (h:aS (K+900) s):∃(im:iY) (gs:List Fn) (w c:Int) (t:da),Zj s=some (im,t)∧dJ im gs w c∧aS K t:=by
 obtain⟨v1,s1,e1,p1,q1,_,h1⟩:=bl (h.mono (show K+897+3≤K+900 by omega)) 5
 obtain⟨v2,s2,e2,p2,q2,_,h2⟩:=bl (h1.mono (show K+894+3≤K+897 by omega)) 8
 have q1:=q1 (by decide);have q2:=q2 (by decide)
 obtain⟨n,hn⟩:∃n:Nat,1+v1=n:=⟨(1+v1).toNat,by omega⟩
 obtain⟨w,hw⟩:∃w:Nat,v2=w:=⟨v2.toNat,by omega⟩
 subst hw
 obtain⟨datas,d1,d2,d3⟩:=uY s2 (⟨#[]⟩,⟨#[]⟩,[]) (n:Int) (w:Int) (by omega) w 0 [] (by omega) rfl (by simp)
 obtain⟨calls,c1,c2,c3⟩:=uZ s2 (⟨#[]⟩,⟨#[]⟩,[]) (n:Int) (w:Int) datas (by omega) n 0 [] (by omega) rfl (by simp)
 have hdat:∀d∈datas,nI d:=fun d hd=>(d2 d hd).ok (by omega)
 have hcal:∀c∈calls,zR c:=fun c hc=>by obtain⟨t,ht,rfl⟩:=c2 c hc;unfold zR;omega
 obtain⟨fs,s3,f1,f2,f3,f4⟩:=wZ (⟨#[]⟩,⟨#[]⟩,[]) (n:Int) (w:Int) calls datas (by omega) hcal hdat (by omega) (by omega) (K:=K+100) n 0 s2 [] (by omega) rfl (by simp) (h2.mono (by omega))
 have hlen:∀p∈fs,p.2.length≤29:=fun p hp=>(f2 p hp).len.1
 have hfn:fs.length=n:=by omega
 have hSl:(dI 0 0 fs).length=n:=by rw[bW,hfn]
 have hO:∀t:Nat,t<n→(rd (τ:=dz) (dI 0 0 fs) (t:Int)).2.2.1=4*(dE fs t:Int):=fun t ht=>pI fs (by omega) hlen t (by omega)
 have hfix:∀p∈fs,∀j:Nat,j<n→zU (fun k m=>∃t:Nat,t<n∧m=4*(dE fs t:Int)-4*(dE fs j:Int)-4*k) (· ∈datas) (p.1,c8 (dI 0 0 fs) (j:Int) 0 p.2):=fun p hp j hj=>(f2 p hp).fixed c2 hO j hj
 have g:=uX s3 (⟨#[]⟩,⟨#[]⟩,[]) (n:Int) (w:Int) (dI 0 0 fs) (u7 fs (by omega) hlen) fs [] (by simp;omega) (by rw[bW];simp) (by simp) (fun q hq=>⟨by have:=hlen q hq;omega,by rw[hSl];exact(f2 q hq).calls hdat c2,fun i hi=>BO hdat (hfix q hq i (by omega)) fun j m hj hm=>by
   obtain⟨t,ht,rfl⟩:=hm
   have:=sN fs 29 t hlen
   have:=sN fs 29 i hlen
   omega⟩)
 obtain⟨dat,c,s4,k1,k2,k3,k4,k5⟩:=w4 (⟨#[]⟩,⟨#[]⟩,[]) (w:Int) (cg (i6 (kk (dI 0 0 fs) 0 fs))) (dI 0 0 fs) (by omega) (by omega) (K:=K) w 0 s3 ⟨#[]⟩ (by omega) rfl (f3.mono (by omega))
 refine⟨(cg (i6 (kk (dI 0 0 fs) 0 fs)),dat,dI 0 0 fs++pV (w:Int) c),kk (dI 0 0 fs) 0 fs,w,c,s4, ?_,⟨by rw[gO];omega,by omega,⟨k2,k3⟩,rfl,k1,by rw[rE],fun j p hp=> ?_⟩,k4⟩
 ·rw[Hf,e1]
  simp only[ae]
  rw[e2]
  simp only[ae]
  rw[aQ (n:=1+v1) (by omega) (by omega),hn]
  have d3':Zj.a s2 (⟨#[]⟩,⟨#[]⟩,[]) (n:Int) (w:Int) [] 0=_:=d3
  have c3':Zj.b s2 (⟨#[]⟩,⟨#[]⟩,[]) (n:Int) (w:Int) datas [] 0=_:=c3
  have f4':Zj.c s2 (⟨#[]⟩,⟨#[]⟩,[]) (n:Int) (w:Int) datas calls (⟨#[]⟩,⟨#[]⟩,[]) [] 0=_:=f4
  have g':Zj.d s3 (⟨#[]⟩,⟨#[]⟩,[]) (n:Int) (w:Int) (⟨#[]⟩,⟨#[]⟩,dI 0 0 fs) (fs.map (·.2)) 0=_:=g
  rw[d3',c3',f4',g']
  exact k5
 ·have hj:j<fs.length:=by
   have:=(List.getElem?_eq_some_iff.1 hp).1
   rw[gO]at this;exact this
  have e:=u6 (dI 0 0 fs) fs 0 j fs[j] (by simp[hj])
  rw[hp]at e
  simp only[aa]at e
  rw[e,Nat.zero_add]
  obtain⟨hf,b,e1,hp1,r1,r2⟩:=hfix fs[j] (List.getElem_mem hj) j (by omega)
  refine⟨hf,b,e1,hp1.mono (fun k m hm=> ?_) (fun d hd=>d2 d hd),r1,r2⟩
  obtain⟨t,ht,rfl⟩:=hm
  exact⟨t,by rw[gO];omega,by rw[pH,pH]⟩
theorem w6 (t:ByteArray) (hz:t.size≤20) (h:∀i:Nat,i<t.size→97≤bt t (i:Int)∧bt t (i:Int)≤122):∀(k i:Nat),i+k=t.size→nt.a t (i:Int)=some true:=by
 intro k
 induction k with
 |zero=>
  intro i hi
  rw[nt.a_eq,ap,ai (by omega)];rfl
 |succ k ih=>
  intro i hi
  obtain⟨h1,h2⟩:=h i (by omega)
  rw[nt.a_eq,ap,ah (show i<t.size by omega),aq,ah (show i<t.size by omega),sR,ah h1,ah h2,au i t.size (by omega) (by omega)]
  exact ih (i+1) (by omega)
theorem zW (t:ByteArray) (h0:1≤t.size) (hz:t.size≤20) (h:∀i:Nat,i<t.size→97≤bt t (i:Int)∧bt t (i:Int)≤122):cn t=true:=by
 have e:nt t=some true:=by
  obtain⟨h1,h2⟩:=h 0 (by omega)
  have h1':bt t 0≥97:=h1
  have h2':bt t 0≤122:=h2
  rw[xd,xV,ah (show(1:Int)≤(t.size:Int) by omega),ah (show(t.size:Int)≤20 by omega),inL_true (by omega) (by omega),sR,ah h1',ah h2']
  exact w6 t hz h (t.size-1) 1 (by omega)
 unfold cn
 rw[e];rfl
def u9 (t:ByteArray):Bool:=decide (1≤t.size)&&decide (t.size≤20)&&(List.range t.size).all fun i=>decide (97≤bt t (i:Int))&&decide (bt t (i:Int)≤122)
theorem lf {t:ByteArray} (h:u9 t=true):cn t=true:=by
 simp only[u9,aB,bh,List.all_eq_true,List.mem_range]at h
 exact zW t h.1.1 h.1.2 h.2
abbrev zX:ByteArray:=⟨#[99,111,117,110,116]⟩
abbrev zY:ByteArray:=⟨#[108,105,115,116]⟩
theorem w7:∀k:Fin 6,u9 (BM k)=true:=by decide+kernel
theorem nq:u9 zX=true∧u9 zY=true:=by decide+kernel
theorem lg:∀(l:List Fn) (k a:Nat),(dI k a l).map (·.1)=(List.range' k l.length).map BM
 | [],_,_=>rfl
 |p::l,k,a=>by simp only[dI,List.map_cons,lg l (k+1),List.length_cons,List.range'_succ]
def HD (w c:Int):List ByteArray:=if w>0 then zX::(if c<w then[zY]else[])else[]
theorem rF (w c:Int):(pV w c).map (·.1)=HD w c:=by
 unfold pV HD
 by_cases h:w>0
 ·by_cases h':c<w<;>simp[h,h']
 ·simp[h]
theorem nr (n:Nat) (hn:n≤5) (w c:Int):((List.range' 0 n).map BM++HD w c).Nodup:=by
 have key:∀n:Fin 6,((List.range' 0 n).map BM++[zX,zY]).Nodup:=by decide+kernel
 have h:=key ⟨n,by omega⟩
 unfold HD
 by_cases h1:w>0
 ·by_cases h2:c<w
  ·simp only[h1,h2,if_true];exact h
  ·simp only[h1,h2,if_true,if_false]
   exact h.sublist (List.Sublist.append (List.Sublist.refl _) (by simp))
 ·simp only[h1,if_false]
  exact h.sublist (List.Sublist.append (List.Sublist.refl _) (by simp))
theorem BT (l:List iD) (h:(l.map (·.1)).Nodup) (i:Nat) (hi:i<l.length):zp (l.take i) l[i].1=false:=by
 unfold zp
 rw[List.any_eq_false]
 intro y hy
 simp only[bh]
 intro e
 obtain⟨j,hj,rfl⟩:=List.getElem_of_mem hy
 have hj':j<i:=by simp at hj;omega
 rw[List.getElem_take]at e
 have h2:=List.pairwise_iff_getElem.1 h j i (by simp;omega) (by simpa using hi) hj'
 exact h2 (by simpa using e)
theorem gP:∀a b:List Fn,db (a++b)=db a+db b
 | [],b=>by simp[db]
 |p::a,b=>by simp only[List.cons_append,db,gP a b];omega
theorem BU {α:Type} (l:List α) (i:Nat) (x:α) (h:l[i]? =some x):l=l.take i++x::l.drop (i+1):=by
 obtain⟨hi,rfl⟩:=List.getElem?_eq_some_iff.1 h
 rw[←List.drop_eq_getElem_cons hi,List.take_append_drop]
theorem zZ (gs:List Fn) (i:Nat) (p:Fn) (h:gs[i]? =some p):db gs=dE gs i+(p.2.length+db (gs.drop (i+1)))∧dE gs (i+1)=dE gs i+p.2.length:=by
 have e:=BU gs i p h
 constructor
 ·conv=>lhs;rw[e]
  rw[gP];rfl
 ·unfold dE
  rw[List.take_add_one,h,Option.toList_some,gP]
  simp[db]
theorem dJ.len29 {im:iY} {gs:List Fn} {w c:Int} (h:dJ im gs w c):∀p∈gs,p.2.length≤29:=fun p hp=>by
 obtain⟨j,hj⟩:=List.getElem?_of_mem hp
 exact(h.funs j p hj).len.1
theorem pJ (w c:Int):(pV w c).length≤2:=by unfold pV;split<;>(try split)<;>simp
theorem dJ.total {im:iY} {gs:List Fn} {w c:Int} (h:dJ im gs w c):db gs≤145:=by
 have:=nZ gs 29 h.len29
 have:=h.hn;omega
theorem dJ.size {im:iY} {gs:List Fn} {w c:Int} (h:dJ im gs w c):im.1.size=4*db gs:=by rw[h.code,dp,fB]
theorem dJ.sz {im:iY} {gs:List Fn} {w c:Int} (h:dJ im gs w c):xN im:=by
 have h1:=h.total
 have h2:=h.size
 have h3:=pJ w c
 have h4:=h.hn
 have h5:=h.hw
 have h6:=h.data
 refine⟨by rw[h.syms,List.length_append,bW];omega,by omega,by omega⟩
theorem dJ.slen {im:iY} {gs:List Fn} {w c:Int} (h:dJ im gs w c):im.2.2.length=gs.length+(pV w c).length:=by rw[h.syms,List.length_append,bW]
theorem dJ.sym_f {im:iY} {gs:List Fn} {w c:Int} (h:dJ im gs w c) (i:Nat) (p:Fn) (hp:gs[i]? =some p):im.2.2[i]? =some (BM i,1,4*(dE gs i:Int),4*(p.2.length:Int),p.1):=by
 have hi:=(List.getElem?_eq_some_iff.1 hp).1
 rw[h.syms,List.getElem?_append_left (by rw[bW];exact hi),pG gs 0 0 i p hp]
 simp
theorem dJ.sym_d {im:iY} {gs:List Fn} {w c:Int} (h:dJ im gs w c) (j:Nat):im.2.2[gs.length+j]? =(pV w c)[j]? :=by
 rw[h.syms,List.getElem?_append_right (by rw[bW];omega),bW,Nat.add_sub_cancel_left]
def jd (gs:List Fn) (w c:Int) (i:Nat):Int×Int:=if i≤gs.length then(4*(dE gs i:Int),0)else if i=gs.length+1 then(4*(db gs:Int),8*c)else(4*(db gs:Int),8*w)
theorem rG (gs:List Fn):dE gs gs.length=db gs:=by simp[dE]
theorem rH (gs:List Fn) (i:Nat):dE gs i≤db gs:=by
 unfold dE
 conv=>rhs;rw[←List.take_append_drop i gs,gP]
 omega
theorem dJ.chain {im:iY} {gs:List Fn} {w c:Int} (h:dJ im gs w c):sG im im.2.2.length (jd gs w c):=by
 have hsz:=h.size
 have hdt:=h.data
 have hw:=h.hw
 have hc:=h.hc
 have hnd:(im.2.2.map (·.1)).Nodup:=by
  rw[h.syms,List.map_append,lg,rF]
  exact nr _ h.hn.2 w c
 refine⟨?_,fun i hi=> ?_,fun i hi _=> ?_⟩
 ·simp[jd,dE,db]
 ·have:=rH gs i
  unfold jd
  split
  ·exact⟨⟨by simp only;omega,by simp only;omega⟩,⟨by simp,by simp only;omega⟩⟩
  ·have hd:w>0:=by
    rw[h.slen]at hi
    by_cases hd:w>0
    ·exact hd
    ·simp[pV,hd]at hi;omega
   have:=hc.2 hd
   split
   ·exact⟨⟨by simp only;omega,by simp only;omega⟩,⟨by simp only;omega,by simp only;omega⟩⟩
   ·exact⟨⟨by simp only;omega,by simp only;omega⟩,⟨by simp only;omega,by simp only;omega⟩⟩
 ·have hdup:=BT im.2.2 hnd i hi
  by_cases hg:i<gs.length
  ·have hs:=h.sym_f i gs[i] (by simp[hg])
   have hs':im.2.2[i]=(BM i,1,4*(dE gs i:Int),4*(gs[i].2.length:Int),gs[i].1):=by
    rw[List.getElem?_eq_getElem hi]at hs;exact Option.some.inj hs
   rw[hs']at hdup⊢
   have hnm:cn (BM i)=true:=lf (w7 ⟨i,by have:=h.hn;omega⟩)
   obtain⟨t1,t2⟩:=zZ gs i gs[i] (by simp[hg])
   have hl:=(h.funs i gs[i] (by simp[hg])).len
   unfold re
   simp only[hnm,hdup,Bool.true_eq_false,Bool.false_eq_true,if_false,if_true]
   have e1:jd gs w c i=(4*(dE gs i:Int),0):=by unfold jd;rw[av (by omega)]
   have e2:jd gs w c (i+1)=(4*(dE gs (i+1):Int),0):=by unfold jd;rw[av (by omega)]
   rw[e1,e2]
   simp only
   rw[av ⟨trivial,by omega,by omega⟩,t2]
   congr 2;omega
  ·obtain⟨j,rfl⟩:∃j,i=gs.length+j:=⟨i-gs.length,by omega⟩
   have hd:w>0:=by
    have hi2:=hi
    rw[h.slen]at hi2
    by_cases hd:w>0
    ·exact hd
    ·have h0:(pV w c).length=0:=by unfold pV;rw[ak hd];rfl
     omega
   have hcw:=hc.2 hd
   have hs:=h.sym_d j
   rw[List.getElem?_eq_getElem hi]at hs
   have hj:j<2:=by
    have:=pJ w c
    have hi2:=hi
    rw[h.slen]at hi2;omega
   match j,hj with
   |0,_=>
    have hs':im.2.2[gs.length+0]=(zX,2,0,8*c,0):=by
     have e:(pV w c)[0]? =some (zX,2,0,8*c,0):=by simp[pV,hd]
     rw[e]at hs;exact Option.some.inj hs
    rw[hs']at hdup⊢
    have hnm:cn zX=true:=lf nq.1
    have e1:jd gs w c (gs.length+0)=(4*(db gs:Int),0):=by unfold jd;rw[av (by omega),Nat.add_zero,rG]
    have e2:jd gs w c (gs.length+0+1)=(4*(db gs:Int),8*c):=by unfold jd;rw[ak (by omega),av (by omega)]
    unfold re
    simp only[hnm,hdup,Bool.true_eq_false,Bool.false_eq_true,if_false,if_true]
    rw[e1,e2]
    simp only
    rw[ak (by decide),av ⟨by omega,by omega,by omega,by omega,by omega,by omega⟩]
    congr 2;omega
   |1,_=>
    by_cases hcl:c<w
    ·have hs':im.2.2[gs.length+1]=(zY,2,8*c,8*(w-c),0):=by
      have e:(pV w c)[1]? =some (zY,2,8*c,8*(w-c),0):=by simp[pV,hd,hcl]
      rw[e]at hs;exact Option.some.inj hs
     rw[hs']at hdup⊢
     have hnm:cn zY=true:=lf nq.2
     have e1:jd gs w c (gs.length+1)=(4*(db gs:Int),8*c):=by unfold jd;rw[ak (by omega),av (by omega)]
     have e2:jd gs w c (gs.length+1+1)=(4*(db gs:Int),8*w):=by unfold jd;rw[ak (by omega),ak (by omega)]
     unfold re
     simp only[hnm,hdup,Bool.true_eq_false,Bool.false_eq_true,if_false,if_true]
     rw[e1,e2]
     simp only
     rw[ak (by decide),av ⟨by omega,by omega,by omega,by omega,by omega,by omega⟩]
     congr 2;omega
    ·have hi2:=hi
     rw[h.slen]at hi2
     simp[pV,hd,hcl]at hi2
theorem BV (w c:Int) (j:Nat) (s:iD) (h:(pV w c)[j]? =some s):s.2.1=2:=by
 unfold pV at h
 split at h
 ·split at h
  ·match j with
   |0=>simp at h;rw[←h]
   |1=>simp at h;rw[←h]
   |j+2=>simp at h
  ·match j with
   |0=>simp at h;rw[←h]
   |j+1=>simp at h
 ·simp at h
theorem dJ.rd_f {im:iY} {gs:List Fn} {w c:Int} (h:dJ im gs w c) (i:Nat) (p:Fn) (hp:gs[i]? =some p):rd (τ:=dz) im.2.2 (i:Int)=(BM i,1,4*(dE gs i:Int),4*(p.2.length:Int),p.1):=kb (τ:=dz) _ i _ (h.sym_f i p hp)
theorem dJ.rd_d {im:iY} {gs:List Fn} {w c:Int} (h:dJ im gs w c) (i:Nat) (hi:gs.length≤i) (hl:i<im.2.2.length):(rd (τ:=dz) im.2.2 (i:Int)).2.1=2:=by
 obtain⟨j,rfl⟩:∃j,i=gs.length+j:=⟨i-gs.length,by omega⟩
 have e:im.2.2[gs.length+j]? =some im.2.2[gs.length+j]:=by simp[hl]
 rw[kb (τ:=dz) _ _ _ e]
 rw[h.sym_d j]at e
 exact BV w c j _ e
theorem dJ.first {im:iY} {gs:List Fn} {w c:Int} (h:dJ im gs w c):(rd (τ:=dz) im.2.2 0).2.1=1:=by
 have h0:=h.hn.1
 have:=h.rd_f 0 gs[0] (by simp)
 have e:rd (τ:=dz) im.2.2 0=_:=this
 rw[e]
theorem dJ.end {im:iY} {gs:List Fn} {w c:Int} (h:dJ im gs w c):(jd gs w c im.2.2.length).1=(im.1.size:Int):=by
 have:=h.size
 unfold jd
 split
 ·rename_i hl
  have e:im.2.2.length=gs.length:=by have:=h.slen;omega
  rw[e,rG];simp only;omega
 ·split<;>(simp only;omega)
theorem dJ.at_ok {im:iY} {gs:List Fn} {w c:Int} (h:dJ im gs w c) (i:Nat):b6 (4096+4*(dE gs i:Int))=true:=by
 have ht:=h.total
 have ho:=rH gs i
 unfold b6
 rw[show(decide (0≤4096+4*(dE gs i:Int))&&decide (4096+4*(dE gs i:Int)≤1048575))=true by simp only[aB,bh];omega,ac]
 exact ah (Int.tmod_eq_zero_of_dvd (by omega))
theorem dJ.imgok0 {im:iY} {gs:List Fn} {w c:Int} (h:dJ im gs w c):sH im:=by
 refine⟨h.sz,⟨jd gs w c,h.chain,h.end⟩,by have:=h.slen;have:=h.hn.1;omega,h.first,fun j hj=> ?_⟩
 intro hk
 by_cases hg:j<gs.length
 ·have e:=h.sym_f j gs[j] (by simp[hg])
  rw[List.getElem?_eq_getElem hj]at e
  have e:=Option.some.inj e
  rw[e]
  have hl:=(h.funs j gs[j] (by simp[hg])).len
  refine⟨h.at_ok j,(h.funs j gs[j] (by simp[hg])).1.ok, ?_⟩
  simp only
  rw[show(4*(gs[j].2.length:Int)).toNat=4*gs[j].2.length by omega]
  unfold bz bT
  rw[show decide (((4*gs[j].2.length:Nat):Int).tmod 4=0)=true from ah (Int.tmod_eq_zero_of_dvd (by omega)),ac,ah (show((4*gs[j].2.length:Nat):Int)≤256 by omega),ac]
  exact ah (by omega)
 ·have:=h.rd_d j (by omega) hj
  rw[bj (τ:=dz) im.2.2 j hj]at this
  rw[this]at hk;cases hk
theorem at_ok (l:List Int) (hb:BH l) (hl:l.length≤1048576) (k n:Int) (hk:0≤k∧k≤1000) (hn:n≤1000000):∃v,Zw l k n=some v∧0≤v∧(1≤n→v<n):=by
 rw[Hr]
 by_cases h1:n≤1
 ·rw[ah h1];exact⟨0,rfl,by omega,by omega⟩
 ·rw[ai h1]
  simp only[af]
  by_cases h0:(l.length:Int)=0
  ·rw[ah h0,ai (show¬n=0 by omega),aQ (n:=k*7) (by omega) (by omega)]
   refine⟨_,rfl, ?_,fun _=> ?_⟩<;>rw[Int.tmod_eq_emod_of_nonneg (by omega)]
   ·exact Int.emod_nonneg _ (by omega)
   ·exact Int.emod_lt_of_pos _ (by omega)
  ·have ht:∀m:Int,0≤m→0≤m.tmod (l.length:Int)∧m.tmod (l.length:Int)< (l.length:Int):=fun m hm=>by
    rw[Int.tmod_eq_emod_of_nonneg hm]
    exact⟨Int.emod_nonneg _ (by omega),Int.emod_lt_of_pos _ (by omega)⟩
   have hby:∀m:Int,0≤m→m< (l.length:Int)→∃v:Int,rd (τ:= .int .u8) l m=v∧0≤v∧v≤255:=fun m hm hm'=>by
    obtain⟨j,rfl⟩:∃j:Nat,m=j:=⟨m.toNat,by omega⟩
    rw[bj (τ:= .int .u8) l j (by omega)]
    exact⟨_,rfl,hb _ (List.getElem_mem _)⟩
   obtain⟨t1,t2⟩:=ht k hk.1
   obtain⟨t3,t4⟩:=ht (k+1) (by omega)
   obtain⟨A,eA,r1,r2⟩:=hby _ t1 t2
   obtain⟨B,eB,r3,r4⟩:=hby _ t3 t4
   have hd:0≤k.tdiv (l.length:Int)∧k.tdiv (l.length:Int)≤k:=by
    rw[Int.tdiv_eq_ediv_of_nonneg hk.1]
    exact⟨Int.ediv_nonneg hk.1 (by omega),Int.ediv_le_self _ hk.1⟩
   rw[ai h0,ai (show¬n=0 by omega),aQ (n:=k+1) (by omega) (by omega),inL_true t1 t2,inL_true t3 t4]
   simp only[af,ac]
   rw[eA,eB]
   generalize k.tdiv (l.length:Int)=D at*
   rw[aQ (n:=A) (by omega) (by omega),aQ (n:=B) (by omega) (by omega),aQ (n:=A*31) (by omega) (by omega),aQ (n:=A*31+B) (by omega) (by omega),aQ (n:=D) (by omega) (by omega),aQ (n:=A*31+B+D) (by omega) (by omega)]
   refine⟨_,rfl, ?_,fun _=> ?_⟩<;>rw[Int.tmod_eq_emod_of_nonneg (by omega)]
   ·exact Int.emod_nonneg _ (by omega)
   ·exact Int.emod_lt_of_pos _ (by omega)
theorem dJ.nodup {im:iY} {gs:List Fn} {w c:Int} (h:dJ im gs w c):(im.2.2.map (·.1)).Nodup:=by
 rw[h.syms,List.map_append,lg,rF]
 exact nr _ h.hn.2 w c
theorem dJ.names {im:iY} {gs:List Fn} {w c:Int} (h:dJ im gs w c) (i j:Nat) (hi:i<im.2.2.length) (hj:j<im.2.2.length) (e:(rd (τ:=dz) im.2.2 (i:Int)).1=(rd (τ:=dz) im.2.2 (j:Int)).1):i=j:=by
 rw[bj (τ:=dz) im.2.2 i hi,bj (τ:=dz) im.2.2 j hj]at e
 have hp:=List.pairwise_iff_getElem.1 h.nodup
 rcases Nat.lt_trichotomy i j with hl|hl|hl
 ·exact absurd (by rw[List.getElem_map,List.getElem_map];exact e) (hp i j (by simpa using hi) (by simpa using hj) hl)
 ·exact hl
 ·exact absurd (by rw[List.getElem_map,List.getElem_map];exact e.symm) (hp j i (by simpa using hj) (by simpa using hi) hl)
def pK:Ty→Bool
 | .bool| .str| .int _=>true
 | .pair a b=>pK a&&pK b
 |_=>false
theorem i7:∀(τ:Ty),pK τ=true→∀x y:τ.den,kw τ x y=true↔x=y
 | .bool,_,x,y=>by show((x:Bool)==y)=true↔_;simp
 | .str,_,x,y=>by show dd x y=true↔_;rw[cz,bh]
 | .int k,_,x,y=>by show decide ((x:Int)=y)=true↔_;rw[bh]
 | .pair a b,h,x,y=>by
  have h':pK a=true∧pK b=true:=by simpa[pK]using h
  show(kw a x.1 y.1&&kw b x.2 y.2)=true↔_
  rw[aB,i7 a h'.1,i7 b h'.2]
  exact⟨fun⟨h1,h2⟩=>Prod.ext h1 h2,fun h=>by rw[h];exact⟨rfl,rfl⟩⟩
 | .unit,h,_,_=>by cases h
 | .list _,h,_,_=>by cases h
 | .arr _ _,h,_,_=>by cases h
 | .opt _,h,_,_=>by cases h
theorem vb {τ:Ty} (p:τ.den→τ.den→Bool) (a b:List τ.den) (hp:∀i:Nat,i<a.length→i<b.length→(p (rd (τ:=τ) a (i:Int)) (rd (τ:=τ) b (i:Int))=true↔rd (τ:=τ) a (i:Int)=rd (τ:=τ) b (i:Int))):
  (decide (a.length=b.length)&&mH (fun i=>p (rd (τ:=τ) a (i:Int)) (rd (τ:=τ) b (i:Int))) 0 a.length)=true↔a=b:=by
 rw[aB,bh,fw]
 constructor
 ·rintro⟨h1,h2⟩
  refine List.ext_getElem h1 fun i hi hj=> ?_
  have:=(hp i hi hj).1 (h2 i (Nat.zero_le _) (by omega))
  rw[bj a i hi,bj b i hj]at this
  exact this
 ·rintro rfl
  exact⟨rfl,fun j _ hj=>(hp j (by omega) (by omega)).2 rfl⟩
def I0 (τ:Ty) (a b:List τ.den):Bool:=decide (a.length=b.length)&&mH (fun i=>kw τ (rd (τ:=τ) a (i:Int)) (rd (τ:=τ) b (i:Int))) 0 a.length
theorem Dh {τ:Ty} (h:pK τ=true) (a b:List τ.den):I0 τ a b=true↔a=b:=vb (kw τ) a b fun i _ _=>i7 τ h _ _
theorem Di (a b:List Int):IL a b=true↔a=b:=Dh (τ:= .int .i64) rfl a b
theorem Dj (a b:List ByteArray):IM a b=true↔a=b:=vb (τ:= .str) (fun x y=>decide ((x:ByteArray)=y)) a b fun i _ _=>decide_eq_true_iff
theorem l8 {K:Nat} {s:da} (h:aS (K+3) s) (l:List ByteArray) (h1:1≤l.length):∃(x:ByteArray) (t:da),Zn s l=some (x,t)∧x∈l∧aS K t:=by
 obtain⟨v,t,e,v0,v1,_,ht⟩:=bl h (l.length:Int)
 have hv:=v1 (by omega)
 obtain⟨n,rfl⟩:∃n:Nat,v=n:=⟨v.toNat,by omega⟩
 have hn:n<l.length:=by omega
 rw[Hj,ai (show¬(l.length:Int)=0 by omega),e]
 refine⟨l[n],t, ?_,List.getElem_mem _,ht⟩
 rw[af,ae,aq,ah hn,bj (τ:= .str) l n hn];rfl
theorem BW (a b c d:Int):∃v:Bool,Zr [a,b] [c,d]=some v:=by
 rw[DH,Zr.a_eq]
 simp only[aA,List.length_cons,List.length_nil]
 rw[show decide ((0:Int)< ((0+1+1:Nat):Int))=true from rfl,show aH 0 (0+1+1)=true from rfl]
 simp only[ac]
 cases !decide ((rd (τ:= .int .i64) [a,b] 0:Int)=rd (τ:= .int .i64) [c,d] 0)with
 |true=>exact⟨_,rfl⟩
 |false=>
  simp only[af]
  rw[show IntKind.wrap .i64 ((0:Int)+1)=1 from rfl,Zr.a_eq]
  simp only[aA,List.length_cons,List.length_nil]
  rw[show decide ((1:Int)< ((0+1+1:Nat):Int))=true from rfl,show aH 1 (0+1+1)=true from rfl]
  simp only[ac]
  cases !decide ((rd (τ:= .int .i64) [a,b] 1:Int)=rd (τ:= .int .i64) [c,d] 1)with
  |true=>exact⟨_,rfl⟩
  |false=>
   simp only[af]
   rw[show IntKind.wrap .i64 ((1:Int)+1)=2 from rfl,Zr.a_eq]
   exact⟨_,rfl⟩
theorem BZ (l:List sI) (hl:l.length≤1000) (i:Nat) (hi:i<l.length) (out:List sI) (ho:out.length≤40):∀(d k:Nat),k+d=out.length→∃out':List sI,Zs.b l out (i:Int) (k:Int)=Zs.a l out' ((i+1:Nat):Int)∧out'.length=out.length+1∧∀x∈out',x∈out∨x∈l:=by
 have hins:∀k:Nat,k≤out.length→((out.take k++[rd (τ:=a8) l (i:Int)])++(out.take out.length).drop k).length=out.length+1∧∀x∈((out.take k++[rd (τ:=a8) l (i:Int)])++(out.take out.length).drop k),x∈out∨x∈l:=by
  intro k hk
  refine⟨by simp;omega,fun x hx=> ?_⟩
  simp only[List.mem_append,List.mem_singleton]at hx
  rcases hx with(hx|hx)|hx
  ·exact .inl (List.mem_of_mem_take hx)
  ·exact .inr (hx▸fy (τ:=a8) l i hi)
  ·exact .inl (List.mem_of_mem_take (List.mem_of_mem_drop hx))
 have r1:∀k:Nat,k≤out.length→aD (0+((out.take out.length).drop k).length) 48=true:=fun k hk=>aY (by simp;omega) (by simp;omega)
 have r2:∀k:Nat,k≤out.length→aD ((out.take k).length+[rd (τ:=a8) l (i:Int)].length) 48=true:=fun k hk=>aY (by simp;omega) (by simp;omega)
 have r3:∀k:Nat,k≤out.length→aD ((out.take k++[rd (τ:=a8) l (i:Int)]).length+((out.take out.length).drop k).length) 48=true:=fun k hk=>aY (by simp;omega) (by simp;omega)
 intro d
 induction d with
 |zero=>
  intro k hk
  have hk:k=out.length:=by omega
  subst hk
  refine⟨_, ?_,hins out.length (Nat.le_refl _)⟩
  rw[Zs.b_eq,ap,ai (a9 _)]
  simp only[af,aT,aq,ah hi,ah (show(0:Int)≤(out.length:Int) by omega),ah (Int.le_refl (out.length:Int)),Bool.and_self,ac,r1 _ (Nat.le_refl _),r2 _ (Nat.le_refl _),r3 _ (Nat.le_refl _)]
  rw[au i _ hi (by omega)]
 |succ d ih=>
  intro k hk
  have hk':k<out.length:=by omega
  obtain⟨v,hv⟩:=BW (rd (τ:=a8) out (k:Int)).1 (rd (τ:=a8) out (k:Int)).2.1 (rd (τ:=a8) l (i:Int)).1 (rd (τ:=a8) l (i:Int)).2.1
  rw[Zs.b_eq,ap,ah hk']
  simp only[ac,aq,ah hk',ah hi]
  rw[hv]
  simp only[ae]
  cases v with
  |true=>
   rw[ac,au k _ hk' (by omega)]
   exact ih (k+1) (by omega)
  |false=>
   refine⟨_, ?_,hins k (by omega)⟩
   simp only[af,aT,ah (show(0:Int)≤(k:Int) by omega),ah (show(k:Int)≤(out.length:Int) by omega),ah (Int.le_refl (out.length:Int)),Bool.and_self,ac,r1 k (by omega),r2 k (by omega),r3 k (by omega)]
   rw[au i _ hi (by omega)]
theorem vd (l:List sI) (hl:l.length≤1000):∃r:List sI,Zs l=some r∧r.length≤32∧∀x∈r,x∈l:=by
 have key:∀(k i:Nat) (out:List sI),i+k=l.length→out.length=i→i≤32→(∀x∈out,x∈l)→∃r:List sI,Zs.a l out (i:Int)=some r∧r.length≤32∧∀x∈r,x∈l:=by
  intro k
  induction k with
  |zero=>
   intro i out hi ho h32 hm
   have:i=l.length:=by omega
   subst this
   rw[Zs.a_eq,ap,ai (a9 _),af]
   exact⟨out,rfl,by omega,hm⟩
  |succ k ih=>
   intro i out hi ho h32 hm
   have hi':i<l.length:=by omega
   rw[Zs.a_eq,ap,ah hi',ac]
   by_cases h:(i:Int)<32
   ·rw[ah h,ac]
    obtain⟨out',e1,e2,e3⟩:=BZ l hl i hi' out (by omega) out.length 0 (by omega)
    have e1':Zs.b l out (i:Int) 0=Zs.a l out' ((i+1:Nat):Int):=e1
    rw[e1']
    exact ih (i+1) out' (by omega) (by omega) (by omega) fun x hx=>(e3 x hx).elim (hm x) id
   ·rw[ai h,af]
    exact⟨out,rfl,by omega,hm⟩
 rw[Hn]
 exact key l.length 0 [] (by omega) rfl (by omega) (by simp)
def gv (l:List sI):Prop:=∀x∈l,Ek x.1
theorem jQ {o:bo} (h:gv o.2.2.2.2.1):iE o:=fun k hk=>h _ (fy (τ:=a8) _ k hk)
def l9 (o:bo):Prop:=gv o.2.2.2.2.1∧o.2.2.2.2.1.length≤32
theorem l9.r {o:bo} (h:l9 o):iE o:=jQ h.1
theorem ve {K:Nat} {s:da} (h:aS (K+9) s) (o:bo) (l:List sI) (hl:gv l) (hn:l.length≤32) (hs:o.2.2.2.2.2.length≤100):
  ∃(o':bo) (t:da),((Zm s 2).bind fun r26=>bif r26.1 then((Z5 r26.2 3).bind fun r27=>(Zm r27.2 2).bind fun r28=>bif (aD ((o.2.2.2.2.2.length)+([(r27.1,r28.1)].length)) 16)then some ((o.1,o.2.1,o.2.2.1,o.2.2.2.1,l,(o.2.2.2.2.2++[(r27.1,r28.1)])),r28.2)else none)else some ((o.1,o.2.1,o.2.2.1,o.2.2.2.1,l,o.2.2.2.2.2),r26.2))=some (o',t)∧l9 o'∧aS K t:=by
 obtain⟨v,t,e,ht⟩:=dD (K:=K+6) h 2
 rw[e]
 simp only[ae]
 cases v with
 |false=>exact⟨_,t,rfl,⟨hl,hn⟩,ht.mono (by omega)⟩
 |true=>
  obtain⟨n,t1,e1,_,_,_,ht1⟩:=bl (K:=K+3) ht 3
  obtain⟨b,t2,e2,ht2⟩:=dD (K:=K) ht1 2
  rw[e1]
  simp only[ac,ae]
  rw[e2]
  simp only[ae]
  rw[aY (by simp;omega) (by simp;omega),ac]
  exact⟨_,t2,rfl,⟨hl,hn⟩,ht2⟩
theorem vf {K:Nat} {s:da} (h:aS (K+18) s) (z o:bo) (names places:List ByteArray) (hn:1≤names.length) (hf:o.2.2.1.length≤100) (hr:o.2.2.2.2.1.length≤900) (hl:gv o.2.2.2.2.1) (hs:o.2.2.2.2.2.length≤100):
  ∃(o':bo) (t:da),Zt.d s z o names places (o.2.2.1.length:Int)=some (o',t)∧l9 o'∧aS K t:=by
 rw[Zt.d_eq,ai (Int.lt_irrefl _),af]
 have no:∀s:da,aS (K+9) s→∃(o':bo) (t:da),((Zs o.2.2.2.2.1).bind fun r25=>(Zm s 2).bind fun r26=>bif r26.1 then((Z5 r26.2 3).bind fun r27=>(Zm r27.2 2).bind fun r28=>bif (aD ((o.2.2.2.2.2.length)+([(r27.1,r28.1)].length)) 16)then some ((o.1,o.2.1,o.2.2.1,o.2.2.2.1,r25,(o.2.2.2.2.2++[(r27.1,r28.1)])),r28.2)else none)else some ((o.1,o.2.1,o.2.2.1,o.2.2.2.1,r25,o.2.2.2.2.2),r26.2))=some (o',t)∧l9 o'∧aS K t:=by
  intro s h
  obtain⟨r,e,hq,hm⟩:=vd o.2.2.2.2.1 (by omega)
  rw[e]
  simp only[ae]
  exact ve h o r (fun x hx=>hl x (hm x hx)) hq hs
 have yes:∀s:da,aS (K+15) s→∃(o':bo) (t:da),((Zn s names).bind fun r19=>(Z5 r19.2 9).bind fun r20=>bif (aD ((o.2.2.2.2.1.length)+([((o.2.2.1.length:Int),(0:Int),(9:Int),r19.1,(IntKind.wrap .i64 (r20.1-4)))].length)) 48)then((Zs (o.2.2.2.2.1++[((o.2.2.1.length:Int),0,9,r19.1,(IntKind.wrap .i64 (r20.1-4)))])).bind fun pU=>(Zm r20.2 2).bind fun ld=>bif ld.1 then((Z5 ld.2 3).bind fun r23=>(Zm r23.2 2).bind fun r24=>bif (aD ((o.2.2.2.2.2.length)+([(r23.1,r24.1)].length)) 16)then some ((o.1,o.2.1,o.2.2.1,o.2.2.2.1,pU,(o.2.2.2.2.2++[(r23.1,r24.1)])),r24.2)else none)else some ((o.1,o.2.1,o.2.2.1,o.2.2.2.1,pU,o.2.2.2.2.2),ld.2))else none)=some (o',t)∧l9 o'∧aS K t:=by
  intro s h
  obtain⟨x,t,e,_,ht⟩:=l8 (K:=K+12) h names hn
  obtain⟨n,t1,e1,_,_,_,ht1⟩:=bl (K:=K+9) ht 9
  rw[e]
  simp only[ae]
  rw[e1]
  simp only[ae]
  rw[aY (by simp;omega) (by simp;omega),ac]
  obtain⟨r,e2,hq,hm⟩:=vd (o.2.2.2.2.1++[((o.2.2.1.length:Int),0,9,x,(IntKind.wrap .i64 (n-4)))]) (by simp;omega)
  rw[e2]
  simp only[ae]
  exact ve ht1 o r (fun y hy=>by
   rcases List.mem_append.1 (hm y hy)with q|q
   ·exact hl y q
   ·rw[List.mem_singleton]at q;subst q;constructor<;>simp only<;>omega) hq hs
 simp only[aA]
 by_cases hd:(o.2.2.2.1.length:Int)>0
 ·rw[ah hd,ac]
  obtain⟨v,t,e,ht⟩:=dD (K:=K+15) h 3
  rw[e]
  simp only[ae]
  cases v with
  |true=>exact yes t ht
  |false=>exact no t (ht.mono (by omega))
 ·rw[ai hd,af]
  exact no s (h.mono (by omega))
theorem B3 {K:Nat} (fs ds:List ByteArray) (z:bo):∀(k:Nat) (s:da) (o:bo),k≤2→aS (K+40*k) s→o.2.2.2.1.length+k≤10→
  ∃(o':bo) (t:da),Zt.a s fs ds z o (k:Int)=((Z5 t 3).bind fun r3=>Zt.b r3.2 fs ds z o' [] (IntKind.wrap .i64 (1+r3.1)))∧aS K t∧o'.2.2.1=o.2.2.1∧o'.2.2.2.2=o.2.2.2.2∧o'.2.2.2.1.length=o.2.2.2.1.length+k:=by
 intro k
 induction k with
 |zero=>
  intro s o hk h hl
  rw[Zt.a_eq,ai (show¬((0:Nat):Int)>0 by omega),af]
  exact⟨o,s,rfl,h.mono (by omega),rfl,rfl,rfl⟩
 |succ k ih=>
  intro s o hk h hl
  obtain⟨n,t,e,n0,n1,_,ht⟩:=bl (K:=K+40*k+37) (h.mono (by omega)) 3
  have n1:=n1 (by decide)
  obtain⟨m,rfl⟩:∃m:Nat,n=(m:Int):=⟨n.toNat,by omega⟩
  obtain⟨x,t1,e1,_,ht1⟩:=Df (K:=K+40*k) (8*(1+m)) (by omega) (ht.mono (by omega))
  rw[Zt.a_eq,ah (show((k+1:Nat):Int)>0 by omega),ac]
  rw[show aH ((k+1:Nat):Int) ([(⟨#[101,120,116,114,97]⟩:ByteArray),(⟨#[102,108,97,103,115]⟩:ByteArray),(⟨#[109,111,114,101]⟩:ByteArray)].length)=true from inL_true (by omega) (by simp;omega),ac,e]
  simp only[ae]
  rw[aQ (n:=1+(m:Int)) (by omega) (by omega),aQ (n:=8*(1+(m:Int))) (by omega) (by omega),show 8*(1+(m:Int))=((8*(1+m):Nat):Int) by omega,e1]
  simp only[ae]
  rw[aY (by simp;omega) (by simp;omega),ac,aQ (n:=((k+1:Nat):Int)-1) (by omega) (by omega),show((k+1:Nat):Int)-1=(k:Int) by omega]
  obtain⟨o',t',e2,h2,h3,h4,h5⟩:=ih t1 (o.1,o.2.1,o.2.2.1,o.2.2.2.1++[((rd (τ:= .str) [(⟨#[101,120,116,114,97]⟩:ByteArray),(⟨#[102,108,97,103,115]⟩:ByteArray),(⟨#[109,111,114,101]⟩:ByteArray)] ((k+1:Nat):Int)),x)],o.2.2.2.2) (by omega) ht1 (by simp;omega)
  exact⟨o',t',e2,h2,h3,h4,by rw[h5];simp;omega⟩
theorem Dk (l:List ByteArray) (x:ByteArray) (hl:l.length≤1000000):∀(m k:Nat),k+m=l.length→∃b:Bool,Zp.a l x (k:Int)=some b:=by
 intro m
 induction m with
 |zero=>
  intro k hk
  rw[Zp.a_eq,ai (show¬(k:Int)< (l.length:Int) by omega),af]
  exact⟨_,rfl⟩
 |succ m ih=>
  intro k hk
  rw[Zp.a_eq,ah (show(k:Int)< (l.length:Int) by omega),ac,inL_true (by omega) (by omega),ac]
  cases dd (rd (τ:= .str) l (k:Int)) x with
  |true=>exact⟨_,rfl⟩
  |false=>
   rw[af,aQ (n:=(k:Int)+1) (by omega) (by omega),show(k:Int)+1=((k+1:Nat):Int) by omega]
   exact ih (k+1) (by omega)
theorem Er (l:List ByteArray) (x:ByteArray) (hl:l.length≤1000000):∃b:Bool,Zp l x=some b:=by
 rw[Hl]
 exact Dk l x hl l.length 0 (by omega)
theorem Dl {K:Nat} (fs ds:List ByteArray) (z:bo) (hf1:1≤fs.length) (hf:fs.length≤100) (hd:ds.length≤100):∀(k:Nat) (s:da) (o:bo) (own:List ByteArray),k≤10→aS (K+9*k) s→o.2.2.1.length+k≤100→own.length+k≤100→
  ∃(o':bo) (own':List ByteArray) (t:da),Zt.b s fs ds z o own (k:Int)=Zt.c t z o' (fs++own') ds 0∧aS K t∧o'.2.2.2=o.2.2.2∧o'.2.2.1.length≤o.2.2.1.length+k∧own'.length≤own.length+k:=by
 intro k
 induction k with
 |zero=>
  intro s o own hk h hl ho
  rw[Zt.b_eq,ai (show¬((0:Nat):Int)>0 by omega),af,aY (by omega) (by omega),ac,aY (by omega) (by omega),ac,aY (by omega) (by omega),ac]
  exact⟨o,own,s,rfl,h.mono (by omega),rfl,by omega,by omega⟩
 |succ k ih=>
  intro s o own hk h hl ho
  have fin:∀(t:da) (x:ByteArray) (g:Bool),aS (K+9*k) t→∃(o':bo) (own':List ByteArray) (u:da),((Zp own x).bind fun r11=>bif r11 then Zt.b t fs ds z o own (IntKind.wrap .i64 (((k+1:Nat):Int)-1))else(bif (aD ((own.length)+([x].length)) 16)then(bif (aD ((o.2.2.1.length)+([(x,g,(0:Int),(⟨#[]⟩:ByteArray))].length)) 48)then Zt.b t fs ds z (o.1,o.2.1,(o.2.2.1++[(x,g,0,(⟨#[]⟩:ByteArray))]),o.2.2.2) (own++[x]) (IntKind.wrap .i64 (((k+1:Nat):Int)-1))else none)else none))=Zt.c u z o' (fs++own') ds 0∧aS K u∧o'.2.2.2=o.2.2.2∧o'.2.2.1.length≤o.2.2.1.length+(k+1)∧own'.length≤own.length+(k+1):=by
   intro t x g ht
   obtain⟨b,e⟩:=Er own x (by omega)
   rw[e]
   simp only[ae]
   rw[aQ (n:=((k+1:Nat):Int)-1) (by omega) (by omega),show((k+1:Nat):Int)-1=(k:Int) by omega]
   cases b with
   |true=>
    obtain⟨o',own',u,e1,h1,h2,h3,h4⟩:=ih t o own (by omega) ht (by omega) (by omega)
    exact⟨o',own',u,e1,h1,h2,by omega,by omega⟩
   |false=>
    rw[af,aY (by simp;omega) (by simp;omega),ac,aY (by simp;omega) (by simp;omega),ac]
    obtain⟨o',own',u,e1,h1,h2,h3,h4⟩:=ih t (o.1,o.2.1,(o.2.2.1++[(x,g,0,(⟨#[]⟩:ByteArray))]),o.2.2.2) (own++[x]) (by omega) ht (by simp;omega) (by simp;omega)
    exact⟨o',own',u,e1,h1,h2,by simp at h3;omega,by simp at h4;omega⟩
  obtain⟨x,t,e,_,ht⟩:=l8 (K:=K+9*k+6) (h.mono (by omega)) fs hf1
  obtain⟨v,t1,e1,ht1⟩:=dD (K:=K+9*k+3) ht 3
  rw[Zt.b_eq,ah (show((k+1:Nat):Int)>0 by omega),ac,e]
  simp only[ae]
  rw[e1]
  simp only[ae]
  cases v with
  |true=>
   obtain⟨y,t2,e2,_,ht2⟩:=l8 (K:=K+9*k) ht1 [(⟨#[104,101,108,112]⟩:ByteArray),(⟨#[97,105,100]⟩:ByteArray),(⟨#[115,105,100,101]⟩:ByteArray),(⟨#[108,105,102,116]⟩:ByteArray)] (by decide)
   rw[ac,e2]
   simp only[ae]
   exact fin t2 y false ht2
  |false=>
   rw[af]
   exact fin t1 x true (ht1.mono (by omega))
theorem z7 (z o:bo) (s:da) (names:List ByteArray) (hd:o.2.2.2.1.length≤100):∀(m i:Nat) (places:List ByteArray),i+m=o.2.2.2.1.length→places.length+m≤1000→
  ∃places':List ByteArray,Zt.c s z o names places (i:Int)=Zt.d s z o names places' 0∧places'.length≤1000:=by
 intro m
 induction m with
 |zero=>
  intro i places hi hp
  rw[Zt.c_eq,ai (show¬(i:Int)< (o.2.2.2.1.length:Int) by omega),af]
  exact⟨places,rfl,by omega⟩
 |succ m ih=>
  intro i places hi hp
  rw[Zt.c_eq,ah (show(i:Int)< (o.2.2.2.1.length:Int) by omega),ac,inL_true (by omega) (by omega),ac,aY (by simp;omega) (by simp;omega),ac,aQ (n:=(i:Int)+1) (by omega) (by omega),show(i:Int)+1=((i+1:Nat):Int) by omega]
  exact ih (i+1) _ (by omega) (by simp;omega)
def eJ (n:Nat):List Int:=(List.range n).map fun(k:Nat)=>1000000*((k:Int)+1)
theorem lh (n:Nat):(eJ n).length=n:=by simp[eJ]
theorem vg (n:Nat):eJ (n+1)=eJ n++[1000000*((n:Int)+1)]:=by
 simp[eJ,List.range_succ]
theorem li {n:Nat} {c:Int} (h:c∈eJ n):∃k:Nat,k<n∧c=1000000*((k:Int)+1):=by
 obtain⟨k,hk,rfl⟩:=List.mem_map.1 h
 exact⟨k,List.mem_range.1 hk,rfl⟩
theorem B4 (z o:bo) (s:da) (names places:List ByteArray) (u:Int) (hn:names.length≤200):∀(m i:Nat),i+m=names.length→
  Zt.e s z o names places u (eJ i) (i:Int)=Zt.e s z o names places u (eJ names.length) (names.length:Int):=by
 intro m
 induction m with
 |zero=>
  intro i hi
  rw[show names.length=i by omega]
 |succ m ih=>
  intro i hi
  rw[Zt.e_eq s z o names places u (eJ i),ah (show(i:Int)< (names.length:Int) by omega),ac,aY (by rw[lh];simp;omega) (by rw[lh];simp;omega),ac,aQ (n:=(i:Int)+1) (by omega) (by omega),aQ (n:=1000000*((i:Int)+1)) (by omega) (by omega),←vg,show(i:Int)+1=((i+1:Nat):Int) by omega]
  exact ih (i+1) (by omega)
def sO (n:Nat) (l:List bS) (i:Nat):Prop:=∀k:Nat,i≤k→∀x,l[k]? =some x→x.1=3→x.2.1=1→∃c∈eJ n,x.2.2.2.2=c-4*(k:Int)
theorem dH.zero {x:bS} (h:dH x):dH (x.1,x.2.1,x.2.2.1,x.2.2.2.1,0):=⟨h.1,by obtain⟨_,q,_⟩:=h;exact⟨q.d,q.a,q.b,by constructor<;>simp only<;>omega⟩,fun _=>Int.zero_emod _⟩
theorem pL (z:bo) (s:da) (names places:List ByteArray) (hn:names.length≤200) (u:Nat) (f:Int):∀(m i:Nat) (o:bo) (l:List bS),i+m=l.length→l.length≤100→(∀x∈l,dH x)→sO names.length l i→u<o.2.2.1.length→o.2.2.1.length≤100→gv o.2.2.2.2.1→o.2.2.2.2.1.length+m≤100000→
  ∃o':bo,Zt.f s z o names places (u:Int) f l (i:Int)=Zt.d s z o' names places ((u+1:Nat):Int)∧o'.2.2.1.length=o.2.2.1.length∧o'.2.2.2.1=o.2.2.2.1∧gv o'.2.2.2.2.1∧o'.2.2.2.2.1.length≤o.2.2.2.2.1.length+m∧o'.2.2.2.2.2=o.2.2.2.2.2:=by
 intro m
 induction m with
 |zero=>
  intro i o l hi hl hr hc hu hf hR hm
  rw[Zt.f_eq,ai (show¬(i:Int)< (l.length:Int) by omega),af,inL_true (by omega) (by omega),ac]
  simp only[letB]
  rw[lc l (by omega) hr]
  simp only[ae]
  rw[inL_true (by omega) (by rw[List.length_set];omega),ac,aQ (n:=(u:Int)+1) (by omega) (by omega),show(u:Int)+1=((u+1:Nat):Int) by omega]
  exact⟨_,rfl,by simp,rfl,hR,by simp,rfl⟩
 |succ m ih=>
  intro i o l hi hl hr hc hu hf hR hm
  have hin:aH (i:Int) l.length=true:=inL_true (by omega) (by omega)
  rw[Zt.f_eq,ah (show(i:Int)< (l.length:Int) by omega),ac]
  simp only[aA,letB,hin,ac]
  obtain⟨x,hx,hrd⟩:=Ep (xs:=l) (i:=i) (by omega)
  have next:∀(o:bo) (l':List bS),l'.length=l.length→(∀x∈l',dH x)→sO names.length l' (i+1)→u<o.2.2.1.length→o.2.2.1.length≤100→gv o.2.2.2.2.1→o.2.2.2.2.1.length+m≤100000→
    ∃o':bo,Zt.f s z o names places (u:Int) f l' (IntKind.wrap .i64 ((i:Int)+1))=Zt.d s z o' names places ((u+1:Nat):Int)∧o'.2.2.1.length=o.2.2.1.length∧o'.2.2.2.1=o.2.2.2.1∧gv o'.2.2.2.2.1∧o'.2.2.2.2.1.length≤o.2.2.2.2.1.length+m∧o'.2.2.2.2.2=o.2.2.2.2.2:=by
   intro o l' e1 e2 e3 e4 e5 e6 e7
   rw[aQ (n:=(i:Int)+1) (by omega) (by omega),show(i:Int)+1=((i+1:Nat):Int) by omega]
   exact ih (i+1) o l' (by omega) (by omega) e2 e3 e4 e5 e6 e7
  have same:∃o':bo,Zt.f s z o names places (u:Int) f l (IntKind.wrap .i64 ((i:Int)+1))=Zt.d s z o' names places ((u+1:Nat):Int)∧o'.2.2.1.length=o.2.2.1.length∧o'.2.2.2.1=o.2.2.2.1∧gv o'.2.2.2.2.1∧o'.2.2.2.2.1.length≤o.2.2.2.2.1.length+(m+1)∧o'.2.2.2.2.2=o.2.2.2.2.2:=by
   obtain⟨o',a1,a2,a3,a4,a5,a6⟩:=next o l rfl hr (fun k hk=>hc k (by omega)) hu hf hR (by omega)
   exact⟨o',a1,a2,a3,a4,by omega,a6⟩
  rw[hrd]
  by_cases h3:x.1=3
  ·rw[ah h3,ac]
   by_cases h1:x.2.1=1
   ·rw[ah h1,ac]
    obtain⟨c,hcm,he⟩:=hc i (Nat.le_refl _) x hx h3 h1
    obtain⟨k,hk,rfl⟩:=li hcm
    have e1:IntKind.wrap .i64 (4*(i:Int))=4*(i:Int):=aQ (by omega) (by omega)
    have e2:IntKind.wrap .i64 (x.2.2.2.2+4*(i:Int))=1000000*((k:Int)+1):=by rw[he,show 1000000*((k:Int)+1)-4*(i:Int)+4*(i:Int)=1000000*((k:Int)+1) by omega];exact aQ (by omega) (by omega)
    have e3:(1000000*((k:Int)+1)).tdiv 1000000=(k:Int)+1:=by rw[Int.tdiv_eq_ediv_of_nonneg (by omega)];omega
    have e4:IntKind.wrap .i64 ((k:Int)+1)=(k:Int)+1:=aQ (by omega) (by omega)
    have e5:IntKind.wrap .i64 ((k:Int)+1-1)=(k:Int):=by rw[show(k:Int)+1-1=(k:Int) by omega];exact aQ (by omega) (by omega)
    rw[e1,e2,e3,e4,e5,show aH (k:Int) names.length=true from inL_true (by omega) (by omega),ac,aY (by simp;omega) (by simp;omega),ac]
    obtain⟨o',a1,a2,a3,a4,a5,a6⟩:=next (o.1,o.2.1,o.2.2.1,o.2.2.2.1,(o.2.2.2.2.1++[((u:Int),(i:Int),7,(rd (τ:= .str) names (k:Int)),0)]),o.2.2.2.2.2) (l.set i (x.1,x.2.1,x.2.2.1,x.2.2.2.1,0)) (by simp) (fun y hy=>by
     rcases List.mem_or_eq_of_mem_set hy with q|q
     ·exact hr y q
     ·subst q;exact(hr x (List.mem_of_getElem? hx)).zero) (fun k hk y hy=>hc k (by omega) y (by rw[←hy,List.getElem?_set_ne (by omega)])) hu hf (fun y hy=>by
     rcases List.mem_append.1 hy with q|q
     ·exact hR y q
     ·rw[List.mem_singleton]at q;subst q;constructor<;>simp only<;>omega) (by simp;omega)
    rw[aT]
    exact⟨o',a1,a2,a3,a4,by simp at a5;omega,a6⟩
   ·rw[ai h1,af]
    exact same
  ·rw[ai h3,af]
   exact same
theorem xT {f:Int} (hf:jP f):∀x∈bG f,x.1≠3∧dH x:=by
 have hfr:=hf.range
 intro x hx
 simp only[bG,List.mem_cons,List.not_mem_nil,or_false]at hx
 rcases hx with rfl|rfl
 ·exact⟨by simp only;omega,dH.right (ld (by decide) (by decide) (by omega))⟩
 ·exact⟨by simp only;omega,dH.right (pU (by decide) (by decide) (by omega))⟩
theorem sP {f:Int} (hf:jP f):∀x∈c7 f,x.1≠3∧dH x:=by
 have hfr:=hf.range
 intro x hx
 simp only[c7,List.mem_cons,List.not_mem_nil,or_false]at hx
 rcases hx with rfl|rfl|rfl
 ·exact⟨by simp only;omega,dH.right (d8 (by decide) (by decide) (by omega))⟩
 ·exact⟨by simp only;omega,dH.right (ld (by decide) (by decide) (by omega))⟩
 ·exact⟨by decide,dH.right (by decide+kernel)⟩
theorem jR {f:Int} {n:Nat} (hn:n≤200) (hf:jP f) {b t:List bS} (h:gy f (fun i m=>∃c∈eJ n,m=c-0-4*i) (· ∈([]:List Int)) 2 b) (hb:b.length≤51) (ht:∀x∈t,x.1≠3∧dH x):
  sO n (bG f++b++t) 0∧∀x∈bG f++b++t,dH x:=by
 have hD:∀d,d∈([]:List Int)→nI d:=fun d hd=>nomatch hd
 have mid:∀(j:Nat) (x:bS),b[j]? =some x→(x.1=3→∃c∈eJ n,x.2.2.2.2=c-4*((j+2:Nat):Int))∧dH x:=by
  intro j x hx
  have hj:j<b.length:=(List.getElem?_eq_some_iff.1 hx).1
  rcases h.ins hD hf j x hx with⟨m,rfl,c,hc,hm⟩|h
  ·obtain⟨k,hk,rfl⟩:=li hc
   exact⟨fun _=>⟨_,hc,by simp only;omega⟩,BI (by decide) (by decide) (by decide) (by decide) (by omega) (by decide)⟩
  ·exact⟨fun e=>absurd e h.2.1,dH.right h.1⟩
 constructor
 ·intro k _ x hx h3 h1
  by_cases p:k<2
  ·rw[aZ,List.getElem?_append_left (by simp[bG];omega)]at hx
   exact absurd h3 (xT hf x (List.mem_of_getElem? hx)).1
  ·by_cases q:k<2+b.length
   ·rw[List.getElem?_append_left (by simp[bG];omega),List.getElem?_append_right (by simp[bG];omega)]at hx
    obtain⟨c,hc,he⟩:=(mid _ x hx).1 h3
    refine⟨c,hc, ?_⟩
    rw[he]
    simp only[bG,List.length_cons,List.length_nil]
    omega
   ·rw[List.getElem?_append_right (by simp[bG];omega)]at hx
    exact absurd h3 (ht x (List.mem_of_getElem? hx)).1
 ·intro x hx
  rcases List.mem_append.1 hx with hx|hx
  ·rcases List.mem_append.1 hx with hx|hx
   ·exact(xT hf x hx).2
   ·obtain⟨j,hj⟩:=List.getElem?_of_mem hx
    exact(mid j x hj).2
  ·exact(ht x hx).2
theorem Es {K:Nat} {s:da} (h:aS (K+200) s) (z:bo) (names places:List ByteArray) (hn:names.length≤200) (u:Nat) (o:bo) (hu:u<o.2.2.1.length) (hf:o.2.2.1.length≤100) (hR:gv o.2.2.2.2.1) (hm:o.2.2.2.2.1.length≤90000):
  ∃(o':bo) (t:da),Zt.e s z o names places (u:Int) [] 0=Zt.d t z o' names places ((u+1:Nat):Int)∧aS K t∧o'.2.2.1.length=o.2.2.1.length∧o'.2.2.2.1=o.2.2.2.1∧gv o'.2.2.2.2.1∧o'.2.2.2.2.1.length≤o.2.2.2.2.1.length+100∧o'.2.2.2.2.2=o.2.2.2.2.2:=by
 have e0:=B4 z o s names places (u:Int) hn names.length 0 (by omega)
 rw[show eJ 0=[] from rfl]at e0
 rw[show((0:Nat):Int)=0 from rfl]at e0
 rw[e0,Zt.e_eq,ai (Int.lt_irrefl _),af]
 obtain⟨f,s1,e1,hfr,h1⟩:=BG (K:=K+197) h
 obtain⟨v,s2,e2,v0,v1,_,h2⟩:=bl (K:=K+194) h1 5
 have v1:=v1 (by decide)
 obtain⟨m,rfl⟩:∃m:Nat,v=(m:Int):=⟨v.toNat,by omega⟩
 obtain⟨b,s3,e3,hb,hb1,_,hb2,h3⟩:=l7 (K:=K+60) (1+m) (h2.mono (by omega)) 0 f (eJ names.length) [] hfr (by decide) (fun c hc=>by obtain⟨k,hk,rfl⟩:=li hc;constructor<;>omega) (fun d hd=>nomatch hd) (by rw[lh];omega) (by simp) (by omega)
 rw[e1]
 simp only[ae]
 rw[e2]
 simp only[ae]
 rw[aQ (n:=1+(m:Int)) (by omega) (by omega),show 1+(m:Int)=((1+m:Nat):Int) by omega,e3]
 simp only[ae]
 have no:∀r:da,aS K r→∃(o':bo) (t:da),Zt.f r z o names places (u:Int) f (bG f++b++c7 f) 0=Zt.d t z o' names places ((u+1:Nat):Int)∧aS K t∧o'.2.2.1.length=o.2.2.1.length∧o'.2.2.2.1=o.2.2.2.1∧gv o'.2.2.2.2.1∧o'.2.2.2.2.1.length≤o.2.2.2.2.1.length+100∧o'.2.2.2.2.2=o.2.2.2.2.2:=by
  intro t ht
  obtain⟨ca,en⟩:=jR hn hfr hb hb1 (sP hfr)
  have hl:(bG f++b++c7 f).length=b.length+5:=by simp[bG,c7]
  obtain⟨o',a1,a2,a3,a4,a5,a6⟩:=pL z t names places hn u f (b.length+5) 0 o _ (by omega) (by omega) en ca hu hf hR (by omega)
  exact⟨o',t,a1,ht,a2,a3,a4,by omega,a6⟩
 simp only[aA]
 have hw:IntKind.wrap .i64 (((bG f++b++c7 f).length:Int)-3)=((b.length+2:Nat):Int):=by
  rw[show(((bG f++b++c7 f).length:Int)-3)=((b.length+2:Nat):Int) by simp[bG,c7];omega]
  exact aQ (by omega) (by omega)
 have htake:(bG f++b++c7 f).take (Int.toNat ((b.length+2:Nat):Int))=bG f++b:=by
  rw[aT,List.take_left' (by simp[bG])]
 by_cases hd:(places.length:Int)>0
 ·rw[ah hd,ac]
  obtain⟨w,s4,e4,h4⟩:=dD (K:=K+57) h3 2
  rw[e4]
  simp only[ae]
  cases w with
  |false=>
   rw[af]
   exact no s4 (h4.mono (by omega))
  |true=>
   rw[ac,sL hfr]
   simp only[ae]
   rw[hw,htake]
   have g1:(decide ((0:Int)≤((b.length+2:Nat):Int))&&decide (((b.length+2:Nat):Int)≤((bG f++b++c7 f).length:Int)))=true:=by
    rw[ah (by omega),ah (by simp[bG,c7];omega)];rfl
   rw[g1,ac,show aH 0 (c7 f).length=true from rfl,show aH 1 (c7 f).length=true from rfl,show aH 2 (c7 f).length=true from rfl]
   simp only[ac]
   rw[show rd (τ:=cp) (c7 f) 0=(14,1,2,0,f-8) from rfl,show rd (τ:=cp) (c7 f) 1=(22,2,2,0,f) from rfl,show rd (τ:=cp) (c7 f) 2=(4,0,1,0,0) from rfl]
   rw[aY (by simp[bG];omega) (by simp[bG];omega),ac]
   obtain⟨x,s5,e5,_,h5⟩:=l8 (K:=K+54) (h4.mono (by omega)) places (by omega)
   obtain⟨w,s6,e6,h6⟩:=dD (K:=K+51) h5 2
   rw[e5]
   simp only[ae]
   rw[e6]
   simp only[ae]
   have hlen:(bG f++b++[((1:Int),(14:Int),(0:Int),(0:Int),(0:Int)),(14,10,14,0,0),(22,10,10,0,3),(21,0,14,10,0),(22,17,0,0,3),(63,0,0,0,0),(14,1,2,0,f-8),(22,2,2,0,f),(4,0,1,0,0)]).length=b.length+11:=by simp[bG]
   rw[hlen]
   have w9:IntKind.wrap .i64 (((b.length+11:Nat):Int)-9)=((b.length+2:Nat):Int):=by
    rw[show(((b.length+11:Nat):Int)-9)=((b.length+2:Nat):Int) by omega];exact aQ (by omega) (by omega)
   rw[w9,inL_true (i:=((b.length+2:Nat):Int)) (n:=b.length+11) (by omega) (by omega)]
   simp only[ac,Hm]
   cases w<;>simp only[ac,af,ae,aV,Bool.not_false]
   ·erw [show aH 0 [(1:Int),4].length=true from rfl]
    simp only[ac]
    rw[aY (by simp;omega) (by simp;omega),ac,aY (by simp;omega) (by simp;omega),ac]
    obtain⟨ca,en⟩:=jR hn hfr hb hb1 (t:=[((1:Int),(14:Int),(0:Int),(0:Int),(0:Int)),(14,10,14,0,0),(22,10,10,0,3),(21,0,14,10,0),(22,17,0,0,3),(63,0,0,0,0),(14,1,2,0,f-8),(22,2,2,0,f),(4,0,1,0,0)]) (by
     intro y hy
     rcases List.mem_append.1 (show y∈[((1:Int),(14:Int),(0:Int),(0:Int),(0:Int)),(14,10,14,0,0),(22,10,10,0,3),(21,0,14,10,0),(22,17,0,0,3),(63,0,0,0,0)]++c7 f from hy)with q|q
     ·simp only[List.mem_cons,List.not_mem_nil,or_false]at q
      rcases q with rfl|rfl|rfl|rfl|rfl|rfl<;>exact⟨by decide,dH.right (by decide+kernel)⟩
     ·exact sP hfr y q)
    obtain⟨o',a1,a2,a3,a4,a5,a6⟩:=pL z s6 names places hn u f (b.length+11) 0 (o.1,o.2.1,o.2.2.1,o.2.2.2.1,(o.2.2.2.2.1++[((u:Int),((b.length+2:Nat):Int),(rd (τ:=(.int .i64)) [1,4] 0),x,(0:Int)),((u:Int),(IntKind.wrap .i64 (((b.length+2:Nat):Int)+1)),(rd (τ:=(.int .i64)) [2,5] 0),x,(0:Int))])++[((u:Int),(IntKind.wrap .i64 (((b.length+2:Nat):Int)+3)),(3:Int),x,(0:Int))],o.2.2.2.2.2) _ (by omega) (by omega) en ca hu hf (fun y hy=>by
     rcases List.mem_append.1 hy with q|q
     ·rcases List.mem_append.1 q with q|q
      ·exact hR y q
      ·simp only[List.mem_cons,List.not_mem_nil,or_false]at q
       rcases q with rfl|rfl<;>constructor<;>simp only<;>omega
     ·rw[List.mem_singleton]at q;subst q;constructor<;>simp only<;>omega) (by simp;omega)
    exact⟨o',s6,a1,h6.mono (by omega),a2,a3,a4,by simp at a5;omega,a6⟩
   ·have k1:rd (τ:=cp) (bG f++b++[((1:Int),(14:Int),(0:Int),(0:Int),(0:Int)),(14,10,14,0,0),(22,10,10,0,3),(21,0,14,10,0),(22,17,0,0,3),(63,0,0,0,0),(14,1,2,0,f-8),(22,2,2,0,f),(4,0,1,0,0)]) ((b.length+2:Nat):Int)=(1,14,0,0,0):=kb (τ:=cp) _ _ _ (by rw[List.getElem?_append_right (by simp[bG])];simp[bG,show b.length+2-(b.length+1+1)=0 by omega])
    have k2:(bG f++b++[((1:Int),(14:Int),(0:Int),(0:Int),(0:Int)),(14,10,14,0,0),(22,10,10,0,3),(21,0,14,10,0),(22,17,0,0,3),(63,0,0,0,0),(14,1,2,0,f-8),(22,2,2,0,f),(4,0,1,0,0)]).set (b.length+2) (2,14,0,0,0)=bG f++b++[((2:Int),(14:Int),(0:Int),(0:Int),(0:Int)),(14,10,14,0,0),(22,10,10,0,3),(21,0,14,10,0),(22,17,0,0,3),(63,0,0,0,0),(14,1,2,0,f-8),(22,2,2,0,f),(4,0,1,0,0)]:=by
     rw[List.set_append_right _ _ (by simp[bG])];simp[bG,show b.length+2-(b.length+1+1)=0 by omega]
    have k3:(bG f++b++[((2:Int),(14:Int),(0:Int),(0:Int),(0:Int)),(14,10,14,0,0),(22,10,10,0,3),(21,0,14,10,0),(22,17,0,0,3),(63,0,0,0,0),(14,1,2,0,f-8),(22,2,2,0,f),(4,0,1,0,0)]).set (b.length+5) (22,10,10,0,1)=bG f++b++[((2:Int),(14:Int),(0:Int),(0:Int),(0:Int)),(14,10,14,0,0),(22,10,10,0,3),(22,10,10,0,1),(22,17,0,0,3),(63,0,0,0,0),(14,1,2,0,f-8),(22,2,2,0,f),(4,0,1,0,0)]:=by
     rw[List.set_append_right _ _ (by simp[bG])];simp[bG,show b.length+5-(b.length+1+1)=3 by omega]
    have w5:IntKind.wrap .i64 (((b.length+2:Nat):Int)+3)=((b.length+5:Nat):Int):=by
     rw[show(((b.length+2:Nat):Int)+3)=((b.length+5:Nat):Int) by omega];exact aQ (by omega) (by omega)
    simp only[letB]
    rw[k1,aT,k2]
    erw [show aH 1 [(1:Int),4].length=true from rfl]
    simp only[ac]
    rw[aY (by simp;omega) (by simp;omega),ac,w5,inL_true (i:=((b.length+5:Nat):Int)) (by omega) (by simp[bG];omega),ac,aT,k3]
    obtain⟨ca,en⟩:=jR hn hfr hb hb1 (t:=[((2:Int),(14:Int),(0:Int),(0:Int),(0:Int)),(14,10,14,0,0),(22,10,10,0,3),(22,10,10,0,1),(22,17,0,0,3),(63,0,0,0,0),(14,1,2,0,f-8),(22,2,2,0,f),(4,0,1,0,0)]) (by
     intro y hy
     rcases List.mem_append.1 (show y∈[((2:Int),(14:Int),(0:Int),(0:Int),(0:Int)),(14,10,14,0,0),(22,10,10,0,3),(22,10,10,0,1),(22,17,0,0,3),(63,0,0,0,0)]++c7 f from hy)with q|q
     ·simp only[List.mem_cons,List.not_mem_nil,or_false]at q
      rcases q with rfl|rfl|rfl|rfl|rfl|rfl<;>exact⟨by decide,dH.right (by decide+kernel)⟩
     ·exact sP hfr y q)
    obtain⟨o',a1,a2,a3,a4,a5,a6⟩:=pL z s6 names places hn u f (b.length+11) 0 (o.1,o.2.1,o.2.2.1,o.2.2.2.1,(o.2.2.2.2.1++[((u:Int),((b.length+2:Nat):Int),(rd (τ:=(.int .i64)) [1,4] 1),x,(0:Int)),((u:Int),(IntKind.wrap .i64 (((b.length+2:Nat):Int)+1)),(rd (τ:=(.int .i64)) [2,5] 1),x,(0:Int))]),o.2.2.2.2.2) _ (by simp[bG]) (by simp[bG];omega) en ca hu hf (fun y hy=>by
     rcases List.mem_append.1 hy with q|q
     ·exact hR y q
     ·simp only[List.mem_cons,List.not_mem_nil,or_false]at q
      rcases q with rfl|rfl<;>constructor<;>simp only<;>omega) (by simp;omega)
    exact⟨o',s6,a1,h6.mono (by omega),a2,a3,a4,by simp at a5;omega,a6⟩
 ·rw[ai hd,af,af]
  exact no s3 (h3.mono (by omega))
theorem B5 {K:Nat} (z:bo) (names places:List ByteArray) (hn1:1≤names.length) (hn:names.length≤200):∀(m u:Nat) (s:da) (o:bo),u+m=o.2.2.1.length→o.2.2.1.length≤100→aS (K+18+200*m) s→gv o.2.2.2.2.1→o.2.2.2.2.1.length+100*m≤900→o.2.2.2.2.2.length≤100→
  ∃(o':bo) (t:da),Zt.d s z o names places (u:Int)=some (o',t)∧l9 o'∧aS K t:=by
 intro m
 induction m with
 |zero=>
  intro u s o hu hf h hR hr hs
  rw[show u=o.2.2.1.length by omega]
  exact vf (h.mono (by omega)) z o names places hn1 hf (by omega) hR hs
 |succ m ih=>
  intro u s o hu hf h hR hr hs
  rw[Zt.d_eq,ah (show(u:Int)< (o.2.2.1.length:Int) by omega),ac]
  obtain⟨o',t,e,ht,a2,a3,a4,a5,a6⟩:=Es (K:=K+18+200*m) (h.mono (by omega)) z names places hn u o (by omega) hf hR (by omega)
  rw[e]
  exact ih (u+1) t o' (by omega) (by omega) ht a4 (by omega) (by rw[a6];exact hs)
theorem z8 {K:Nat} {s:da} (h:aS (K+1000) s) (a:Int) (fs ds:List ByteArray) (hf1:1≤fs.length) (hf:fs.length≤100) (hd:ds.length≤100):
  ∃(o:bo) (t:da),Zt s a fs ds=some (o,t)∧l9 o∧aS K t:=by
 obtain⟨x,s1,e1,_,h1⟩:=l8 (K:=K+997) h [(⟨#[102,105,120]⟩:ByteArray),(⟨#[104,111,116]⟩:ByteArray),(⟨#[99,118,101]⟩:ByteArray),(⟨#[109,101,110,100]⟩:ByteArray),(⟨#[111,110,101]⟩:ByteArray),(⟨#[116,119,111]⟩:ByteArray),(⟨#[117,112]⟩:ByteArray)] (by decide)
 obtain⟨v,s2,e2,v0,v1,_,h2⟩:=bl (K:=K+994) h1 3
 have v1:=v1 (by decide)
 obtain⟨k,rfl⟩:∃k:Nat,v=(k:Int):=⟨v.toNat,by omega⟩
 rw[Ho,e1]
 simp only[ae]
 rw[e2]
 simp only[ae]
 obtain⟨o1,s3,e3,h3,b1,b2,b3⟩:=B3 (K:=K+900) fs ds ((⟨#[]⟩:ByteArray),0,[],[],[],[]) k s2 (x,a,[],[],[],[]) (by omega) (h2.mono (by omega)) (by simp;omega)
 rw[e3]
 obtain⟨w,s4,e4,w0,w1,_,h4⟩:=bl (K:=K+897) h3 3
 have w1:=w1 (by decide)
 obtain⟨j,rfl⟩:∃j:Nat,w=(j:Int):=⟨w.toNat,by omega⟩
 rw[e4]
 simp only[ae]
 rw[aQ (n:=1+(j:Int)) (by omega) (by omega),show 1+(j:Int)=((1+j:Nat):Int) by omega]
 have q1:o1.2.2.1.length=0:=by rw[b1];rfl
 have q3:o1.2.2.2.1.length≤2:=by rw[b3];simp;omega
 obtain⟨o2,own,s5,e5,h5,c1,c2,c3⟩:=Dl (K:=K+860) fs ds ((⟨#[]⟩:ByteArray),0,[],[],[],[]) hf1 hf hd (1+j) s4 o1 [] (by omega) (h4.mono (by omega)) (by omega) (by simp;omega)
 simp only[List.length_nil]at c3
 rw[e5]
 have q2:o2.2.2.2.1.length≤2:=by rw[c1];exact q3
 have q4:o2.2.2.2.2=([],[]):=by rw[c1,b2]
 obtain⟨pl,e6,_⟩:=z7 ((⟨#[]⟩:ByteArray),0,[],[],[],[]) o2 s5 (fs++own) (by omega) o2.2.2.2.1.length 0 ds (by omega) (by omega)
 rw[show((0:Nat):Int)=0 from rfl]at e6
 rw[e6]
 exact B5 (K:=K) _ (fs++own) pl (by simp;omega) (by simp;omega) o2.2.2.1.length 0 s5 o2 (by omega) (by omega) (h5.mono (by omega)) (by rw[q4];exact fun y hy=>nomatch hy) (by rw[q4];simp;omega) (by rw[q4];simp)
theorem mS {l:List sI} (h:gv l) (i:Nat) (x:sI) (hx:Ek x.1):gv (l.set i x):=by
 intro y hy
 rcases List.mem_or_eq_of_mem_set hy with q|q
 ·exact h y q
 ·subst q;exact hx
theorem B6 {K:Nat} {s:da} (h:aS (K+12) s) (o:bo) (ho:l9 o):
  ∃(o':bo) (t:da),(aA (fun kr37=>(Zm s 8).bind fun d8=>bif d8.1 then kr37 (decide ((o.2.2.2.2.1.length:Int)>0)) d8.2.1 d8.2.2.1 d8.2.2.2 else kr37 false d8.2.1 d8.2.2.1 d8.2.2.2) fun(r26:Bool) (r27:List Int) (r28:Int) (r29:Int)=>bif r26 then((Z5 (r27,r28,r29) (o.2.2.2.2.1.length:Int)).bind fun r30=>(Z5 r30.2 4).bind fun r31=>bif (decide (r31.1=0))then((Z5 r31.2 5).bind fun r32=>bif (aH r32.1 ([4,(-4),2147483647,2,8].length))then(bif (aH r30.1 (o.2.2.2.2.1.length))then(letB (o.2.2.2.2.1.set (Int.toNat r30.1) ((rd (τ:=a8) o.2.2.2.2.1 r30.1).1,(rd (τ:=a8) o.2.2.2.2.1 r30.1).2.1,(rd (τ:=a8) o.2.2.2.2.1 r30.1).2.2.1,(rd (τ:=a8) o.2.2.2.2.1 r30.1).2.2.2.1,(rd (τ:=(.int .i64)) [4,(-4),2147483647,2,8] r32.1))) fun r33=>some ((o.1,o.2.1,o.2.2.1,o.2.2.2.1,r33,o.2.2.2.2.2),r32.2))else none)else none)else(bif (decide (r31.1=1))then(bif (aH r30.1 (o.2.2.2.2.1.length))then(letB (o.2.2.2.2.1.set (Int.toNat r30.1) ((rd (τ:=a8) o.2.2.2.2.1 r30.1).1,(rd (τ:=a8) o.2.2.2.2.1 r30.1).2.1,(rd (τ:=a8) o.2.2.2.2.1 r30.1).2.2.1,(⟨#[110,111,110,101]⟩:ByteArray),(rd (τ:=a8) o.2.2.2.2.1 r30.1).2.2.2.2)) fun r34=>some ((o.1,o.2.1,o.2.2.1,o.2.2.2.1,r34,o.2.2.2.2.2),r31.2))else none)else(bif (decide (r31.1=2))then((Z5 r31.2 8).bind fun r35=>bif (aH r30.1 (o.2.2.2.2.1.length))then(letB (o.2.2.2.2.1.set (Int.toNat r30.1) ((rd (τ:=a8) o.2.2.2.2.1 r30.1).1,(rd (τ:=a8) o.2.2.2.2.1 r30.1).2.1,(IntKind.wrap .i64 (1+r35.1)),(rd (τ:=a8) o.2.2.2.2.1 r30.1).2.2.2)) fun r36=>some ((o.1,o.2.1,o.2.2.1,o.2.2.2.1,r36,o.2.2.2.2.2),r35.2))else none)else(bif (decide (r31.1=3))then(bif (decide (0≤0)&&decide (0≤r30.1)&&decide (r30.1≤(o.2.2.2.2.1.length:Int)))then(bif (decide (0≤(IntKind.wrap .i64 (r30.1+1)))&&decide ((IntKind.wrap .i64 (r30.1+1))≤(o.2.2.2.2.1.length:Int))&&decide ((o.2.2.2.2.1.length:Int)≤(o.2.2.2.2.1.length:Int)))then(bif (aD ((((o.2.2.2.2.1.take (Int.toNat r30.1)).drop (Int.toNat 0))++((o.2.2.2.2.1.take (Int.toNat (o.2.2.2.2.1.length:Int))).drop (Int.toNat (IntKind.wrap .i64 (r30.1+1))))).length) 48)then some ((o.1,o.2.1,o.2.2.1,o.2.2.2.1,(((o.2.2.2.2.1.take (Int.toNat r30.1)).drop (Int.toNat 0))++((o.2.2.2.2.1.take (Int.toNat (o.2.2.2.2.1.length:Int))).drop (Int.toNat (IntKind.wrap .i64 (r30.1+1))))),o.2.2.2.2.2),r31.2)else none)else none)else none)else some (o,r31.2)))))else some (o,r27,r28,r29))=some (o',t)∧iE o'∧aS K t:=by
 obtain⟨v,t,e,ht⟩:=dD (K:=K+9) h 8
 have hlen:=ho.2
 rw[e]
 simp only[aA,ae]
 have no:∃(o':bo) (t':da),(some (o,t):Option (bo×da))=some (o',t')∧iE o'∧aS K t':=⟨o,t,rfl,ho.r,ht.mono (by omega)⟩
 cases v with
 |false=>simp only[af];exact no
 |true=>
  simp only[ac]
  by_cases hz:(o.2.2.2.2.1.length:Int)>0
  ·rw[ah hz,ac]
   obtain⟨k0,t1,e1,k1,k2,_,ht1⟩:=bl (K:=K+6) (s:=t) ht (o.2.2.2.2.1.length:Int)
   have k2:=k2 (by omega)
   obtain⟨k,rfl⟩:∃k:Nat,k0=k:=⟨k0.toNat,by omega⟩
   have hk:k<o.2.2.2.2.1.length:=by omega
   have hI:Ek (rd (τ:=a8) o.2.2.2.2.1 (k:Int)).1:=ho.1 _ (fy (τ:=a8) _ k hk)
   obtain⟨c,t2,e2,c0,c1,_,ht2⟩:=bl (K:=K+3) ht1 4
   have e1':Z5 (t.1,t.2.1,t.2.2) (o.2.2.2.2.1.length:Int)=some ((k:Int),t1):=e1
   rw[e1']
   simp only[ae]
   rw[e2]
   simp only[ae]
   rw[aq,ah hk]
   by_cases h0:c=0
   ·rw[ah h0,ac]
    obtain⟨a,t3,e3,a0,a1,_,ht3⟩:=bl (K:=K) ht2 5
    have a1:=a1 (by decide)
    rw[e3]
    simp only[ae]
    rw[inL_true (i:=a) a0 (by simp;omega)]
    simp only[ac,letB]
    exact⟨_,t3,rfl,jQ (mS ho.1 _ _ hI),ht3⟩
   rw[ai h0,af]
   by_cases h1:c=1
   ·rw[ah h1]
    simp only[ac,letB]
    exact⟨_,t2,rfl,jQ (mS ho.1 _ _ hI),ht2.mono (by omega)⟩
   rw[ai h1,af]
   by_cases h2:c=2
   ·rw[ah h2,ac]
    obtain⟨a,t3,e3,a0,a1,_,ht3⟩:=bl (K:=K) ht2 8
    rw[e3]
    simp only[ae,ac,letB]
    exact⟨_,t3,rfl,jQ (mS ho.1 _ _ hI),ht3⟩
   rw[ai h2,af]
   by_cases h3:c=3
   ·rw[ah h3,aQ (n:=(k:Int)+1) (by omega) (by omega),ah (show(0:Nat)≤0 by omega),ah (show(0:Int)≤(k:Int) by omega),ah (show(k:Int)≤(o.2.2.2.2.1.length:Int) by omega),ah (show(0:Int)≤(k:Int)+1 by omega),ah (show(k:Int)+1≤(o.2.2.2.2.1.length:Int) by omega),ah (Int.le_refl _)]
    simp only[Bool.and_self,ac]
    rw[aY (n:=(((o.2.2.2.2.1.take (Int.toNat (k:Int))).drop (Int.toNat 0))++((o.2.2.2.2.1.take (Int.toNat (o.2.2.2.2.1.length:Int))).drop (Int.toNat ((k:Int)+1)))).length) (by simp;omega) (by simp;omega),ac]
    refine⟨_,t2,rfl,jQ (fun x hx=> ?_),ht2.mono (by omega)⟩
    rcases List.mem_append.1 hx with q|q
    ·exact ho.1 x (List.mem_of_mem_take (List.mem_of_mem_drop q))
    ·exact ho.1 x (List.mem_of_mem_take (List.mem_of_mem_drop q))
   ·rw[ai h3,af]
    exact⟨o,t2,rfl,ho.r,ht2.mono (by omega)⟩
  ·rw[ai hz,af];exact no
theorem Dm {K:Nat} {s:da} (h:aS (K+1018) s) (T:List eF) (a:Int) (z:bo) (fs ds:List ByteArray) (hf:fs.length≤90) (hd:ds.length≤90):
  ∃(o:bo) (t:da),Zu.a s T a z fs ds (T.length:Int)=some (o,t)∧iE o∧aS K t:=by
 rw[Zu.a_eq,ai (Int.lt_irrefl _),af]
 have go:∀(s:da) (gs:List ByteArray),aS (K+1012) s→1≤gs.length→gs.length≤100→∃(o:bo) (t:da),((Zt s a gs ds).bind fun r=>aA (fun kr37=>(Zm r.2 8).bind fun d8=>bif d8.1 then kr37 (decide ((r.1.2.2.2.2.1.length:Int)>0)) d8.2.1 d8.2.2.1 d8.2.2.2 else kr37 false d8.2.1 d8.2.2.1 d8.2.2.2) fun(r26:Bool) (r27:List Int) (r28:Int) (r29:Int)=>bif r26 then((Z5 (r27,r28,r29) (r.1.2.2.2.2.1.length:Int)).bind fun r30=>(Z5 r30.2 4).bind fun r31=>bif (decide (r31.1=0))then((Z5 r31.2 5).bind fun r32=>bif (aH r32.1 ([4,(-4),2147483647,2,8].length))then(bif (aH r30.1 (r.1.2.2.2.2.1.length))then(letB (r.1.2.2.2.2.1.set (Int.toNat r30.1) ((rd (τ:=a8) r.1.2.2.2.2.1 r30.1).1,(rd (τ:=a8) r.1.2.2.2.2.1 r30.1).2.1,(rd (τ:=a8) r.1.2.2.2.2.1 r30.1).2.2.1,(rd (τ:=a8) r.1.2.2.2.2.1 r30.1).2.2.2.1,(rd (τ:=(.int .i64)) [4,(-4),2147483647,2,8] r32.1))) fun r33=>some ((r.1.1,r.1.2.1,r.1.2.2.1,r.1.2.2.2.1,r33,r.1.2.2.2.2.2),r32.2))else none)else none)else(bif (decide (r31.1=1))then(bif (aH r30.1 (r.1.2.2.2.2.1.length))then(letB (r.1.2.2.2.2.1.set (Int.toNat r30.1) ((rd (τ:=a8) r.1.2.2.2.2.1 r30.1).1,(rd (τ:=a8) r.1.2.2.2.2.1 r30.1).2.1,(rd (τ:=a8) r.1.2.2.2.2.1 r30.1).2.2.1,(⟨#[110,111,110,101]⟩:ByteArray),(rd (τ:=a8) r.1.2.2.2.2.1 r30.1).2.2.2.2)) fun r34=>some ((r.1.1,r.1.2.1,r.1.2.2.1,r.1.2.2.2.1,r34,r.1.2.2.2.2.2),r31.2))else none)else(bif (decide (r31.1=2))then((Z5 r31.2 8).bind fun r35=>bif (aH r30.1 (r.1.2.2.2.2.1.length))then(letB (r.1.2.2.2.2.1.set (Int.toNat r30.1) ((rd (τ:=a8) r.1.2.2.2.2.1 r30.1).1,(rd (τ:=a8) r.1.2.2.2.2.1 r30.1).2.1,(IntKind.wrap .i64 (1+r35.1)),(rd (τ:=a8) r.1.2.2.2.2.1 r30.1).2.2.2)) fun r36=>some ((r.1.1,r.1.2.1,r.1.2.2.1,r.1.2.2.2.1,r36,r.1.2.2.2.2.2),r35.2))else none)else(bif (decide (r31.1=3))then(bif (decide (0≤0)&&decide (0≤r30.1)&&decide (r30.1≤(r.1.2.2.2.2.1.length:Int)))then(bif (decide (0≤(IntKind.wrap .i64 (r30.1+1)))&&decide ((IntKind.wrap .i64 (r30.1+1))≤(r.1.2.2.2.2.1.length:Int))&&decide ((r.1.2.2.2.2.1.length:Int)≤(r.1.2.2.2.2.1.length:Int)))then(bif (aD ((((r.1.2.2.2.2.1.take (Int.toNat r30.1)).drop (Int.toNat 0))++((r.1.2.2.2.2.1.take (Int.toNat (r.1.2.2.2.2.1.length:Int))).drop (Int.toNat (IntKind.wrap .i64 (r30.1+1))))).length) 48)then some ((r.1.1,r.1.2.1,r.1.2.2.1,r.1.2.2.2.1,(((r.1.2.2.2.2.1.take (Int.toNat r30.1)).drop (Int.toNat 0))++((r.1.2.2.2.2.1.take (Int.toNat (r.1.2.2.2.2.1.length:Int))).drop (Int.toNat (IntKind.wrap .i64 (r30.1+1))))),r.1.2.2.2.2.2),r31.2)else none)else none)else none)else some (r.1,r31.2)))))else some (r.1,r27,r28,r29))=some (o,t)∧iE o∧aS K t:=by
  intro s gs hs h1 h2
  obtain⟨o,t,e,hr,ht⟩:=z8 (K:=K+12) hs a gs ds h1 h2 (by omega)
  rw[e]
  exact B6 ht o hr
 have mid:∀(s:da) (gs:List ByteArray),aS (K+1015) s→gs.length≤90→∃(o:bo) (t:da),(aA (fun kr=>bif (decide ((gs.length:Int)=0))then kr true s.1 s.2.1 s.2.2 else((Zm (s.1,s.2.1,s.2.2) 12).bind fun r=>kr r.1 r.2.1 r.2.2.1 r.2.2.2)) fun(v:Bool) (x:List Int) (y:Int) (w:Int)=>bif v then(bif (aD ((gs.length)+([(⟨#[108,101,97,102]⟩:ByteArray)].length)) 16)then((Zt (x,y,w) a (gs++[(⟨#[108,101,97,102]⟩:ByteArray)]) ds).bind fun r=>aA (fun kr37=>(Zm r.2 8).bind fun d8=>bif d8.1 then kr37 (decide ((r.1.2.2.2.2.1.length:Int)>0)) d8.2.1 d8.2.2.1 d8.2.2.2 else kr37 false d8.2.1 d8.2.2.1 d8.2.2.2) fun(r26:Bool) (r27:List Int) (r28:Int) (r29:Int)=>bif r26 then((Z5 (r27,r28,r29) (r.1.2.2.2.2.1.length:Int)).bind fun r30=>(Z5 r30.2 4).bind fun r31=>bif (decide (r31.1=0))then((Z5 r31.2 5).bind fun r32=>bif (aH r32.1 ([4,(-4),2147483647,2,8].length))then(bif (aH r30.1 (r.1.2.2.2.2.1.length))then(letB (r.1.2.2.2.2.1.set (Int.toNat r30.1) ((rd (τ:=a8) r.1.2.2.2.2.1 r30.1).1,(rd (τ:=a8) r.1.2.2.2.2.1 r30.1).2.1,(rd (τ:=a8) r.1.2.2.2.2.1 r30.1).2.2.1,(rd (τ:=a8) r.1.2.2.2.2.1 r30.1).2.2.2.1,(rd (τ:=(.int .i64)) [4,(-4),2147483647,2,8] r32.1))) fun r33=>some ((r.1.1,r.1.2.1,r.1.2.2.1,r.1.2.2.2.1,r33,r.1.2.2.2.2.2),r32.2))else none)else none)else(bif (decide (r31.1=1))then(bif (aH r30.1 (r.1.2.2.2.2.1.length))then(letB (r.1.2.2.2.2.1.set (Int.toNat r30.1) ((rd (τ:=a8) r.1.2.2.2.2.1 r30.1).1,(rd (τ:=a8) r.1.2.2.2.2.1 r30.1).2.1,(rd (τ:=a8) r.1.2.2.2.2.1 r30.1).2.2.1,(⟨#[110,111,110,101]⟩:ByteArray),(rd (τ:=a8) r.1.2.2.2.2.1 r30.1).2.2.2.2)) fun r34=>some ((r.1.1,r.1.2.1,r.1.2.2.1,r.1.2.2.2.1,r34,r.1.2.2.2.2.2),r31.2))else none)else(bif (decide (r31.1=2))then((Z5 r31.2 8).bind fun r35=>bif (aH r30.1 (r.1.2.2.2.2.1.length))then(letB (r.1.2.2.2.2.1.set (Int.toNat r30.1) ((rd (τ:=a8) r.1.2.2.2.2.1 r30.1).1,(rd (τ:=a8) r.1.2.2.2.2.1 r30.1).2.1,(IntKind.wrap .i64 (1+r35.1)),(rd (τ:=a8) r.1.2.2.2.2.1 r30.1).2.2.2)) fun r36=>some ((r.1.1,r.1.2.1,r.1.2.2.1,r.1.2.2.2.1,r36,r.1.2.2.2.2.2),r35.2))else none)else(bif (decide (r31.1=3))then(bif (decide (0≤0)&&decide (0≤r30.1)&&decide (r30.1≤(r.1.2.2.2.2.1.length:Int)))then(bif (decide (0≤(IntKind.wrap .i64 (r30.1+1)))&&decide ((IntKind.wrap .i64 (r30.1+1))≤(r.1.2.2.2.2.1.length:Int))&&decide ((r.1.2.2.2.2.1.length:Int)≤(r.1.2.2.2.2.1.length:Int)))then(bif (aD ((((r.1.2.2.2.2.1.take (Int.toNat r30.1)).drop (Int.toNat 0))++((r.1.2.2.2.2.1.take (Int.toNat (r.1.2.2.2.2.1.length:Int))).drop (Int.toNat (IntKind.wrap .i64 (r30.1+1))))).length) 48)then some ((r.1.1,r.1.2.1,r.1.2.2.1,r.1.2.2.2.1,(((r.1.2.2.2.2.1.take (Int.toNat r30.1)).drop (Int.toNat 0))++((r.1.2.2.2.2.1.take (Int.toNat (r.1.2.2.2.2.1.length:Int))).drop (Int.toNat (IntKind.wrap .i64 (r30.1+1))))),r.1.2.2.2.2.2),r31.2)else none)else none)else none)else some (r.1,r31.2)))))else some (r.1,r27,r28,r29))else none)else((Zt (x,y,w) a gs ds).bind fun r=>aA (fun kr37=>(Zm r.2 8).bind fun d8=>bif d8.1 then kr37 (decide ((r.1.2.2.2.2.1.length:Int)>0)) d8.2.1 d8.2.2.1 d8.2.2.2 else kr37 false d8.2.1 d8.2.2.1 d8.2.2.2) fun(r26:Bool) (r27:List Int) (r28:Int) (r29:Int)=>bif r26 then((Z5 (r27,r28,r29) (r.1.2.2.2.2.1.length:Int)).bind fun r30=>(Z5 r30.2 4).bind fun r31=>bif (decide (r31.1=0))then((Z5 r31.2 5).bind fun r32=>bif (aH r32.1 ([4,(-4),2147483647,2,8].length))then(bif (aH r30.1 (r.1.2.2.2.2.1.length))then(letB (r.1.2.2.2.2.1.set (Int.toNat r30.1) ((rd (τ:=a8) r.1.2.2.2.2.1 r30.1).1,(rd (τ:=a8) r.1.2.2.2.2.1 r30.1).2.1,(rd (τ:=a8) r.1.2.2.2.2.1 r30.1).2.2.1,(rd (τ:=a8) r.1.2.2.2.2.1 r30.1).2.2.2.1,(rd (τ:=(.int .i64)) [4,(-4),2147483647,2,8] r32.1))) fun r33=>some ((r.1.1,r.1.2.1,r.1.2.2.1,r.1.2.2.2.1,r33,r.1.2.2.2.2.2),r32.2))else none)else none)else(bif (decide (r31.1=1))then(bif (aH r30.1 (r.1.2.2.2.2.1.length))then(letB (r.1.2.2.2.2.1.set (Int.toNat r30.1) ((rd (τ:=a8) r.1.2.2.2.2.1 r30.1).1,(rd (τ:=a8) r.1.2.2.2.2.1 r30.1).2.1,(rd (τ:=a8) r.1.2.2.2.2.1 r30.1).2.2.1,(⟨#[110,111,110,101]⟩:ByteArray),(rd (τ:=a8) r.1.2.2.2.2.1 r30.1).2.2.2.2)) fun r34=>some ((r.1.1,r.1.2.1,r.1.2.2.1,r.1.2.2.2.1,r34,r.1.2.2.2.2.2),r31.2))else none)else(bif (decide (r31.1=2))then((Z5 r31.2 8).bind fun r35=>bif (aH r30.1 (r.1.2.2.2.2.1.length))then(letB (r.1.2.2.2.2.1.set (Int.toNat r30.1) ((rd (τ:=a8) r.1.2.2.2.2.1 r30.1).1,(rd (τ:=a8) r.1.2.2.2.2.1 r30.1).2.1,(IntKind.wrap .i64 (1+r35.1)),(rd (τ:=a8) r.1.2.2.2.2.1 r30.1).2.2.2)) fun r36=>some ((r.1.1,r.1.2.1,r.1.2.2.1,r.1.2.2.2.1,r36,r.1.2.2.2.2.2),r35.2))else none)else(bif (decide (r31.1=3))then(bif (decide (0≤0)&&decide (0≤r30.1)&&decide (r30.1≤(r.1.2.2.2.2.1.length:Int)))then(bif (decide (0≤(IntKind.wrap .i64 (r30.1+1)))&&decide ((IntKind.wrap .i64 (r30.1+1))≤(r.1.2.2.2.2.1.length:Int))&&decide ((r.1.2.2.2.2.1.length:Int)≤(r.1.2.2.2.2.1.length:Int)))then(bif (aD ((((r.1.2.2.2.2.1.take (Int.toNat r30.1)).drop (Int.toNat 0))++((r.1.2.2.2.2.1.take (Int.toNat (r.1.2.2.2.2.1.length:Int))).drop (Int.toNat (IntKind.wrap .i64 (r30.1+1))))).length) 48)then some ((r.1.1,r.1.2.1,r.1.2.2.1,r.1.2.2.2.1,(((r.1.2.2.2.2.1.take (Int.toNat r30.1)).drop (Int.toNat 0))++((r.1.2.2.2.2.1.take (Int.toNat (r.1.2.2.2.2.1.length:Int))).drop (Int.toNat (IntKind.wrap .i64 (r30.1+1))))),r.1.2.2.2.2.2),r31.2)else none)else none)else none)else some (r.1,r31.2)))))else some (r.1,r27,r28,r29)))=some (o,t)∧iE o∧aS K t:=by
  intro s gs hs h2
  simp only[aA]
  by_cases h1:(gs.length:Int)=0
  ·rw[ah h1]
   simp only[ac]
   rw[aY (by simp;omega) (by simp;omega),ac]
   exact go s _ (hs.mono (by omega)) (by simp) (by simp;omega)
  ·rw[ai h1]
   simp only[af]
   obtain⟨v,t,e,ht⟩:=dD (K:=K+1012) (s:=s) hs 12
   have e':Zm (s.1,s.2.1,s.2.2) 12=some (v,t):=e
   rw[e']
   simp only[ae]
   cases v with
   |true=>
    simp only[ac]
    rw[aY (by simp;omega) (by simp;omega),ac]
    exact go t _ ht (by simp) (by simp;omega)
   |false=>
    simp only[af]
    exact go t gs ht (by omega) (by omega)
 by_cases h1:(fs.length:Int)>1
 ·obtain⟨v,t,e,ht⟩:=dD (K:=K+1015) h 2
  rw[ah h1,e]
  rw[ah (show(0:Nat)≤1 by omega),ah (show(1:Int)≤(fs.length:Int) by omega),ah (Int.le_refl _)]
  cases v with
  |true=>
   have:=mid t ((fs.take (Int.toNat (fs.length:Int))).drop (Int.toNat 1)) ht (by simp;omega)
   simp only[aA,ac,ae,Bool.and_self,List.length_append]at this⊢
   exact this
  |false=>exact mid t fs ht hf
 ·rw[ai h1]
  exact mid s fs (h.mono (by omega)) hf
theorem B7 {K:Nat} {s:da} (h:aS (K+1018) s) (T:List eF) (hT:T.length≤64) (a:Int) (z:bo):∀(k i:Nat) (fs ds:List ByteArray),i+k=T.length→fs.length≤i→ds.length≤i→
  ∃(o:bo) (t:da),Zu.a s T a z fs ds (i:Int)=some (o,t)∧iE o∧aS K t:=by
 intro k
 induction k with
 |zero=>intro i fs ds hi hf hd;rw[show i=T.length by omega];exact Dm h T a z fs ds (by omega) (by omega)
 |succ k ih=>
  intro i fs ds hi hf hd
  rw[Zu.a_eq,ah (show(i:Int)< (T.length:Int) by omega),aq,ah (show i<T.length by omega),aQ (n:=(i:Int)+1) (by omega) (by omega),aY (n:=fs.length+_) (by simp;omega) (by simp;omega),aY (n:=ds.length+_) (by simp;omega) (by simp;omega)]
  simp only[ac]
  cases decide ((rd (τ:=cb) T (i:Int)).2.1=1)
  ·exact ih (i+1) _ _ (by omega) (by omega) (by simp;omega)
  ·exact ih (i+1) _ _ (by omega) (by simp;omega) (by omega)
theorem sQ (b:List Int) (hb:BH b) (hn:b.length≤1048576) (T:List eF) (hT:T.length≤64):∃o:bo,Zv b T=some o∧iE o:=by
 obtain⟨s,e,hs⟩:=rA b hb hn
 obtain⟨o,t,e2,hr,_⟩:=B7 (K:=0) (s:=s) (hs.mono (by decide)) T hT 0 ((⟨#[]⟩:ByteArray),0,[],[],[],[]) T.length 0 [] [] (by omega) (by simp) (by simp)
 rw[Hq,e]
 simp only[ae,optC]
 rw[Hp]
 rw[show((0:Nat):Int)=0 from rfl]at e2
 rw[e2]
 exact⟨o,rfl,hr⟩
def B8 (t:List eF) (a b:bU) (o:bo) (v:gJ×bU×bU×Int):Prop:=GO t a b o v∧∀j:Nat,j<o.2.2.1.length→∃w,iJ (rd (τ:= .str) v.1.2.1 (j:Int)) (rd (τ:= .int .i64) v.1.1 (j:Int)) (rd (τ:=aN) o.2.2.1 (j:Int)).2.2.1 (fH t o v.1)=some (w,0)
theorem w8 (t:List eF) (o:bo) (ht:zL t) (ho:eg o) (x8:gJ) (x9 x10:bU) (a b:bU) (l:gJ) (hl:fM o l):∀(k i:Nat),i+k=o.2.2.1.length→
  ∃v,ei.d a b x8 x9 x10 (l,t,o) 0 o.2.2.1 (o.2.2.1.length:Int) (i:Int)=some v∧gQ.d o ZL ZA ZA l a b (fH t o l) (i:Int)=some v∧(v.2.2.2=0→v=(l,a,b,0)∧∀j:Nat,i≤j→j<o.2.2.1.length→∃w,iJ (rd (τ:= .str) l.2.1 (j:Int)) (rd (τ:= .int .i64) l.1 (j:Int)) (rd (τ:=aN) o.2.2.1 (j:Int)).2.2.1 (fH t o l)=some (w,0))∧(v.2.2.2≠0→v.1=([],[],[],[])):=by
 have h1:=ho.f
 intro k
 induction k with
 |zero=>
  intro i h
  have:i=o.2.2.1.length:=by omega
  subst this
  rw[ei.d_eq,ap,ai (a9 _),af,gQ.d_eq,ap,ai (a9 _),af]
  exact⟨(l,a,b,0),rfl,rfl,fun _=>⟨rfl,fun j h1 h2=>by omega⟩,fun h=>absurd rfl h⟩
 |succ k ih=>
  intro i h
  have hi:i<o.2.2.1.length:=by omega
  have hsz:=hl.cs i hi
  have hfs:=ho.fsz_pos i hi
  have hcl:=kF t o l ht.1 ho.toObjSz
  obtain⟨v,e1,e2⟩:=zo (rd (τ:= .str) l.2.1 (i:Int)) (rd (τ:= .int .i64) l.1 (i:Int)) (rd (τ:=aN) o.2.2.1 (i:Int)).2.2.1 (fH t o l) (by omega) (by omega)
  rw[ei.d_eq,ap,aq,ah hi,au i _ hi (by omega),gQ.d_eq,ap,aq,ah hi,au i _ hi (by omega),wV t o l ht.1 ho.toObjSz hl]
  rw[aq,aq,show decide (i<l.2.1.length)=true from ah (by rw[hl.c];exact hi),show decide (i<l.1.length)=true from ah (by rw[hl.a];exact hi),ah hi]
  simp only[ac,decide_true,ae]
  rw[e1,e2]
  simp only[ae]
  by_cases hv:v.2=0
  ·have hdec:iJ (rd (τ:= .str) l.2.1 (i:Int)) (rd (τ:= .int .i64) l.1 (i:Int)) (rd (τ:=aN) o.2.2.1 (i:Int)).2.2.1 (fH t o l)=some (v.1,0):=by rw[e1,←hv]
   rw[hv]
   obtain⟨u,u1,u2,u3,u4⟩:=ih (i+1) (by omega)
   refine⟨u,u1,u2,fun h=>⟨(u3 h).1,fun j h1 h2=> ?_⟩,u4⟩
   rcases Nat.lt_or_ge i j with hj|hj
   ·exact(u3 h).2 j hj h2
   ·rw[show j=i by omega];exact⟨_,hdec⟩
  ·rw[eI o ho.toObjSz a b x8 x9 x10 (l,t,o) v.2 hv k (i+1) (by omega),ai hv]
   exact⟨(ZL,ZA,ZA,v.2),rfl,rfl,fun h=>absurd h hv,fun _=>rfl⟩
theorem xa (t:List eF) (a b:bU) (o:bo) (ht:zL t) (ha:cv a) (hb:cv b) (ho:eg o) (x8:gJ) (x9 x10:bU):
  ∃v,ei.a a b o x8 x9 x10 (([],[],[],[]),t,o) (gq t o) o.2.2.1 (o.2.2.1.length:Int) 0=some v∧gQ t a b o=some v∧(v.2.2.2=0→B8 t a b o v)∧(v.2.2.2≠0→v.1=([],[],[],[])):=by
 rw[Bu o ho.toUnitSz a b ha hb,F3,wN t o ht.1 ho.toObjSz]
 simp only[ae]
 obtain⟨hl,hA,hB⟩:=Bv o ho a b ha hb
 by_cases hn:gq t o=0
 ·rw[hn]
  obtain⟨s1,s2⟩:=Bt o ho.toUnitSz a b ha hb
  cases hok:(dC o a b).2.2.2 with
  |false=>
   obtain⟨r,e1,e2⟩:=s2 hok
   rw[e1]
   simp only[ae]
   rw[e2,show after 0 false=7 from rfl]
   refine⟨(ZL,ZA,ZA,7), ?_,rfl,(fun h=>by cases h),fun _=>rfl⟩
   rw[show(0:Int)=((0:Nat):Int) from rfl,hY o ho.toObjSz _ _ x8 x9 x10 ((dC o a b).1,t,o) 7 (by decide) o.2.2.2.2.1.length 0 (by omega)]
   exact eI o ho.toObjSz _ _ x8 x9 x10 ((dC o a b).1,t,o) 7 (by decide) o.2.2.1.length 0 (by omega)
  |true=>
   rw[s1 hok]
   simp only[ae]
   rw[hok,show after 0 true=0 from rfl]
   obtain⟨l',c,g1,g2,g3⟩:=zP t o ht ho (dC o a b).2.1 (dC o a b).2.2.1 x8 x9 x10 (dC o a b).2.1 (dC o a b).2.2.1 o.2.2.2.2.1.length 0 (dC o a b).1 (by omega) hl
   have g1':ei.c (dC o a b).2.1 (dC o a b).2.2.1 o x8 x9 x10 ((dC o a b).1,t,o) 0 o.2.2.2.2.1 (o.2.2.2.2.1.length:Int) 0=_:=g1
   rw[g1']
   simp only[decide_true,aV,af]
   by_cases hc:c=0
   ·subst hc
    obtain⟨hl',hl2,g4⟩:=g2 rfl
    obtain⟨v,e1,e2,e3,e4⟩:=w8 t o ht ho x8 x9 x10 (dC o a b).2.1 (dC o a b).2.2.1 l' hl' o.2.2.1.length 0 (by omega)
    have g4':=wW t o l' ht.1 ho.toObjSz hl' ZL ZA ZA (dC o a b).2.1 (dC o a b).2.2.1
    refine⟨v,e1,g4.trans (g4'.trans e2),fun h=> ?_,e4⟩
    obtain⟨q1,q2⟩:=e3 h
    rw[q1]
    exact⟨⟨hl',rfl,rfl,hok,(Prod.mk.inj hl2).1,(Prod.mk.inj hl2).2,hn,fun j hj=>by obtain⟨w,hw⟩:=q2 j (Nat.zero_le _) hj;exact Bh hw rfl⟩,fun j hj=>q2 j (Nat.zero_le _) hj⟩
   ·refine⟨(ZL,ZA,ZA,c), ?_,g3 hc,fun h=>absurd h hc,fun _=>rfl⟩
    exact eI o ho.toObjSz _ _ x8 x9 x10 (l',t,o) c hc o.2.2.1.length 0 (by omega)
 ·rw[ai hn,uO _ hn]
  refine⟨(ZL,ZA,ZA,gq t o), ?_,rfl,fun h=>absurd h hn,fun _=>rfl⟩
  rw[show(0:Int)=((0:Nat):Int) from rfl,hY o ho.toObjSz _ _ x8 x9 x10 ((dC o a b).1,t,o) _ hn o.2.2.2.2.1.length 0 (by omega)]
  exact eI o ho.toObjSz _ _ x8 x9 x10 ((dC o a b).1,t,o) _ hn o.2.2.1.length 0 (by omega)
theorem z9 (t:List eF) (a b:bU) (o:bo) (hr:iE o) (ht:uB t=true) (ha:cv a) (hb:cv b) (ho:wJ o=true):
  ∃v,ei t a b o=some v∧gQ t a b o=some v∧(v.2.2.2=0→B8 t a b o v)∧(v.2.2.2≠0→v.1=([],[],[],[])):=by
 have hT:=C6 ht
 have hO:=pz ho
 have:=hT.1
 obtain⟨v,e1,e2,e3⟩:=xa t a b o hT ha hb hO ([],[],[],[]) (0,0,0) (0,0,0)
 refine⟨v, ?_,e2,e3⟩
 rw[Cf,ai (show¬(t.length:Int)>4096 by omega),(dA t).1,ht,fe a,dB.2 ha,fe b,dB.2 hb,(gm o hr).1,ho]
 simp only[ae,aA,aV,af]
 rw[wM _ _ _ hT.1 hO.toObjSz]
 exact e1
theorem pM (a:List Int) (h:a.length≤1048576):Ac a a=some true:=by
 have e:Ac a a=some (IL a a):=by
  rw[F5]
  refine rz (L:=Ac.a a a (a.length:Int)) _ (fun _=> ?_) fun hl i hi=> ?_
  ·rw[Ac.a_eq,ap,ai (a9 _),af]
  ·rw[Ac.a_eq,ap,aq,ah hi,au i _ hi (by omega)]
   simp only[ac]
   cases decide ((rd (τ:= .int .i64) a (i:Int):Int)=rd (τ:= .int .i64) a (i:Int))<;>rfl
 rw[e,(Di a a).2 rfl]
theorem pN (a:List ByteArray) (h:a.length≤1048576):Ad a a=some true:=by
 have e:Ad a a=some (IM a a):=by
  rw[F6]
  refine rz (L:=Ad.a a a (a.length:Int)) _ (fun _=> ?_) fun hl i hi=> ?_
  ·rw[Ad.a_eq,ap,ai (a9 _),af]
  ·rw[Ad.a_eq,ap,aq,ah hi,au i _ hi (by omega),cz]
   simp only[ac]
   cases decide ((rd (τ:= .str) a (i:Int):ByteArray)=rd (τ:= .str) a (i:Int))<;>rfl
 rw[e,(Dj a a).2 rfl]
theorem ns (a:gJ) (h1:a.1.length≤1048576) (h2:a.2.1.length≤1048576) (h3:a.2.2.1.length≤1048576) (h4:a.2.2.2.length≤1048576):H0 a a=some true:=by
 rw[F7,pM _ h1,pN _ h2,pM _ h3,pN _ h4];rfl
theorem qo (o:bo) (l:gJ) (hz:ObjSz o) (hl:fM o l):sU o l=some true:=by
 have h1:=hz.f
 have h2:=hz.d
 rw[Gb,hl.a,hl.c,hl.d,hl.b]
 simp only[decide_true,aV,af]
 rw[fb (L:=sU.a o l) (fun _=>true) o.2.2.1.length ?_ fun i hi=> ?_]
 ·rw[(fw _ _ _).2 fun _ _ _=>rfl]
 ·rw[sU.a_eq,ap,ai (a9 _),af]
  rw[fb (L:=sU.b o l) (fun _=>true) o.2.2.2.1.length ?_ fun i hi=> ?_]
  ·rw[(fw _ _ _).2 fun _ _ _=>rfl]
  ·rw[sU.b_eq,ap,ai (a9 _),af]
  ·rw[sU.b_eq,ap,aq,aq,ah hi,au i _ hi (by omega),show decide (i<l.2.2.2.length)=true from ah (by rw[hl.b];exact hi),hl.bs i hi,show decide ((kj o i:Int)=((rd (τ:=bI) o.2.2.2.1 (i:Int)).2.size:Int))=true from ah rfl];rfl
 ·rw[sU.a_eq,ap,aq,aq,ah hi,au i _ hi (by omega),show decide (i<l.2.1.length)=true from ah (by rw[hl.c];exact hi),hl.cs i hi,show decide ((fh o i:Int)=((rd (τ:=aN) o.2.2.1 (i:Int)).2.2.2.size:Int))=true from ah rfl];rfl
def n4 (t:List eF):List Int:=cQ (fun i=>decide ((rd (τ:=cb) t (i:Int)).2.1=1)) (fun i=>(rd (τ:=cb) t (i:Int)).2.2.1) 0 t.length
theorem vh {τ:Ty} {β:Type} (l:List τ.den) (p:τ.den→Bool) (f:τ.den→β):∀(k i:Nat),i+k=l.length→cQ (fun i=>p (rd (τ:=τ) l (i:Int))) (fun i=>f (rd (τ:=τ) l (i:Int))) i k=((l.drop i).filter p).map f
 |0,i,h=>by rw[List.drop_of_length_le (by omega)];rfl
 |k+1,i,h=>by
  rw[cQ,vh l p f k (i+1) (by omega),List.drop_eq_getElem_cons (show i<l.length by omega),List.filter_cons,bj l i (by omega)]
  cases p l[i]<;>rfl
theorem pO (t:List eF):n4 t=(t.filter fun e=>decide (e.2.1=1)).map fun e=>e.2.2.1:=by
 unfold n4
 exact(vh (τ:=cb) t (fun e=>decide (e.2.1=1)) (fun e=>e.2.2.1) t.length 0 (by omega)).trans (by rw[List.drop_zero])
theorem rI {α β:Type} (p:Nat→Bool) (f:Nat→α) (q:α→Bool) (g:α→β) (hq:∀i,q (f i)=true):∀k i,((cQ p f i k).filter q).map g=cQ p (fun i=>g (f i)) i k
 |0,_=>rfl
 |k+1,i=>by
  have ih:=rI p f q g hq k (i+1)
  rw[cQ,cQ]
  cases p i
  ·exact ih
  ·simp only[ac,List.filter_cons,hq,if_true,List.map_cons,ih]
theorem rJ {α:Type} (f:Nat→α) (q:α→Bool) (hq:∀i,q (f i)=false):∀k i,(bP f i k).filter q=[]
 |0,_=>rfl
 |k+1,i=>by rw[bP,List.filter_cons,hq i];exact rJ f q hq k (i+1)
theorem vj (t:List eF) (o:bo) (l:gJ) (w:Int):n4 (sK t o l w)=fH t o l:=by
 rw[pO]
 unfold sK fH
 rw[List.filter_append,List.filter_append,List.map_append,List.map_append,rJ (BD o l w) (fun e=>decide (e.2.1=1)) (fun i=>rfl),rI _ (ql o l w) (fun e=>decide (e.2.1=1)) (fun e=>e.2.2.1) (fun i=>rfl),←pO]
 exact List.append_nil _
theorem xU (sz:Nat→Nat):∀(k i:Nat) (a:bU),(eo sz a i k).2.2=true→∀m,m<k→(aJ (eo sz a i m).1 (sz (i+m))).2.2=true∧(aJ (eo sz a i m).1 (sz (i+m))).1=(eo sz a i (m+1)).1∧(eo sz a i k).2.1[m]? =some (aJ (eo sz a i m).1 (sz (i+m))).2.1
 |0,i,a,_,m,hm=>by omega
 |k+1,i,a,h,m,hm=>by
  rw[eo,aB]at h
  cases m with
  |zero=>exact⟨h.1,rfl,rfl⟩
  |succ m=>
   obtain⟨h1,h2,h3⟩:=xU sz k (i+1) (aJ a (sz i)).1 h.2 m (by omega)
   rw[show i+1+m=i+(m+1) by omega]at h1 h2 h3
   exact⟨h1,h2,h3⟩
abbrev B9:Ty:= .pair (.int .i64) (.pair (.int .i64) (.int .i64))
theorem xb (o:bo) (ho:eg o) (a:bU) (ha:cv a) (l:gJ) (hl:fM o l) (cs:List Int) (hcs:cs.length≤4096) (hp:(eo (fh o) a 0 o.2.2.1.length).2.2=true) (hat:l.1=(eo (fh o) a 0 o.2.2.1.length).2.1) (hlint:∀j:Nat,j<o.2.2.1.length→∃w,iJ (rd (τ:= .str) l.2.1 (j:Int)) (rd (τ:= .int .i64) l.1 (j:Int)) (rd (τ:=aN) o.2.2.1 (j:Int)).2.2.1 cs=some (w,0)):
  ∀(k i:Nat),i+k=o.2.2.1.length→pQ.b o (eo (fh o) a 0 i).1 l (eo (fh o) a 0 o.2.2.1.length).1 cs (i:Int)=some true:=by
 have hf:=ho.f
 intro k
 induction k with
 |zero=>
  intro i hi
  rw[pQ.b_eq,ai (show¬(i:Int)< (o.2.2.1.length:Int) by omega),af,show i=o.2.2.1.length by omega]
  exact congrArg some ((i7 B9 rfl _ _).2 rfl)
 |succ k ih=>
  intro i hi
  have hi':i<o.2.2.1.length:=by omega
  obtain⟨p1,p2,p3⟩:=xU (fh o) _ 0 a hp i hi'
  rw[Nat.zero_add]at p1 p2 p3
  have hA:cv (eo (fh o) a 0 i).1:=lX _ _ _ _ ha
  have hsz:=ho.fsz_pos i hi'
  have hc:=hl.cs i hi'
  obtain⟨w,hw⟩:=hlint i hi'
  have hr:rd (τ:= .int .i64) l.1 (i:Int)=(aJ (eo (fh o) a 0 i).1 (fh o i)).2.1:=by
   have hlen:i<l.1.length:=by rw[hl.a];exact hi'
   rw[bj (τ:= .int .i64) l.1 i hlen]
   have:l.1[i]? =some (aJ (eo (fh o) a 0 i).1 (fh o i)).2.1:=by rw[hat];exact p3
   rw[List.getElem?_eq_getElem hlen]at this
   exact Option.some.inj this
  rw[pQ.b_eq,ah (show(i:Int)< (o.2.2.1.length:Int) by omega)]
  simp only[aq]
  rw[ah hi',show decide (i<l.2.1.length)=true from ah (by rw[hl.c];exact hi'),show decide (i<l.1.length)=true from ah (by rw[hl.a];exact hi')]
  simp only[ac]
  rw[hc,Gf,fe,dB.2 hA]
  simp only[ae,aV,af]
  rw[(cf _ _ _).1,bH.2 (show 1≤(fh o i:Int)∧(fh o i:Int)≤4096 by omega)]
  simp only[ae,aV,af]
  rw[gt _ hA _ (by omega)]
  simp only[ae]
  rw[p1]
  simp only[aV,af,ae]
  rw[Gi,Gg,ai (show¬((rd (τ:= .str) l.2.1 (i:Int)).size:Int)>65536 by omega)]
  simp only[ae,af]
  rw[ai (show¬(cs.length:Int)>4096 by omega),af,hw]
  simp only[ae,decide_true,aV,af]
  rw[hr,ah rfl]
  simp only[aV,af]
  rw[show decide ((fh o i:Int)=((rd (τ:=aN) o.2.2.1 (i:Int)).2.2.2.size:Int))=true from ah rfl,aQ (n:=(i:Int)+1) (by omega) (by omega)]
  simp only[aV,af]
  rw[p2]
  exact ih (i+1) (by omega)
theorem xc (o:bo) (x7:bU) (l:gJ) (x10:bU) (N:List eF) (hN:N.length≤64):pQ.a o x7 l x10 N N [] 0=pQ.b o x7 l x10 (n4 N) 0:=by
 rw[d7 (L:=fun acc i=>pQ.a o x7 l x10 N N acc i) (fun i=>decide ((rd (τ:=cb) N (i:Int)).2.1=1)) (fun i=>(rd (τ:=cb) N (i:Int)).2.2.1) N.length [] fun acc i hi ha=> ?_]
 ·show pQ.a o x7 l x10 N N _ (N.length:Int)=_
  rw[pQ.a_eq,ap,ai (a9 _),af,List.nil_append];rfl
 ·show pQ.a o x7 l x10 N N acc (i:Int)=_
  rw[pQ.a_eq,ap,aq,ah hi,au i _ hi (by omega),jI _ (by simp at ha⊢;omega),(i7 cb rfl _ _).2 rfl]
  cases decide ((rd (τ:=cb) N (i:Int)).2.1=1)<;>rfl
theorem qp (a:List Int) (ha:BH a) (hn:a.length≤1048576):∃T:List eF,Zl a=some T∧uQ T∧T.length≤16:=by
 obtain⟨s,e,hs⟩:=rA a ha hn
 obtain⟨im,gs,w,c,t,e2,h,_⟩:=BS (K:=0) (hs.mono (by decide))
 rw[Hh,e]
 simp only[ae,optC]
 rw[Hg,e2]
 simp only[ae]
 rw[zQ im h.sz.n]
 exact⟨wX im,rfl,BF h.imgok0,by unfold wX;rw[aW];exact h.sz.n⟩
theorem Ca (a b:List Int) (ha:BH a) (hb:BH b):pQ a b=some true:=by
 rw[Gj]
 simp only[aA]
 by_cases h1:(a.length:Int)>1048576
 ·rw[ah h1];rfl
 rw[ai h1]
 simp only[af]
 by_cases h2:(b.length:Int)>1048576
 ·rw[ah h2];rfl
 rw[ai h2]
 simp only[af]
 obtain⟨T,e1,hT,hTn⟩:=qp a ha (by omega)
 obtain⟨o,e2,hr⟩:=sQ b hb (by omega) T (by omega)
 obtain⟨x,e3,x0,x1⟩:=at_ok b hb (by omega) 0 40 (by decide) (by decide)
 have x1:=x1 (by decide)
 obtain⟨y,e4,y0,y1⟩:=at_ok b hb (by omega) 1 20 (by decide) (by decide)
 have y1:=y1 (by decide)
 rw[e1]
 simp only[ae]
 rw[e2]
 simp only[ae]
 rw[e3]
 simp only[ae]
 rw[e4]
 simp only[ae]
 rw[aQ (n:=8*x) (by omega) (by omega),aQ (n:=8*y) (by omega) (by omega),aQ (n:=8192+8*x) (by omega) (by omega),aQ (n:=20480+8*y) (by omega) (by omega)]
 have hA:cv (8192,1024,8192+8*x):=by refine⟨?_, ?_, ?_⟩<;>simp only<;>omega
 have hB:cv (20480,256,20480+8*y):=by refine⟨?_, ?_, ?_⟩<;>simp only<;>omega
 have hTV:=uR.2 hT
 have hlk:∃r,ei T (8192,1024,8192+8*x) (20480,256,20480+8*y) o=some r∧IC T (8192,1024,8192+8*x) (20480,256,20480+8*y) o=some r∧(r.2.2.2=0→B8 T (8192,1024,8192+8*x) (20480,256,20480+8*y) o r∧wJ o=true)∧(r.2.2.2≠0→r.1=([],[],[],[])):=by
  rw[F4,ai (show¬(T.length:Int)>4096 by omega),(dA T).2,hTV,rm,dB.2 hA,rm,dB.2 hB,(gm o hr).2]
  simp only[ae,aA,aV,af]
  cases hv:wJ o with
  |false=>
   rw[Cf,ai (show¬(T.length:Int)>4096 by omega),(dA T).1,hTV,fe,dB.2 hA,fe,dB.2 hB,(gm o hr).1,hv]
   exact⟨_,rfl,rfl,fun h=>(by cases h),fun _=>rfl⟩
  |true=>
   obtain⟨r,l1,l2,l3,l4⟩:=z9 T _ _ o hr hTV hA hB hv
   rw[l1]
   simp only[aV,af]
   rw[l2]
   exact⟨r,rfl,rfl,fun h=>⟨l3 h,by trivial⟩,l4⟩
 obtain⟨r,l1,l2,l3,l4⟩:=hlk
 rw[l1]
 simp only[ae]
 rw[l2]
 simp only[ae]
 have hsame:H0 r.1 r.1=some true:=by
  by_cases hc:r.2.2.2=0
  ·obtain⟨⟨q,_⟩,hv⟩:=l3 hc
   have hz:=(pz hv).toObjSz
   have:=hz.f
   have:=hz.d
   have:=q.lnk.a
   have:=q.lnk.c
   have:=q.lnk.d
   have:=q.lnk.b
   exact ns r.1 (by omega) (by omega) (by omega) (by omega)
  ·rw[l4 hc];exact ns _ (by decide) (by decide) (by decide) (by decide)
 rw[hsame,(i7 B9 rfl _ _).2 rfl,(i7 B9 rfl _ _).2 rfl,(dA T).1,hTV,fe,dB.2 hA,fe,dB.2 hB]
 simp only[decide_true,ae,aV,af]
 by_cases hc:r.2.2.2=0
 ·obtain⟨⟨q,hlint⟩,hv⟩:=l3 hc
  have hO:=pz hv
  have hz:=hO.toObjSz
  have hN:=C9 (owner:=1) hT hO q.lnk q.names (by omega) (by omega)
  have hNV:=uR.2 hN
  rw[ah hc,q.lnk.a,q.lnk.c,q.lnk.d,q.lnk.b]
  simp only[decide_true,aV,af]
  rw[Ga,ai (show¬(T.length:Int)>4096 by omega),(dA T).1,hTV,(gm o hr).1,hv,qn o r.1 hz q.lnk,(cf _ _ _).1,bH.2 (show(1:Int)≤1∧(1:Int)≤6 by omega),lb T o r.1 _ (by omega) hz q.lnk]
  simp only[aA,ae,aV,af]
  rw[(dA _).1,hNV]
  simp only[ae,aV,af]
  rw[Ge,ai (show¬(T.length:Int)>4096 by omega),(dA T).2,hTV,(gm o hr).2,hv,qo o r.1 hz q.lnk,(cf _ _ _).2,bH.2 (show(1:Int)≤1∧(1:Int)≤6 by omega),qm T o r.1 _ (by omega) hz q.lnk]
  simp only[aA,ae,aV,af]
  rw[(dA _).2,hNV]
  simp only[ae,aV,af,decide_true]
  rw[(dA _).1,hNV]
  simp only[ae,aV,af]
  rw[xc o _ r.1 _ _ (by have:=hN.len;omega),vj]
  have hp:(eo (fh o) (8192,1024,8192+8*x) 0 o.2.2.1.length).2.2=true:=by
   have:=q.ok
   unfold dC at this
   simp only at this
   rw[aB]at this
   exact this.1
  have he:r.2.1=(eo (fh o) (8192,1024,8192+8*x) 0 o.2.2.1.length).1:=q.ea
  rw[he]
  exact xb o hO _ hA r.1 q.lnk (fH T o r.1) (by have:=kF T o r.1 (by omega) hz;omega) hp q.ats hlint o.2.2.1.length 0 (by omega)
 ·rw[ai hc,l4 hc]
  rfl
end Go.Proofs.YtfgjcohcpehcjaaGreat.S
