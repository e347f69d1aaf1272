import Derived.Test.YtpnefldgohbepaaGreatSxPa
namespace Go.Proofs.YtpnefldgohbepaaGreat.S
open Go.Ps
set_option linter.unusedVariables false
set_option maxRecDepth 100000
theorem Ei:lZ (.arr (.int .i64) 32) FK:=by
 intro x hw hb
 show FK x x=_
 rw[MV]
 refine dH (FK.a x x) 32 (fun i hi=> ?_) ?_
 ·rw[FK.a_eq,ab (show(i:Int)<32 by omega),aj,ab hi,an i 32 hi (by omega),ab (rfl:rd (τ:= .int .i64) x (i:Int)=rd (τ:= .int .i64) x (i:Int))];rfl
 ·rw[FK.a_eq];rfl
theorem KL:lZ Jx TQ:=by
 intro x hw hb
 show TQ x x=_
 rw[MW,Ei x.1 hw.1 hb.1]
 simp[]
theorem Ej:lZ ei TR:=by
 intro x hw hb
 show TR x x=_
 rw[MY,KL x.2.1 hw.2.1 hb.2.1,vX x.2.2.1 hw.2.2.1 hb.2.2.1]
 simp[]
theorem AG:lZ (.list ei) FL:=by
 intro x hw hb
 show FL x x=_
 have h1:List.length x≤1048576:=hb.1
 rw[MZ,ab (rfl:(List.length x:Int)=(List.length x:Int)),aH,ac]
 refine dH (FL.a x x) (List.length x) (fun i hi=> ?_) ?_
 ·rw[FL.a_eq,ai,aj,ab hi,an i _ hi (by omega),Ej _ (hw.2 _ (au (τ:=ei) x i hi)) (hb.2 _ (au (τ:=ei) x i hi))];rfl
 ·rw[FL.a_eq,ai,ak (aB _),ac]
theorem Ii:lZ KD TN:=by
 intro x hw hb
 show TN x x=_
 rw[MR,AE x.2.2 hw.2.2 hb.2.2]
 simp[a9]
theorem Ek:lZ (.list aL) TP:=by
 intro x hw hb
 show TP x x=_
 rw[MU,If x hw hb]
 rfl
theorem AH:lZ KE TU:=by
 intro x hw hb
 show TU x x=_
 rw[M4,Ek x.1 hw.1 hb.1,AG x.2.1 hw.2.1 hb.2.1,Ef x.2.2.1 hw.2.2.1 hb.2.2.1,AF x.2.2.2 hw.2.2.2 hb.2.2.2]
 simp[]
theorem El:lZ KA T1:=by
 intro x hw hb
 show T1 x x=_
 rw[Ng,vX x.1 hw.1 hb.1,rP x.2.1 hw.2.1 hb.2.1,vX x.2.2.1 hw.2.2.1 hb.2.2.1,rP x.2.2.2 hw.2.2.2 hb.2.2.2]
 simp[]
theorem Em:lZ DJ TZ:=by
 intro x hw hb
 show TZ x x=_
 rw[Nd,tq x.2.2.1 hw.2.2.1 hb.2.2.1,tr x.2.2.2.1 hw.2.2.2.1 hb.2.2.2.1,Eh x.2.2.2.2.1 hw.2.2.2.2.1 hb.2.2.2.2.1,rO x.2.2.2.2.2 hw.2.2.2.2.2 hb.2.2.2.2.2]
 simp[a9]
theorem Ij:lZ ck T4:=by
 intro x hw hb
 show T4 x x=_
 rw[Nj,Em x.1 hw.1 hb.1,El x.2.1 hw.2.1 hb.2.1,Ih x.2.2 hw.2.2 hb.2.2]
 simp[]
theorem Eo:lZ (.list ck) FU:=by
 intro x hw hb
 show FU x x=_
 have h1:List.length x≤1048576:=hb.1
 rw[Nk,ab (rfl:(List.length x:Int)=(List.length x:Int)),aH,ac]
 refine dH (FU.a x x) (List.length x) (fun i hi=> ?_) ?_
 ·rw[FU.a_eq,ai,aj,ab hi,an i _ hi (by omega),Ij _ (hw.2 _ (au (τ:=ck) x i hi)) (hb.2 _ (au (τ:=ck) x i hi))];rfl
 ·rw[FU.a_eq,ai,ak (aB _),ac]
theorem Ep:lZ TSys T5:=by
 intro x hw hb
 show T5 x x=_
 rw[Nl,Ii x.1 hw.1 hb.1,AH x.2.1 hw.2.1 hb.2.1,Eo x.2.2 hw.2.2 hb.2.2]
 simp[]
theorem Ik {ps:List FW} (h:mX (.list ck) ps):Ce ps:=by
 intro j hj k hk
 have hp:=h.2 _ (au (τ:=ck) ps j hj)
 generalize rd (τ:=ck) ps (j:Int)=p at*
 have hr:=hp.1.2.2.2.2.1.2 _ (au (τ:=cH) p.1.2.2.2.2.1 k hk)
 exact hr.1
theorem Td {n:Int} (h:(31≤n∧n≤40)∨(50≤n∧n≤62)):(bN n).1=8:=by
 obtain⟨k,rfl⟩:=nj (n:=n) (by omega) (by omega)
 revert k
 decide
theorem ya {n d a b i:Int} (f:Int) (hf:(bN n).1=f) (hn:1≤n∧n≤64) (hd:0≤d∧d≤31) (ha:0≤a∧a≤31) (hb:0≤b∧b≤31) (g1:(be f).1=true∨d=0) (g2:(be f).2.1=true∨a=0) (g3:(be f).2.2=true∨b=0) (hi:jP f i=true):dF (n,d,a,b,i)=true:=by
 simp only[dF,az,Bool.or_eq_true,aW,hf]
 exact⟨⟨⟨⟨⟨⟨⟨⟨⟨⟨⟨hn.1,hn.2⟩,hd.1⟩,hd.2⟩,ha.1⟩,ha.2⟩,hb.1⟩,hb.2⟩,g1⟩,g2⟩,g3⟩,hi⟩
theorem Vj {i:Int} (h: -2147483648≤i∧i≤2147479552∧i%4096=0):jP 1 i=true:=by simp[jP];omega
theorem r1 {a i:Int} (ha:0≤a∧a≤31) (h: -2147483648≤i∧i≤2147479552∧i%4096=0):dF (1,a,0,0,i)=true:=ya 1 rfl (by decide) ha (by decide) (by decide) (.inl rfl) (.inr rfl) (.inr rfl) (Vj h)
theorem r8 {n a b c:Int} (h:(31≤n∧n≤40)∨(50≤n∧n≤62)) (ha:0≤a∧a≤31) (hb:0≤b∧b≤31) (hc:0≤c∧c≤31):dF (n,a,b,c,0)=true:=ya 8 (Td h) (by omega) ha hb hc (.inl rfl) (.inl rfl) (.inl rfl) rfl
theorem Il (n:Int):qf (IntKind.wrap .i64 n):=EQ n
abbrev pB:Ty:= .pair (.int .i64) (.pair (.int .i64) (.pair (.int .i64) (.pair (.int .i64) (.int .i64))))
structure Te (p:eh):Prop where
 b:∃x:Int,p.1=x∧0≤x∧x≤1048575∧x%128=0
 d:p.2.2.size=128
theorem uw {m:List eh} (h:gj m=true):m.length≤64∧∀i:Nat,i<m.length→Te (rd (τ:=aL) m (i:Int)):=by
 unfold gj at h
 rw[az,aW,eF]at h
 refine⟨h.1,fun i hi=> ?_⟩
 have:=h.2 i (Nat.zero_le _) (by omega)
 unfold Bm at this
 generalize rd (τ:=aL) m (i:Int)=p at this
 obtain⟨b,q,d⟩:=p
 simp only at this
 cases h1:jn b with
 |false=>rw[h1]at this;cases this
 |true=>
  rw[h1,ae]at this
  cases h2:dp q 0 15 with
  |false=>rw[h2]at this;cases this
  |true=>
   rw[h2,ae]at this
   cases h3:decide ((d.size:Int)=128)with
   |false=>rw[h3]at this;cases this
   |true=>
    have h3:=of_decide_eq_true h3
    unfold jn at h1
    cases h4:dp b 0 1048575 with
    |false=>rw[h4]at h1;cases h1
    |true=>
     rw[h4,ae,aW]at h1
     have:=bI.1 h4
     exact⟨⟨b,rfl,this.1,this.2,by rw[Int.tmod_eq_emod_of_nonneg this.1]at h1;exact h1⟩,by show d.size=128;omega⟩
def ux (m:List eh) (a:Int):Int:=eo (fun i=>decide ((rd (τ:=aL) m (i:Int)).1≤a)&&decide (a≤(rd (τ:=aL) m (i:Int)).1+127)) 0 m.length
theorem uy {m:List eh} (h:gj m=true) (a:Int) (ha:qf a):TB m a=some (ux m a)∧tw m a=some (ux m a):=by
 obtain⟨hl,hp⟩:=uw h
 have ha1:=ha.1
 have ha2:=ha.2
 constructor
 ·rw[IX,IW]
  have:=cq (L:=EN.a a m (m.length:Int)) (fun i=>decide ((rd (τ:=aL) m (i:Int)).1≤a)&&decide (a≤(rd (τ:=aL) m (i:Int)).1+127)) m.length (by rw[EN.a_eq,ai,ak (aB _)];rfl) fun i hi=> ?_
  ·rw[this];rfl
  ·obtain⟨⟨x,hx,x0,x1,x2⟩,_⟩:=hp i hi
   rw[EN.a_eq,ai,aj,ab hi,an i _ hi (by omega),IV,hx,bf (n:=x+128) (by omega) (by omega),bf (n:=x+128-1) (by omega) (by omega),Ff,show x+128-1=x+127 by omega]
   rfl
 ·rw[IF]
  have:=cq (L:=tw.a a m) (fun i=>decide ((rd (τ:=aL) m (i:Int)).1≤a)&&decide (a≤(rd (τ:=aL) m (i:Int)).1+127)) m.length (by rw[tw.a_eq,ai,ak (aB _)];rfl) fun i hi=> ?_
  ·exact this
  ·obtain⟨⟨x,hx,x0,x1,x2⟩,_⟩:=hp i hi
   rw[tw.a_eq,ai,aj,ab hi,an i _ hi (by omega),hx]
   simp only[ae]
   by_cases h1:x≤a
   ·rw[ab h1,bf (n:=a-x) (by omega) (by omega)]
    simp only[ae,Bool.true_and]
    rw[show decide (a-x<128)=decide (a≤x+127) by congr 1;apply propext;omega]
   ·rw[ak h1];rfl
theorem yb {m:List eh} (h:gj m=true) (a:Int):ux m a<0∨∃(k:Nat) (x:Int),ux m a=(k:Int)∧k<m.length∧(rd (τ:=aL) m (k:Int)).1=x∧0≤x∧x≤1048575∧x%128=0∧x≤a∧a≤x+127∧(rd (τ:=aL) m (k:Int)).2.2.size=128:=by
 obtain⟨hl,hp⟩:=uw h
 unfold ux
 rcases cr (fun i=>decide ((rd (τ:=aL) m (i:Int)).1≤a)&&decide (a≤(rd (τ:=aL) m (i:Int)).1+127)) m.length 0 with⟨h1,_⟩|⟨j,h1,h2,h3,h4,_⟩
 ·left;rw[h1];decide
 ·right
  obtain⟨⟨x,hx,x0,x1,x2⟩,hd⟩:=hp j (by omega)
  rw[az,aW,aW,hx]at h4
  exact⟨j,x,h1,by omega,hx,x0,x1,x2,h4.1,h4.2,hd⟩
theorem rQ (d:ByteArray) (hd:d.size=128) (k n:Nat) (hn:1≤n) (hk:k+n≤128):tz (d.extract k (k+n))=some (IntKind.wrap .i64 (ej d k n))∧pZ d (k:Int) (n:Int)=some (IntKind.wrap .i64 (ej d k n)):=by
 have hs:(d.extract k (k+n)).size=n:=by rw[ByteArray.size_extract];omega
 refine⟨?_,dC d k n (by omega) (by omega)⟩
 rw[c7 _ (by omega),hs,eY d k (k+n) (by omega) n 0 (by omega),Nat.add_zero]
theorem Er {m:List eh} (h:gj m=true) (a:Int) (ha:qf a) (n:Nat) (hn:n=4∨n=8):∃v:Int×Int,TL m a (n:Int) 1 true=some v∧VO m a (n:Int) true=some v∧qf v.1:=by
 obtain⟨p1,p2⟩:=uy h a ha
 have hz:qf 0:=⟨by decide,by decide⟩
 rw[Hl,Hk,P8,P7,p1,p2,ak (show¬(n:Int)=0 by omega)]
 simp only[ac,af]
 by_cases hal:a.tmod (n:Int)=0
 ·rw[ab hal]
  simp only[aH,ac]
  rcases yb h a with hneg|⟨k,x,hk,hkl,hx,x0,x1,x2,x3,x4,hd⟩
  ·rw[ab hneg]
   exact⟨(0,12),rfl,rfl,hz⟩
  ·rw[hk,ak (show¬(k:Int)<0 by omega),aj,ab hkl]
   simp only[ac,ae]
   generalize hP:decide ((andI .i64 ((rd (τ:=aL) m (k:Int)).2.1) 1)=0)=bp
   generalize hS:decide ((andI .i64 ((rd (τ:=aL) m (k:Int)).2.1) 8)=0)=bs
   have hal':(a-x)% (n:Int)=0:=by
    rw[Int.tmod_eq_emod_of_nonneg (by omega)]at hal
    rcases hn with rfl|rfl
    ·have:a%4=0:=hal
     show(a-x)%4=0
     omega
    ·have:a%8=0:=hal
     show(a-x)%8=0
     omega
   obtain⟨j,hj⟩:∃j:Nat,a-x=(j:Int):=⟨(a-x).toNat,by omega⟩
   have hjn:j+n≤128:=by
    rw[hj]at hal'
    rcases hn with rfl|rfl
    ·have:(j:Int)%4=0:=hal'
     omega
    ·have:(j:Int)%8=0:=hal'
     omega
   have fin:∀c:Bool,∃v:Int×Int,((some ((if c then((k:Int),(0:Int))else((0:Int),(13:Int))))).bind fun r1=>bif (!decide (r1.2=0))then some ((0:Int),r1.2)else(bif (aG r1.1 (m.length))then(bif (aG r1.1 (m.length))then(bif (decide (0≤(IntKind.wrap .i64 (a-(rd (τ:=aL) m r1.1).1)))&&decide ((IntKind.wrap .i64 (a-(rd (τ:=aL) m r1.1).1))≤(IntKind.wrap .i64 ((IntKind.wrap .i64 (a-(rd (τ:=aL) m r1.1).1))+(n:Int))))&&decide ((IntKind.wrap .i64 ((IntKind.wrap .i64 (a-(rd (τ:=aL) m r1.1).1))+(n:Int)))≤(((rd (τ:=aL) m r1.1).2.2).size:Int)))then((tz (((rd (τ:=aL) m r1.1).2.2).extract (Int.toNat (IntKind.wrap .i64 (a-(rd (τ:=aL) m r1.1).1))) (Int.toNat (IntKind.wrap .i64 ((IntKind.wrap .i64 (a-(rd (τ:=aL) m r1.1).1))+(n:Int)))))).bind fun r2=>some (r2,(0:Int)))else none)else none)else none))=some v∧
     ((some (if c then(0:Int)else 13)).bind fun r1=>bif (!decide (r1=0))then some ((0:Int),r1)else((pZ ((rd (τ:=aL) m (k:Int)).2.2) (IntKind.wrap .i64 (a-(rd (τ:=aL) m (k:Int)).1)) (n:Int)).bind fun r3=>some (r3,(0:Int))))=some v∧qf v.1:=by
    intro c
    cases c with
    |false=>exact⟨(0,13),rfl,rfl,hz⟩
    |true=>
     obtain⟨t1,t2⟩:=rQ (rd (τ:=aL) m (k:Int)).2.2 hd j n (by omega) hjn
     simp only[if_true,af,decide_true,aH,ac]
     rw[aj,ab hkl,hx,hj,bf (n:=(j:Int)) (by omega) (by omega),bf (n:=(j:Int)+(n:Int)) (by omega) (by omega),hd]
     rw[show(decide ((0:Int)≤(j:Int))&&decide ((j:Int)≤(j:Int)+(n:Int))&&decide ((j:Int)+(n:Int)≤((128:Nat):Int)))=true by simp;omega,aP,show((j:Int)+(n:Int)).toNat=j+n by omega,t1,t2]
     refine⟨_,rfl,rfl, ?_⟩
     exact Il _
   cases bp with
   |true=>exact fin false
   |false=>
    cases bs with
    |true=>exact fin true
    |false=>exact fin true
 ·rw[ak hal]
  exact⟨(0,11),rfl,rfl,hz⟩
theorem rR {m:List eh} (h:gj m=true) (a:Int) (ha:qf a):∃v:ig×Bool,S7 m a=some v∧Tt m a=some v∧(v.2=true→tD v.1)∧
  (∀(k:Nat) (x:Int) (j:Nat),ux m a=(k:Int)→k<m.length→(rd (τ:=aL) m (k:Int)).1=x→a-x=(j:Int)→a.tmod 4=0→(rd (τ:=aL) m (k:Int)).2.1=4→km ((ej (rd (τ:=aL) m (k:Int)).2.2 j 4:Nat):Int)=some v):=by
 obtain⟨p1,p2⟩:=uy h a ha
 rw[MA,Hl,Hk,P3,P2,p1,p2,ak (show¬(4:Int)=0 by decide)]
 simp only[ac,af]
 by_cases hal:a.tmod 4=0
 ·rw[ab hal]
  simp only[aH,ac]
  rcases yb h a with hneg|⟨k,x,hk,hkl,hx,x0,x1,x2,x3,x4,hd⟩
  ·rw[ab hneg]
   exact⟨((0,0,0,0,0),false),rfl,rfl,fun h=>(by cases h),fun k x j h1 _ _ _ _ _=>by omega⟩
  ·rw[hk,ak (show¬(k:Int)<0 by omega),aj,ab hkl]
   simp only[ac,ae]
   generalize hP:decide ((andI .i64 ((rd (τ:=aL) m (k:Int)).2.1) 4)=0)=bp
   generalize hS:decide ((andI .i64 ((rd (τ:=aL) m (k:Int)).2.1) 8)=0)=bs
   cases bp with
   |true=>
    refine⟨((0,0,0,0,0),false),rfl,rfl,fun h=>(by cases h),fun k' x' j h1 _ _ _ _ h4=> ?_⟩
    have:k'=k:=by omega
    subst this
    rw[h4]at hP
    exact absurd hP (by decide)
   |false=>
    have hal':(a-x)%4=0:=by
     rw[Int.tmod_eq_emod_of_nonneg (by omega)]at hal
     omega
    obtain⟨j,hj⟩:∃j:Nat,a-x=(j:Int):=⟨(a-x).toNat,by omega⟩
    have hjn:j+4≤128:=by omega
    obtain⟨t1,t2⟩:=rQ (rd (τ:=aL) m (k:Int)).2.2 hd j 4 (by omega) hjn
    have hlt:=A8 (rd (τ:=aL) m (k:Int)).2.2 4 j
    have hW:IntKind.wrap .i64 ((ej (rd (τ:=aL) m (k:Int)).2.2 j 4:Nat):Int)=((ej (rd (τ:=aL) m (k:Int)).2.2 j 4:Nat):Int):=bf (by omega) (by omega)
    obtain⟨v,d1,d2,d3⟩:=kX ((ej (rd (τ:=aL) m (k:Int)).2.2 j 4:Nat):Int) (by omega) (by omega)
    have e4:((4:Nat):Int)=4:=rfl
    rw[hW,e4]at t2
    rw[hW]at t1
    have fin:(some ((k:Int),(0:Int))).bind (fun r1=>bif (!decide (r1.2=0))then some ((0:Int),r1.2)else(bif (aG r1.1 (m.length))then(bif (aG r1.1 (m.length))then(bif (decide (0≤(IntKind.wrap .i64 (a-(rd (τ:=aL) m r1.1).1)))&&decide ((IntKind.wrap .i64 (a-(rd (τ:=aL) m r1.1).1))≤(IntKind.wrap .i64 ((IntKind.wrap .i64 (a-(rd (τ:=aL) m r1.1).1))+4)))&&decide ((IntKind.wrap .i64 ((IntKind.wrap .i64 (a-(rd (τ:=aL) m r1.1).1))+4))≤(((rd (τ:=aL) m r1.1).2.2).size:Int)))then((tz (((rd (τ:=aL) m r1.1).2.2).extract (Int.toNat (IntKind.wrap .i64 (a-(rd (τ:=aL) m r1.1).1))) (Int.toNat (IntKind.wrap .i64 ((IntKind.wrap .i64 (a-(rd (τ:=aL) m r1.1).1))+4))))).bind fun r2=>some (r2,(0:Int)))else none)else none)else none))=some (((ej (rd (τ:=aL) m (k:Int)).2.2 j 4:Nat):Int),0):=by
     simp only[af,decide_true,aH,ac]
     rw[aj,ab hkl,hx,hj,bf (n:=(j:Int)) (by omega) (by omega),bf (n:=(j:Int)+4) (by omega) (by omega),hd]
     rw[show(decide ((0:Int)≤(j:Int))&&decide ((j:Int)≤(j:Int)+4)&&decide ((j:Int)+4≤((128:Nat):Int)))=true by simp;omega,aP,show((j:Int)+4).toNat=j+4 by omega,t1]
     rfl
    have fin2:(pZ ((rd (τ:=aL) m (k:Int)).2.2) (IntKind.wrap .i64 (a-(rd (τ:=aL) m (k:Int)).1)) 4).bind (fun r2=>some (r2,(0:Int)))=some (((ej (rd (τ:=aL) m (k:Int)).2.2 j 4:Nat):Int),0):=by
     rw[hx,hj,bf (n:=(j:Int)) (by omega) (by omega),t2];rfl
    refine⟨v, ?_, ?_,fun hv=>E2.ins (by omega) (by omega) d3 hv,fun k' x' j' h1 _ h2 h3 _ _=> ?_⟩
    ·cases bs with
     |true=>
      refine(congrArg (fun x=>Option.bind x _) fin).trans ?_
      simp only[af,decide_true,aH,ac]
      rw[d1];rfl
     |false=>
      refine(congrArg (fun x=>Option.bind x _) fin).trans ?_
      simp only[af,decide_true,aH,ac]
      rw[d1];rfl
    ·simp only[ac]
     rw[fin2]
     simp only[af,decide_true,aH,ac]
     rw[d2];rfl
    ·have e1:k'=k:=by omega
     subst e1
     have e2:x'=x:=by rw[←h2,hx]
     subst e2
     have e3:j'=j:=by omega
     subst e3
     exact d1
 ·rw[ak hal]
  exact⟨((0,0,0,0,0),false),rfl,rfl,fun h=>(by cases h),fun _ _ _ _ _ _ _ h _=>absurd h hal⟩
def Im (P:List Pc) (a:Int):Int:=eo (fun i=>decide ((rd (τ:=pB) P (i:Int)).2.2.1≤a)&&decide (a< (rd (τ:=pB) P (i:Int)).2.2.1+(rd (τ:=pB) P (i:Int)).2.2.2.1)) 0 P.length
theorem rT {p:Pc} (h:Ks p):∃x y:Int,p.2.2.1=x∧p.2.2.2.1=y∧0≤x∧x≤1048575∧x%4=0∧20≤y∧y≤256∧y%4=0:=by
 have h1:=fU h.pc
 have h2:=h.sz
 have h3:=h.pc
 unfold cf at h3
 rw[show(decide (0≤p.2.2.1)&&decide (p.2.2.1≤1048575))=true by simp;omega,ae,aW,Int.tmod_eq_emod_of_nonneg h1.1]at h3
 exact⟨p.2.2.1,p.2.2.2.1,rfl,rfl,h1.1,h1.2,h3,h2.2.1,h2.2.2,h2.1⟩
theorem uz {P:List Pc} {top:Int} (h:gY P top) (hl:P.length≤40) (a:Int):S6 P a=some (Im P a)∧Co P a=some (Im P a):=by
 constructor
 ·rw[Mz,My]
  have:=cq (L:=JJ.a a P (P.length:Int)) (fun i=>decide ((rd (τ:=pB) P (i:Int)).2.2.1≤a)&&decide (a< (rd (τ:=pB) P (i:Int)).2.2.1+(rd (τ:=pB) P (i:Int)).2.2.2.1)) P.length (by rw[JJ.a_eq,ai,ak (aB _)];rfl) fun i hi=> ?_
  ·rw[this];rfl
  ·obtain⟨x,y,hx,hy,x0,x1,x2,y0,y1,y2⟩:=rT (h.ok _ (au (τ:=pB) P i hi))
   rw[JJ.a_eq,ai,aj,ab hi,an i _ hi (by omega),Mx,hx,hy,bf (n:=x+y) (by omega) (by omega),bf (n:=x+y-1) (by omega) (by omega),Ff]
   unfold dp
   rw[show decide (a≤x+y-1)=decide (a<x+y) by congr 1;apply propext;omega]
   rfl
 ·rw[P0]
  have:=cq (L:=Co.a P a) (fun i=>decide ((rd (τ:=pB) P (i:Int)).2.2.1≤a)&&decide (a< (rd (τ:=pB) P (i:Int)).2.2.1+(rd (τ:=pB) P (i:Int)).2.2.2.1)) P.length (by rw[Co.a_eq,ai,ak (aB _)];rfl) fun i hi=> ?_
  ·exact this
  ·obtain⟨x,y,hx,hy,x0,x1,x2,y0,y1,y2⟩:=rT (h.ok _ (au (τ:=pB) P i hi))
   rw[Co.a_eq,ai,aj,ab hi,an i _ hi (by omega),hx,hy,bf (n:=x+y) (by omega) (by omega)]
   cases decide (x≤a)<;>rfl
theorem Cg {P:List Pc} {top:Int} (h:gY P top) (a:Int):Im P a<0∨∃(k:Nat) (x y:Int),Im P a=(k:Int)∧k<P.length∧(rd (τ:=pB) P (k:Int)).2.2.1=x∧(rd (τ:=pB) P (k:Int)).2.2.2.1=y∧0≤x∧x≤1048575∧x%4=0∧y≤256∧x≤a∧a<x+y:=by
 unfold Im
 rcases cr (fun i=>decide ((rd (τ:=pB) P (i:Int)).2.2.1≤a)&&decide (a< (rd (τ:=pB) P (i:Int)).2.2.1+(rd (τ:=pB) P (i:Int)).2.2.2.1)) P.length 0 with⟨h1,_⟩|⟨j,h1,h2,h3,h4,_⟩
 ·left;rw[h1];decide
 ·right
  obtain⟨x,y,hx,hy,x0,x1,x2,y0,y1,y2⟩:=rT (h.ok _ (au (τ:=pB) P j (by omega)))
  rw[az,aW,aW,hx,hy]at h4
  exact⟨j,x,y,h1,by omega,hx,hy,x0,x1,x2,y1,h4.1,h4.2⟩
theorem rU (a b:Int):Tu a b=some (IntKind.wrap .i64 (a+b)):=by
 rw[P6]
 have hu:∀n,IntKind.wrap .u64 n=n%18446744073709551616:=fun n=>by simp[IntKind.wrap,IntKind.bits,IntKind.signed]
 have hi:∀n,IntKind.wrap .i64 n=(if n%18446744073709551616<9223372036854775808 then n%18446744073709551616 else n%18446744073709551616-18446744073709551616):=fun n=>by
  simp only[IntKind.wrap,IntKind.bits,IntKind.signed]
  simp
  split<;>split<;>omega
 rw[hu,hu,hu,hi,hi]
 congr 1
 have e:(a%18446744073709551616+b%18446744073709551616)%18446744073709551616%18446744073709551616=(a+b)%18446744073709551616:=by omega
 rw[e]
theorem In (a b:Int):IntKind.wrap .i64 (IntKind.wrap .i64 (a+b)-8)=IntKind.wrap .i64 (a+(b-8)):=by
 have hi:∀n,IntKind.wrap .i64 n=(if n%18446744073709551616<9223372036854775808 then n%18446744073709551616 else n%18446744073709551616-18446744073709551616):=fun n=>by
  simp only[IntKind.wrap,IntKind.bits,IntKind.signed]
  simp
  split<;>split<;>omega
 rw[hi (a+b),hi (a+(b-8))]
 split<;>rw[hi]<;>split<;>split<;>omega
abbrev Se:Ty:= .pair (.int .i64) (.pair (.int .i64) (.pair (.int .i64) (.int .i64)))
abbrev Fr:Type:=Int×Int×Int×Int
structure JN (P:List Pc) (f:Fr):Prop where
 p:∃k:Nat,f.1=(k:Int)∧k<P.length
 pc:qf f.2.1
 sp:qf f.2.2.1
 ph:f.2.2.2=0∨f.2.2.2=1∨f.2.2.2=2
theorem AI {m:Fm} (hm:gj m.1=true) {P:List Pc} {top:Int} (hP:gY P top) (hl:P.length≤40) (h:List Int×Int) (h2:qf h.2) (hs:qf (rd (τ:= .int .i64) h.1 2)):
  ∃v v':Fr×Bool,Va m P h=some v∧VN m P h=some v'∧v.2=v'.2∧(v.2=true→v.1=v'.1∧JN P v.1):=by
 obtain⟨a1,a2⟩:=uz hP hl h.2
 rw[MB,P5,a1,a2]
 simp only[af,aA]
 rcases Cg hP h.2 with hneg|⟨k,x,y,hk,hkl,hx,hy,x0,x1,x2,y1,g1,g2⟩
 ·rw[ab hneg]
  exact⟨_,_,rfl,rfl,rfl,fun h=>by cases h⟩
 rw[hk,ak (show¬(k:Int)<0 by omega)]
 simp only[ac]
 by_cases hal:h.2.tmod 4=0
 ·rw[ab hal,aj,ab hkl,hx,bf (n:=h.2-x) (by omega) (by omega),Int.tdiv_eq_ediv_of_nonneg (by omega),bf (n:=(h.2-x)/4) (by omega) (by omega)]
  simp only[aH,ac,ae]
  rw[Int.tmod_eq_emod_of_nonneg (by omega)]at hal
  have h32:aG 2 32=true:=rfl
  rw[h32]
  simp only[ae]
  have fr:∀ph:Int,(ph=0∨ph=1∨ph=2)→JN P ((k:Int),h.2,(rd (τ:= .int .i64) h.1 2),ph):=fun ph hph=>⟨⟨k,rfl,hkl⟩,h2,hs,hph⟩
  by_cases he:h.2=x
  ·rw[ab (show(h.2-x)/4=0 by omega),ab he]
   exact⟨_,_,rfl,rfl,rfl,fun _=>⟨rfl,fr 0 (.inl rfl)⟩⟩
  ·rw[ak (show¬(h.2-x)/4=0 by omega),ak he]
   simp only[ac]
   obtain⟨v,i1,i2,_,_⟩:=rR hm h.2 h2
   rw[i1,i2]
   simp only[af]
   rw[P4,ak (show¬(h.2-x)/4=0 by omega)]
   simp only[ac,aA]
   cases hv:v.2 with
   |false=>
    simp only[Bool.not_false,ae]
    cases decide (v.1.1=4)<;>cases decide ((h.2-x)/4=1)<;>cases decide (v.1.1=22)<;>cases decide (v.1.2.1=2)<;>exact⟨_,_,rfl,rfl,rfl,fun h=>by cases h⟩
   |true=>
    simp only[aH,ac]
    cases decide (v.1.1=4)<;>cases decide ((h.2-x)/4=1)<;>cases decide (v.1.1=22)<;>cases decide (v.1.2.1=2)<;>exact⟨_,_,rfl,rfl,rfl,fun _=>⟨rfl,fr _ (by simp)⟩⟩
 ·rw[ak hal]
  exact⟨_,_,rfl,rfl,rfl,fun h=>by cases h⟩
theorem Io (n:Nat) (h:n≤4096):aw n 32=true:=by simp[aw];omega
theorem Es {m:Fm} (hm:gj m.1=true) {P:List Pc} {top:Int} (hP:gY P top) (hl:P.length≤40) (t:Int) (h:List Int×Int) (hra:qf (rd (τ:= .int .i64) h.1 1)):
  ∀(k:Nat) (out:List Fr) (f:Fr),out.length+k=40→(∀g∈out,JN P g)→JN P f→
  ∃v v':List Fr×Bool,ue.a P t m h f true out=some v∧Gj.a P t m h f (out++[f])=some v'∧v.2=v'.2∧(v.2=true→v.1=v'.1∧v.1.length≤40∧∀g∈v.1,JN P g):=by
 intro k
 induction k with
 |zero=>
  intro out f hk ho hf
  rw[ue.a_eq,Gj.a_eq]
  rw[ak (show¬(out.length:Int)<40 by omega),ak (show¬(((out++[f]).length:Nat):Int)≤40 by rw[List.length_append];simp only[List.length_cons,List.length_nil];omega)]
  exact⟨_,_,rfl,rfl,rfl,fun h=>by cases h⟩
 |succ k ih=>
  intro out f hk ho hf
  obtain⟨⟨q,hq,hql⟩,fpc,fsp,fph⟩:=hf
  have hall:∀g∈out++[f],JN P g:=fun g hg=>by
   rcases List.mem_append.1 hg with hg|hg
   ·exact ho g hg
   ·rw[List.mem_singleton]at hg;rw[hg];exact⟨⟨q,hq,hql⟩,fpc,fsp,fph⟩
  have hlen:(out++[f]).length=out.length+1:=by rw[List.length_append];rfl
  rw[ue.a_eq,Gj.a_eq]
  rw[ab (show(out.length:Int)<40 by omega),hlen,ab (show((out.length+1:Nat):Int)≤40 by omega),P9,hq,aj,ab hql]
  simp only[ae,aA,List.length_cons,List.length_nil]
  rw[Io _ (by omega)]
  simp only[ae]
  have h32:aG 1 32=true:=rfl
  rw[h32]
  simp only[ae]
  obtain⟨fr,hfr⟩:∃x:Int,(rd (τ:=pB) P (q:Int)).2.2.2.2=x:=⟨_,rfl⟩
  have hfv:=(hP.ok _ (au (τ:=pB) P q hql)).fr
  rw[hfr]at hfv⊢
  have hfr2:=nr hfv
  have rest:∀ra sp:Int,qf ra→qf sp→∃v v':List Fr×Bool,
    (bif (decide (ra=0))then((Vb t).bind fun r7=>some ((out++[f]),(decide (sp=r7))))else((S6 P ra).bind fun r8=>bif (decide (r8<0))then some ([],false)else(bif (!decide ((ra.tmod 4)=0))then some ([],false)else(bif (aG r8 (P.length))then(bif (decide ((IntKind.wrap .i64 (ra-(rd (τ:=pB) P r8).2.2.1))<12))then some ([],false)else((S7 m.1 (IntKind.wrap .i64 (ra-4))).bind fun r13=>bif r13.2 then(bif (decide (r13.1.1=3))then ue.a P t m h (r8,ra,sp,2) (decide (r13.1.2.1=1)) (out++[f])else ue.a P t m h (r8,ra,sp,2) false (out++[f]))else ue.a P t m h (r8,ra,sp,2) false (out++[f])))else none))))=some v∧
    (bif (decide (ra=0))then((VP t).bind fun r3=>bif (!decide (sp=r3))then some ([],false)else some ((out++[f]),true))else((Co P ra).bind fun r4=>bif (decide (r4<0))then some ([],false)else(bif (!decide ((ra.tmod 4)=0))then some ([],false)else(bif (aG r4 (P.length))then(bif (decide ((IntKind.wrap .i64 (ra-(rd (τ:=pB) P r4).2.2.1))<12))then some ([],false)else((Tt m.1 (IntKind.wrap .i64 (ra-4))).bind fun r9=>bif (!r9.2)then some ([],false)else(bif (!decide (r9.1.1=3))then some ([],false)else(bif (!decide (r9.1.2.1=1))then some ([],false)else(bif (aw (out.length+1+1) 32)then Gj.a P t m h (r4,ra,sp,2) ((out++[f])++[(r4,ra,sp,2)])else none)))))else none))))=some v'∧
    v.2=v'.2∧(v.2=true→v.1=v'.1∧v.1.length≤40∧∀g∈v.1,JN P g):=by
   intro ra sp hra hsp
   by_cases h0:ra=0
   ·rw[ab h0,MC,Qa]
    simp only[ae,af]
    cases decide (sp=IntKind.wrap .i64 (IntKind.wrap .i64 (32768+IntKind.wrap .i64 (1024*t))+512))with
    |false=>exact⟨_,_,rfl,rfl,rfl,fun h=>by cases h⟩
    |true=>exact⟨_,_,rfl,rfl,rfl,fun _=>⟨rfl,by rw[hlen];omega,hall⟩⟩
   rw[ak h0]
   simp only[ac]
   obtain⟨a1,a2⟩:=uz hP hl ra
   rw[a1,a2]
   simp only[af]
   rcases Cg hP ra with hneg|⟨j,x,y,hk',hkl,hx,hy,x0,x1,x2,y1,g1,g2⟩
   ·rw[ab hneg]
    exact⟨_,_,rfl,rfl,rfl,fun h=>by cases h⟩
   rw[hk',ak (show¬(j:Int)<0 by omega),aj,ab hkl]
   simp only[ac,ae]
   cases decide (ra.tmod 4=0)with
   |false=>exact⟨_,_,rfl,rfl,rfl,fun h=>by cases h⟩
   |true=>
    simp only[aH,ac]
    cases decide ((IntKind.wrap .i64 (ra-(rd (τ:=pB) P (j:Int)).2.2.1))<12)with
    |true=>exact⟨_,_,rfl,rfl,rfl,fun h=>by cases h⟩
    |false=>
     simp only[ac]
     obtain⟨v,i1,i2,_,_⟩:=rR hm (IntKind.wrap .i64 (ra-4)) (Il _)
     rw[i1,i2]
     simp only[af]
     have stop:ue.a P t m h ((j:Int),ra,sp,2) false (out++[f])=some ([],false):=by
      rw[ue.a_eq];rfl
     cases v.2 with
     |false=>exact⟨_,_,stop,rfl,rfl,fun h=>by cases h⟩
     |true=>
      simp only[aH,ac,ae]
      cases decide (v.1.1=3)with
      |false=>exact⟨_,_,stop,rfl,rfl,fun h=>by cases h⟩
      |true=>
       simp only[aH,ac,ae]
       cases decide (v.1.2.1=1)with
       |false=>exact⟨_,_,stop,rfl,rfl,fun h=>by cases h⟩
       |true=>
        simp only[aH,ac]
        rw[Io _ (by omega)]
        exact ih (out++[f]) ((j:Int),ra,sp,2) (by rw[hlen];omega) hall ⟨⟨j,rfl,hkl⟩,hra,hsp,.inr (.inr rfl)⟩
  rcases fph with h0|h1|h2
  ·rw[h0]
   simp only[show decide ((0:Int)=2)=false from rfl,show decide ((0:Int)=1)=false from rfl,ac]
   exact rest _ _ hra fsp
  ·rw[h1,rU]
   simp only[show decide ((1:Int)=2)=false from rfl,show decide ((1:Int)=0)=false from rfl,ac,ae,Bool.not_false,af]
   exact rest _ _ hra (Il _)
  ·rw[h2,rU,rU,bf (n:=fr-8) (by omega) (by omega),In]
   simp only[show decide ((2:Int)=0)=false from rfl,show decide ((2:Int)=1)=false from rfl,ac,ae,Bool.not_false,af]
   obtain⟨v,l1,l2,l3⟩:=Er hm (IntKind.wrap .i64 (f.2.2.1+(fr-8))) (Il _) 8 (.inr rfl)
   rw[show((8:Nat):Int)=8 from rfl]at l1 l2
   rw[l1,l2]
   simp only[af]
   cases decide (v.2=0)with
   |false=>exact⟨_,_,rfl,rfl,rfl,fun h=>by cases h⟩
   |true=>
    simp only[aH,ac]
    exact rest _ _ l3 (Il _)
theorem Et {m:Fm} (hm:gj m.1=true) {P:List Pc} {top:Int} (hP:gY P top) (hl:P.length≤40) (i:Nat) (hi:i<m.2.1.length)
  (h2:qf (rd (τ:=ei) m.2.1 (i:Int)).2.1.2) (hr:∀j:Int,qf (rd (τ:= .int .i64) (rd (τ:=ei) m.2.1 (i:Int)).2.1.1 j)):
  ∃v v':List Fr×Bool,ue m P (i:Int)=some v∧Gj m P (i:Int)=some v'∧v.2=v'.2∧(v.2=true→v.1=v'.1∧v.1.length≤40∧∀g∈v.1,JN P g):=by
 rw[MD,Qb,aj,ab hi]
 simp only[ae]
 obtain⟨v,v',e1,e2,e3,e4⟩:=AI hm hP hl (rd (τ:=ei) m.2.1 (i:Int)).2.1 h2 (hr 2)
 rw[e1,e2]
 simp only[af]
 rw[←e3]
 cases hv:v.2 with
 |false=>
  have:ue.a P (i:Int) m (rd (τ:=ei) m.2.1 (i:Int)).2.1 v.1 false []=some ([],false):=by rw[ue.a_eq];rfl
  rw[this]
  exact⟨_,_,rfl,rfl,rfl,fun h=>by cases h⟩
 |true=>
  obtain⟨g1,g2⟩:=e4 hv
  rw[←g1]
  simp only[aH,ac]
  exact Es hm hP hl (i:Int) (rd (τ:=ei) m.2.1 (i:Int)).2.1 (hr 1) 40 [] v.1 (by simp) (fun g hg=>by cases hg) g2
theorem KM (R:List Int) (h:∀x∈R,qf x) (q:Int):qf (rd (τ:= .int .i64) R q):=by
 have e:rd (τ:= .int .i64) R q=R.getD q.toNat (0:Int):=rfl
 rw[e,List.getD_eq_getElem?_getD]
 cases hg:R[q.toNat]? with
 |none=>exact⟨by decide,by decide⟩
 |some x=>exact h x (List.mem_of_getElem? hg)
abbrev zO:bq:=((⟨#[]⟩:ByteArray),0,[],[],[],[])
noncomputable def tu (r:bq×Int×ByteArray×Int×Bool):Option (bq×Int):=
 bif r.2.2.2.2 then some (zO,22)else(bif (decide (r.2.2.2.1< (r.2.2.1.size:Int)))then some (zO,8)else(bif (decide (r.2.1>1))then some (zO,3)else((Ts r.1).bind fun r4=>bif (!r4)then some (zO,1)else some (r.1,0))))
structure ND (o:bq):Prop where
 n:o.1.size≤300
 d:0≤o.2.1∧o.2.1<256
 f:∀x∈o.2.2.1,mX aS x
 t:∀x∈o.2.2.2.1,mX bF x
 r:∀x∈o.2.2.2.2.1,mX cH x
 s:∀x∈o.2.2.2.2.2,mX et x
def uA (v:bq×Int):Prop:=ND v.1∧v.1.2.2.1.length≤300∧v.1.2.2.2.1.length≤300∧v.1.2.2.2.2.1.length≤300∧v.1.2.2.2.2.2.length≤300∧(v.2=0→lD v.1=true)
theorem Tf:ND zO:=⟨by decide,by decide,by simp,by simp,by simp,by simp⟩
theorem gC (c:Int) (hc:c≠0):uA (zO,c):=⟨Tf,by simp,by simp,by simp,by simp,fun h=>absurd h hc⟩
theorem Ch {o:bq} (h:ND o):pn o:=by
 intro k hk
 rw[aV _ _ hk]
 exact(h.r _ (List.getElem_mem hk)).1
theorem dI {p:ByteArray×Bool} {q:ByteArray×Int×Bool} (h:mB p q) (hb:q.2.2=true):∃x p' q',wh p 1=some (x,p')∧tx q 1=some (x,q')∧mB p' q'∧q'.2.2=true∧0≤x∧x<256:=by
 obtain⟨x,p',q',a,b,c,d,e,f⟩:=kZ 1 h (by omega)
 exact⟨x,p',q',a,b,c,f hb,d,by simpa using e⟩
theorem pC {p:ByteArray×Bool} {q:ByteArray×Int×Bool} (h:mB p q):∃x p' q',wh p 1=some (x,p')∧tx q 1=some (x,q')∧mB p' q'∧0≤x∧x<256∧(q.2.2=true→q'.2.2=true):=by
 obtain⟨x,p',q',a,b,c,d,e,f⟩:=kZ 1 h (by omega)
 exact⟨x,p',q',a,b,c,d,by simpa using e,f⟩
theorem LC (z:bq) {p:ByteArray×Bool} {q:ByteArray×Int×Bool} (h:mB p q) (hb:q.2.2=true) (w:Bool) (o:bq) (n:Int):iK.d z p w o n=some (zO,22):=by
 have hf:aA (fun kr38:Bool→Option (bq×Int)=>bif (decide (n>0))then kr38 (!p.2)else kr38 false)=fun K=>K false:=by
  funext K;unfold aA;rw[iB h,hb];cases decide (n>0)<;>rfl
 rw[iK.d_eq,hf,yG h,hb]
 rfl
theorem LD (z:bq) {p:ByteArray×Bool} {q:ByteArray×Int×Bool} (h:mB p q) (hb:q.2.2=true) (w:Bool) (o:bq) (n:Int):iK.c z p w o n=some (zO,22):=by
 have hf:aA (fun kr38:Bool→Option (bq×Int)=>bif (decide (n>0))then kr38 (!p.2)else kr38 false)=fun K=>K false:=by
  funext K;unfold aA;rw[iB h,hb];cases decide (n>0)<;>rfl
 obtain⟨x,p',q',a,b,c,d,_,_⟩:=dI h hb
 rw[iK.c_eq,hf,a]
 exact LC z c d w o x
theorem LE (z:bq) {p:ByteArray×Bool} {q:ByteArray×Int×Bool} (h:mB p q) (hb:q.2.2=true) (w:Bool) (o:bq) (n:Int):iK.b z p w o n=some (zO,22):=by
 have hf:aA (fun kr38:Bool→Option (bq×Int)=>bif (decide (n>0))then kr38 (!p.2)else kr38 false)=fun K=>K false:=by
  funext K;unfold aA;rw[iB h,hb];cases decide (n>0)<;>rfl
 obtain⟨x,p',q',a,b,c,d,_,_⟩:=dI h hb
 rw[iK.b_eq,hf,a]
 exact LD z c d w o x
theorem Tg (z:bq) {p:ByteArray×Bool} {q:ByteArray×Int×Bool} (h:mB p q) (hb:q.2.2=true) (w:Bool) (o:bq) (n:Int):iK.a z p w o n=some (zO,22):=by
 have hf:aA (fun kr38:Bool→Option (bq×Int)=>bif (decide (n>0))then kr38 (!p.2)else kr38 false)=fun K=>K false:=by
  funext K;unfold aA;rw[iB h,hb];cases decide (n>0)<;>rfl
 obtain⟨x,p',q',a,b,c,d,_,_⟩:=dI h hb
 rw[iK.a_eq,hf,a]
 exact LE z c d w o x
abbrev yc (r:Option (bq×Int×ByteArray×Int×Bool)):Prop:=∃v,r=some v∧v.2.2.2.2=true
theorem Ip (z:bq):∀(k:Nat) (p:ByteArray×Bool) (q:ByteArray×Int×Bool) (o:bq) (g:Int),mB p q→q.2.2=true→k+o.2.2.2.2.2.length≤1000→yc (g8.d q z o g k)
 |0,p,q,o,g,h,hb,hl=>by
  rw[g8.d_eq]
  exact⟨_,rfl,hb⟩
 |k+1,p,q,o,g,h,hb,hl=>by
  obtain⟨x1,p1,q1,_,a1,c1,d1,_,_⟩:=dI h hb
  obtain⟨x2,p2,q2,_,a2,c2,d2,_,_⟩:=dI c1 d1
  rw[g8.d_eq,ab (by omega),a1]
  simp only[ae,af,a2]
  rw[bj (by simp;omega) (by simp;omega),bf (by omega) (by omega),show((k+1:Nat):Int)-1=(k:Int) by omega]
  exact Ip z k p2 q2 _ _ c2 d2 (by simp;omega)
theorem Iq (z:bq):∀(k:Nat) (p:ByteArray×Bool) (q:ByteArray×Int×Bool) (o:bq) (g:Int),mB p q→q.2.2=true→k+o.2.2.2.2.1.length≤1000→o.2.2.2.2.2=[]→yc (g8.c q z o g k)
 |0,p,q,o,g,h,hb,hl,e4=>by
  obtain⟨x1,p1,q1,_,a1,c1,d1,f1,f2⟩:=dI h hb
  rw[g8.c_eq,a1]
  have:=Ip z x1.toNat p1 q1 o g c1 d1 (by rw[e4];simp;omega)
  rw[show((x1.toNat:Nat):Int)=x1 by omega]at this
  exact this
 |k+1,p,q,o,g,h,hb,hl,e4=>by
  obtain⟨x1,p1,q1,_,a1,c1,d1,_,_⟩:=dI h hb
  obtain⟨x2,p2,q2,_,a2,c2,d2,_,_⟩:=dI c1 d1
  obtain⟨x3,p3,q3,_,a3,c3,d3,_,_⟩:=dI c2 d2
  obtain⟨o4,p4,q4,_,a4,c4,d4,_⟩:=eg c3
  obtain⟨x5,p5,q5,_,a5,c5,h5,h5',d5⟩:=kZ 4 c4 (by omega)
  rw[show((4:Nat):Int)=4 by rfl]at a5
  have h5':x5<4294967296:=by simpa using h5'
  rw[g8.c_eq,ab (by omega),a1]
  simp only[ae,af,a2,a3,a4,a5]
  rw[fZ x5 32 (by omega) (by omega) (by omega) (by omega)]
  simp only[af]
  rw[bj (by simp;omega) (by simp;omega),bf (by omega) (by omega),show((k+1:Nat):Int)-1=(k:Int) by omega]
  exact Iq z k p5 q5 _ _ c5 (d5 (d4 d3)) (by simp;omega) e4
theorem Ir (z:bq):∀(k:Nat) (p:ByteArray×Bool) (q:ByteArray×Int×Bool) (o:bq) (g:Int),mB p q→q.2.2=true→k+o.2.2.2.1.length≤1000→o.2.2.2.2.1=[]→o.2.2.2.2.2=[]→yc (g8.b q z o g k)
 |0,p,q,o,g,h,hb,hl,e3,e4=>by
  obtain⟨x1,p1,q1,_,a1,c1,d1,f1,f2⟩:=dI h hb
  rw[g8.b_eq,a1]
  have:=Iq z x1.toNat p1 q1 o g c1 d1 (by rw[e3];simp;omega) e4
  rw[show((x1.toNat:Nat):Int)=x1 by omega]at this
  exact this
 |k+1,p,q,o,g,h,hb,hl,e3,e4=>by
  obtain⟨o1,p1,q1,_,a1,c1,d1,_⟩:=eg h
  obtain⟨o2,p2,q2,_,a2,c2,d2,_⟩:=eg c1
  rw[g8.b_eq,ab (by omega),a1]
  simp only[ae,af,a2]
  rw[bj (by simp;omega) (by simp;omega),bf (by omega) (by omega),show((k+1:Nat):Int)-1=(k:Int) by omega]
  exact Ir z k p2 q2 _ _ c2 (d2 (d1 hb)) (by simp;omega) e3 e4
theorem LF (z:bq):∀(k:Nat) (p:ByteArray×Bool) (q:ByteArray×Int×Bool) (o:bq) (g:Int),mB p q→q.2.2=true→k+o.2.2.1.length≤1000→o.2.2.2.1=[]→o.2.2.2.2.1=[]→o.2.2.2.2.2=[]→yc (g8.a q z o g k)
 |0,p,q,o,g,h,hb,hl,e2,e3,e4=>by
  obtain⟨x1,p1,q1,_,a1,c1,d1,f1,f2⟩:=dI h hb
  rw[g8.a_eq,a1]
  have:=Ir z x1.toNat p1 q1 o g c1 d1 (by rw[e2];simp;omega) e3 e4
  rw[show((x1.toNat:Nat):Int)=x1 by omega]at this
  exact this
 |k+1,p,q,o,g,h,hb,hl,e2,e3,e4=>by
  obtain⟨o1,p1,q1,_,a1,c1,d1,_⟩:=eg h
  obtain⟨x2,p2,q2,_,a2,c2,d2,_,_⟩:=dI c1 (d1 hb)
  obtain⟨x3,p3,q3,_,a3,c3,d3,_,_⟩:=dI c2 d2
  obtain⟨x4,p4,q4,_,a4,c4,d4,f1,f2⟩:=dI c3 d3
  obtain⟨o5,p5,q5,_,a5,c5,d5,_⟩:=sG (n:=4*x4) c4 (by omega) (by omega)
  rw[g8.a_eq,ab (by omega),a1]
  simp only[ae,af,a2,a3,a4]
  rw[bf (n:=4*x4) (by omega) (by omega),a5]
  simp only[af]
  rw[bj (by simp;omega) (by simp;omega),bf (by omega) (by omega),show((k+1:Nat):Int)-1=(k:Int) by omega]
  exact LF z k p5 q5 _ _ c5 (d5 d4) (by simp;omega) e2 e3 e4
theorem lr {r:Option (bq×Int×ByteArray×Int×Bool)} (h:yc r):r.bind tu=some (zO,22):=by
 obtain⟨v,rfl,hv⟩:=h
 show tu v=_
 unfold tu;rw[hv];rfl
theorem Is {p:ByteArray×Bool} {q:ByteArray×Int×Bool} (h:mB p q) (g:Int):∃x p' q',TK p (decide (g>1))=some (decide (x=1),p',decide ((if x>g then x else g)>1))∧tx q 1=some (x,q')∧mB p' q'∧0≤x∧x<256∧(q.2.2=true→q'.2.2=true):=by
 obtain⟨x,p',q',a,b,c,d,e,f⟩:=pC h
 refine⟨x,p',q', ?_,b,c,d,e,f⟩
 rw[Mr,a]
 simp only[af]
 by_cases hg:g>1
 ·rw[ab hg,ab (show(if x>g then x else g)>1 by split<;>omega)];rfl
 ·rw[ak hg]
  by_cases hx:x>1
  ·rw[ab hx,ab (show(if x>g then x else g)>1 by split<;>omega)];rfl
  ·rw[ak hx,ak (show¬(if x>g then x else g)>1 by split<;>omega)];rfl
theorem o7 (c b:Bool):(aA (fun kr38:Bool→Option (bq×Int)=>bif c then kr38 b else kr38 false))=fun K=>K (c&&b):=by
 funext K;unfold aA;cases c<;>rfl
theorem W7 (z:bq):∀(k:Nat) (p:ByteArray×Bool) (q:ByteArray×Int×Bool) (o:bq) (g:Int),mB p q→ND o→o.2.2.1.length≤300→o.2.2.2.1.length≤300→o.2.2.2.2.1.length≤300→k+o.2.2.2.2.2.length≤300→
  ∃v,iK.d z p (decide (g>1)) o k=some v∧(g8.d q z o g k).bind tu=some v∧uA v:=by
 intro k
 induction k with
 |zero=>
  intro p q o g hR ho h1 h2 h3 h4
  have hi:=hY o (Ch ho)
  rw[iK.d_eq,g8.d_eq,o7,ak (show¬((0:Nat):Int)>0 by omega),yG hR,hi.1]
  simp only[Bool.false_and,ac,af,tu,hi.2]
  cases hs:q.2.2 with
  |true=>exact⟨_,rfl,rfl,gC 22 (by decide)⟩
  |false=>
   by_cases hb:q.2.1< (q.1.size:Int)
   ·rw[ab hb]
    simp only[Bool.false_eq_true,if_false,av hb]
    exact⟨_,rfl,rfl,gC 8 (by decide)⟩
   ·rw[ak hb]
    simp only[Bool.false_eq_true,if_false,ap hb]
    cases decide (g>1)with
    |true=>exact⟨_,rfl,rfl,gC 3 (by decide)⟩
    |false=>
     cases hv:lD o with
     |false=>exact⟨_,rfl,rfl,gC 1 (by decide)⟩
     |true=>exact⟨_,rfl,rfl,ho,h1,h2,h3,by simp only;omega,fun _=>hv⟩
 |succ k ih=>
  intro p q o g hR ho h1 h2 h3 h4
  cases hs:q.2.2 with
  |true=>exact⟨_,LC z hR hs _ _ _,lr (Ip z (k+1) p q o g hR hs (by omega)),gC 22 (by decide)⟩
  |false=>
   obtain⟨x1,p1,q1,a1,b1,c1,d1,e1,_⟩:=pC hR
   obtain⟨x2,p2,q2,a2,b2,c2,d2,e2,_⟩:=Is c1 g
   rw[iK.d_eq,g8.d_eq,o7,ab (show((k+1:Nat):Int)>0 by omega),iB hR,hs,b1]
   simp only[Bool.not_false,Bool.and_self,ae,af,a1,a2,b2]
   rw[bj (by simp;omega) (by simp;omega),bf (n:=((k+1:Nat):Int)-1) (by omega) (by omega),show((k+1:Nat):Int)-1=(k:Int) by omega]
   simp only[ae]
   exact ih p2 q2 _ _ c2 ⟨ho.n,ho.d,ho.f,ho.t,ho.r,fun x hx=>by
    rcases List.mem_append.1 hx with hx|hx
    ·exact ho.s x hx
    ·rw[List.mem_singleton]at hx;subst hx;exact⟨⟨by show _≤x1;omega,by show x1≤_;omega⟩,trivial⟩⟩ h1 h2 h3 (by simp;omega)
theorem W8 (z:bq):∀(k:Nat) (p:ByteArray×Bool) (q:ByteArray×Int×Bool) (o:bq) (g:Int),mB p q→ND o→o.2.2.1.length≤300→o.2.2.2.1.length≤300→k+o.2.2.2.2.1.length≤300→o.2.2.2.2.2=[]→
  ∃v,iK.c z p (decide (g>1)) o k=some v∧(g8.c q z o g k).bind tu=some v∧uA v:=by
 intro k
 induction k with
 |zero=>
  intro p q o g hR ho h1 h2 h3 e4
  obtain⟨x,p1,q1,a1,b1,c1,d1,f1,_⟩:=pC hR
  rw[iK.c_eq,g8.c_eq,o7,ak (show¬((0:Nat):Int)>0 by omega),a1,b1]
  simp only[Bool.false_and,ac,af]
  have:=W7 z x.toNat p1 q1 o g c1 ho h1 h2 (by omega) (by rw[e4];simp;omega)
  rwa [show((x.toNat:Nat):Int)=x by omega]at this
 |succ k ih=>
  intro p q o g hR ho h1 h2 h3 e4
  cases hs:q.2.2 with
  |true=>exact⟨_,LD z hR hs _ _ _,lr (Iq z (k+1) p q o g hR hs (by omega) e4),gC 22 (by decide)⟩
  |false=>
   obtain⟨x1,p1,q1,a1,b1,c1,d1,e1,_⟩:=pC hR
   obtain⟨x2,p2,q2,a2,b2,c2,d2,e2,_⟩:=pC c1
   obtain⟨x3,p3,q3,a3,b3,c3,d3,e3,_⟩:=pC c2
   obtain⟨o4,p4,q4,a4,b4,c4,_,d4⟩:=eg c3
   obtain⟨x5,p5,q5,a5,b5,c5,d5,e5,_⟩:=kZ 4 c4 (by omega)
   rw[show((4:Nat):Int)=4 by rfl]at a5 b5
   have e5:x5<4294967296:=by simpa using e5
   have hsr:=iz x5 32 (by decide)
   have hsr1: -2147483648≤cz x5 32∧cz x5 32<2147483648:=by simpa using hsr
   rw[iK.c_eq,g8.c_eq,o7,ab (show((k+1:Nat):Int)>0 by omega),iB hR,hs,b1]
   simp only[Bool.not_false,Bool.and_self,ae,af,a1,a2,b2,a3,b3,a4,b4,a5,b5]
   rw[sj x5 32 (by decide) (by decide),fZ x5 32 (by decide) (by decide) (by omega) (by omega)]
   simp only[af]
   rw[bj (by simp;omega) (by simp;omega),bf (n:=((k+1:Nat):Int)-1) (by omega) (by omega),show((k+1:Nat):Int)-1=(k:Int) by omega]
   simp only[ae]
   exact ih p5 q5 _ _ c5 ⟨ho.n,ho.d,ho.f,ho.t,fun x hx=>by
    rcases List.mem_append.1 hx with hx|hx
    ·exact ho.r x hx
    ·rw[List.mem_singleton]at hx;subst hx
     exact⟨⟨by show _≤x1;omega,by show x1≤_;omega⟩,⟨by show _≤x2;omega,by show x2≤_;omega⟩,⟨by show _≤x3;omega,by show x3≤_;omega⟩,by show o4.size≤_;omega,by show _≤cz x5 32;omega,by show cz x5 32≤_;omega⟩,ho.s⟩ h1 h2 (by simp;omega) e4
theorem W9 (z:bq):∀(k:Nat) (p:ByteArray×Bool) (q:ByteArray×Int×Bool) (o:bq) (g:Int),mB p q→ND o→o.2.2.1.length≤300→k+o.2.2.2.1.length≤300→o.2.2.2.2.1=[]→o.2.2.2.2.2=[]→
  ∃v,iK.b z p (decide (g>1)) o k=some v∧(g8.b q z o g k).bind tu=some v∧uA v:=by
 intro k
 induction k with
 |zero=>
  intro p q o g hR ho h1 h2 e3 e4
  obtain⟨x,p1,q1,a1,b1,c1,d1,f1,_⟩:=pC hR
  rw[iK.b_eq,g8.b_eq,o7,ak (show¬((0:Nat):Int)>0 by omega),a1,b1]
  simp only[Bool.false_and,ac,af]
  have:=W8 z x.toNat p1 q1 o g c1 ho h1 (by omega) (by rw[e3];simp;omega) e4
  rwa [show((x.toNat:Nat):Int)=x by omega]at this
 |succ k ih=>
  intro p q o g hR ho h1 h2 e3 e4
  cases hs:q.2.2 with
  |true=>exact⟨_,LE z hR hs _ _ _,lr (Ir z (k+1) p q o g hR hs (by omega) e3 e4),gC 22 (by decide)⟩
  |false=>
   obtain⟨o1,p1,q1,a1,b1,c1,_,d1⟩:=eg hR
   obtain⟨o2,p2,q2,a2,b2,c2,_,d2⟩:=eg c1
   rw[iK.b_eq,g8.b_eq,o7,ab (show((k+1:Nat):Int)>0 by omega),iB hR,hs,b1]
   simp only[Bool.not_false,Bool.and_self,ae,af,a1,a2,b2]
   rw[bj (by simp;omega) (by simp;omega),bf (n:=((k+1:Nat):Int)-1) (by omega) (by omega),show((k+1:Nat):Int)-1=(k:Int) by omega]
   simp only[ae]
   exact ih p2 q2 _ _ c2 ⟨ho.n,ho.d,ho.f,fun x hx=>by
    rcases List.mem_append.1 hx with hx|hx
    ·exact ho.t x hx
    ·rw[List.mem_singleton]at hx;subst hx;exact⟨by show o1.size≤_;omega,by show o2.size≤_;omega⟩,ho.r,ho.s⟩ h1 (by simp;omega) e3 e4
theorem Xa (z:bq):∀(k:Nat) (p:ByteArray×Bool) (q:ByteArray×Int×Bool) (o:bq) (g:Int),mB p q→ND o→k+o.2.2.1.length≤300→o.2.2.2.1=[]→o.2.2.2.2.1=[]→o.2.2.2.2.2=[]→
  ∃v,iK.a z p (decide (g>1)) o k=some v∧(g8.a q z o g k).bind tu=some v∧uA v:=by
 intro k
 induction k with
 |zero=>
  intro p q o g hR ho h1 e2 e3 e4
  obtain⟨x,p1,q1,a1,b1,c1,d1,f1,_⟩:=pC hR
  rw[iK.a_eq,g8.a_eq,o7,ak (show¬((0:Nat):Int)>0 by omega),a1,b1]
  simp only[Bool.false_and,ac,af]
  have:=W9 z x.toNat p1 q1 o g c1 ho (by omega) (by rw[e2];simp;omega) e3 e4
  rwa [show((x.toNat:Nat):Int)=x by omega]at this
 |succ k ih=>
  intro p q o g hR ho h1 e2 e3 e4
  cases hs:q.2.2 with
  |true=>exact⟨_,Tg z hR hs _ _ _,lr (LF z (k+1) p q o g hR hs (by omega) e2 e3 e4),gC 22 (by decide)⟩
  |false=>
   obtain⟨o1,p1,q1,a1,b1,c1,_,d1⟩:=eg hR
   obtain⟨x2,p2,q2,a2,b2,c2,d2,e2',_⟩:=Is c1 g
   obtain⟨x3,p3,q3,a3,b3,c3,d3,e3',_⟩:=pC c2
   obtain⟨x4,p4,q4,a4,b4,c4,d4,e4',_⟩:=pC c3
   obtain⟨o5,p5,q5,a5,b5,c5,_,d5⟩:=sG (n:=4*x4) c4 (by omega) (by omega)
   rw[iK.a_eq,g8.a_eq,o7,ab (show((k+1:Nat):Int)>0 by omega),iB hR,hs,b1]
   simp only[Bool.not_false,Bool.and_self,ae,af,a1,a2,b2,a3,b3,a4,b4]
   rw[bf (n:=4*x4) (by omega) (by omega),a5,b5]
   simp only[af]
   rw[bj (by simp;omega) (by simp;omega),bf (n:=((k+1:Nat):Int)-1) (by omega) (by omega),show((k+1:Nat):Int)-1=(k:Int) by omega]
   simp only[ae]
   exact ih p5 q5 _ _ c5 ⟨ho.n,ho.d,fun x hx=>by
    rcases List.mem_append.1 hx with hx|hx
    ·exact ho.f x hx
    ·rw[List.mem_singleton]at hx;subst hx
     exact⟨by show o1.size≤_;omega,trivial,⟨by show _≤x3;omega,by show x3≤_;omega⟩,by show o5.size≤_;omega⟩,ho.t,ho.r,ho.s⟩ (by simp;omega) e2 e3 e4
theorem Eu (t:ByteArray) (hl:¬(t.size:Int)>65536):∃v,iK t=some v∧VL t=some v∧uA v:=by
 rw[Mu,IM,PY]
 simp only[af]
 rw[ak hl]
 simp only[ac]
 rcases Fc t ⟨#[80,79,66,49]⟩ rfl (by omega)with⟨c,q,hc,h1,h2⟩|⟨h8,h1,h2⟩
 ·rw[h1,h2]
  simp only[af,optC]
  rw[ak hc]
  exact⟨_,rfl,rfl,gC c hc⟩
 ·rw[h1,h2]
  simp only[af,optC]
  have hsz:(t.extract 4 (t.size-4)).size≤65536:=by rw[ByteArray.size_extract];omega
  have hR:mB (t.extract 4 (t.size-4),false) (t.extract 4 (t.size-4),0,false):=by
   refine⟨by simp,by simp,hsz, ?_⟩
   show(t.extract 4 (t.size-4),false)=((t.extract 4 (t.size-4)).extract (Int.toNat 0) (t.extract 4 (t.size-4)).size,false)
   rw[show(Int.toNat 0)=0 by rfl,ByteArray.extract_zero_size]
  obtain⟨o1,p1,q1,a1,b1,c1,_,d1⟩:=eg hR
  obtain⟨x2,p2,q2,a2,b2,c2,d2,e2,_⟩:=pC c1
  obtain⟨x3,p3,q3,a3,b3,c3,d3,e3,_⟩:=pC c2
  obtain⟨v,v1,v2,v3⟩:=Xa zO x3.toNat p3 q3 (o1,x2,[],[],[],[]) 0 c3 ⟨by simp only;omega,⟨d2,e2⟩,by simp,by simp,by simp,by simp⟩ (by simp;omega) rfl rfl rfl
  rw[show((x3.toNat:Nat):Int)=x3 by omega]at v1 v2
  refine⟨v, ?_, ?_,v3⟩
  ·rw[a1]
   simp only[decide_true,aH,ac,af,a2,a3]
   exact v1
  ·rw[PX,b1]
   simp only[decide_true,aH,ac,af,b2,b3]
   rw[←v2]
   cases g8.a q3 zO (o1,x2,[],[],[],[]) 0 x3 with
   |none=>rfl
   |some r=>
    show tu r=Option.bind (some r) tu
    rfl
theorem It {l:List Int} {x:Int}:x∈iX l↔x∈l:=(List.mergeSort_perm l _).mem_iff
theorem yd (l:List Int):(iX l).length=l.length:=List.length_mergeSort l
theorem Ev {l:List Int} {x:Int} (h:x∈gG l):x∈l:=by
 unfold gG Lib.compact Lib.compactUpTo at h
 obtain⟨j,hj,rfl⟩:=List.mem_map.1 h
 have hj:=(List.mem_filter.1 hj).1
 have hj:j<l.length:=by simpa using hj
 simp[hj]
theorem uB {l:List Int}:∀(j:Nat) (hj:j<l.length),l[j]∈gG l
 |0,hj=>by
  unfold gG Lib.compact Lib.compactUpTo
  refine List.mem_map.2 ⟨0,List.mem_filter.2 ⟨by simpa using hj,by simp[Lib.keeps]⟩,by simp[hj]⟩
 |j+1,hj=>by
  by_cases hk:Lib.keeps l.toArray (j+1)=true
  ·unfold gG Lib.compact Lib.compactUpTo
   exact List.mem_map.2 ⟨j+1,List.mem_filter.2 ⟨by simpa using hj,hk⟩,by simp[hj]⟩
  ·have e:l[j+1]=l[j]:=by
    unfold Lib.keeps at hk
    simp only[aW,not_or,Classical.not_not]at hk
    have:=hk.2
    simpa[hj,show j<l.length by omega]using this
   rw[e]
   exact uB j (by omega)
theorem Iu {l:List Int} {x:Int}:x∈gG l↔x∈l:=⟨Ev,fun h=>by
 obtain⟨j,hj,rfl⟩:=List.getElem_of_mem h
 exact uB j hj⟩
theorem Iv (l:List Int):(gG l).length≤l.length:=Lib.compact_length_le l
def rV (P:List Pc) (fs:List Fr):List Int:=fs.map fun g=>(rd (τ:=pB) P g.1).1
theorem AJ (X:List Int) (hX:X.length≤1048576):∀(k i:Nat) (acc:List Int),i+k=64→acc.length≤i→∃L:List Int,mA.b X acc (i:Int)=some (L,true)∧L.length≤64∧∀n:Int,n∈L↔n∈acc∨(n∈X∧(i:Int)≤n∧n<64):=by
 intro k
 induction k with
 |zero=>
  intro i acc h hl
  rw[mA.b_eq,ak (show¬(i:Int)<64 by omega)]
  refine⟨acc,rfl,by omega,fun n=>⟨.inl,fun h=>h.elim id fun h=> ?_⟩⟩
  omega
 |succ k ih=>
  intro i acc h hl
  rw[mA.b_eq,ab (show(i:Int)<64 by omega),(nq X (i:Int) hX).2,bf (n:=(i:Int)+1) (by omega) (by omega),show(i:Int)+1=((i+1:Nat):Int) by omega]
  simp only[ae,af]
  by_cases hx:(i:Int)∈X
  ·rw[ab hx,ae,bj (by simp;omega) (by simp;omega),ae]
   obtain⟨L,h1,h2,h3⟩:=ih (i+1) (acc++[(i:Int)]) (by omega) (by simp;omega)
   refine⟨L,h1,h2,fun n=> ?_⟩
   rw[h3 n,List.mem_append,List.mem_singleton]
   constructor
   ·rintro((h|h)|⟨h,h',h''⟩)
    ·exact .inl h
    ·exact .inr ⟨h▸hx,by omega,by omega⟩
    ·exact .inr ⟨h,by omega,h''⟩
   ·rintro(h|⟨h,h',h''⟩)
    ·exact .inl (.inl h)
    ·by_cases e:n=(i:Int)
     ·exact .inl (.inr e)
     ·exact .inr ⟨h,by omega,h''⟩
  ·rw[ak hx,ac]
   obtain⟨L,h1,h2,h3⟩:=ih (i+1) acc (by omega) (by omega)
   refine⟨L,h1,h2,fun n=> ?_⟩
   rw[h3 n]
   constructor
   ·rintro(h|⟨h,h',h''⟩)
    ·exact .inl h
    ·exact .inr ⟨h,by omega,h''⟩
   ·rintro(h|⟨h,h',h''⟩)
    ·exact .inl h
    ·refine .inr ⟨h, ?_,h''⟩
     by_cases e:n=(i:Int)
     ·subst e;exact absurd h hx
     ·omega
def oq (ts:List La):Nat→Nat→List Int
 |_,0=>[]
 |i,k+1=>bif decide ((rd (τ:=ei) ts (i:Int)).1=1)then(i:Int)::oq ts (i+1) k else oq ts (i+1) k
theorem ye (ts:List La):∀k i,(oq ts i k).length≤k
 |0,i=>by simp[oq]
 |k+1,i=>by
  unfold oq
  have:=ye ts k (i+1)
  cases decide ((rd (τ:=ei) ts (i:Int)).1=1)<;>simp<;>omega
theorem Ew (m:Fm) (hl:m.2.1.length≤4):FG m=some (oq m.2.1 0 m.2.1.length):=by
 rw[Mw]
 have key:∀(k i:Nat) (acc:List Int),i+k=m.2.1.length→acc.length≤i→FG.a acc m.2.1 (m.2.1.length:Int) (i:Int)=some (acc++oq m.2.1 i k):=by
  intro k
  induction k with
  |zero=>
   intro i acc h hacc
   have:i=m.2.1.length:=by omega
   subst this
   rw[FG.a_eq,ai,ak (aB _),ac]
   simp[oq]
  |succ k ih=>
   intro i acc h hacc
   have hi:i<m.2.1.length:=by omega
   rw[FG.a_eq,ai,aj,ab hi,an i _ hi (by omega)]
   simp only[ae]
   unfold oq
   cases decide ((rd (τ:=ei) m.2.1 (i:Int)).1=1)with
   |true=>
    rw[ae,bj (by simp;omega) (by simp;omega),ae,ae,ih (i+1) _ (by omega) (by simp;omega)]
    simp
   |false=>
    rw[ac,ac,ih (i+1) _ (by omega) (by omega)]
 simpa using key m.2.1.length 0 [] (by omega) (by simp)
theorem uC (P:List Pc) (fs:List Fr) (j:Nat) (hj:j<fs.length):rV P (fs.drop j)=(rd (τ:=pB) P (rd (τ:=Se) fs (j:Int)).1).1::rV P (fs.drop (j+1)):=by
 rw[List.drop_eq_getElem_cons hj,aV (τ:=Se) fs j hj];rfl
theorem NE (m:Fm) (P:List Pc) (R:List Int) (N p:Int) (hp:0≤p∧p≤1000) (fs:List Fr) (hf:∀g∈fs,JN P g) (hl:fs.length≤40):∀(k j:Nat) (acc:List Int),j+k=fs.length→acc.length+k≤1000→
  uf.b P m acc R N p fs (fs.length:Int) (j:Int)=uf.a P m (acc++rV P (fs.drop j)) R N (p+1):=by
 intro k
 induction k with
 |zero=>
  intro j acc h ha
  have:j=fs.length:=by omega
  subst this
  rw[uf.b_eq,ai,ak (aB _),ac,bf (n:=p+1) (by omega) (by omega)]
  simp[rV]
 |succ k ih=>
  intro j acc h ha
  have hj:j<fs.length:=by omega
  obtain⟨q,h0,h1⟩:=(hf _ (au (τ:=Se) fs j hj)).p
  have hi:=inL_true (i:=(rd (τ:=Se) fs (j:Int)).1) (n:=P.length) (by omega) (by omega)
  rw[uC P fs j hj,uf.b_eq,ai,aj,ab hj,an j _ hj (by omega),hi,bj (by simp;omega) (by simp;omega)]
  simp only[ae]
  rw[ih (j+1) _ (by omega) (by simp;omega),bl]
  rfl
theorem NF (m:Fm) (P:List Pc) (i:Nat) (hi:i<m.2.1.length) (hn:m.2.1.length≤4) (fs:List Fr) (hf:∀g∈fs,JN P g) (hl:fs.length≤40):∀(k j:Nat) (acc:List Int),j+k=fs.length→acc.length+k≤1000→
  mA.c P m acc (i:Int) fs (j:Int)=mA.a P m (acc++rV P (fs.drop j)) ((i+1:Nat):Int):=by
 intro k
 induction k with
 |zero=>
  intro j acc h ha
  have:j=fs.length:=by omega
  subst this
  rw[mA.c_eq,ai,ak (aB _),ac,an i _ hi (by omega)]
  simp[rV]
 |succ k ih=>
  intro j acc h ha
  have hj:j<fs.length:=by omega
  obtain⟨q,h0,h1⟩:=(hf _ (au (τ:=Se) fs j hj)).p
  have hi:=inL_true (i:=(rd (τ:=Se) fs (j:Int)).1) (n:=P.length) (by omega) (by omega)
  rw[uC P fs j hj,mA.c_eq,ai,aj,ab hj,an j _ hj (by omega),hi,bj (by simp;omega) (by simp;omega)]
  simp only[ae]
  rw[ih (j+1) _ (by omega) (by simp;omega),bl]
  rfl
def Ci (ts:List La):Prop:=∀i:Nat,i<ts.length→qf (rd (τ:=ei) ts (i:Int)).2.1.2∧∀j:Int,qf (rd (τ:= .int .i64) (rd (τ:=ei) ts (i:Int)).2.1.1 j)
theorem Ex {m:Fm} (hm:gj m.1=true) {P:List Pc} {top:Int} (hP:gY P top) (hl:P.length≤40) (hn:m.2.1.length≤4) (hr:Ci m.2.1) (hp:∀p∈P,0≤p.1∧p.1<64) (R:List Int) (hR:R.length≤4):
  ∀(k i p:Nat) (acc:List Int),i+k=m.2.1.length→p≤R.length→R.drop p=oq m.2.1 i k→acc.length≤40*i→(∀x∈acc,0≤x∧x<64)→
  ∃v v':List Int×Bool,uf.a P m acc R (R.length:Int) (p:Int)=some v∧mA.a P m acc (i:Int)=some v'∧v.2=v'.2∧v.1.length≤160∧v'.1.length≤64∧(v.2=true→∀n:Int,n∈v.1↔n∈v'.1):=by
 intro k
 induction k with
 |zero=>
  intro i p acc h hp' hd ha hx
  have hi:i=m.2.1.length:=by omega
  have hpe:p=R.length:=by
   have:(R.drop p).length=0:=by rw[hd];rfl
   rw[List.length_drop]at this;omega
  subst hi
  rw[hpe,uf.a_eq,ai,ak (aB _),ac,mA.a_eq,ai,ak (aB _),ac,NS,ab (show acc.length≤1048576 by omega)]
  simp only[ae,af]
  rw[NT,ab (show(iX acc).length≤1048576 by rw[yd];omega)]
  simp only[ae,af]
  obtain⟨L,l1,l2,l3⟩:=AJ acc (by omega) 64 0 [] (by omega) (by simp)
  have l1':mA.b acc [] 0=some (L,true):=l1
  rw[l1']
  refine⟨_,_,rfl,rfl,rfl, ?_,l2,fun _ n=> ?_⟩
  ·have:=Iv (iX acc);rw[yd]at this;simp only;omega
  ·simp only
   rw[Iu,It,l3 n]
   constructor
   ·intro h;have:=hx n h;exact .inr ⟨h,by omega,this.2⟩
   ·rintro(h|⟨h,_⟩)
    ·simp at h
    ·exact h
 |succ k ih=>
  intro i p acc h hp' hd ha hx
  have hi:i<m.2.1.length:=by omega
  rw[mA.a_eq,ai,aj,ab hi]
  simp only[ae]
  unfold oq at hd
  cases hs:decide ((rd (τ:=ei) m.2.1 (i:Int)).1=1)with
  |false=>
   rw[hs,ac]at hd
   simp only[Bool.not_false,ae]
   rw[an i _ hi (by omega)]
   exact ih (i+1) p acc (by omega) hp' hd (by omega) hx
  |true=>
   rw[hs,ae]at hd
   have hpl:p<R.length:=by
    have:(R.drop p).length=(oq m.2.1 (i+1) k).length+1:=by rw[hd];rfl
    rw[List.length_drop]at this;omega
   rw[List.drop_eq_getElem_cons hpl,aC]at hd
   obtain⟨hg,hd⟩:=hd
   rw[uf.a_eq,ai,aj,ab hpl,aV (τ:= .int .i64) R p hpl,hg]
   simp only[aH,ae,ac]
   obtain⟨r1,r2⟩:=hr i hi
   obtain⟨v,v',e1,e2,e3,e4⟩:=Et hm hP hl i hi r1 r2
   rw[e1,e2]
   simp only[af]
   rw[←e3]
   cases hv:v.2 with
   |false=>exact⟨_,_,rfl,rfl,rfl,by simp,by simp,fun h=>by cases h⟩
   |true=>
    obtain⟨w1,w2,w3⟩:=e4 hv
    simp only[aH,ac]
    rw[←w1]
    have c1:=NE m P R (R.length:Int) (p:Int) (by omega) v.1 w3 w2 v.1.length 0 acc (by omega) (by omega)
    have c2:=NF m P i hi hn v.1 w3 w2 v.1.length 0 acc (by omega) (by omega)
    rw[show((0:Nat):Int)=0 from rfl]at c1 c2
    rw[c1,c2,List.drop_zero,show(p:Int)+1=((p+1:Nat):Int) by omega]
    refine ih (i+1) (p+1) _ (by omega) (by omega) hd ?_ ?_
    ·rw[List.length_append];unfold rV;rw[List.length_map];omega
    ·intro x hx'
     rcases List.mem_append.1 hx' with hx'|hx'
     ·exact hx x hx'
     ·obtain⟨g,hg1,rfl⟩:=List.mem_map.1 hx'
      obtain⟨q,h0,h1⟩:=(w3 g hg1).p
      rw[h0]
      exact hp _ (au (τ:=pB) P q h1)
theorem Ey {m:Fm} (hm:gj m.1=true) {P:List Pc} {top:Int} (hP:gY P top) (hl:P.length≤40) (hn:m.2.1.length≤4) (hr:Ci m.2.1) (hp:∀p∈P,0≤p.1∧p.1<64):
  ∃v v':List Int×Bool,uf m P=some v∧mA m P=some v'∧v.2=v'.2∧v.1.length≤160∧v'.1.length≤64∧(v.2=true→∀n:Int,n∈v.1↔n∈v'.1):=by
 rw[ME,Qc,Ew m hn]
 simp only[af]
 have hl2:=ye m.2.1 m.2.1.length 0
 have:=Ex hm hP hl hn hr hp (oq m.2.1 0 m.2.1.length) (by omega) m.2.1.length 0 0 [] (by omega) (by omega) rfl (by simp) (by simp)
 exact this
def l5 (a b:List Int):Bool:=a.any fun x=>decide (x∈b)
theorem NG (a b:List Int) (ha:a.length≤1048576) (hb:b.length≤1048576):Vc a b=some (l5 a b):=by
 rw[MI,MH,MG]
 rw[cq (L:=JK.a b a (a.length:Int)) (fun i=>decide ((rd (τ:= .int .i64) a (i:Int))∈b)) a.length ?_ fun i hi=> ?_]
 ·simp only[af]
  rw[nv]
  congr 1
  unfold l5
  cases h:gk (fun i=>decide ((rd (τ:= .int .i64) a (i:Int))∈b)) 0 a.length with
  |true=>
   obtain⟨j,_,hj,hp⟩:=(fp _ _ _).1 h
   exact(List.any_eq_true.2 ⟨_,au (τ:= .int .i64) a j (by omega),hp⟩).symm
  |false=>
   symm
   rw[List.any_eq_false]
   intro x hx hxx
   obtain⟨j,hj,rfl⟩:=oe (τ:= .int .i64) hx
   have:=(fp (fun i=>decide ((rd (τ:= .int .i64) a (i:Int))∈b)) a.length 0).2 ⟨j,by omega,by omega,hxx⟩
   rw[h]at this;cases this
 ·rw[JK.a_eq,ai];simp
 ·rw[JK.a_eq,ai,aj,ab hi,an i _ hi (by omega),MF,(nq b _ hb).1];rfl
theorem NH (R L:List Int) (hR:R.length≤1048576) (hL:L.length≤1048576):Gk.a R L 0=some (l5 R L):=by
 rw[de (L:=Gk.a R L) (fun i=>decide ((rd (τ:= .int .i64) R (i:Int))∈L)) R.length (some true) fun i hi=> ?_]
 ·rw[Gk.a_eq,ai,ak (aB _),ac]
  unfold l5
  cases h:gk (fun i=>decide ((rd (τ:= .int .i64) R (i:Int))∈L)) 0 R.length with
  |true=>
   obtain⟨j,_,hj,hp⟩:=(fp _ _ _).1 h
   rw[List.any_eq_true.2 ⟨_,au (τ:= .int .i64) R j (by omega),hp⟩];rfl
  |false=>
   have:(R.any fun x=>decide (x∈L))=false:=by
    rw[List.any_eq_false]
    intro x hx hxx
    obtain⟨j,hj,rfl⟩:=oe (τ:= .int .i64) hx
    have:=(fp (fun i=>decide ((rd (τ:= .int .i64) R (i:Int))∈L)) R.length 0).2 ⟨j,by omega,by omega,hxx⟩
    rw[h]at this;cases this
   rw[this];rfl
 ·rw[Gk.a_eq,ai,aj,ab hi,an i _ hi (by omega),(nq L _ hL).2];rfl
theorem Ez (a b:List Int):l5 a b=l5 b a:=by
 rw[Bool.eq_iff_iff]
 unfold l5
 simp only[List.any_eq_true,aW]
 exact⟨fun⟨x,h,k⟩=>⟨x,k,h⟩,fun⟨x,h,k⟩=>⟨x,k,h⟩⟩
theorem AK {a a':List Int} (h:∀n,n∈a↔n∈a') (b:List Int):l5 a b=l5 a' b:=by
 rw[Bool.eq_iff_iff]
 unfold l5
 simp only[List.any_eq_true,aW]
 exact⟨fun⟨x,h1,k⟩=>⟨x,(h x).1 h1,k⟩,fun⟨x,h1,k⟩=>⟨x,(h x).2 h1,k⟩⟩
theorem EA {m:Fm} (hm:gj m.1=true) {P:List Pc} {top:Int} (hP:gY P top) (hl:P.length≤40) (hn:m.2.1.length≤4) (hr:Ci m.2.1) (hp:∀p∈P,0≤p.1∧p.1<64) (R:List Int) (hR:R.length≤1048576):
  ∃b:Bool,Vd m P R=some b∧Gk m P R=some b:=by
 obtain⟨v,v',e1,e2,e3,e4,e5,e6⟩:=Ey hm hP hl hn hr hp
 rw[MJ,Qd,e1,e2]
 simp only[af]
 rw[←e3]
 cases hv:v.2 with
 |false=>exact⟨true,rfl,rfl⟩
 |true=>
  simp only[aH,ac]
  rw[NG v.1 R (by omega) hR,NH R v'.1 hR (by omega),AK (e6 hv) R,Ez v'.1 R]
  exact⟨_,rfl,rfl⟩
noncomputable def rW (m:List eh) (x:Int):Int:=if 0≤c6 BL x then bt (rd (τ:=aL) m (c6 BL x)).2.2 (x-yW (c6 BL x).toNat)else 0
theorem mz (m:List eh):FR (rW m):=fun x=>by
 unfold rW
 split
 ·exact nf _ _
 ·exact⟨Int.le_refl 0,by show(0:Int)≤255;omega⟩
theorem EB (i:Nat) (hi:i<36) (x:Int) (h1:yW i≤x) (h2:x≤yW i+127):c6 BL x=(i:Int):=by
 obtain⟨k,q,e1,e2,e3,e4,e5⟩:=iv (m5 i hi x h1 h2)
 rw[jK]at e2
 have hk:dn (rd (τ:=gA) BL (k:Int)).1 x=true:=by rw[e3];unfold dn;simp[e4,e5]
 have hii:dn (rd (τ:=gA) BL (i:Int)).1 x=true:=by rw[B7];unfold dn;simp[h1,h2]
 have:=B8 i k x (by rw[jK];exact hi) (by rw[jK];exact e2) hii hk
 rw[e1,this]
theorem KN {m:List eh} {F:Int→Int} (hm:gj m=true) (hl:rJ m (aE F BL)=true):m=aE (rW m) BL:=by
 unfold rJ at hl
 rw[az,aW,eF]at hl
 obtain⟨hlen,hl⟩:=hl
 have hBL:(aE F BL).length=36:=by unfold aE;rw[List.length_map,jK]
 have hmlen:m.length=36:=hlen.trans hBL
 unfold gj at hm
 rw[az,eF]at hm
 apply List.ext_getElem
 ·rw[hmlen];unfold aE;rw[List.length_map,jK]
 ·intro i h1 h2
  have hi:i<36:=by omega
  have hp:=hl i (Nat.zero_le _) (by omega)
  have hq:=hm.2 i (Nat.zero_le _) (by omega)
  rw[iM F BL i (by rw[jK];exact hi)]at hp
  have e1:m[i]=rd (τ:=aL) m (i:Int):=(aV (τ:=aL) m i h1).symm
  have e2:(aE (rW m) BL)[i]=cC (rW m) (rd (τ:=gA) BL (i:Int)):=by
   rw[←iM (rW m) BL i (by rw[jK];exact hi)]
   exact(aV (τ:=aL) (aE (rW m) BL) i h2).symm
  refine e1.trans (Eq.trans ?_ e2.symm)
  have hb:=B7 i
  obtain⟨q,hqe⟩:∃q:Int×Int,rd (τ:=gA) BL (i:Int)=q:=⟨_,rfl⟩
  have hsz:(rd (τ:=aL) m (i:Int)).2.2.size=128:=by
   unfold Bm at hq
   cases g1:jn (rd (τ:=aL) m (i:Int)).1 with
   |false=>rw[g1]at hq;cases hq
   |true=>
    cases g2:dp (rd (τ:=aL) m (i:Int)).2.1 0 15 with
    |false=>rw[g1,g2]at hq;cases hq
    |true=>
     cases g3:decide (((rd (τ:=aL) m (i:Int)).2.2.size:Int)=128)with
     |false=>rw[g1,g2,g3]at hq;cases hq
     |true=>have:=of_decide_eq_true g3;omega
  have hrd:∀x:Int,yW i≤x→x≤yW i+127→rW m x=bt (rd (τ:=aL) m (i:Int)).2.2 (x-yW i):=fun x x1 x2=>by
   unfold rW
   rw[EB i hi x x1 x2,av (by omega),aP]
  rw[hqe]at hp hb⊢
  generalize rd (τ:=aL) m (i:Int)=pgm at*
  unfold xU cC at hp
  simp only[az,aW]at hp
  obtain⟨p1,p2,_⟩:=hp
  unfold cC
  refine Prod.ext p1 (Prod.ext p2 ?_)
  simp only
  refine Hz (by rw[fT,hsz]) fun j hj=> ?_
  rw[ul (mz m) q.1 (j:Int) (by omega) (by omega),hb,hrd _ (by omega) (by omega)]
  congr 1
  omega
theorem Iw:∀i:Fin 2,yW (18+i)=20480+128*((i:Nat):Int):=by decide+kernel
theorem AL {x:Int} (h1:20480≤x) (h2:x<20736):0≤c6 BL x:=by
 have hk:((x-20480)/128).toNat<2:=by omega
 have hb:=Iw ⟨((x-20480)/128).toNat,hk⟩
 simp only at hb
 refine m5 (18+((x-20480)/128).toNat) (by omega) x ?_ ?_<;>rw[hb]<;>omega
def Cj (o:bq) (l:e7):Prop:=∀i:Nat,i<o.2.2.2.1.length→∃x:Int,rd (τ:= .int .i64) l.2.2.1 (i:Int)=x∧20480≤x∧x+(kj o i:Int)≤20736
theorem AM {t:List dg} {a b:bH} {o:bq} {v:e7×bH×bH×Int} (h:uh t a b o v) (hb:cB b) (h1:b.1=20480) (h2:b.2.1=256):Cj o v.1:=by
 intro i hi
 have hok:=h.ok
 unfold dm at hok
 simp only[az]at hok
 have hlen:=co (kj o) o.2.2.2.1.length 0 b
 have:=As (kj o) o.2.2.2.1.length 0 b hb hok.2 i (by rw[hlen];exact hi)
 have e:(rd (τ:= .int .i64) v.1.2.2.1 (i:Int):Int)=(cP (kj o) b 0 o.2.2.2.1.length).2.1[i]'(by rw[hlen];exact hi):=by
  rw[h.das]
  exact aV (τ:= .int .i64) _ i (by show i< (cP (kj o) b 0 o.2.2.2.1.length).2.1.length;rw[hlen];exact hi)
 refine⟨_,rfl, ?_⟩
 rw[e]
 rw[Nat.zero_add]at this
 omega
theorem AN (o:bq) (l:e7) (hz:ObjSz o) (hl:ft o l) (he:Cj o l) (x4 x4':List eh):∀(k i:Nat) (F:Int→Int),FR F→i+k=o.2.2.2.1.length→∃F',FR F'∧
  Hm.a (aE F BL) l x4 l.2.2.1 (l.2.2.1.length:Int) (i:Int)=some (aE F' BL)∧IK.a (aE F BL) l x4' (i:Int)=some (aE F' BL):=by
 have hd:=hz.d
 have la:=hl.d
 have lb:=hl.b
 intro k
 induction k with
 |zero=>
  intro i F hF h
  have e1:i=l.2.2.1.length:=by omega
  have e2:i=l.2.2.2.length:=by omega
  refine⟨F,hF, ?_, ?_⟩
  ·rw[e1,Hm.a_eq,ai,ak (aB _),ac]
  ·rw[e2,IK.a_eq,ai,ak (aB _),ac]
 |succ k ih=>
  intro i F hF h
  have hi:i<o.2.2.2.1.length:=by omega
  obtain⟨x,hx,x1,x2⟩:=he i hi
  have hs:=hl.bs i hi
  rw[Hm.a_eq,IK.a_eq,ai,ai,aj,aj,ab (show i<l.2.2.1.length by omega),ab (show i<l.2.2.2.length by omega),hx,an i 1048576 (by omega) (by omega)]
  simp only[ae]
  rw[rp hF x (rd (τ:= .str) l.2.2.2 (i:Int)) ⟨by omega,by omega,by omega⟩ BL HJ,lm hF x (rd (τ:= .str) l.2.2.2 (i:Int)) (by omega) (by omega) (fun y y1 y2=>AL (by omega) (by omega))]
  simp only[af]
  exact ih (i+1) _ (dS hF _ _) (by omega)
theorem NI {τ:Ty} (l:List τ.den) (i:Nat) (h:i<l.length):l.set i (rd (τ:=τ) l (i:Int))=l:=by
 rw[aV _ _ h]
 apply List.ext_getElem
 ·simp
 ·intro j h1 h2
  rw[List.getElem_set]
  split
  ·rename_i e;subst e;rfl
  ·rfl
theorem KO {τ:Ty} (l:List τ.den) (i:Nat) (h:i<l.length):l.take i++[rd (τ:=τ) l (i:Int)]=l.take (i+1):=by
 rw[aV _ _ h,List.take_succ_eq_append_getElem h]
theorem yf (l:List La) (h:l.length≤1048576) (hb:∀x∈l,x.2.2.1.length≤1048576):Hi l=some l:=by
 rw[Mf,NN,bj (by omega) (by omega)]
 simp only[ae,af]
 have key:∀(k i:Nat),i+k=l.length→Hi.a l (l.length:Int) (i:Int)=some l:=by
  intro k
  induction k with
  |zero=>
    intro i hi;have:i=l.length:=by omega
    subst this;rw[Hi.a_eq,ai,ak (aB _),ac]
  |succ k ih=>
   intro i hi
   have hi':i<l.length:=by omega
   have:=hb _ (au (τ:=ei) l i hi')
   rw[Hi.a_eq,ai,aj,ab hi',AR,bj (by omega) (by omega),an i _ hi' (by omega),aP]
   simp only[ae,af,letB]
   have e:=NI (τ:=ei) l i hi'
   have e':l.set i ((rd (τ:=ei) l (i:Int)).1,(rd (τ:=ei) l (i:Int)).2.1,(rd (τ:=ei) l (i:Int)).2.2.1,(rd (τ:=ei) l (i:Int)).2.2.2)=l:=e
   rw[e']
   exact ih (i+1) (by omega)
 exact key l.length 0 (by omega)
theorem KP (o:bq) (h:xW DJ o):U6 o=some o:=by
 obtain⟨_,_,h1,h2,h3,h4⟩:=h
 have a1:o.2.2.1.length≤1048576:=h1.1
 have a2:o.2.2.2.1.length≤1048576:=h2.1
 have a3:o.2.2.2.2.1.length≤1048576:=h3.1
 have a4:o.2.2.2.2.2.length≤1048576:=h4.1
 rw[Mh,NO,bj (by omega) (by omega),NP,bj (by omega) (by omega),NQ,bj (by omega) (by omega),NR,bj (by omega) (by omega)]
 rfl
theorem nd {n b:Nat} (h:n*b≤140737488355328) (h':n≤140737488355328):aw (0+n) b=true:=by rw[Nat.zero_add];exact bj h h'
theorem Ix (o:bq) (h:xW DJ o):VQ o=some o:=by
 obtain⟨_,_,h1,h2,h3,h4⟩:=h
 have a1:o.2.2.1.length≤1048576:=h1.1
 have a2:o.2.2.2.1.length≤1048576:=h2.1
 have a3:o.2.2.2.2.1.length≤1048576:=h3.1
 have a4:o.2.2.2.2.2.length≤1048576:=h4.1
 rw[Qg,nd (by omega) (by omega),nd (by omega) (by omega),nd (by omega) (by omega),nd (by omega) (by omega)]
 rfl
theorem o8 (l:List FW) (h:l.length≤1048576) (hb:∀x∈l,xW ck x):Hj l=some l∧IL l=some l:=by
 have key:∀(k i:Nat),i+k=l.length→Hj.a (l.take i) l (l.length:Int) (i:Int)=some l∧IL.a l (l.take i) (i:Int)=some l:=by
  intro k
  induction k with
  |zero=>
   intro i hi
   have:i=l.length:=by omega
   subst this
   rw[Hj.a_eq,ai,ak (aB _),ac,IL.a_eq,ai,ak (aB _),ac,List.take_length]
   exact⟨rfl,rfl⟩
  |succ k ih=>
   intro i hi
   have hi':i<l.length:=by omega
   obtain⟨g1,g2,g3⟩:=hb _ (au (τ:=ck) l i hi')
   obtain⟨k1,k2,k3,k4⟩:=g2
   have b1:(rd (τ:=ck) l (i:Int)).2.1.1.length≤1048576:=k1.1
   have b2:(rd (τ:=ck) l (i:Int)).2.1.2.1.length≤1048576:=k2.1
   have b3:(rd (τ:=ck) l (i:Int)).2.1.2.2.1.length≤1048576:=k3.1
   have b4:(rd (τ:=ck) l (i:Int)).2.1.2.2.2.length≤1048576:=k4.1
   have b5:(rd (τ:=ck) l (i:Int)).2.2.length≤1048576:=g3.1
   have ht:(l.take i).length=i:=by rw[List.length_take];omega
   have e:=KO (τ:=ck) l i hi'
   obtain⟨i1,i2⟩:=ih (i+1) (by omega)
   constructor
   ·rw[Hj.a_eq,ai,aj,ab hi',KP _ g1,NM,bj (n:=(rd (τ:=ck) l (i:Int)).2.2.length) (by omega) (by omega),AR,bj (n:=(rd (τ:=ck) l (i:Int)).2.1.1.length) (by omega) (by omega),Iy,bj (n:=(rd (τ:=ck) l (i:Int)).2.1.2.1.length) (by omega) (by omega),AR,bj (n:=(rd (τ:=ck) l (i:Int)).2.1.2.2.1.length) (by omega) (by omega),Iy,bj (n:=(rd (τ:=ck) l (i:Int)).2.1.2.2.2.length) (by omega) (by omega),an i _ hi' (by omega)]
    simp only[ae,af]
    rw[bj (by rw[ht];simp;omega) (by rw[ht];simp;omega),ae]
    rw[←e]at i1
    exact i1
   ·rw[IL.a_eq,ai,aj,ab hi',Ix _ g1,an i _ hi' (by omega)]
    simp only[ae,af]
    rw[nd (n:=(rd (τ:=ck) l (i:Int)).2.1.1.length) (by omega) (by omega),nd (n:=(rd (τ:=ck) l (i:Int)).2.1.2.1.length) (by omega) (by omega),nd (n:=(rd (τ:=ck) l (i:Int)).2.1.2.2.1.length) (by omega) (by omega),nd (n:=(rd (τ:=ck) l (i:Int)).2.1.2.2.2.length) (by omega) (by omega),nd (n:=(rd (τ:=ck) l (i:Int)).2.2.length) (by omega) (by omega)]
    simp only[ae]
    rw[bj (by rw[ht];simp;omega) (by rw[ht];simp;omega),ae]
    rw[←e]at i2
    exact i2
 rw[Mi,Qh]
 exact key l.length 0 (by omega)
theorem KQ (s:Sc) (hb:xW TSys s):U7 s=some s:=by
 obtain⟨hi,hm,hp⟩:=hb
 have a1:s.1.2.2.length≤1048576:=hi.2.2.1
 have a2:s.2.1.1.length≤1048576:=hm.1.1
 have a3:s.2.1.2.1.length≤1048576:=hm.2.1.1
 have a4:s.2.1.2.2.1.length≤1048576:=hm.2.2.1.1
 have a5:s.2.1.2.2.2.length≤1048576:=hm.2.2.2.1
 rw[Mj,Me,NK,bj (by omega) (by omega),Mg,IU,Iz,bj (by omega) (by omega),yf s.2.1.2.1 a3 (fun x hx=>(hm.2.1.2 x hx).2.2.1.1),AQ,bj (by omega) (by omega),NL,bj (by omega) (by omega),(o8 s.2.2 hp.1 hp.2).1]
 rfl
def kf (t:List dg) (o:bq):Nat→Nat→List Int
 |_,0=>[]
 |i,k+1=>bif (rd (τ:=aS) o.2.2.1 (i:Int)).2.1 then cD t (rd (τ:=aS) o.2.2.1 (i:Int)).1::kf t o (i+1) k else kf t o (i+1) k
theorem uD (t:List dg) (o:bq):∀k i,(kf t o i k).length≤k
 |0,i=>by simp[kf]
 |k+1,i=>by
  unfold kf
  have:=uD t o k (i+1)
  cases (rd (τ:=aS) o.2.2.1 (i:Int)).2.1<;>simp<;>omega
theorem tv (t:List dg) (o:bq) (ht:t.length≤1048576) (hz:ObjSz o):FH o t false=some (kf t o 0 o.2.2.1.length)∧Gl t o=some (kf t o 0 o.2.2.1.length):=by
 have hf:=hz.f
 have key:∀(k i:Nat) (acc:List Int),i+k=o.2.2.1.length→acc.length≤i→FH.a t false acc o.2.2.1 (o.2.2.1.length:Int) (i:Int)=some (acc++kf t o i k)∧Gl.a t o acc (i:Int)=some (acc++kf t o i k):=by
  intro k
  induction k with
  |zero=>
   intro i acc hi ha
   have:i=o.2.2.1.length:=by omega
   subst this
   rw[FH.a_eq,ai,ak (aB _),ac,Gl.a_eq,ai,ak (aB _),ac]
   simp[kf]
  |succ k ih=>
   intro i acc hi ha
   have hi':i<o.2.2.1.length:=by omega
   rw[FH.a_eq,ai,aj,ab hi',an i _ hi' (by omega),Gl.a_eq,ai,aj,ab hi',an i _ hi' (by omega),(dJ t _ ht).1,(dJ t _ ht).2]
   simp only[ae,af,aA]
   unfold kf
   cases (rd (τ:=aS) o.2.2.1 (i:Int)).2.1 with
   |true=>
    simp only[ae]
    rw[bj (by simp;omega) (by simp;omega)]
    simp only[ae]
    have:=ih (i+1) (acc++[cD t (rd (τ:=aS) o.2.2.1 (i:Int)).1]) (by omega) (by simp;omega)
    rw[bl]at this
    exact this
   |false=>
    simp only[ac]
    exact ih (i+1) acc (by omega) (by omega)
 rw[MK,Qe]
 have:=key o.2.2.1.length 0 [] (by omega) (by simp)
 simpa using this
theorem vZ (ps:List FW) (hp:ps.length≤6) (hO:∀j:Nat,j<ps.length→lD (rd (τ:=ck) ps (j:Int)).1=true) (t:List dg) (P:List Pc) (F:Int→Int) (a b:bH) (hL:vK ps.length t P F a b) (x:ByteArray) (hx:¬(x.size:Int)>65536):
  ∃(oI oS:bq) (lI lS:e7) (c:Int) (yI:Ko),vC (t,P,aE F BL,a,b) ps x=some (oI,lI,c,yI,ps)∧VM (t,a,b,P,aE F BL) ps x=some (oS,lS,c)∧
   (c=0→oI=oS∧lI=lS∧lD oS=true∧pn oS∧yI.1.length≤1048576∧∃A B,uh t a b oS (lS,A,B,0)):=by
 obtain⟨v,v1,v3,hv,h1,h2,h3,h4,h5⟩:=Eu x hx
 have hr:=Ch hv
 obtain⟨o,fl⟩:=v
 simp only at hr h5 hv h1 h2 h3 h4
 rw[Mv,PZ,v1,v3]
 simp only[af]
 by_cases hf:fl=0
 ·subst hf
  have ho:=h5 rfl
  have hob:=hZ ho
  simp only[decide_true,aH,ac]
  by_cases h6:(ps.length:Int)=6
  ·rw[ab h6]
   exact⟨_,_,_,_,_,_,rfl,rfl,fun h=>by cases h⟩
  ·rw[ak h6]
   simp only[ac]
   by_cases hd:o.2.1=(ps.length:Int)
   ·rw[ab hd]
    simp only[aH,ac]
    have hsz:∀j:Nat,j<ps.length→ObjSz (rd (τ:=ck) ps (j:Int)).1:=fun j hj=>(hZ (hO j hj)).toObjSz
    rw[na ps o hp hsz hob.toObjSz]
    simp only[af]
    rw[de (L:=vC.a (t,P,aE F BL,a,b) ps zO ([],[],[],[]) o (ps.length:Int)) (fun j=>decide ((rd (τ:=ck) ps (j:Int)).1.1=o.1)) ps.length (some (zO,([],[],[],[]),24,(t,P,aE F BL,a,b),ps)) fun j hj=> ?_]
    ·show∃oI oS lI lS c yI,(bif jM ps o then _ else _)=_∧_
     cases hna:jM ps o with
     |true=>exact⟨_,_,_,_,_,_,rfl,rfl,fun h=>by cases h⟩
     |false=>
      simp only[ac]
      rw[vC.a_eq,ai,ak (aB _),ac]
      rw[de (L:=vC.b (t,P,aE F BL,a,b) ps zO ([],[],[],[]) o (ps.length:Int)) (fun j=>oo (rd (τ:=ck) ps (j:Int)).1 o) ps.length (some (zO,([],[],[],[]),30,(t,P,aE F BL,a,b),ps)) fun j hj=> ?_]
      ·show∃oI oS lI lS c yI,(bif gZ ps o then _ else _)=_∧_
       cases hsa:gZ ps o with
       |true=>exact⟨_,_,_,_,_,_,rfl,rfl,fun h=>by cases h⟩
       |false=>
        simp only[ac,decide_true,aH]
        rw[vC.b_eq,ai,ak (aB _),ac,bf (n:=(ps.length:Int)+1) (by omega) (by omega),show(ps.length:Int)+1=((ps.length+1:Nat):Int) by omega]
        obtain⟨v,e1,e2,e3⟩:=xT ps.length (by omega) t P F a b hL o hr ho
        rw[e1]
        simp only[af]
        by_cases hv0:v.2.2.2=0
        ·obtain⟨t',P',F',sv,hsv,hL',hl',g1,g2⟩:=e3 hv0
         rw[g1]
         refine⟨_,_,_,_,_,_,rfl,by rw[hv0],fun _=>⟨rfl,rfl,ho,hr, ?_,v.2.1,v.2.2.1, ?_⟩⟩
         ·have:=hL'.len;simp only;omega
         ·obtain⟨u,u1,u2,u3⟩:=uk t a b o hr (rz.2 hL.tab) hL.aR hL.bR ho
          rw[e1]at u2
          have:v=u:=Option.some.inj u2
          subst this
          have:=u3 hv0
          rw[←hv0];exact this
        ·obtain⟨y,g1⟩:=e2 hv0
         rw[g1]
         exact⟨_,_,_,_,_,_,rfl,rfl,fun h=>absurd h hv0⟩
      ·rw[vC.b_eq,ai,aj,ab hj,an j _ hj (by omega),uv _ _ (hsz j hj) hob.toObjSz]
       rfl
    ·rw[vC.a_eq,ai,aj,ab hj,an j _ hj (by omega),a9]
     rfl
   ·rw[ak hd]
    exact⟨_,_,_,_,_,_,rfl,rfl,fun h=>by cases h⟩
 ·rw[ak hf]
  exact⟨_,_,_,_,_,_,rfl,rfl,fun h=>absurd h hf⟩
theorem AO (s:Sc) (hw:mX TSys s) (hb:xW TSys s) (hm:tF s.2.1=true) (hn:s.2.2.length≤6) (hO:∀j:Nat,j<s.2.2.length→lD (rd (τ:=ck) s.2.2 (j:Int)).1=true) (t:List dg) (P:List Pc) (F:Int→Int) (a b:bH) (hL:vK s.2.2.length t P F a b)
  (hlk:rJ s.2.1.1 (aE F BL)=true) (x:ByteArray) (hx:¬(x.size:Int)>65536):
  ∃(c:Int) (u v:Sc),Ve s (t,P,aE F BL,a,b) x=some (c,u)∧VR s (t,a,b,P,aE F BL) x=some (v,c):=by
 have hpl:=hL.pl
 have hlen:=hL.len
 obtain⟨oI,oS,lI,lS,c,yI,g1,g2,g3⟩:=vZ s.2.2 hn hO t P F a b hL x hx
 rw[MM,Qi,NJ]
 simp only
 rw[bj (by omega) (by omega)]
 simp only[ae,af]
 rw[g1,g2]
 simp only[af]
 by_cases hc:c=0
 ·obtain⟨rfl,rfl,ho,hr,hy,A,B,hR⟩:=g3 hc
  subst hc
  have hob:=hZ ho
  simp only[decide_true,aH,ac]
  obtain⟨r1,r2⟩:=tv t oI (by omega) hob.toObjSz
  rw[r1,r2]
  simp only[af]
  have hmm:gj s.2.1.1=true:=by
   unfold tF at hm;rw[az]at hm;exact hm.1
  have hth:s.2.1.2.1.length≤4:=by
   unfold tF at hm
   simp only[az]at hm
   have:=hm.2.2.2
   unfold yL at this
   simp only[az]at this
   have:=bI.1 this.1
   omega
  have hthr:Ci s.2.1.2.1:=fun i hi=>by
   have:=hw.2.1.2.1.2 _ (au (τ:=ei) s.2.1.2.1 i hi)
   exact⟨this.2.1.2,fun q=>KM _ this.2.1.1.2 q⟩
  have hfun:=hob.f
  obtain⟨bz,b1,b2⟩:=EA hmm hL.pk (by omega) hth hthr (fun p hp=>by have:=hL.pcs p hp;omega) (kf t oI 0 oI.2.2.1.length) (by have:=uD t oI oI.2.2.1.length 0;omega)
  rw[b1,b2]
  simp only[af]
  cases bz with
  |true=>exact⟨_,_,_,rfl,rfl⟩
  |false=>
   simp only[ac]
   have hl:=hR.lnk
   have hp:=rC hR hL.aR hL.a1 hL.a2
   obtain⟨n1,n2⟩:=kQ hR.names
   have hmf:=KN hmm hlk
   obtain⟨c1,c2⟩:=rD oI lI t hob.toObjSz hl hp [] oI.2.2.1.length 0 (rW s.2.1.1) (mz _) (by omega)
   obtain⟨G',sv,hG',_,hsv,j1,j2⟩:=rE oI lI t (by omega) hob.toObjSz hl hp hL.fin (fun i hi hrep=>B9 (n1 i hi) hrep) (fun i hi _=>HV hL.tab i hi) (fun _=>True) (fun _ _ _ _ _ _ _ _=>trivial) oI.2.2.1.length 0 (gX (rW s.2.1.1) lI 0 oI.2.2.1.length) [] (jL lI _ _ _ (mz _)) (by omega) (by simp)
   have hi:qa s.2.1.1 t oI lI=some (aE G' BL,sv):=by rw[hmf,IY];exact c1.trans j1
   have hs:p7 s.2.1.1 t oI lI=some (aE G' BL,sv):=by rw[hmf,IG];exact c2.trans j2
   rw[hi,hs]
   simp only[af]
   obtain⟨G2,hG2,d1,d2⟩:=AN oI lI hob.toObjSz hl (AM hR hL.bR hL.b1 hL.b2) [] [] oI.2.2.2.1.length 0 G' hG' (by omega)
   have d1':Hm (aE G' BL) lI=some (aE G2 BL):=by rw[ML];exact d1
   have d2':IK (aE G' BL) lI=some (aE G2 BL):=by rw[Qf];exact d2
   rw[d1',d2']
   simp only[af]
   rw[AQ,bj (n:=yI.1.length) (by omega) (by omega),lX t oI lI _ (by omega) hob.toObjSz hl,(o8 s.2.2 hb.2.2.1 hb.2.2.2).2]
   simp only[ae,af]
   rw[bj (n:=s.2.2.length+[(oI,lI,sv)].length) (by simp;omega) (by simp;omega)]
   exact⟨_,_,_,rfl,rfl⟩
 ·rw[ak hc]
  exact⟨_,_,_,rfl,rfl⟩
theorem AP (s:Sc) (hw:mX TSys s) (hb:xW TSys s) (x:ByteArray):∃c:Int,Vf s x=some c∧VS s x=some c:=by
 rw[MO,MN,Qj,IM]
 simp only[af]
 by_cases hx:(x.size:Int)>65536
 ·rw[ab hx];exact⟨_,rfl,rfl⟩
 ·rw[ak hx]
  simp only[ac]
  obtain⟨rI,rS,f1,f2,f3,f4⟩:=vN s (Ik hw.2.2)
  rw[f1,f2]
  simp only[af]
  rw[←f3]
  cases hr:rI.2 with
  |false=>exact⟨_,rfl,rfl⟩
  |true=>
   obtain⟨⟨n1,n2,n3⟩,t,P,F,a,b,g1,g2,g3,g4,_⟩:=f4 hr
   obtain⟨c,u,v,e1,e2⟩:=AO s hw hb n2 n1 n3 t P F a b g3 g4 x hx
   simp only[aH,ac]
   rw[KQ s hb,g1,g2]
   simp only[af]
   rw[e1,e2]
   exact⟨c,rfl,rfl⟩
theorem rX (s:Sc) (hw:mX TSys s) (x:ByteArray):Wm s x=some true:=by
 rw[Nm]
 by_cases hz:(x.size:Int)>1048576
 ·rw[ab hz];rfl
 ·rw[ak hz]
  obtain⟨r,e1,e2,e3⟩:=DS s hw 1048576 ⟨by decide,by decide⟩
  rw[e1]
  simp only[ac,af]
  by_cases h:r<0
  ·rw[ab h];rfl
  ·have hb:=e3 (by omega)
   obtain⟨c,c1,c2⟩:=AP s hw hb x
   rw[ak h,Ed s hw hb]
   simp only[af,ac]
   rw[c1,c2]
   simp only[af,decide_true,aH,ac]
   have:=Ep s hw hb
   rw[this]
   rfl
end Go.Proofs.YtpnefldgohbepaaGreat.S
