import Derived.Test.YtijpmnicihmoaaaGreatDoorSxPa
namespace Go.Proofs.YtijpmnicihmoaaaGreatDoor.S
open Go.Ps
set_option linter.unusedVariables false
set_option maxRecDepth 100000
theorem dT {τ:Ty} (f:List τ.den→Int→Option (Int×List τ.den)) (L:List τ.den→Int→Int→Option (Int×List τ.den)) (c:Nat) (hf:∀x m,f x m=L x m 0)
  (step:∀(y:List τ.den) (m:Int) (i:Nat),y.length≤1048576→i<y.length→yl τ (rd (τ:=τ) y (i:Int))→1≤m→m+c≤4611686018427387904→∃z m',L y m (i:Int)=L (y.set i z) m' ((i+1:Nat):Int)∧m≤m'∧m'≤m+c)
  (last:∀(y:List τ.den) (m:Int),L y m (y.length:Int)=some (m,y)):vN (.list τ) f (c*1048576):=by
 intro x hb m h1 h2
 have hx:List.length x≤1048576:=hb.1
 have hc:=Nat.mul_le_mul_left c hx
 obtain⟨r,e,a,b⟩:=J3 L c x.length hx (fun y m i h=>step y m i (by omega)) (fun y m h=>by rw[←h];exact last y m) x.length 0 x (by omega) rfl (fun j _ h=>hb.2 _ (aw (τ:=τ) x j h)) m h1 (by omega)
 exact⟨r,by rw[hf];exact e,a,by omega⟩
theorem Az:vN (.list bx) Fv (5*1048576):=by
 refine dT (τ:=bx) Fv Fv.a 5 (fun x m=>by rw[PM]) (fun y m i hy hi _ h1 h2=> ?_) fun y m=> ?_
 ·rw[Fv.a_eq,ai,ab hi,aj]
  simp only[ae,letB,List.length_set,aj,ab hi,aB]
  rw[aU (n:=m+1) (by omega) (by omega),aU (n:=m+1+1) (by omega) (by omega),aU (n:=m+1+1+1) (by omega) (by omega),aU (n:=m+1+1+1+1) (by omega) (by omega),aU (n:=m+1+1+1+1+1) (by omega) (by omega),an i _ hi (by omega)]
  simp only[cL (m) (by omega) (by omega),af,List.set_set]
  exact⟨_,_,rfl,by omega,by omega⟩
 ·rw[Fv.a_eq,ai,am (az _),ac]
theorem Es:vN (.list aW) Fx (6*1048576):=by
 refine dT (τ:=aW) Fx Fx.a 6 (fun x m=>by rw[PS]) (fun y m i hy hi _ h1 h2=> ?_) fun y m=> ?_
 ·rw[Fx.a_eq,ai,ab hi,aj]
  simp only[ae,letB,List.length_set,aj,ab hi,aB]
  rw[aU (n:=m+1) (by omega) (by omega),aU (n:=m+1+1) (by omega) (by omega),aU (n:=m+1+1+1) (by omega) (by omega),aU (n:=m+1+1+1+1) (by omega) (by omega),aU (n:=m+1+1+1+1+1) (by omega) (by omega),aU (n:=m+1+1+1+1+1+1) (by omega) (by omega),an i _ hi (by omega)]
  simp only[cL (m) (by omega) (by omega),af,List.set_set]
  exact⟨_,_,rfl,by omega,by omega⟩
 ·rw[Fx.a_eq,ai,am (az _),ac]
theorem Ix:vN (.list aN) Fw (3*1048576):=by
 refine dT (τ:=aN) Fw Fw.a 3 (fun x m=>by rw[PO]) (fun y m i hy hi _ h1 h2=> ?_) fun y m=> ?_
 ·rw[Fw.a_eq,ai,ab hi,aj]
  simp only[ae,letB,List.length_set,aj,ab hi,aB]
  rw[aU (n:=m+1) (by omega) (by omega),aU (n:=m+1+1) (by omega) (by omega),aU (n:=m+1+1+1) (by omega) (by omega),an i _ hi (by omega)]
  simp only[cL (m+1+1) (by omega) (by omega),af,List.set_set]
  exact⟨_,_,rfl,by omega,by omega⟩
 ·rw[Fw.a_eq,ai,am (az _),ac]
theorem AA:vN (.list po) Fy (3*1048576):=by
 refine dT (τ:=po) Fy Fy.a 3 (fun x m=>by rw[PT]) (fun y m i hy hi _ h1 h2=> ?_) fun y m=> ?_
 ·rw[Fy.a_eq,ai,ab hi,aj]
  simp only[ae,letB,List.length_set,aj,ab hi,aB]
  rw[aU (n:=m+1) (by omega) (by omega),aU (n:=m+1+1) (by omega) (by omega),aU (n:=m+1+1+1) (by omega) (by omega),an i _ hi (by omega)]
  simp only[List.set_set]
  exact⟨_,_,rfl,by omega,by omega⟩
 ·rw[Fy.a_eq,ai,am (az _),ac]
theorem sR:vN (.list aP) Fz (4*1048576):=by
 refine dT (τ:=aP) Fz Fz.a 4 (fun x m=>by rw[PW]) (fun y m i hy hi _ h1 h2=> ?_) fun y m=> ?_
 ·rw[Fz.a_eq,ai,ab hi,aj]
  simp only[ae,letB,List.length_set,aj,ab hi,aB]
  rw[aU (n:=m+1) (by omega) (by omega),aU (n:=m+1+1) (by omega) (by omega),aU (n:=m+1+1+1) (by omega) (by omega),aU (n:=m+1+1+1+1) (by omega) (by omega),an i _ hi (by omega)]
  simp only[cL (m) (by omega) (by omega),cL (m+1+1+1) (by omega) (by omega),af,List.set_set]
  exact⟨_,_,rfl,by omega,by omega⟩
 ·rw[Fz.a_eq,ai,am (az _),ac]
theorem sS:vN (.list bB) FA (2*1048576):=by
 refine dT (τ:=bB) FA FA.a 2 (fun x m=>by rw[PX]) (fun y m i hy hi _ h1 h2=> ?_) fun y m=> ?_
 ·rw[FA.a_eq,ai,ab hi,aj]
  simp only[ae,letB,List.length_set,aj,ab hi,aB]
  rw[aU (n:=m+1) (by omega) (by omega),aU (n:=m+1+1) (by omega) (by omega),an i _ hi (by omega)]
  simp only[cL (m) (by omega) (by omega),cL (m+1) (by omega) (by omega),af,List.set_set]
  exact⟨_,_,rfl,by omega,by omega⟩
 ·rw[FA.a_eq,ai,am (az _),ac]
theorem Et:vN (.list cu) FB (5*1048576):=by
 refine dT (τ:=cu) FB FB.a 5 (fun x m=>by rw[PY]) (fun y m i hy hi _ h1 h2=> ?_) fun y m=> ?_
 ·rw[FB.a_eq,ai,ab hi,aj]
  simp only[ae,letB,List.length_set,aj,ab hi,aB]
  rw[aU (n:=m+1) (by omega) (by omega),aU (n:=m+1+1) (by omega) (by omega),aU (n:=m+1+1+1) (by omega) (by omega),aU (n:=m+1+1+1+1) (by omega) (by omega),aU (n:=m+1+1+1+1+1) (by omega) (by omega),an i _ hi (by omega)]
  simp only[cL (m+1+1+1) (by omega) (by omega),af,List.set_set]
  exact⟨_,_,rfl,by omega,by omega⟩
 ·rw[FB.a_eq,ai,am (az _),ac]
theorem rM:vN (.list dR) FC (2*1048576):=by
 refine dT (τ:=dR) FC FC.a 2 (fun x m=>by rw[PZ]) (fun y m i hy hi _ h1 h2=> ?_) fun y m=> ?_
 ·rw[FC.a_eq,ai,ab hi,aj]
  simp only[ae,letB,List.length_set,aj,ab hi,aB]
  rw[aU (n:=m+1) (by omega) (by omega),aU (n:=m+1+1) (by omega) (by omega),an i _ hi (by omega)]
  simp only[List.set_set]
  exact⟨_,_,rfl,by omega,by omega⟩
 ·rw[FC.a_eq,ai,am (az _),ac]
theorem Iy:vN (.list gu) FD (2*1048576):=by
 refine dT (τ:=gu) FD FD.a 2 (fun x m=>by rw[P0]) (fun y m i hy hi _ h1 h2=> ?_) fun y m=> ?_
 ·rw[FD.a_eq,ai,ab hi,aj]
  simp only[ae,letB,List.length_set,aj,ab hi,aB]
  rw[aU (n:=m+1) (by omega) (by omega),aU (n:=m+1+1) (by omega) (by omega),an i _ hi (by omega)]
  simp only[List.set_set]
  exact⟨_,_,rfl,by omega,by omega⟩
 ·rw[FD.a_eq,ai,am (az _),ac]
theorem vE:vN (.list (.int .i64)) Bv (1*1048576):=by
 refine dT (τ:=(.int .i64)) Bv Bv.a 1 (fun x m=>by rw[PQ]) (fun y m i hy hi _ h1 h2=> ?_) fun y m=> ?_
 ·rw[Bv.a_eq,ai,ab hi,aj]
  simp only[ae,ab hi,aB]
  rw[aU (n:=m+1) (by omega) (by omega),an i _ hi (by omega)]
  skip
  exact⟨_,_,rfl,by omega,by omega⟩
 ·rw[Bv.a_eq,ai,am (az _),ac]
theorem rN:vN (.list .str) vM (1*1048576):=by
 refine dT (τ:= .str) vM vM.a 1 (fun x m=>by rw[Hz]) (fun y m i hy hi _ h1 h2=> ?_) fun y m=> ?_
 ·rw[vM.a_eq,ai,ab hi,aj]
  simp only[ae,ab hi,aB]
  rw[aU (n:=m+1) (by omega) (by omega),an i _ hi (by omega)]
  simp only[cL (m) (by omega) (by omega),af]
  exact⟨_,_,rfl,by omega,by omega⟩
 ·rw[vM.a_eq,ai,am (az _),ac]
theorem J6 (y0:List Oy) (i:Nat) (hn:y0.length≤1048576) (hi:i<y0.length):∀(k j:Nat),j+k=32→∀(y:List Oy) (m:Int),y.length=y0.length→(∃z,y=y0.set i z)→yl (.list (.int .i64)) (rd (τ:=fq) y (i:Int)).2.2.1→1≤m→m+(k+2+1048576:Nat)≤4611686018427387904→
  ∃z m',sD.b y m (i:Int) (j:Int)=sD.a (y0.set i z) m' ((i+1:Nat):Int)∧m≤m'∧m'≤m+(k+2+1048576:Nat):=by
 intro k
 induction k with
 |zero=>
  intro j hj y m hy hz hb h1 h2
  obtain⟨z,rfl⟩:=hz
  rw[List.length_set]at hy
  have:j=32:=by omega
  subst this
  rw[c8 (τ:=fq) _ _ _ hi]at hb
  obtain⟨r,e,a,b⟩:=vE z.2.2.1 hb (m+1) (by omega) (by omega)
  rw[sD.b_eq,show decide (((32:Nat):Int)<32)=false from rfl]
  simp only[ac,ae,letB,List.length_set,aj,ab hi,aB,List.set_set,aU (n:=m+1) (by omega) (by omega)]
  rw[c8 (τ:=fq) _ _ _ hi,c8 (τ:=fq) _ _ _ hi,e]
  simp only[af,decide_true,ae,aU (n:=r.1+1) (by omega) (by omega),an i _ hi (by omega)]
  exact⟨_,_,rfl,by omega,by omega⟩
 |succ k ih=>
  intro j hj y m hy hz hb h1 h2
  obtain⟨z,rfl⟩:=hz
  rw[List.length_set]at hy
  rw[c8 (τ:=fq) _ _ _ hi]at hb
  rw[sD.b_eq,ab (show(j:Int)<32 by omega),show aA (j:Int) 32=true by rw[aj];exact ab (by omega)]
  simp only[ae,letB,List.length_set,aj,ab hi,aB,List.set_set,aU (n:=m+1) (by omega) (by omega),an j 32 (by omega) (by omega)]
  rw[c8 (τ:=fq) _ _ _ hi]
  obtain⟨z',m',e,a,b⟩:=ih (j+1) (by omega) (y0.set i (z.1,(z.2.1.1.set j m,z.2.1.2),z.2.2)) (m+1) (by rw[List.length_set]) ⟨_,rfl⟩ (by rw[c8 (τ:=fq) _ _ _ hi];exact hb) (by omega) (by omega)
  exact⟨z',m',e,by omega,by omega⟩
theorem AB:vN (.list fq) sD (1048700*1048576):=by
 refine dT (τ:=fq) sD sD.a 1048700 (fun x m=>by rw[PR]) (fun y m i hy hi hb h1 h2=> ?_) fun y m=> ?_
 ·rw[sD.a_eq,ai,ab hi,aj,ab hi,aU (n:=m+1) (by omega) (by omega),aB]
  simp only[ae]
  obtain⟨z,m',e,a,b⟩:=J6 y i hy hi 32 0 rfl (y.set i (m,(rd (τ:=fq) y (i:Int)).2)) (m+1) (by rw[List.length_set]) ⟨_,rfl⟩ (by rw[c8 (τ:=fq) _ _ _ hi];exact hb.2.2.1) (by omega) (by omega)
  exact⟨z,m',e,by omega,by omega⟩
 ·rw[sD.a_eq,ai,am (az _),ac]
theorem Iz:vN Ib Sw (5*1048576):=by
 intro x hb m h1 h2
 show MK m _ (Sw x m)
 rw[PN]
 exact(Az x.2.2 hb.2.2 m h1 (by omega)).bind (D:=0) _ (fun r a b=>⟨_,rfl,Int.le_refl _,by simp⟩) (by omega)
theorem Eu:vN (.list aN) Sx (3*1048576):=by
 intro x hb m h1 h2
 show MK m _ (Sx x m)
 rw[PP]
 exact(Ix x hb m h1 (by omega)).bind (D:=0) _ (fun r a b=>⟨_,rfl,Int.le_refl _,by simp⟩) (by omega)
theorem AC:vN Ic Sy (1048800*1048576):=by
 intro x hb m h1 h2
 show MK m _ (Sy x m)
 rw[PU]
 refine(Eu x.1 hb.1 m h1 (by omega)).bind (D:=1048797*1048576) _ (fun r a b=> ?_) (by omega)
 refine(AB x.2.1 hb.2.1 r.1 (by omega) (by omega)).bind (D:=97*1048576) _ (fun r a b=> ?_) (by omega)
 refine(Es x.2.2.1 hb.2.2.1 r.1 (by omega) (by omega)).bind (D:=91*1048576) _ (fun r a b=> ?_) (by omega)
 exact(AA x.2.2.2 hb.2.2.2 r.1 (by omega) (by omega)).bind (D:=0) _ (fun r a b=>⟨_,rfl,Int.le_refl _,by simp⟩) (by omega)
theorem Ev:vN (.list cI) FE (19922946*1048576):=by
 refine dT (τ:=cI) FE FE.a 19922946 (fun x m=>by rw[P2]) (fun y m i hy hi hb h1 h2=> ?_) fun y m=> ?_
 ·rw[FE.a_eq,ai,ab hi,aj,cL m (by omega) (by omega),aU (n:=m+1) (by omega) (by omega),aU (n:=m+1+1) (by omega) (by omega),an i _ hi (by omega)]
  simp only[ae,af,letB,List.length_set,aj,ab hi,aB,List.set_set,c8 (τ:=cI) _ _ _ hi,decide_true]
  obtain⟨r0,e0,a0,b0⟩:=sR (rd (τ:=cI) y (i:Int)).1.2.2.1 hb.1.2.2.1 (m+1+1) (by omega) (by omega)
  rw[e0]
  simp only[af]
  obtain⟨r1,e1,a1,b1⟩:=sS (rd (τ:=cI) y (i:Int)).1.2.2.2.1 hb.1.2.2.2.1 r0.1 (by omega) (by omega)
  rw[e1]
  simp only[af]
  obtain⟨r2,e2,a2,b2⟩:=Et (rd (τ:=cI) y (i:Int)).1.2.2.2.2.1 hb.1.2.2.2.2.1 r1.1 (by omega) (by omega)
  rw[e2]
  simp only[af]
  obtain⟨r3,e3,a3,b3⟩:=rM (rd (τ:=cI) y (i:Int)).1.2.2.2.2.2 hb.1.2.2.2.2.2 r2.1 (by omega) (by omega)
  rw[e3]
  simp only[af]
  obtain⟨r4,e4,a4,b4⟩:=vE (rd (τ:=cI) y (i:Int)).2.1.1 hb.2.1.1 r3.1 (by omega) (by omega)
  rw[e4]
  simp only[af]
  obtain⟨r5,e5,a5,b5⟩:=rN (rd (τ:=cI) y (i:Int)).2.1.2.1 hb.2.1.2.1 r4.1 (by omega) (by omega)
  rw[e5]
  simp only[af]
  obtain⟨r6,e6,a6,b6⟩:=vE (rd (τ:=cI) y (i:Int)).2.1.2.2.1 hb.2.1.2.2.1 r5.1 (by omega) (by omega)
  rw[e6]
  simp only[af]
  obtain⟨r7,e7,a7,b7⟩:=rN (rd (τ:=cI) y (i:Int)).2.1.2.2.2 hb.2.1.2.2.2 r6.1 (by omega) (by omega)
  rw[e7]
  simp only[af]
  obtain⟨r8,e8,a8,b8⟩:=Iy (rd (τ:=cI) y (i:Int)).2.2 hb.2.2 r7.1 (by omega) (by omega)
  rw[e8]
  simp only[af]
  exact⟨_,_,rfl,by omega,by omega⟩
 ·rw[FE.a_eq,ai,am (az _),ac]
theorem Ew:vN TSys Sz (20971751*1048576):=by
 intro x hb m h1 h2
 show MK m _ (Sz x m)
 rw[P3]
 refine(Iz x.1 hb.1 m h1 (by omega)).bind (D:=20971746*1048576) _ (fun r a b=> ?_) (by omega)
 refine(AC x.2.1 hb.2.1 r.1 (by omega) (by omega)).bind (D:=19922946*1048576) _ (fun r a b=> ?_) (by omega)
 exact(Ev x.2.2 hb.2.2 r.1 (by omega) (by omega)).bind (D:=0) _ (fun r a b=>⟨_,rfl,Int.le_refl _,by simp⟩) (by omega)
abbrev vF:Ty:= .pair (.int .i64) (.pair (.int .i64) (.pair (.int .i64) (.pair (.int .i64) (.int .i64))))
theorem vG (k:Int) (y:DH) (P:List Pc) (hy:y.2.2.2.1=P) (hl:P.length≤9000000):∀(n i:Nat) (x:Int),i+n=P.length→∃v,zQ.a k x P (P.length:Int) (i:Int)=some v∧EP.a k y x (i:Int)=some v:=by
 intro n
 induction n with
 |zero=>
  intro i x h
  have:i=P.length:=by omega
  subst this
  rw[zQ.a_eq,EP.a_eq,hy,ai,am (az _)]
  exact⟨_,rfl,rfl⟩
 |succ n ih=>
  intro i x h
  have hi:i<P.length:=by omega
  rw[zQ.a_eq,EP.a_eq,hy,ai,aj,ab hi,an i _ hi (by omega)]
  simp only[ae]
  cases decide ((rd (τ:=vF) P (i:Int)).1=k)with
  |true=>exact ih (i+1) _ (by omega)
  |false=>exact ih (i+1) _ (by omega)
theorem ug {n:Int} (h:0≤n):decide (n<0)=false:=am (by omega)
def rO (u:Nat):ByteArray:=⟨(Lib.decDigits u).toArray⟩
theorem vH (u:Nat) (h:u<10):rO u=aS [(48:Int)+u]:=by
 unfold rO aS
 rw[Lib.decDigits,dif_pos h]
 congr 1
theorem uh (u:Nat) (h:¬u<10):rO u=rO (u/10)++aS [(48:Int)+(u%10:Nat)]:=by
 apply ByteArray.ext
 rw[ByteArray.data_append]
 unfold rO aS
 rw[Lib.decDigits,dif_neg h]
 simp only[List.map_cons,List.map_nil,show((48:Int)+(u%10:Nat)).toNat=48+u%10 by omega]
 generalize UInt8.ofNat (48+u%10)=c
 simp
theorem k8:∀(k u:Nat),u<10^k→1≤k→(rO u).size≤k:=by
 intro k
 induction k with
 |zero=>intro u h h1;omega
 |succ k ih=>
  intro u h _
  by_cases hu:u<10
  ·rw[vH u hu,cj];simp
  ·rw[uh u hu,ByteArray.size_append,cj]
   rw[Nat.pow_succ]at h
   by_cases hk:k=0
   ·subst hk;omega
   ·have:=ih (u/10) (by omega) (by omega)
    simp only[List.length_cons,List.length_nil];omega
theorem uk (u:Nat):g8 (u:Int)=rO u:=by
 unfold g8 rO Lib.itoa
 rw[ap (by omega)];rfl
theorem ul (u:Nat) (h:0<u):g8 (-(u:Int))=(⟨#[45]⟩:ByteArray)++rO u:=by
 apply ByteArray.ext
 rw[ByteArray.data_append]
 unfold g8 rO Lib.itoa
 rw[au (by omega),show(-(u:Int)).natAbs=u by omega,List.toArray_cons]
theorem fy (n:Int) (h:Br n):(g8 n).size≤20:=by
 obtain⟨h1,h2⟩:=h
 by_cases h0:0≤n
 ·obtain⟨u,rfl⟩:=Int.eq_ofNat_of_zero_le h0
  rw[uk]
  exact k8 20 u (by omega) (by decide)
 ·obtain⟨u,hu⟩:=Int.eq_ofNat_of_zero_le (show 0≤ -n by omega)
  have:n= -(u:Int):=by omega
  subst this
  rw[ul u (by omega),ByteArray.size_append]
  have:=k8 19 u (by omega) (by decide)
  show 1+_≤20
  omega
theorem rP:∀(k u:Nat),u<10^k→u≤9223372036854775807→Kj (u:Int)=some (rO u):=by
 intro k
 induction k with
 |zero=>
  intro u h h2
  have:u=0:=by omega
  subst this
  rw[uS,am (by decide),am (by decide),ab (by decide)]
  simp only[ac,ae]
  rw[vH 0 (by decide),aU (by decide) (by decide)];rfl
 |succ k ih=>
  intro u h h2
  rw[uS,am (show¬(u:Int)= -9223372036854775808 by omega),am (show¬(u:Int)<0 by omega)]
  simp only[ac]
  by_cases hu:u<10
  ·rw[ab (show(u:Int)<10 by omega),ae,vH u hu,aU (by omega) (by omega),pn,Int.emod_eq_of_lt (by omega) (by omega)]
  ·rw[Nat.pow_succ]at h
   rw[am (show¬(u:Int)<10 by omega),ac,Int.tdiv_eq_ediv_of_nonneg (by omega),Int.tmod_eq_emod_of_nonneg (by omega),show(u:Int)/10=((u/10:Nat):Int) by omega,aU (n:=((u/10:Nat):Int)) (by omega) (by omega),ih (u/10) (by omega) (by omega),show(u:Int)%10=((u%10:Nat):Int) by omega,aU (n:=48+((u%10:Nat):Int)) (by omega) (by omega),pn,Int.emod_eq_of_lt (by omega) (by omega)]
   simp only[af]
   have:=k8 20 (u/10) (by omega) (by decide)
   rw[Iw (by rw[cj];simp only[List.length_cons,List.length_nil];omega),ae,←uh u hu]
theorem AD:g8 (-9223372036854775808)=(⟨#[45,57,50,50,51,51,55,50,48,51,54,56,53,52,55,55,53,56,48,56]⟩:ByteArray):=by
 unfold g8 Lib.itoa
 rw[au (by decide),show(-9223372036854775808:Int).natAbs=9223372036854775808 from rfl]
 simp[Lib.decDigits]
theorem fA (n:Int) (h:Br n):Rl n=some (g8 n)∧Kj n=some (g8 n):=by
 obtain⟨h1,h2⟩:=h
 constructor
 ·rw[O2,O1,O0,Qz,ab h1,ab h2];rfl
 ·by_cases h0:0≤n
  ·obtain⟨u,rfl⟩:=Int.eq_ofNat_of_zero_le h0
   rw[uk]
   exact rP 19 u (by omega) (by omega)
  ·obtain⟨u,hu⟩:=Int.eq_ofNat_of_zero_le (show 0≤ -n by omega)
   have:n= -(u:Int):=by omega
   subst this
   by_cases hm:u=9223372036854775808
   ·subst hm
    rw[uS,ab (by decide),ae,←AD];rfl
   ·rw[uS,am (by omega),ab (show-(u:Int)<0 by omega),show(0:Int)- -(u:Int)=(u:Int) by omega,aU (n:=(u:Int)) (by omega) (by omega),rP 19 u (by omega) (by omega),ul u (by omega)]
    simp only[ac,ae,af]
    have:=k8 19 u (by omega) (by decide)
    rw[Iw (by show 1+_≤_;omega)];rfl
theorem J7 (x:List ByteArray) (h1:x.length≤1048576):t8 x x=some true:=by
 rw[Hy,ab (rfl:(List.length x:Int)=(List.length x:Int)),aM,ac]
 refine dg (t8.a x x) (List.length x) (fun i hi=> ?_) ?_
 ·rw[t8.a_eq,ai,aj,ab hi,an i _ hi (by omega),qT];rfl
 ·rw[t8.a_eq,ai,am (az _),ac]
theorem Ex (l:List ByteArray) (hl:l.length≤1048576):vM l 1=some (1+1*(l.length:Int),ir Qm 1 1 l.length)∧FF (ir Qm 1 1 l.length) 1=some (1+1*(l.length:Int)):=by
 constructor
 ·rw[Hz]
  refine G5 vM.a Qm 1 l.length 1 9000000 (by decide) (by omega) ?_ ?_ l rfl
  ·intro x m i hx hi hm hM
   have hi':i<x.length:=by omega
   rw[vM.a_eq,ai,aj,ab hi',cL m hm (by omega),aU (n:=m+1) (by omega) (by omega),an i x.length hi' (by omega),aB]
   rfl
  ·intro x m hx
   rw[vM.a_eq,ai,am (by omega)];rfl
 ·rw[P4]
  refine G6 FF.a Qm 1 l.length 1 9000000 (by decide) (by omega) ?_ ?_
  ·intro x m i hx hi hm hM he
   have hi':i<x.length:=by omega
   rw[FF.a_eq,ai,aj,ab hi',cL m hm (by omega),aU (n:=m+1) (by omega) (by omega),an i x.length hi' (by omega),Jr (τ:= .str) x i _ he]
   simp only[af,qT,ae,aM,ac]
   rfl
  ·intro x m hx
   rw[FF.a_eq,ai,am (by omega)];rfl
structure Rs (p:eA):Prop where
 b:∃x:Int,p.1=x∧0≤x∧x≤1048575∧x%128=0
 d:p.2.2.size=128
theorem um {m:List eA} (h:iW m=true):m.length≤64∧∀i:Nat,i<m.length→Rs (rd (τ:=aN) m (i:Int)):=by
 unfold iW at h
 rw[ay,aT,eS]at h
 refine⟨h.1,fun i hi=> ?_⟩
 have:=h.2 i (Nat.zero_le _) (by omega)
 unfold C0 at this
 generalize rd (τ:=aN) m (i:Int)=p at this
 obtain⟨b,q,d⟩:=p
 simp only at this
 cases h1:jL b with
 |false=>rw[h1]at this;cases this
 |true=>
  rw[h1,ae]at this
  cases h2:dd q 0 15 with
  |false=>rw[h2]at this;cases this
  |true=>
   rw[h2,ae]at this
   cases h3:decide ((d.size:Int)=128)with
   |false=>rw[h3]at this;cases this
   |true=>
    have h3:=of_decide_eq_true h3
    unfold jL at h1
    cases h4:dd b 0 1048575 with
    |false=>rw[h4]at h1;cases h1
    |true=>
     rw[h4,ae,aT]at h1
     have:=bF.1 h4
     exact⟨⟨b,rfl,this.1,this.2,by rw[Int.tmod_eq_emod_of_nonneg this.1]at h1;exact h1⟩,by show d.size=128;omega⟩
def m5 (m:List eA) (a:Int):Int:=ef (fun i=>decide ((rd (τ:=aN) m (i:Int)).1≤a)&&decide (a≤(rd (τ:=aN) m (i:Int)).1+127)) 0 m.length
theorem Ey {m:List eA} (h:iW m=true) (a:Int) (ha:Br a):Rk m a=some (m5 m a)∧uQ m a=some (m5 m a):=by
 obtain⟨hl,hp⟩:=um h
 have ha1:=ha.1
 have ha2:=ha.2
 constructor
 ·rw[Ho,Hn]
  have:=cS (L:=Dl.a a m (m.length:Int)) (fun i=>decide ((rd (τ:=aN) m (i:Int)).1≤a)&&decide (a≤(rd (τ:=aN) m (i:Int)).1+127)) m.length (by rw[Dl.a_eq,ai,am (az _)];rfl) fun i hi=> ?_
  ·rw[this];rfl
  ·obtain⟨⟨x,hx,x0,x1,x2⟩,_⟩:=hp i hi
   rw[Dl.a_eq,ai,aj,ab hi,an i _ hi (by omega),Hm,hx,aU (n:=x+128) (by omega) (by omega),aU (n:=x+128-1) (by omega) (by omega),G8,show x+128-1=x+127 by omega]
   rfl
 ·rw[Gm]
  have:=cS (L:=uQ.a a m) (fun i=>decide ((rd (τ:=aN) m (i:Int)).1≤a)&&decide (a≤(rd (τ:=aN) m (i:Int)).1+127)) m.length (by rw[uQ.a_eq,ai,am (az _)];rfl) fun i hi=> ?_
  ·exact this
  ·obtain⟨⟨x,hx,x0,x1,x2⟩,_⟩:=hp i hi
   rw[uQ.a_eq,ai,aj,ab hi,an i _ hi (by omega),hx]
   simp only[ae]
   by_cases h1:x≤a
   ·rw[ab h1,aU (n:=a-x) (by omega) (by omega)]
    simp only[ae,Bool.true_and]
    rw[show decide (a-x<128)=decide (a≤x+127) by congr 1;apply propext;omega]
   ·rw[am h1];rfl
theorem IA {m:List eA} (h:iW m=true) (a:Int):m5 m a<0∨∃(k:Nat) (x:Int),m5 m a=(k:Int)∧k<m.length∧(rd (τ:=aN) m (k:Int)).1=x∧0≤x∧x≤1048575∧x%128=0∧x≤a∧a≤x+127∧(rd (τ:=aN) m (k:Int)).2.2.size=128:=by
 obtain⟨hl,hp⟩:=um h
 unfold m5
 rcases ce (fun i=>decide ((rd (τ:=aN) m (i:Int)).1≤a)&&decide (a≤(rd (τ:=aN) m (i:Int)).1+127)) m.length 0 with⟨h1,_⟩|⟨j,h1,h2,h3,h4,_⟩
 ·left;rw[h1];decide
 ·right
  obtain⟨⟨x,hx,x0,x1,x2⟩,hd⟩:=hp j (by omega)
  rw[ay,aT,aT,hx]at h4
  exact⟨j,x,h1,by omega,hx,x0,x1,x2,h4.1,h4.2,hd⟩
theorem AE (d:ByteArray) (hd:d.size=128) (k n:Nat) (hn:1≤n) (hk:k+n≤128):vJ (d.extract k (k+n))=some (IntKind.wrap .i64 (eV d k n))∧uP d (k:Int) (n:Int)=some (IntKind.wrap .i64 (eV d k n)):=by
 have hs:(d.extract k (k+n)).size=n:=by rw[ByteArray.size_extract];omega
 refine⟨?_,fH d k n (by omega) (by omega)⟩
 rw[d7 _ (by omega),hs,fU d k (k+n) (by omega) n 0 (by omega),Nat.add_zero]
theorem AF {m:List eA} (h:iW m=true) (a:Int) (ha:Br a):∃v:gJ×Bool,R8 m a=some v∧Ry m a=some v∧(v.2=true→oK v.1)∧
  (∀(k:Nat) (x:Int) (j:Nat),m5 m a=(k:Int)→k<m.length→(rd (τ:=aN) m (k:Int)).1=x→a-x=(j:Int)→a.tmod 4=0→(rd (τ:=aN) m (k:Int)).2.1=4→jN ((eV (rd (τ:=aN) m (k:Int)).2.2 j 4:Nat):Int)=some v):=by
 obtain⟨p1,p2⟩:=Ey h a ha
 rw[O7,O6,O5,Mk,Mj,p1,p2,am (show¬(4:Int)=0 by decide)]
 simp only[ac,af]
 by_cases hal:a.tmod 4=0
 ·rw[ab hal]
  simp only[aM,ac]
  rcases IA h a with hneg|⟨k,x,hk,hkl,hx,x0,x1,x2,x3,x4,hd⟩
  ·rw[ab hneg]
   exact⟨((0,0,0,0,0),false),rfl,rfl,fun h=>(by cases h),fun k x j h1 _ _ _ _ _=>by omega⟩
  ·rw[hk,am (show¬(k:Int)<0 by omega),aj,ab hkl]
   simp only[ac,ae]
   generalize hP:decide ((andI .i64 ((rd (τ:=aN) m (k:Int)).2.1) 4)=0)=bp
   generalize hS:decide ((andI .i64 ((rd (τ:=aN) m (k:Int)).2.1) 8)=0)=bs
   cases bp with
   |true=>
    refine⟨((0,0,0,0,0),false),rfl,rfl,fun h=>(by cases h),fun k' x' j h1 _ _ _ _ h4=> ?_⟩
    have:k'=k:=by omega
    subst this
    rw[h4]at hP
    exact absurd hP (by decide)
   |false=>
    have hal':(a-x)%4=0:=by
     rw[Int.tmod_eq_emod_of_nonneg (by omega)]at hal
     omega
    obtain⟨j,hj⟩:∃j:Nat,a-x=(j:Int):=⟨(a-x).toNat,by omega⟩
    have hjn:j+4≤128:=by omega
    obtain⟨t1,t2⟩:=AE (rd (τ:=aN) m (k:Int)).2.2 hd j 4 (by omega) hjn
    have hlt:=GO (rd (τ:=aN) m (k:Int)).2.2 4 j
    have hW:IntKind.wrap .i64 ((eV (rd (τ:=aN) m (k:Int)).2.2 j 4:Nat):Int)=((eV (rd (τ:=aN) m (k:Int)).2.2 j 4:Nat):Int):=aU (by omega) (by omega)
    obtain⟨v,d1,d2,d3⟩:=kw ((eV (rd (τ:=aN) m (k:Int)).2.2 j 4:Nat):Int) (by omega) (by omega)
    have e4:((4:Nat):Int)=4:=rfl
    rw[hW,e4]at t2
    rw[hW]at t1
    have fin:(some ((k:Int),(0:Int))).bind (fun r1=>bif (!decide (r1.2=0))then some ((0:Int),r1.2)else(bif (aA r1.1 (m.length))then(bif (aA r1.1 (m.length))then(bif (decide (0≤(IntKind.wrap .i64 (a-(rd (τ:=aN) m r1.1).1)))&&decide ((IntKind.wrap .i64 (a-(rd (τ:=aN) m r1.1).1))≤(IntKind.wrap .i64 ((IntKind.wrap .i64 (a-(rd (τ:=aN) m r1.1).1))+4)))&&decide ((IntKind.wrap .i64 ((IntKind.wrap .i64 (a-(rd (τ:=aN) m r1.1).1))+4))≤(((rd (τ:=aN) m r1.1).2.2).size:Int)))then((vJ (((rd (τ:=aN) m r1.1).2.2).extract (Int.toNat (IntKind.wrap .i64 (a-(rd (τ:=aN) m r1.1).1))) (Int.toNat (IntKind.wrap .i64 ((IntKind.wrap .i64 (a-(rd (τ:=aN) m r1.1).1))+4))))).bind fun r2=>some (r2,(0:Int)))else none)else none)else none))=some (((eV (rd (τ:=aN) m (k:Int)).2.2 j 4:Nat):Int),0):=by
     simp only[af,decide_true,aM,ac]
     rw[aj,ab hkl,hx,hj,aU (n:=(j:Int)) (by omega) (by omega),aU (n:=(j:Int)+4) (by omega) (by omega),hd]
     rw[show(decide ((0:Int)≤(j:Int))&&decide ((j:Int)≤(j:Int)+4)&&decide ((j:Int)+4≤((128:Nat):Int)))=true by simp;omega,aB,show((j:Int)+4).toNat=j+4 by omega,t1]
     rfl
    have fin2:(uP ((rd (τ:=aN) m (k:Int)).2.2) (IntKind.wrap .i64 (a-(rd (τ:=aN) m (k:Int)).1)) 4).bind (fun r2=>some (r2,(0:Int)))=some (((eV (rd (τ:=aN) m (k:Int)).2.2 j 4:Nat):Int),0):=by
     rw[hx,hj,aU (n:=(j:Int)) (by omega) (by omega),t2];rfl
    refine⟨v, ?_, ?_,fun hv=>CP.ins (by omega) (by omega) d3 hv,fun k' x' j' h1 _ h2 h3 _ _=> ?_⟩
    ·cases bs with
     |true=>
      refine(congrArg (fun x=>Option.bind x _) fin).trans ?_
      simp only[af,decide_true,aM,ac]
      rw[d1];rfl
     |false=>
      refine(congrArg (fun x=>Option.bind x _) fin).trans ?_
      simp only[af,decide_true,aM,ac]
      rw[d1];rfl
    ·simp only[ac]
     rw[fin2]
     simp only[af,decide_true,aM,ac]
     rw[d2];rfl
    ·have e1:k'=k:=by omega
     subst e1
     have e2:x'=x:=by rw[←h2,hx]
     subst e2
     have e3:j'=j:=by omega
     subst e3
     exact d1
 ·rw[am hal]
  exact⟨((0,0,0,0,0),false),rfl,rfl,fun h=>(by cases h),fun _ _ _ _ _ _ _ h _=>absurd h hal⟩
theorem IB {p:Pc} (h:HX p):∃x y:Int,p.2.2.1=x∧p.2.2.2.1=y∧0≤x∧x≤1048575∧x%4=0∧20≤y∧y≤256∧y%4=0:=by
 have h1:=fI h.pc
 have h2:=h.sz
 have h3:=h.pc
 unfold bS at h3
 rw[show(decide (0≤p.2.2.1)&&decide (p.2.2.1≤1048575))=true by simp;omega,ae,aT,Int.tmod_eq_emod_of_nonneg h1.1]at h3
 exact⟨p.2.2.1,p.2.2.2.1,rfl,rfl,h1.1,h1.2,h3,h2.2.1,h2.2.2,h2.1⟩
def IC (i:Nat):Bool:=decide ((BL.getD i (0,0)).2=4)
theorem AG:∀i:Fin 16,IC i=true:=by decide+kernel
theorem Ez {m:List eA} (hm:iW m=true) {F:Int→Int} (hF:FR F) (hL:oD m (aG F BL)=true) (a:Int) (ha:gQ a 4) (h4:a%4=0):
  ∃(k:Nat) (x:Int) (j:Nat),m5 m a=(k:Int)∧k<m.length∧(rd (τ:=aN) m (k:Int)).1=x∧a-x=(j:Int)∧(rd (τ:=aN) m (k:Int)).2.1=4∧((eV (rd (τ:=aN) m (k:Int)).2.2 j 4:Nat):Int)=kI F a:=by
 unfold oD at hL
 rw[ay,aT,eS]at hL
 obtain⟨hlen,hall⟩:=hL
 have hBL:(aG F BL).length=36:=by unfold aG;rw[List.length_map,vf]
 have hm36:m.length=36:=by omega
 have like:∀i:Nat,i<36→∃x:Int,(rd (τ:=aN) m (i:Int)).1=x∧x=oQ i∧(rd (τ:=aN) m (i:Int)).2.1=(BL.getD i (0,0)).2∧((BL.getD i (0,0)).2=4→(rd (τ:=aN) m (i:Int)).2.2=pg F (oQ i)):=by
  intro i hi
  have h:=hall i (Nat.zero_le _) (by omega)
  unfold xZ at h
  rw[jD F BL i (by rw[vf];exact hi)]at h
  have hq:rd (τ:=gu) BL (i:Int)=BL.getD i (0,0):=by
   unfold rd
   rw[aB];rfl
  rw[hq]at h
  simp only[ay,aT,Bool.or_eq_true,Bool.not_eq_true',decide_eq_false_iff_not]at h
  obtain⟨g1,g2,g3⟩:=h
  refine⟨_,rfl,g1,g2,fun h4=> ?_⟩
  rcases g3 with g|g
  ·exact absurd (g2.trans h4) g
  ·exact g
 obtain⟨q,hq16,hb⟩:∃q:Nat,q<16∧oQ q≤a∧a≤oQ q+127:=by
  rcases ha with⟨g1,g2⟩|⟨g1,g2⟩
  ·refine⟨((a-4096)/128).toNat,by omega, ?_⟩
   have:=vh ⟨((a-4096)/128).toNat,by omega⟩
   simp only at this
   rw[this];omega
  ·refine⟨8+((a-8192)/128).toNat,by omega, ?_⟩
   have:=rp ⟨((a-8192)/128).toNat,by omega⟩
   simp only at this
   rw[this];omega
 have inc:∀i j:Nat,i<j→j<36→oQ i+128≤oQ j:=fun i j h1 h2=>Ad ⟨i,by omega⟩ ⟨j,h2⟩ h1
 have hpv:m5 m a=(q:Int):=by
  unfold m5
  rcases ce (fun i=>decide ((rd (τ:=aN) m (i:Int)).1≤a)&&decide (a≤(rd (τ:=aN) m (i:Int)).1+127)) m.length 0 with⟨_,h2⟩|⟨j,h1,_,h3,h4,_⟩
  ·have:=h2 q (Nat.zero_le _) (by omega)
   obtain⟨x,e1,e2,_⟩:=like q (by omega)
   rw[e1,e2,ab hb.1,ab hb.2]at this
   cases this
  ·rw[h1]
   obtain⟨x,e1,e2,_⟩:=like j (by omega)
   rw[e1,e2,ay,aT,aT]at h4
   rcases Nat.lt_trichotomy j q with c|c|c
   ·have:=inc j q c (by omega);omega
   ·rw[c]
   ·have:=inc q j c (by omega)
    have h41:oQ j≤a:=h4.1
    omega
 obtain⟨x,e1,e2,e3,e4⟩:=like q (by omega)
 have hp4:(BL.getD q (0,0)).2=4:=by
  have:=AG ⟨q,hq16⟩
  unfold IC at this
  exact of_decide_eq_true this
 obtain⟨j,hj⟩:∃j:Nat,a-oQ q=(j:Int):=⟨(a-oQ q).toNat,by omega⟩
 refine⟨q,x,j,hpv,by omega,e1,by rw[e2];exact hj,by rw[e3];exact hp4, ?_⟩
 rw[e4 hp4]
 have hb4:oQ q%4=0:=by
  rcases Nat.lt_or_ge q 8 with h|h
  ·have:=vh ⟨q,h⟩
   simp only at this
   rw[this];omega
  ·have:=rp ⟨q-8,by omega⟩
   simp only[show 8+(q-8)=q by omega]at this
   rw[this];omega
 have hbt:∀k:Nat,j+k<128→(((pg F (oQ q)).data.getD (j+k) 0).toNat:Int)=F (a+(k:Int)):=fun k hk=>by
  rw[←eQ,ua hF _ _ (by omega) (by omega)]
  congr 1;omega
 have h0:=hbt 0 (by omega)
 have h1:=hbt 1 (by omega)
 have h2:=hbt 2 (by omega)
 have h3:=hbt 3 (by omega)
 have:eV (pg F (oQ q)) j 4=((pg F (oQ q)).data.getD (j+0) 0).toNat+256*(((pg F (oQ q)).data.getD (j+1) 0).toNat+256*(((pg F (oQ q)).data.getD (j+2) 0).toNat+256*(((pg F (oQ q)).data.getD (j+3) 0).toNat+256*0))):=rfl
 rw[this]
 unfold kI
 rw[show a+((0:Nat):Int)=a by omega]at h0
 rw[show((1:Nat):Int)=1 from rfl]at h1
 rw[show((2:Nat):Int)=2 from rfl]at h2
 rw[show((3:Nat):Int)=3 from rfl]at h3
 rw[←h0,←h1,←h2,←h3]
 omega
theorem AH {m:List eA} (hm:iW m=true) {F:Int→Int} (hF:FR F) (hL:oD m (aG F BL)=true) (a:Int) (ha:gQ a 4) (h4:a%4=0) (hd:xu (kI F a)):
  ∃x:gJ,oK x∧R8 m a=some (x,true)∧Ry m a=some (x,true):=by
 have hr:=ha.range
 obtain⟨v,e1,e2,e3,e4⟩:=AF hm a ⟨by omega,by omega⟩
 obtain⟨k,x,j,g1,g2,g3,g4,g5,g6⟩:=Ez hm hF hL a ha h4
 have:=e4 k x j g1 g2 g3 g4 (by rw[Int.tmod_eq_emod_of_nonneg (by omega)];exact h4) g5
 rw[g6]at this
 obtain⟨y,hy⟩:=hd
 rw[hy]at this
 obtain rfl:=Option.some.inj this
 exact⟨y,e3 rfl,e1,e2⟩
theorem ID:∃(os:List (ByteArray×Int×Int×Int×Int)) (ns:List ByteArray),Qf=some os∧S9=some ns∧os.length=65∧ns.length=64∧∀k:Fin 64,(os.getD (k.val+1) (⟨#[]⟩,0,0,0,0)).1=ns.getD k.val ⟨#[]⟩∧(ns.getD k.val ⟨#[]⟩).size≤10:=by
 refine⟨_,_,zd,Ml,rfl,rfl, ?_⟩
 decide+kernel
theorem i8 (r:Int) (h:Br r):Fd r=some ((⟨#[32,120]⟩:ByteArray)++g8 r)∧EQ r=some ((⟨#[32,120]⟩:ByteArray)++g8 r):=by
 have hz:=fy r h
 have q:(⟨#[32,120]⟩:ByteArray).size=2:=rfl
 rw[O8,Mm,(fA r h).1,(fA r h).2]
 simp only[af]
 rw[Iw (by omega)]
 exact⟨rfl,rfl⟩
theorem EA (nm rD rA rB im:ByteArray) (h0:nm.size≤10) (h1:rD.size≤30) (h2:rA.size≤30) (h3:rB.size≤30) (h4:im.size≤30) (b1 b2 b3 b6 b7 b4 b5 b8:Bool):
  ∃v:ByteArray,(aJ (fun k=>bif b1 then k b1 else k b2) fun(r:Bool)=>bif r then(bif (decide (nm.size+rD.size≤9223372036854775807))then(bif (decide ((nm++rD).size+im.size≤9223372036854775807))then some ((nm++rD)++im)else none)else none)else(aJ (fun k=>bif b3 then k b3 else(bif b6 then k b6 else k b7)) fun(r:Bool)=>bif r then(bif (decide (nm.size+rD.size≤9223372036854775807))then(bif (decide ((nm++rD).size+rA.size≤9223372036854775807))then(bif (decide (((nm++rD)++rA).size+im.size≤9223372036854775807))then some (((nm++rD)++rA)++im)else none)else none)else none)else(bif b4 then(bif (decide (nm.size+rA.size≤9223372036854775807))then(bif (decide ((nm++rA).size+rB.size≤9223372036854775807))then(bif (decide (((nm++rA)++rB).size+im.size≤9223372036854775807))then some (((nm++rA)++rB)++im)else none)else none)else none)else(bif b5 then(bif (decide (nm.size+rB.size≤9223372036854775807))then(bif (decide ((nm++rB).size+rA.size≤9223372036854775807))then(bif (decide (((nm++rB)++rA).size+im.size≤9223372036854775807))then some (((nm++rB)++rA)++im)else none)else none)else none)else(bif b8 then(bif (decide (nm.size+rD.size≤9223372036854775807))then(bif (decide ((nm++rD).size+rA.size≤9223372036854775807))then(bif (decide (((nm++rD)++rA).size+rB.size≤9223372036854775807))then some (((nm++rD)++rA)++rB)else none)else none)else none)else some nm)))))=some v∧v.size≤200:=by
 have a2:∀x y:ByteArray,x.size≤30→y.size≤30→∃v:ByteArray,(bif (decide (nm.size+x.size≤9223372036854775807))then(bif (decide ((nm++x).size+y.size≤9223372036854775807))then some ((nm++x)++y)else none)else none)=some v∧v.size≤200:=fun x y hx hy=>by
  rw[Iw (by omega),Iw (by simp only[ByteArray.size_append];omega)]
  exact⟨_,rfl,by simp only[ByteArray.size_append];omega⟩
 have a3:∀x y z:ByteArray,x.size≤30→y.size≤30→z.size≤30→∃v:ByteArray,(bif (decide (nm.size+x.size≤9223372036854775807))then(bif (decide ((nm++x).size+y.size≤9223372036854775807))then(bif (decide (((nm++x)++y).size+z.size≤9223372036854775807))then some (((nm++x)++y)++z)else none)else none)else none)=some v∧v.size≤200:=fun x y z hx hy hz=>by
  rw[Iw (by omega),Iw (by simp only[ByteArray.size_append];omega),Iw (by simp only[ByteArray.size_append];omega)]
  exact⟨_,rfl,by simp only[ByteArray.size_append];omega⟩
 have c:∀(b:Bool) (x y:Option ByteArray),(∃v,x=some v∧v.size≤200)→(∃v,y=some v∧v.size≤200)→∃v,(bif b then x else y)=some v∧v.size≤200:=fun b x y hx hy=>by cases b<;>assumption
 have r2:=c b4 _ _ (a3 rA rB im h2 h3 h4) (c b5 _ _ (a3 rB rA im h3 h2 h4) (c b8 _ _ (a3 rD rA rB h1 h2 h3) ⟨nm,rfl,by omega⟩))
 have r1:=fun b=>c b _ _ (a3 rD rA im h1 h2 h4) r2
 have r0:=c b3 _ _ (r1 b3) (c b6 _ _ (r1 b6) (r1 b7))
 have s1:=fun b=>c b _ _ (a2 rD im h1 h4) r0
 exact c b1 _ _ (s1 b1) (s1 b2)
theorem EB (x:gJ) (h:oK x):∃v:ByteArray,TG x=some v∧Ta x=some v∧v.size≤200:=by
 obtain⟨h1,h2,hR,_⟩:=h
 obtain⟨r1,r2,r3,r4⟩:=hR
 obtain⟨n,d,a,b,i⟩:=x
 simp only at h1 h2 r1 r2 r3 r4
 have i1:Br d:=⟨by omega,by omega⟩
 have i2:Br a:=⟨by omega,by omega⟩
 have i3:Br b:=⟨by omega,by omega⟩
 have i4:Br i:=⟨by omega,by omega⟩
 obtain⟨os,ns,o1,o2,o3,o4,o5⟩:=ID
 obtain⟨k,rfl⟩:∃k:Nat,n=((k+1:Nat):Int):=⟨(n-1).toNat,by omega⟩
 obtain⟨e1,e2⟩:=o5 ⟨k,by omega⟩
 simp only at e1 e2
 have w:IntKind.wrap .i64 (((k+1:Nat):Int)-1)=(k:Int):=by rw[aU (by omega) (by omega)];omega
 have rdO:(rd (τ:=(.pair .str (.pair (.int .i64) (.pair (.int .i64) (.pair (.int .i64) (.int .i64)))))) os ((k+1:Nat):Int)).1=ns.getD k ⟨#[]⟩:=by
  rw[←e1];unfold rd;rw[aB];rfl
 have rdN:rd (τ:= .str) ns (k:Int)=ns.getD k ⟨#[]⟩:=by unfold rd;rw[aB];rfl
 have z1:=fy _ i1
 have z2:=fy _ i2
 have z3:=fy _ i3
 have z4:=fy _ i4
 have q:(⟨#[32,120]⟩:ByteArray).size=2:=rfl
 have q1:(⟨#[32]⟩:ByteArray).size=1:=rfl
 rw[O9,Mn,o1,o2]
 simp only[af]
 rw[aj,o3,ab (show k+1<65 by omega),w,aj,o4,ab (show k<64 by omega),(fA i i4).1,(fA i i4).2,jp _ (by omega) (by omega),ez _ (by omega) (by omega),rdO,rdN,(i8 d i1).1,(i8 d i1).2,(i8 a i2).1,(i8 a i2).2,(i8 b i3).1,(i8 b i3).2]
 generalize ns.getD k ⟨#[]⟩=nm at e2
 simp only[af,ae]
 rw[Iw (by omega)]
 simp only[ae]
 have fin:∀z:Option ByteArray,(∃v,z=some v∧v.size≤200)→∃v:ByteArray,z=some v∧z=some v∧v.size≤200:=fun z ⟨v,e,h⟩=>⟨v,e,e,h⟩
 apply fin
 exact EA nm _ _ _ _ e2 (by rw[ByteArray.size_append];omega) (by rw[ByteArray.size_append];omega) (by rw[ByteArray.size_append];omega) (by rw[ByteArray.size_append];omega) _ _ _ _ _ _ _ _
theorem AI {e:dr} (h:de e=true):e.2.1=1∨e.2.1=2:=by
 unfold de at h
 cases h1:cz e.1 with
 |false=>rw[h1]at h;cases h
 |true=>
  rw[h1,ae]at h
  cases h2:bS e.2.2.1 with
  |false=>rw[h2]at h;cases h
  |true=>
   rw[h2,ae]at h
   cases h3:dd e.2.2.2.1 1 1024 with
   |false=>rw[h3]at h;cases h
   |true=>
    rw[h3,ae]at h
    cases h4:dd e.2.2.2.2.2 0 6 with
    |false=>rw[h4]at h;cases h
    |true=>
     rw[h4,ae]at h
     unfold tQ at h
     by_cases k1:e.2.1=1
     ·exact .inl k1
     ·rw[am k1,ac]at h
      by_cases k2:e.2.1=2
      ·exact .inr k2
      ·rw[am k2]at h;cases h
theorem AJ (k:Int) (P:List Pc) (hl:P.length≤9000000):∀(n i:Nat) (x v:Int),i+n=P.length→zQ.a k x P (P.length:Int) (i:Int)=some v→
  (v=x∨∃j:Nat,i≤j∧j<P.length∧(rd (τ:=vF) P (j:Int)).1=k∧(rd (τ:=vF) P (j:Int)).2.1=v)∧((∃j:Nat,i≤j∧j<P.length∧(rd (τ:=vF) P (j:Int)).1=k)→∃j:Nat,i≤j∧j<P.length∧(rd (τ:=vF) P (j:Int)).1=k∧(rd (τ:=vF) P (j:Int)).2.1=v):=by
 intro n
 induction n with
 |zero=>
  intro i x v h e
  have:i=P.length:=by omega
  subst this
  rw[zQ.a_eq,ai,am (az _),ac]at e
  exact⟨.inl (Option.some.inj e).symm,fun⟨j,h1,h2,_⟩=>by omega⟩
 |succ n ih=>
  intro i x v h e
  have hi:i<P.length:=by omega
  rw[zQ.a_eq,ai,aj,ab hi,an i _ hi (by omega)]at e
  simp only[ae]at e
  by_cases hc:(rd (τ:=vF) P (i:Int)).1=k
  ·rw[ab hc,ae]at e
   obtain⟨a,b⟩:=ih (i+1) _ v (by omega) e
   have hit:∃j:Nat,i≤j∧j<P.length∧(rd (τ:=vF) P (j:Int)).1=k∧(rd (τ:=vF) P (j:Int)).2.1=v:=by
    rcases a with a|⟨j,g1,g2,g3,g4⟩
    ·exact⟨i,Nat.le_refl _,hi,hc,a.symm⟩
    ·exact⟨j,by omega,g2,g3,g4⟩
   exact⟨.inr hit,fun _=>hit⟩
  ·rw[am hc,ac]at e
   obtain⟨a,b⟩:=ih (i+1) _ v (by omega) e
   refine⟨?_,fun⟨j,g1,g2,g3⟩=> ?_⟩
   ·rcases a with a|⟨j,g1,g2,g3,g4⟩
    ·exact .inl a
    ·exact .inr ⟨j,by omega,g2,g3,g4⟩
   ·have hne:j≠i:=fun e=>hc (by rw[←e];exact g3)
    obtain⟨q,q1,q2,q3,q4⟩:=b ⟨j,by omega,g2,g3⟩
    exact⟨q,by omega,q2,q3,q4⟩
theorem AK (k v:Int) (y:DH) (x6:Pc) (P:List Pc) (hy:y.2.2.2.1=P) (hl:P.length≤9000000):∀(n i:Nat),i+n=P.length→(∃j:Nat,i≤j∧j<P.length∧(rd (τ:=vF) P (j:Int)).1=k∧(rd (τ:=vF) P (j:Int)).2.1=v)→
  ∃j:Nat,j<P.length∧Hw.a k v x6 P (P.length:Int) (i:Int)=some (rd (τ:=vF) P (j:Int),true)∧Gq.a k v y (i:Int)=some (j:Int):=by
 intro n
 induction n with
 |zero=>intro i h ⟨j,h1,h2,_⟩;omega
 |succ n ih=>
  intro i h hj
  have hi:i<P.length:=by omega
  rw[Hw.a_eq,Gq.a_eq,hy,ai,aj,ab hi,an i _ hi (by omega)]
  simp only[ae]
  by_cases h1:(rd (τ:=vF) P (i:Int)).1=k
  ·rw[ab h1]
   simp only[ae]
   by_cases h2:(rd (τ:=vF) P (i:Int)).2.1=v
   ·rw[ab h2]
    exact⟨i,hi,rfl,rfl⟩
   ·rw[am h2]
    simp only[ac]
    obtain⟨j,g1,g2,g3,g4⟩:=hj
    exact ih (i+1) (by omega) ⟨j,by have:j≠i:=fun e=>h2 (by rw[←e];exact g4);omega,g2,g3,g4⟩
  ·rw[am h1]
   simp only[ac]
   obtain⟨j,g1,g2,g3,g4⟩:=hj
   exact ih (i+1) (by omega) ⟨j,by have:j≠i:=fun e=>h1 (by rw[←e];exact g3);omega,g2,g3,g4⟩
theorem yd (s:SB) (hm:iW s.2.1.1=true) {F:Int→Int} (hF:FR F) (hL:oD s.2.1.1 (aG F BL)=true) (p:Pc) (hp:HX p) (hin:gQ p.2.2.1 p.2.2.2.1) (hc:eU F p.2.2.1 p.2.2.2.1):
  ∃V:List ByteArray,V.length≤64∧Hx.a s p [] p.2.2.1=some (V,0)∧Gr.a s p [] p.2.2.1=some (V,0):=by
 obtain⟨x,y,hx,hy,x0,x1,x2,y0,y1,y2⟩:=IB hp
 rw[hx,hy]at hin hc
 have key:∀(n i:Nat) (V:List ByteArray),4*((i:Int)+n)=y→V.length=i→∃V':List ByteArray,V'.length≤64∧Hx.a s p V (x+4*(i:Int))=some (V',0)∧Gr.a s p V (x+4*(i:Int))=some (V',0):=by
  intro n
  induction n with
  |zero=>
   intro i V h hV
   rw[Hx.a_eq,Gr.a_eq,hx,hy,aU (n:=x+y) (by omega) (by omega),am (by omega)]
   exact⟨V,by omega,rfl,rfl⟩
  |succ n ih=>
   intro i V h hV
   have hci:gQ (x+4*(i:Int)) 4:=by
    rcases hin with⟨g1,g2⟩|⟨g1,g2⟩
    ·exact .inl ⟨by omega,by omega⟩
    ·exact .inr ⟨by omega,by omega⟩
   obtain⟨z,z1,z2,z3⟩:=AH hm hF hL (x+4*(i:Int)) hci (by omega) (hc i (by omega))
   obtain⟨tx,t1,t2,t3⟩:=EB z z1
   have hI:Br (x+4*(i:Int)):=⟨by omega,by omega⟩
   have s1:=fy _ hI
   have q1:(⟨#[32]⟩:ByteArray).size=1:=rfl
   have hx16:aH (V.length+1) 16=true:=jx _ (by omega)
   rw[Hx.a_eq,Gr.a_eq,hx,hy,aU (n:=x+y) (by omega) (by omega),ab (show x+4*(i:Int)<x+y by omega),z2,z3,(fA _ hI).1,(fA _ hI).2]
   simp only[ae,af]
   rw[t1,t2]
   simp only[af,List.length_cons,List.length_nil]
   rw[hx16,Iw (by omega),Iw (by simp only[ByteArray.size_append];omega),aU (n:=x+4*(i:Int)+4) (by omega) (by omega),show x+4*(i:Int)+4=x+4*((i+1:Nat):Int) by omega]
   simp only[ae]
   exact ih (i+1) _ (by omega) (by rw[List.length_append];simp only[List.length_cons,List.length_nil];omega)
 have:=key (y/4).toNat 0 [] (by omega) rfl
 rw[show x+4*((0:Nat):Int)=x by omega]at this
 rw[hx]
 exact this
theorem m6 (s:SB) (hw:o6 TSys s) (t:ByteArray):∃(V:List ByteArray) (c:Int),V.length≤64∧R9 s t=some (V,c)∧Tb s t=some (V,c):=by
 rw[Pb,Mp,MY,af]
 by_cases hlong:(t.size:Int)>65536
 ·rw[ab hlong];exact⟨[],2,by simp,rfl,rfl⟩
 rw[am hlong]
 simp only[ac]
 obtain⟨rI,rS,f1,f2,f3,f4⟩:=vq s (Iv hw.2.2)
 rw[f1,f2]
 simp only[af]
 rw[←f3]
 cases hr:rI.2 with
 |false=>exact⟨_,_,by simp,rfl,rfl⟩
 |true=>
  obtain⟨⟨n1,n2,_⟩,t',P',F',a',b',g1,g2,g3,g4,_⟩:=f4 hr
  have hpl:=g3.pl
  have hm:iW s.2.1.1=true:=by
   unfold xA at n2
   rw[ay]at n2
   exact n2.1
  rw[g1,g2]
  simp only[aM,ac]
  have ht:=g3.tab.len
  obtain⟨e1,e2⟩:=dQ t' t (by omega)
  rw[Pa,Mo,e1,e2]
  simp only[af]
  have er:=df t' t
  by_cases hneg:cp t' t<0
  ·rw[ab hneg];exact⟨[],23,by simp,rfl,rfl⟩
  obtain⟨q,hq⟩:∃q:Nat,cp t' t=(q:Int):=⟨(cp t' t).toNat,by omega⟩
  rw[hq]at er⊢
  have hqt:q<t'.length:=by omega
  rw[am (show¬(q:Int)<0 by omega),aj,ab hqt]
  simp only[ac,ae]
  rcases AI (g3.tab.ent _ (aw (τ:=aW) t' q hqt))with k1|k2
  ·rw[am (show¬(rd (τ:=aW) t' (q:Int)).2.1=2 by rw[k1];decide),ab k1]
   simp only[aM,ac]
   obtain⟨p0,m0,i0,_⟩:=g3.hs q hqt k1
   obtain⟨j0,hj0,rj0⟩:=rq (τ:=vF) m0
   obtain⟨v,v1,v2⟩:=vG (q:Int) (t',a',b',P',aG F' BL) P' rfl (by omega) P'.length 0 (rd (τ:=aW) t' (q:Int)).2.2.2.2.2 (by omega)
   have v3:zQ (t',P',aG F' BL,a',b') (q:Int)=some v:=by rw[O4,aj,ab hqt];exact v1
   have v4:EP (t',a',b',P',aG F' BL) (q:Int)=some v:=by rw[Mi,aj,ab hqt];exact v2
   have hin:=(AJ (q:Int) P' (by omega) P'.length 0 _ v (by omega) v1).2 ⟨j0,Nat.zero_le _,hj0,by rw[rj0];exact i0⟩
   obtain⟨j,hj,p1,p2⟩:=AK (q:Int) v (t',a',b',P',aG F' BL) (0,0,0,0,0) P' rfl (by omega) P'.length 0 (by omega) hin
   rw[show((0:Nat):Int)=0 from rfl]at p1 p2
   have p3:Hw (t',P',aG F' BL,a',b') (q:Int) v=some (rd (τ:=vF) P' (j:Int),true):=by rw[O3];exact p1
   have p4:Gq (t',a',b',P',aG F' BL) (q:Int) v=some (j:Int):=by rw[Mh];exact p2
   rw[v3,v4]
   simp only[af]
   rw[p3,p4]
   simp only[af]
   rw[aj,ab hj]
   have hmem:=aw (τ:=vF) P' j hj
   have hci:gQ (rd (τ:=vF) P' (j:Int)).2.2.1 (rd (τ:=vF) P' (j:Int)).2.2.2.1:=by
    have h1:=g3.a1
    have h2:=g3.a2
    have h3:=g3.aR.top
    rcases g3.pk.ins _ hmem with g|g
    ·exact .inl g
    ·exact .inr ⟨g.1,by omega⟩
   obtain⟨V,w0,w1,w2⟩:=yd s hm g3.fr g4 _ (g3.pk.ok _ hmem) hci (g3.cd _ hmem)
   exact⟨V,0,w0,by rw[w1];rfl,by rw[w2];rfl⟩
  ·rw[ab k2,am (show¬(rd (τ:=aW) t' (q:Int)).2.1=1 by rw[k2];decide)]
   exact⟨[],26,by simp,rfl,rfl⟩
theorem nV (s:SB) (hw:o6 TSys s) (t:ByteArray):Ug s t=some true:=by
 rw[P5]
 by_cases ht:(t.size:Int)>1048576
 ·rw[ab ht];rfl
 rw[am ht,ac]
 obtain⟨r,e1,e2,e3⟩:=DT s hw 1048576 ⟨by decide,by decide⟩
 rw[e1]
 simp only[af]
 by_cases h:r<0
 ·rw[ab h];rfl
 ·have hb:=e3 (by omega)
  obtain⟨V,c,v0,v1,v2⟩:=m6 s hw t
  obtain⟨k,m1,m2,m3⟩:=Ew s hb 1 (by decide) (by decide)
  obtain⟨i1,i2⟩:=Ex V (by omega)
  rw[am h,Ee s hw hb]
  simp only[af,ac,aJ]
  rw[v1,v2]
  simp only[af,J7 V (by omega),decide_true,aM,ac,Er s hw hb,m1,ug (show 0≤k.1 by omega),i1,i2,ug (show 0≤1+1*(V.length:Int) by omega)]
abbrev Uk (r:Option (bL×Int×ByteArray×Int×Bool)):Prop:=∃v,r=some v∧v.2.2.2.2=true
end Go.Proofs.YtijpmnicihmoaaaGreatDoor.S
