import Derived.Test.YtijpmnicihmoaaaGreatDoorSxPa
namespace Go.Proofs.YtijpmnicihmoaaaGreatDoor.S
open Go.Ps
set_option linter.unusedVariables false
set_option maxRecDepth 100000
theorem J6 {τ:Ty} (L:List τ.den→Int→Int→Option (Int×List τ.den)) (c n:Nat) (hn:n≤1048576)
  (step:∀(y:List τ.den) (m:Int) (i:Nat),y.length=n→i<y.length→yp τ (rd (τ:=τ) y (i:Int))→1≤m→m+c≤4611686018427387904→∃z m',L y m (i:Int)=L (y.set i z) m' ((i+1:Nat):Int)∧m≤m'∧m'≤m+c)
  (last:∀(y:List τ.den) (m:Int),y.length=n→L y m (n:Int)=some (m,y)):
  ∀(k i:Nat) (y:List τ.den),i+k=n→y.length=n→(∀j:Nat,i≤j→j<n→yp τ (rd (τ:=τ) y (j:Int)))→∀m:Int,1≤m→m+(c*k:Nat)≤4611686018427387904→MK m (c*k) (L y m (i:Int)):=by
 intro k
 induction k with
 |zero=>
  intro i y h hy hb m h1 h2
  have:i=n:=by omega
  subst this
  rw[last y m hy]
  exact⟨_,rfl,Int.le_refl _,by simp⟩
 |succ k ih=>
  intro i y h hy hb m h1 h2
  rw[Nat.mul_succ]at h2⊢
  obtain⟨z,m',e,a,b⟩:=step y m i hy (by omega) (hb i (Nat.le_refl _) (by omega)) h1 (by omega)
  rw[e]
  obtain⟨r,e',a',b'⟩:=ih (i+1) (y.set i z) (by omega) (by rw[List.length_set];exact hy) (fun j h1 h2=>by rw[vG _ _ _ _ (by omega)];exact hb j (by omega) h2) m' (by omega) (by omega)
  exact⟨r,e',by omega,by omega⟩
theorem dV {τ:Ty} (f:List τ.den→Int→Option (Int×List τ.den)) (L:List τ.den→Int→Int→Option (Int×List τ.den)) (c:Nat) (hf:∀x m,f x m=L x m 0)
  (step:∀(y:List τ.den) (m:Int) (i:Nat),y.length≤1048576→i<y.length→yp τ (rd (τ:=τ) y (i:Int))→1≤m→m+c≤4611686018427387904→∃z m',L y m (i:Int)=L (y.set i z) m' ((i+1:Nat):Int)∧m≤m'∧m'≤m+c)
  (last:∀(y:List τ.den) (m:Int),L y m (y.length:Int)=some (m,y)):vN (.list τ) f (c*1048576):=by
 intro x hb m h1 h2
 have hx:List.length x≤1048576:=hb.1
 have hc:=Nat.mul_le_mul_left c hx
 obtain⟨r,e,a,b⟩:=J6 L c x.length hx (fun y m i h=>step y m i (by omega)) (fun y m h=>by rw[←h];exact last y m) x.length 0 x (by omega) rfl (fun j _ h=>hb.2 _ (au (τ:=τ) x j h)) m h1 (by omega)
 exact⟨r,by rw[hf];exact e,a,by omega⟩
theorem Az:vN (.list bA) EX (5*1048576):=by
 refine dV (τ:=bA) EX EX.a 5 (fun x m=>by rw[LU]) (fun y m i hy hi _ h1 h2=> ?_) fun y m=> ?_
 ·rw[EX.a_eq,ah,ab hi,aj]
  simp only[ae,letB,List.length_set,aj,ab hi,aC]
  rw[aT (n:=m+1) (by omega) (by omega),aT (n:=m+1+1) (by omega) (by omega),aT (n:=m+1+1+1) (by omega) (by omega),aT (n:=m+1+1+1+1) (by omega) (by omega),aT (n:=m+1+1+1+1+1) (by omega) (by omega),an i _ hi (by omega)]
  simp only[cO (m) (by omega) (by omega),af,List.set_set]
  exact⟨_,_,rfl,by omega,by omega⟩
 ·rw[EX.a_eq,ah,ak (aA _),ac]
theorem Es:vN (.list ba) EZ (6*1048576):=by
 refine dV (τ:=ba) EZ EZ.a 6 (fun x m=>by rw[L8]) (fun y m i hy hi _ h1 h2=> ?_) fun y m=> ?_
 ·rw[EZ.a_eq,ah,ab hi,aj]
  simp only[ae,letB,List.length_set,aj,ab hi,aC]
  rw[aT (n:=m+1) (by omega) (by omega),aT (n:=m+1+1) (by omega) (by omega),aT (n:=m+1+1+1) (by omega) (by omega),aT (n:=m+1+1+1+1) (by omega) (by omega),aT (n:=m+1+1+1+1+1) (by omega) (by omega),aT (n:=m+1+1+1+1+1+1) (by omega) (by omega),an i _ hi (by omega)]
  simp only[cO (m) (by omega) (by omega),af,List.set_set]
  exact⟨_,_,rfl,by omega,by omega⟩
 ·rw[EZ.a_eq,ah,ak (aA _),ac]
theorem Ix:vN (.list aN) EY (3*1048576):=by
 refine dV (τ:=aN) EY EY.a 3 (fun x m=>by rw[LW]) (fun y m i hy hi _ h1 h2=> ?_) fun y m=> ?_
 ·rw[EY.a_eq,ah,ab hi,aj]
  simp only[ae,letB,List.length_set,aj,ab hi,aC]
  rw[aT (n:=m+1) (by omega) (by omega),aT (n:=m+1+1) (by omega) (by omega),aT (n:=m+1+1+1) (by omega) (by omega),an i _ hi (by omega)]
  simp only[cO (m+1+1) (by omega) (by omega),af,List.set_set]
  exact⟨_,_,rfl,by omega,by omega⟩
 ·rw[EY.a_eq,ah,ak (aA _),ac]
theorem AA:vN (.list pp) E0 (3*1048576):=by
 refine dV (τ:=pp) E0 E0.a 3 (fun x m=>by rw[L9]) (fun y m i hy hi _ h1 h2=> ?_) fun y m=> ?_
 ·rw[E0.a_eq,ah,ab hi,aj]
  simp only[ae,letB,List.length_set,aj,ab hi,aC]
  rw[aT (n:=m+1) (by omega) (by omega),aT (n:=m+1+1) (by omega) (by omega),aT (n:=m+1+1+1) (by omega) (by omega),an i _ hi (by omega)]
  simp only[List.set_set]
  exact⟨_,_,rfl,by omega,by omega⟩
 ·rw[E0.a_eq,ah,ak (aA _),ac]
theorem sW:vN (.list aP) E1 (4*1048576):=by
 refine dV (τ:=aP) E1 E1.a 4 (fun x m=>by rw[Mb]) (fun y m i hy hi _ h1 h2=> ?_) fun y m=> ?_
 ·rw[E1.a_eq,ah,ab hi,aj]
  simp only[ae,letB,List.length_set,aj,ab hi,aC]
  rw[aT (n:=m+1) (by omega) (by omega),aT (n:=m+1+1) (by omega) (by omega),aT (n:=m+1+1+1) (by omega) (by omega),aT (n:=m+1+1+1+1) (by omega) (by omega),an i _ hi (by omega)]
  simp only[cO (m) (by omega) (by omega),cO (m+1+1+1) (by omega) (by omega),af,List.set_set]
  exact⟨_,_,rfl,by omega,by omega⟩
 ·rw[E1.a_eq,ah,ak (aA _),ac]
theorem sX:vN (.list bD) E2 (2*1048576):=by
 refine dV (τ:=bD) E2 E2.a 2 (fun x m=>by rw[Mc]) (fun y m i hy hi _ h1 h2=> ?_) fun y m=> ?_
 ·rw[E2.a_eq,ah,ab hi,aj]
  simp only[ae,letB,List.length_set,aj,ab hi,aC]
  rw[aT (n:=m+1) (by omega) (by omega),aT (n:=m+1+1) (by omega) (by omega),an i _ hi (by omega)]
  simp only[cO (m) (by omega) (by omega),cO (m+1) (by omega) (by omega),af,List.set_set]
  exact⟨_,_,rfl,by omega,by omega⟩
 ·rw[E2.a_eq,ah,ak (aA _),ac]
theorem Et:vN (.list cA) E3 (5*1048576):=by
 refine dV (τ:=cA) E3 E3.a 5 (fun x m=>by rw[Md]) (fun y m i hy hi _ h1 h2=> ?_) fun y m=> ?_
 ·rw[E3.a_eq,ah,ab hi,aj]
  simp only[ae,letB,List.length_set,aj,ab hi,aC]
  rw[aT (n:=m+1) (by omega) (by omega),aT (n:=m+1+1) (by omega) (by omega),aT (n:=m+1+1+1) (by omega) (by omega),aT (n:=m+1+1+1+1) (by omega) (by omega),aT (n:=m+1+1+1+1+1) (by omega) (by omega),an i _ hi (by omega)]
  simp only[cO (m+1+1+1) (by omega) (by omega),af,List.set_set]
  exact⟨_,_,rfl,by omega,by omega⟩
 ·rw[E3.a_eq,ah,ak (aA _),ac]
theorem rF:vN (.list dT) E4 (2*1048576):=by
 refine dV (τ:=dT) E4 E4.a 2 (fun x m=>by rw[Me]) (fun y m i hy hi _ h1 h2=> ?_) fun y m=> ?_
 ·rw[E4.a_eq,ah,ab hi,aj]
  simp only[ae,letB,List.length_set,aj,ab hi,aC]
  rw[aT (n:=m+1) (by omega) (by omega),aT (n:=m+1+1) (by omega) (by omega),an i _ hi (by omega)]
  simp only[List.set_set]
  exact⟨_,_,rfl,by omega,by omega⟩
 ·rw[E4.a_eq,ah,ak (aA _),ac]
theorem Iy:vN (.list gM) E5 (2*1048576):=by
 refine dV (τ:=gM) E5 E5.a 2 (fun x m=>by rw[Mf]) (fun y m i hy hi _ h1 h2=> ?_) fun y m=> ?_
 ·rw[E5.a_eq,ah,ab hi,aj]
  simp only[ae,letB,List.length_set,aj,ab hi,aC]
  rw[aT (n:=m+1) (by omega) (by omega),aT (n:=m+1+1) (by omega) (by omega),an i _ hi (by omega)]
  simp only[List.set_set]
  exact⟨_,_,rfl,by omega,by omega⟩
 ·rw[E5.a_eq,ah,ak (aA _),ac]
theorem vH:vN (.list (.int .i64)) A6 (1*1048576):=by
 refine dV (τ:=(.int .i64)) A6 A6.a 1 (fun x m=>by rw[LY]) (fun y m i hy hi _ h1 h2=> ?_) fun y m=> ?_
 ·rw[A6.a_eq,ah,ab hi,aj]
  simp only[ae,ab hi,aC]
  rw[aT (n:=m+1) (by omega) (by omega),an i _ hi (by omega)]
  skip
  exact⟨_,_,rfl,by omega,by omega⟩
 ·rw[A6.a_eq,ah,ak (aA _),ac]
theorem rG:vN (.list .str) vK (1*1048576):=by
 refine dV (τ:= .str) vK vK.a 1 (fun x m=>by rw[Ge]) (fun y m i hy hi _ h1 h2=> ?_) fun y m=> ?_
 ·rw[vK.a_eq,ah,ab hi,aj]
  simp only[ae,ab hi,aC]
  rw[aT (n:=m+1) (by omega) (by omega),an i _ hi (by omega)]
  simp only[cO (m) (by omega) (by omega),af]
  exact⟨_,_,rfl,by omega,by omega⟩
 ·rw[vK.a_eq,ah,ak (aA _),ac]
theorem J7 (y0:List OL) (i:Nat) (hn:y0.length≤1048576) (hi:i<y0.length):∀(k j:Nat),j+k=32→∀(y:List OL) (m:Int),y.length=y0.length→(∃z,y=y0.set i z)→yp (.list (.int .i64)) (rd (τ:=dS) y (i:Int)).2.2.1→1≤m→m+(k+2+1048576:Nat)≤4611686018427387904→
  ∃z m',ss.b y m (i:Int) (j:Int)=ss.a (y0.set i z) m' ((i+1:Nat):Int)∧m≤m'∧m'≤m+(k+2+1048576:Nat):=by
 intro k
 induction k with
 |zero=>
  intro j hj y m hy hz hb h1 h2
  obtain⟨z,rfl⟩:=hz
  rw[List.length_set]at hy
  have:j=32:=by omega
  subst this
  rw[da (τ:=dS) _ _ _ hi]at hb
  obtain⟨r,e,a,b⟩:=vH z.2.2.1 hb (m+1) (by omega) (by omega)
  rw[ss.b_eq,show decide (((32:Nat):Int)<32)=false from rfl]
  simp only[ac,ae,letB,List.length_set,aj,ab hi,aC,List.set_set,aT (n:=m+1) (by omega) (by omega)]
  rw[da (τ:=dS) _ _ _ hi,da (τ:=dS) _ _ _ hi,e]
  simp only[af,decide_true,ae,aT (n:=r.1+1) (by omega) (by omega),an i _ hi (by omega)]
  exact⟨_,_,rfl,by omega,by omega⟩
 |succ k ih=>
  intro j hj y m hy hz hb h1 h2
  obtain⟨z,rfl⟩:=hz
  rw[List.length_set]at hy
  rw[da (τ:=dS) _ _ _ hi]at hb
  rw[ss.b_eq,ab (show(j:Int)<32 by omega),show az (j:Int) 32=true by rw[aj];exact ab (by omega)]
  simp only[ae,letB,List.length_set,aj,ab hi,aC,List.set_set,aT (n:=m+1) (by omega) (by omega),an j 32 (by omega) (by omega)]
  rw[da (τ:=dS) _ _ _ hi]
  obtain⟨z',m',e,a,b⟩:=ih (j+1) (by omega) (y0.set i (z.1,(z.2.1.1.set j m,z.2.1.2),z.2.2)) (m+1) (by rw[List.length_set]) ⟨_,rfl⟩ (by rw[da (τ:=dS) _ _ _ hi];exact hb) (by omega) (by omega)
  exact⟨z',m',e,by omega,by omega⟩
theorem AB:vN (.list dS) ss (1048700*1048576):=by
 refine dV (τ:=dS) ss ss.a 1048700 (fun x m=>by rw[LZ]) (fun y m i hy hi hb h1 h2=> ?_) fun y m=> ?_
 ·rw[ss.a_eq,ah,ab hi,aj,ab hi,aT (n:=m+1) (by omega) (by omega),aC]
  simp only[ae]
  obtain⟨z,m',e,a,b⟩:=J7 y i hy hi 32 0 rfl (y.set i (m,(rd (τ:=dS) y (i:Int)).2)) (m+1) (by rw[List.length_set]) ⟨_,rfl⟩ (by rw[da (τ:=dS) _ _ _ hi];exact hb.2.2.1) (by omega) (by omega)
  exact⟨z,m',e,by omega,by omega⟩
 ·rw[ss.a_eq,ah,ak (aA _),ac]
theorem Iz:vN Ic Si (5*1048576):=by
 intro x hb m h1 h2
 show MK m _ (Si x m)
 rw[LV]
 exact(Az x.2.2 hb.2.2 m h1 (by omega)).bind (D:=0) _ (fun r a b=>⟨_,rfl,Int.le_refl _,by simp⟩) (by omega)
theorem Eu:vN (.list aN) Sj (3*1048576):=by
 intro x hb m h1 h2
 show MK m _ (Sj x m)
 rw[LX]
 exact(Ix x hb m h1 (by omega)).bind (D:=0) _ (fun r a b=>⟨_,rfl,Int.le_refl _,by simp⟩) (by omega)
theorem AC:vN Id Sk (1048800*1048576):=by
 intro x hb m h1 h2
 show MK m _ (Sk x m)
 rw[Ma]
 refine(Eu x.1 hb.1 m h1 (by omega)).bind (D:=1048797*1048576) _ (fun r a b=> ?_) (by omega)
 refine(AB x.2.1 hb.2.1 r.1 (by omega) (by omega)).bind (D:=97*1048576) _ (fun r a b=> ?_) (by omega)
 refine(Es x.2.2.1 hb.2.2.1 r.1 (by omega) (by omega)).bind (D:=91*1048576) _ (fun r a b=> ?_) (by omega)
 exact(AA x.2.2.2 hb.2.2.2 r.1 (by omega) (by omega)).bind (D:=0) _ (fun r a b=>⟨_,rfl,Int.le_refl _,by simp⟩) (by omega)
theorem Ev:vN (.list cK) E6 (19922946*1048576):=by
 refine dV (τ:=cK) E6 E6.a 19922946 (fun x m=>by rw[Mg]) (fun y m i hy hi hb h1 h2=> ?_) fun y m=> ?_
 ·rw[E6.a_eq,ah,ab hi,aj,cO m (by omega) (by omega),aT (n:=m+1) (by omega) (by omega),aT (n:=m+1+1) (by omega) (by omega),an i _ hi (by omega)]
  simp only[ae,af,letB,List.length_set,aj,ab hi,aC,List.set_set,da (τ:=cK) _ _ _ hi,decide_true]
  obtain⟨r0,e0,a0,b0⟩:=sW (rd (τ:=cK) y (i:Int)).1.2.2.1 hb.1.2.2.1 (m+1+1) (by omega) (by omega)
  rw[e0]
  simp only[af]
  obtain⟨r1,e1,a1,b1⟩:=sX (rd (τ:=cK) y (i:Int)).1.2.2.2.1 hb.1.2.2.2.1 r0.1 (by omega) (by omega)
  rw[e1]
  simp only[af]
  obtain⟨r2,e2,a2,b2⟩:=Et (rd (τ:=cK) y (i:Int)).1.2.2.2.2.1 hb.1.2.2.2.2.1 r1.1 (by omega) (by omega)
  rw[e2]
  simp only[af]
  obtain⟨r3,e3,a3,b3⟩:=rF (rd (τ:=cK) y (i:Int)).1.2.2.2.2.2 hb.1.2.2.2.2.2 r2.1 (by omega) (by omega)
  rw[e3]
  simp only[af]
  obtain⟨r4,e4,a4,b4⟩:=vH (rd (τ:=cK) y (i:Int)).2.1.1 hb.2.1.1 r3.1 (by omega) (by omega)
  rw[e4]
  simp only[af]
  obtain⟨r5,e5,a5,b5⟩:=rG (rd (τ:=cK) y (i:Int)).2.1.2.1 hb.2.1.2.1 r4.1 (by omega) (by omega)
  rw[e5]
  simp only[af]
  obtain⟨r6,e6,a6,b6⟩:=vH (rd (τ:=cK) y (i:Int)).2.1.2.2.1 hb.2.1.2.2.1 r5.1 (by omega) (by omega)
  rw[e6]
  simp only[af]
  obtain⟨r7,e7,a7,b7⟩:=rG (rd (τ:=cK) y (i:Int)).2.1.2.2.2 hb.2.1.2.2.2 r6.1 (by omega) (by omega)
  rw[e7]
  simp only[af]
  obtain⟨r8,e8,a8,b8⟩:=Iy (rd (τ:=cK) y (i:Int)).2.2 hb.2.2 r7.1 (by omega) (by omega)
  rw[e8]
  simp only[af]
  exact⟨_,_,rfl,by omega,by omega⟩
 ·rw[E6.a_eq,ah,ak (aA _),ac]
theorem Ew:vN TSys Sl (20971751*1048576):=by
 intro x hb m h1 h2
 show MK m _ (Sl x m)
 rw[Mh]
 refine(Iz x.1 hb.1 m h1 (by omega)).bind (D:=20971746*1048576) _ (fun r a b=> ?_) (by omega)
 refine(AC x.2.1 hb.2.1 r.1 (by omega) (by omega)).bind (D:=19922946*1048576) _ (fun r a b=> ?_) (by omega)
 exact(Ev x.2.2 hb.2.2 r.1 (by omega) (by omega)).bind (D:=0) _ (fun r a b=>⟨_,rfl,Int.le_refl _,by simp⟩) (by omega)
abbrev kI:Ty:= .pair (.int .i64) (.pair (.int .i64) (.pair (.int .i64) (.pair (.int .i64) (.int .i64))))
theorem ul {n:Int} (h:0≤n):decide (n<0)=false:=ak (by omega)
def rH (u:Nat):ByteArray:=⟨(Lib.decDigits u).toArray⟩
theorem vJ (u:Nat) (h:u<10):rH u=aS [(48:Int)+u]:=by
 unfold rH aS
 rw[Lib.decDigits,dif_pos h]
 congr 1
theorem um (u:Nat) (h:¬u<10):rH u=rH (u/10)++aS [(48:Int)+(u%10:Nat)]:=by
 apply ByteArray.ext
 rw[ByteArray.data_append]
 unfold rH aS
 rw[Lib.decDigits,dif_neg h]
 simp only[List.map_cons,List.map_nil,show((48:Int)+(u%10:Nat)).toNat=48+u%10 by omega]
 generalize UInt8.ofNat (48+u%10)=c
 simp
theorem k8:∀(k u:Nat),u<10^k→1≤k→(rH u).size≤k:=by
 intro k
 induction k with
 |zero=>intro u h h1;omega
 |succ k ih=>
  intro u h _
  by_cases hu:u<10
  ·rw[vJ u hu,cm];simp
  ·rw[um u hu,ByteArray.size_append,cm]
   rw[Nat.pow_succ]at h
   by_cases hk:k=0
   ·subst hk;omega
   ·have:=ih (u/10) (by omega) (by omega)
    simp only[List.length_cons,List.length_nil];omega
theorem uq (u:Nat):iT (u:Int)=rH u:=by
 unfold iT rH Lib.itoa
 rw[ap (by omega)];rfl
theorem ur (u:Nat) (h:0<u):iT (-(u:Int))=(⟨#[45]⟩:ByteArray)++rH u:=by
 apply ByteArray.ext
 rw[ByteArray.data_append]
 unfold iT rH Lib.itoa
 rw[av (by omega),show(-(u:Int)).natAbs=u by omega,List.toArray_cons]
theorem jD (n:Int) (h:mS n):(iT n).size≤20:=by
 obtain⟨h1,h2⟩:=h
 by_cases h0:0≤n
 ·obtain⟨u,rfl⟩:=Int.eq_ofNat_of_zero_le h0
  rw[uq]
  exact k8 20 u (by omega) (by decide)
 ·obtain⟨u,hu⟩:=Int.eq_ofNat_of_zero_le (show 0≤ -n by omega)
  have:n= -(u:Int):=by omega
  subst this
  rw[ur u (by omega),ByteArray.size_append]
  have:=k8 19 u (by omega) (by decide)
  show 1+_≤20
  omega
theorem rJ:∀(k u:Nat),u<10^k→u≤9223372036854775807→Ko (u:Int)=some (rH u):=by
 intro k
 induction k with
 |zero=>
  intro u h h2
  have:u=0:=by omega
  subst this
  rw[uX,ak (by decide),ak (by decide),ab (by decide)]
  simp only[ac,ae]
  rw[vJ 0 (by decide),aT (by decide) (by decide)];rfl
 |succ k ih=>
  intro u h h2
  rw[uX,ak (show¬(u:Int)= -9223372036854775808 by omega),ak (show¬(u:Int)<0 by omega)]
  simp only[ac]
  by_cases hu:u<10
  ·rw[ab (show(u:Int)<10 by omega),ae,vJ u hu,aT (by omega) (by omega),po,Int.emod_eq_of_lt (by omega) (by omega)]
  ·rw[Nat.pow_succ]at h
   rw[ak (show¬(u:Int)<10 by omega),ac,Int.tdiv_eq_ediv_of_nonneg (by omega),Int.tmod_eq_emod_of_nonneg (by omega),show(u:Int)/10=((u/10:Nat):Int) by omega,aT (n:=((u/10:Nat):Int)) (by omega) (by omega),ih (u/10) (by omega) (by omega),show(u:Int)%10=((u%10:Nat):Int) by omega,aT (n:=48+((u%10:Nat):Int)) (by omega) (by omega),po,Int.emod_eq_of_lt (by omega) (by omega)]
   simp only[af]
   have:=k8 20 (u/10) (by omega) (by decide)
   rw[Er (by rw[cm];simp only[List.length_cons,List.length_nil];omega),ae,←um u hu]
theorem AD:iT (-9223372036854775808)=(⟨#[45,57,50,50,51,51,55,50,48,51,54,56,53,52,55,55,53,56,48,56]⟩:ByteArray):=by
 unfold iT Lib.itoa
 rw[av (by decide),show(-9223372036854775808:Int).natAbs=9223372036854775808 from rfl]
 simp[Lib.decDigits]
theorem gR (n:Int) (h:mS n):SO n=some (iT n)∧Ko n=some (iT n):=by
 obtain⟨h1,h2⟩:=h
 constructor
 ·rw[Qh,Qg,Qf,QK,ab h1,ab h2];rfl
 ·by_cases h0:0≤n
  ·obtain⟨u,rfl⟩:=Int.eq_ofNat_of_zero_le h0
   rw[uq]
   exact rJ 19 u (by omega) (by omega)
  ·obtain⟨u,hu⟩:=Int.eq_ofNat_of_zero_le (show 0≤ -n by omega)
   have:n= -(u:Int):=by omega
   subst this
   by_cases hm:u=9223372036854775808
   ·subst hm
    rw[uX,ab (by decide),ae,←AD];rfl
   ·rw[uX,ak (by omega),ab (show-(u:Int)<0 by omega),show(0:Int)- -(u:Int)=(u:Int) by omega,aT (n:=(u:Int)) (by omega) (by omega),rJ 19 u (by omega) (by omega),ur u (by omega)]
    simp only[ac,ae,af]
    have:=k8 19 u (by omega) (by decide)
    rw[Er (by show 1+_≤_;omega)];rfl
theorem kJ (w:ByteArray) (n:Int) (hw:w.size≤100) (h:mS n):SQ w n=some ((((⟨#[32]⟩:ByteArray)++w)++(⟨#[32]⟩:ByteArray))++iT n):=by
 have:=jD n h
 have e1:(⟨#[32]⟩:ByteArray).size=1:=rfl
 rw[Qi,(gR n h).1]
 simp only[af]
 rw[Er (by omega),Er (by simp only[ByteArray.size_append];omega),Er (by simp only[ByteArray.size_append];omega)];rfl
theorem J8 (x:List ByteArray) (h1:x.length≤1048576):tH x x=some true:=by
 rw[Gd,ab (rfl:(List.length x:Int)=(List.length x:Int)),aD,ac]
 refine di (tH.a x x) (List.length x) (fun i hi=> ?_) ?_
 ·rw[tH.a_eq,ah,aj,ab hi,an i _ hi (by omega),qV];rfl
 ·rw[tH.a_eq,ah,ak (aA _),ac]
theorem Ex (l:List ByteArray) (hl:l.length≤1048576):vK l 1=some (1+1*(l.length:Int),iq Qw 1 1 l.length)∧E7 (iq Qw 1 1 l.length) 1=some (1+1*(l.length:Int)):=by
 constructor
 ·rw[Ge]
  refine G7 vK.a Qw 1 l.length 1 9000000 (by decide) (by omega) ?_ ?_ l rfl
  ·intro x m i hx hi hm hM
   have hi':i<x.length:=by omega
   rw[vK.a_eq,ah,aj,ab hi',cO m hm (by omega),aT (n:=m+1) (by omega) (by omega),an i x.length hi' (by omega),aC]
   rfl
  ·intro x m hx
   rw[vK.a_eq,ah,ak (by omega)];rfl
 ·rw[Mi]
  refine G8 E7.a Qw 1 l.length 1 9000000 (by decide) (by omega) ?_ ?_
  ·intro x m i hx hi hm hM he
   have hi':i<x.length:=by omega
   rw[E7.a_eq,ah,aj,ab hi',cO m hm (by omega),aT (n:=m+1) (by omega) (by omega),an i x.length hi' (by omega),Jq (τ:= .str) x i _ he]
   simp only[af,qV,ae,aD,ac]
   rfl
  ·intro x m hx
   rw[E7.a_eq,ah,ak (by omega)];rfl
theorem AE {t:ByteArray} (h:cx t=true):t.size≤20:=by
 rcases Nat.lt_or_ge 20 t.size with h1|h1
 ·have e:=(dH t).2
  rw[Gf,h,ak (show¬(t.size:Int)<1 by omega),ab (show(t.size:Int)>20 by omega)]at e
  cases e
 ·exact h1
structure RH (e:dg):Prop where
 n:e.1.size≤20
 a:mS e.2.2.1
 s:mS e.2.2.2.1
 o:0≤e.2.2.2.2.2∧e.2.2.2.2.2≤6
theorem J9 {e:dg} (h:dh e=true):RH e:=by
 have h0:=xN h
 unfold dh at h
 cases h1:cx e.1 with
 |false=>rw[h1]at h;cases h
 |true=>
  rw[h1,ae]at h
  cases h2:bU e.2.2.1 with
  |false=>rw[h2]at h;cases h
  |true=>
   rw[h2,ae]at h
   cases h3:c7 e.2.2.2.1 1 1024 with
   |false=>rw[h3]at h;cases h
   |true=>
    rw[h3,ae]at h
    cases h4:c7 e.2.2.2.2.2 0 6 with
    |false=>rw[h4]at h;cases h
    |true=>
     have g3:=bm.1 h3
     exact⟨AE h1,⟨by omega,by omega⟩,⟨by omega,by omega⟩,bm.1 h4⟩
structure RI (p:eB):Prop where
 b:∃x:Int,p.1=x∧0≤x∧x≤1048575∧x%128=0
 d:p.2.2.size=128
theorem ut {m:List eB} (h:iv m=true):m.length≤64∧∀i:Nat,i<m.length→RI (rd (τ:=aN) m (i:Int)):=by
 unfold iv at h
 rw[ay,aV,fT]at h
 refine⟨h.1,fun i hi=> ?_⟩
 have:=h.2 i (Nat.zero_le _) (by omega)
 unfold CW at this
 generalize rd (τ:=aN) m (i:Int)=p at this
 obtain⟨b,q,d⟩:=p
 simp only at this
 cases h1:jI b with
 |false=>rw[h1]at this;cases this
 |true=>
  rw[h1,ae]at this
  cases h2:c7 q 0 15 with
  |false=>rw[h2]at this;cases this
  |true=>
   rw[h2,ae]at this
   cases h3:decide ((d.size:Int)=128)with
   |false=>rw[h3]at this;cases this
   |true=>
    have h3:=of_decide_eq_true h3
    unfold jI at h1
    cases h4:c7 b 0 1048575 with
    |false=>rw[h4]at h1;cases h1
    |true=>
     rw[h4,ae,aV]at h1
     have:=bm.1 h4
     exact⟨⟨b,rfl,this.1,this.2,by rw[Int.tmod_eq_emod_of_nonneg this.1]at h1;exact h1⟩,by show d.size=128;omega⟩
def uu (m:List eB) (a:Int):Int:=dW (fun i=>decide ((rd (τ:=aN) m (i:Int)).1≤a)&&decide (a≤(rd (τ:=aN) m (i:Int)).1+127)) 0 m.length
theorem uv {m:List eB} (h:iv m=true) (a:Int) (ha:mS a):Ry m a=some (uu m a)∧sw m a=some (uu m a):=by
 obtain⟨hl,hp⟩:=ut h
 have ha1:=ha.1
 have ha2:=ha.2
 constructor
 ·rw[Hp,Ho]
  have:=cv (L:=Dj.a a m (m.length:Int)) (fun i=>decide ((rd (τ:=aN) m (i:Int)).1≤a)&&decide (a≤(rd (τ:=aN) m (i:Int)).1+127)) m.length (by rw[Dj.a_eq,ah,ak (aA _)];rfl) fun i hi=> ?_
  ·rw[this];rfl
  ·obtain⟨⟨x,hx,x0,x1,x2⟩,_⟩:=hp i hi
   rw[Dj.a_eq,ah,aj,ab hi,an i _ hi (by omega),Hn,hx,aT (n:=x+128) (by omega) (by omega),aT (n:=x+128-1) (by omega) (by omega),sF,show x+128-1=x+127 by omega]
   rfl
 ·rw[Gm]
  have:=cv (L:=sw.a a m) (fun i=>decide ((rd (τ:=aN) m (i:Int)).1≤a)&&decide (a≤(rd (τ:=aN) m (i:Int)).1+127)) m.length (by rw[sw.a_eq,ah,ak (aA _)];rfl) fun i hi=> ?_
  ·exact this
  ·obtain⟨⟨x,hx,x0,x1,x2⟩,_⟩:=hp i hi
   rw[sw.a_eq,ah,aj,ab hi,an i _ hi (by omega),hx]
   simp only[ae]
   by_cases h1:x≤a
   ·rw[ab h1,aT (n:=a-x) (by omega) (by omega)]
    simp only[ae,Bool.true_and]
    rw[show decide (a-x<128)=decide (a≤x+127) by congr 1;apply propext;omega]
   ·rw[ak h1];rfl
theorem ye {m:List eB} (h:iv m=true) (a:Int):uu m a<0∨∃(k:Nat) (x:Int),uu m a=(k:Int)∧k<m.length∧(rd (τ:=aN) m (k:Int)).1=x∧0≤x∧x≤1048575∧x%128=0∧x≤a∧a≤x+127∧(rd (τ:=aN) m (k:Int)).2.2.size=128:=by
 obtain⟨hl,hp⟩:=ut h
 unfold uu
 rcases cg (fun i=>decide ((rd (τ:=aN) m (i:Int)).1≤a)&&decide (a≤(rd (τ:=aN) m (i:Int)).1+127)) m.length 0 with⟨h1,_⟩|⟨j,h1,h2,h3,h4,_⟩
 ·left;rw[h1];decide
 ·right
  obtain⟨⟨x,hx,x0,x1,x2⟩,hd⟩:=hp j (by omega)
  rw[ay,aV,aV,hx]at h4
  exact⟨j,x,h1,by omega,hx,x0,x1,x2,h4.1,h4.2,hd⟩
theorem rK (d:ByteArray) (hd:d.size=128) (k n:Nat) (hn:1≤n) (hk:k+n≤128):uY (d.extract k (k+n))=some (IntKind.wrap .i64 (eZ d k n))∧su d (k:Int) (n:Int)=some (IntKind.wrap .i64 (eZ d k n)):=by
 have hs:(d.extract k (k+n)).size=n:=by rw[ByteArray.size_extract];omega
 refine⟨?_,fF d k n (by omega) (by omega)⟩
 rw[ef _ (by omega),hs,fR d k (k+n) (by omega) n 0 (by omega),Nat.add_zero]
theorem Ey {m:List eB} (h:iv m=true) (a:Int) (ha:mS a) (n:Nat) (hn:n=4∨n=8):∃v:Int×Int,SN m a (n:Int) 1 true=some v∧Tq m a (n:Int) true=some v∧mS v.1:=by
 obtain⟨p1,p2⟩:=uv h a ha
 have hz:mS 0:=⟨by decide,by decide⟩
 rw[Hy,Hx,NQ,NP,p1,p2,ak (show¬(n:Int)=0 by omega)]
 simp only[ac,af]
 by_cases hal:a.tmod (n:Int)=0
 ·rw[ab hal]
  simp only[aD,ac]
  rcases ye h a with hneg|⟨k,x,hk,hkl,hx,x0,x1,x2,x3,x4,hd⟩
  ·rw[ab hneg]
   exact⟨(0,12),rfl,rfl,hz⟩
  ·rw[hk,ak (show¬(k:Int)<0 by omega),aj,ab hkl]
   simp only[ac,ae]
   generalize hP:decide ((andI .i64 ((rd (τ:=aN) m (k:Int)).2.1) 1)=0)=bp
   generalize hS:decide ((andI .i64 ((rd (τ:=aN) m (k:Int)).2.1) 8)=0)=bs
   have hal':(a-x)% (n:Int)=0:=by
    rw[Int.tmod_eq_emod_of_nonneg (by omega)]at hal
    rcases hn with rfl|rfl
    ·have:a%4=0:=hal
     show(a-x)%4=0
     omega
    ·have:a%8=0:=hal
     show(a-x)%8=0
     omega
   obtain⟨j,hj⟩:∃j:Nat,a-x=(j:Int):=⟨(a-x).toNat,by omega⟩
   have hjn:j+n≤128:=by
    rw[hj]at hal'
    rcases hn with rfl|rfl
    ·have:(j:Int)%4=0:=hal'
     omega
    ·have:(j:Int)%8=0:=hal'
     omega
   have fin:∀c:Bool,∃v:Int×Int,((some ((if c then((k:Int),(0:Int))else((0:Int),(13:Int))))).bind fun r1=>bif (!decide (r1.2=0))then some ((0:Int),r1.2)else(bif (az r1.1 (m.length))then(bif (az r1.1 (m.length))then(bif (decide (0≤(IntKind.wrap .i64 (a-(rd (τ:=aN) m r1.1).1)))&&decide ((IntKind.wrap .i64 (a-(rd (τ:=aN) m r1.1).1))≤(IntKind.wrap .i64 ((IntKind.wrap .i64 (a-(rd (τ:=aN) m r1.1).1))+(n:Int))))&&decide ((IntKind.wrap .i64 ((IntKind.wrap .i64 (a-(rd (τ:=aN) m r1.1).1))+(n:Int)))≤(((rd (τ:=aN) m r1.1).2.2).size:Int)))then((uY (((rd (τ:=aN) m r1.1).2.2).extract (Int.toNat (IntKind.wrap .i64 (a-(rd (τ:=aN) m r1.1).1))) (Int.toNat (IntKind.wrap .i64 ((IntKind.wrap .i64 (a-(rd (τ:=aN) m r1.1).1))+(n:Int)))))).bind fun r2=>some (r2,(0:Int)))else none)else none)else none))=some v∧
     ((some (if c then(0:Int)else 13)).bind fun r1=>bif (!decide (r1=0))then some ((0:Int),r1)else((su ((rd (τ:=aN) m (k:Int)).2.2) (IntKind.wrap .i64 (a-(rd (τ:=aN) m (k:Int)).1)) (n:Int)).bind fun r3=>some (r3,(0:Int))))=some v∧mS v.1:=by
    intro c
    cases c with
    |false=>exact⟨(0,13),rfl,rfl,hz⟩
    |true=>
     obtain⟨t1,t2⟩:=rK (rd (τ:=aN) m (k:Int)).2.2 hd j n (by omega) hjn
     simp only[if_true,af,decide_true,aD,ac]
     rw[aj,ab hkl,hx,hj,aT (n:=(j:Int)) (by omega) (by omega),aT (n:=(j:Int)+(n:Int)) (by omega) (by omega),hd]
     rw[show(decide ((0:Int)≤(j:Int))&&decide ((j:Int)≤(j:Int)+(n:Int))&&decide ((j:Int)+(n:Int)≤((128:Nat):Int)))=true by simp;omega,aC,show((j:Int)+(n:Int)).toNat=j+n by omega,t1,t2]
     refine⟨_,rfl,rfl, ?_⟩
     exact Ep _
   cases bp with
   |true=>exact fin false
   |false=>
    cases bs with
    |true=>exact fin true
    |false=>exact fin true
 ·rw[ak hal]
  exact⟨(0,11),rfl,rfl,hz⟩
theorem rL {m:List eB} (h:iv m=true) (a:Int) (ha:mS a):∃v:gU×Bool,Rz m a=some v∧Rl m a=some v∧(v.2=true→sC v.1)∧
  (∀(k:Nat) (x:Int) (j:Nat),uu m a=(k:Int)→k<m.length→(rd (τ:=aN) m (k:Int)).1=x→a-x=(j:Int)→a.tmod 4=0→(rd (τ:=aN) m (k:Int)).2.1=4→jK ((eZ (rd (τ:=aN) m (k:Int)).2.2 j 4:Nat):Int)=some v):=by
 obtain⟨p1,p2⟩:=uv h a ha
 rw[P7,Hy,Hx,NK,NJ,p1,p2,ak (show¬(4:Int)=0 by decide)]
 simp only[ac,af]
 by_cases hal:a.tmod 4=0
 ·rw[ab hal]
  simp only[aD,ac]
  rcases ye h a with hneg|⟨k,x,hk,hkl,hx,x0,x1,x2,x3,x4,hd⟩
  ·rw[ab hneg]
   exact⟨((0,0,0,0,0),false),rfl,rfl,fun h=>(by cases h),fun k x j h1 _ _ _ _ _=>by omega⟩
  ·rw[hk,ak (show¬(k:Int)<0 by omega),aj,ab hkl]
   simp only[ac,ae]
   generalize hP:decide ((andI .i64 ((rd (τ:=aN) m (k:Int)).2.1) 4)=0)=bp
   generalize hS:decide ((andI .i64 ((rd (τ:=aN) m (k:Int)).2.1) 8)=0)=bs
   cases bp with
   |true=>
    refine⟨((0,0,0,0,0),false),rfl,rfl,fun h=>(by cases h),fun k' x' j h1 _ _ _ _ h4=> ?_⟩
    have:k'=k:=by omega
    subst this
    rw[h4]at hP
    exact absurd hP (by decide)
   |false=>
    have hal':(a-x)%4=0:=by
     rw[Int.tmod_eq_emod_of_nonneg (by omega)]at hal
     omega
    obtain⟨j,hj⟩:∃j:Nat,a-x=(j:Int):=⟨(a-x).toNat,by omega⟩
    have hjn:j+4≤128:=by omega
    obtain⟨t1,t2⟩:=rK (rd (τ:=aN) m (k:Int)).2.2 hd j 4 (by omega) hjn
    have hlt:=GQ (rd (τ:=aN) m (k:Int)).2.2 4 j
    have hW:IntKind.wrap .i64 ((eZ (rd (τ:=aN) m (k:Int)).2.2 j 4:Nat):Int)=((eZ (rd (τ:=aN) m (k:Int)).2.2 j 4:Nat):Int):=aT (by omega) (by omega)
    obtain⟨v,d1,d2,d3⟩:=kt ((eZ (rd (τ:=aN) m (k:Int)).2.2 j 4:Nat):Int) (by omega) (by omega)
    have e4:((4:Nat):Int)=4:=rfl
    rw[hW,e4]at t2
    rw[hW]at t1
    have fin:(some ((k:Int),(0:Int))).bind (fun r1=>bif (!decide (r1.2=0))then some ((0:Int),r1.2)else(bif (az r1.1 (m.length))then(bif (az r1.1 (m.length))then(bif (decide (0≤(IntKind.wrap .i64 (a-(rd (τ:=aN) m r1.1).1)))&&decide ((IntKind.wrap .i64 (a-(rd (τ:=aN) m r1.1).1))≤(IntKind.wrap .i64 ((IntKind.wrap .i64 (a-(rd (τ:=aN) m r1.1).1))+4)))&&decide ((IntKind.wrap .i64 ((IntKind.wrap .i64 (a-(rd (τ:=aN) m r1.1).1))+4))≤(((rd (τ:=aN) m r1.1).2.2).size:Int)))then((uY (((rd (τ:=aN) m r1.1).2.2).extract (Int.toNat (IntKind.wrap .i64 (a-(rd (τ:=aN) m r1.1).1))) (Int.toNat (IntKind.wrap .i64 ((IntKind.wrap .i64 (a-(rd (τ:=aN) m r1.1).1))+4))))).bind fun r2=>some (r2,(0:Int)))else none)else none)else none))=some (((eZ (rd (τ:=aN) m (k:Int)).2.2 j 4:Nat):Int),0):=by
     simp only[af,decide_true,aD,ac]
     rw[aj,ab hkl,hx,hj,aT (n:=(j:Int)) (by omega) (by omega),aT (n:=(j:Int)+4) (by omega) (by omega),hd]
     rw[show(decide ((0:Int)≤(j:Int))&&decide ((j:Int)≤(j:Int)+4)&&decide ((j:Int)+4≤((128:Nat):Int)))=true by simp;omega,aC,show((j:Int)+4).toNat=j+4 by omega,t1]
     rfl
    have fin2:(su ((rd (τ:=aN) m (k:Int)).2.2) (IntKind.wrap .i64 (a-(rd (τ:=aN) m (k:Int)).1)) 4).bind (fun r2=>some (r2,(0:Int)))=some (((eZ (rd (τ:=aN) m (k:Int)).2.2 j 4:Nat):Int),0):=by
     rw[hx,hj,aT (n:=(j:Int)) (by omega) (by omega),t2];rfl
    refine⟨v, ?_, ?_,fun hv=>CL.ins (by omega) (by omega) d3 hv,fun k' x' j' h1 _ h2 h3 _ _=> ?_⟩
    ·cases bs with
     |true=>
      refine(congrArg (fun x=>Option.bind x _) fin).trans ?_
      simp only[af,decide_true,aD,ac]
      rw[d1];rfl
     |false=>
      refine(congrArg (fun x=>Option.bind x _) fin).trans ?_
      simp only[af,decide_true,aD,ac]
      rw[d1];rfl
    ·simp only[ac]
     rw[fin2]
     simp only[af,decide_true,aD,ac]
     rw[d2];rfl
    ·have e1:k'=k:=by omega
     subst e1
     have e2:x'=x:=by rw[←h2,hx]
     subst e2
     have e3:j'=j:=by omega
     subst e3
     exact d1
 ·rw[ak hal]
  exact⟨((0,0,0,0,0),false),rfl,rfl,fun h=>(by cases h),fun _ _ _ _ _ _ _ h _=>absurd h hal⟩
def IA (P:List Pc) (a:Int):Int:=dW (fun i=>decide ((rd (τ:=kI) P (i:Int)).2.2.1≤a)&&decide (a< (rd (τ:=kI) P (i:Int)).2.2.1+(rd (τ:=kI) P (i:Int)).2.2.2.1)) 0 P.length
theorem kK {p:Pc} (h:HY p):∃x y:Int,p.2.2.1=x∧p.2.2.2.1=y∧0≤x∧x≤1048575∧x%4=0∧20≤y∧y≤256∧y%4=0:=by
 have h1:=fG h.pc
 have h2:=h.sz
 have h3:=h.pc
 unfold bU at h3
 rw[show(decide (0≤p.2.2.1)&&decide (p.2.2.1≤1048575))=true by simp;omega,ae,aV,Int.tmod_eq_emod_of_nonneg h1.1]at h3
 exact⟨p.2.2.1,p.2.2.2.1,rfl,rfl,h1.1,h1.2,h3,h2.2.1,h2.2.2,h2.1⟩
theorem uw {P:List Pc} {top:Int} (h:ja P top) (hl:P.length≤40) (a:Int):RA P a=some (IA P a)∧Ba P a=some (IA P a):=by
 constructor
 ·rw[Qa,P9]
  have:=cv (L:=IO.a a P (P.length:Int)) (fun i=>decide ((rd (τ:=kI) P (i:Int)).2.2.1≤a)&&decide (a< (rd (τ:=kI) P (i:Int)).2.2.1+(rd (τ:=kI) P (i:Int)).2.2.2.1)) P.length (by rw[IO.a_eq,ah,ak (aA _)];rfl) fun i hi=> ?_
  ·rw[this];rfl
  ·obtain⟨x,y,hx,hy,x0,x1,x2,y0,y1,y2⟩:=kK (h.ok _ (au (τ:=kI) P i hi))
   rw[IO.a_eq,ah,aj,ab hi,an i _ hi (by omega),P8,hx,hy,aT (n:=x+y) (by omega) (by omega),aT (n:=x+y-1) (by omega) (by omega),sF]
   unfold c7
   rw[show decide (a≤x+y-1)=decide (a<x+y) by congr 1;apply propext;omega]
   rfl
 ·rw[NL]
  have:=cv (L:=Ba.a P a) (fun i=>decide ((rd (τ:=kI) P (i:Int)).2.2.1≤a)&&decide (a< (rd (τ:=kI) P (i:Int)).2.2.1+(rd (τ:=kI) P (i:Int)).2.2.2.1)) P.length (by rw[Ba.a_eq,ah,ak (aA _)];rfl) fun i hi=> ?_
  ·exact this
  ·obtain⟨x,y,hx,hy,x0,x1,x2,y0,y1,y2⟩:=kK (h.ok _ (au (τ:=kI) P i hi))
   rw[Ba.a_eq,ah,aj,ab hi,an i _ hi (by omega),hx,hy,aT (n:=x+y) (by omega) (by omega)]
   cases decide (x≤a)<;>rfl
theorem BG {P:List Pc} {top:Int} (h:ja P top) (a:Int):IA P a<0∨∃(k:Nat) (x y:Int),IA P a=(k:Int)∧k<P.length∧(rd (τ:=kI) P (k:Int)).2.2.1=x∧(rd (τ:=kI) P (k:Int)).2.2.2.1=y∧0≤x∧x≤1048575∧x%4=0∧y≤256∧x≤a∧a<x+y:=by
 unfold IA
 rcases cg (fun i=>decide ((rd (τ:=kI) P (i:Int)).2.2.1≤a)&&decide (a< (rd (τ:=kI) P (i:Int)).2.2.1+(rd (τ:=kI) P (i:Int)).2.2.2.1)) P.length 0 with⟨h1,_⟩|⟨j,h1,h2,h3,h4,_⟩
 ·left;rw[h1];decide
 ·right
  obtain⟨x,y,hx,hy,x0,x1,x2,y0,y1,y2⟩:=kK (h.ok _ (au (τ:=kI) P j (by omega)))
  rw[ay,aV,aV,hx,hy]at h4
  exact⟨j,x,y,h1,by omega,hx,hy,x0,x1,x2,y1,h4.1,h4.2⟩
theorem IB {P:List Pc} {top:Int} (h:ja P top) (hl:P.length≤40):sJ P=some true:=by
 rw[P4,ak (show¬(P.length:Int)>40 by omega),ac]
 have one:∀p:Pc,HY p→TW p=some true:=by
  intro p hp
  have hz:=hp.sz
  rw[P3,sF,sF,sF,gH,Jn,bm.2 hp.sy,bm.2 hp.pa,hp.pc,hp.fr,bm.2 hz.2]
  have:p.2.2.2.1.tmod 4=0:=by rw[Int.tmod_eq_emod_of_nonneg (by omega)];exact hz.1
  rw[ab this];rfl
 have inner:∀(i:Nat) (hi:i<P.length) (k j:Nat),j+k=i→sJ.b P (rd (τ:=kI) P (i:Int)) P (P.length:Int) (i:Int) (P.take i) (i:Int) (j:Int)=sJ.a P P (P.length:Int) ((i+1:Nat):Int):=by
  intro i hi k
  induction k with
  |zero=>
   intro j hj
   have:j=i:=by omega
   subst this
   rw[sJ.b_eq,ah,ak (aA _),ac,an j _ hi (by omega)]
  |succ k ih=>
   intro j hj
   have hji:j<i:=by omega
   have hjl:j<P.length:=by omega
   have hr:rd (τ:=kI) (P.take i) (j:Int)=rd (τ:=kI) P (j:Int):=BF (τ:=kI) P i j hji (by omega)
   obtain⟨x,y,hx,hy,x0,x1,x2,y0,y1,y2⟩:=kK (h.ok _ (au (τ:=kI) P i hi))
   obtain⟨x',y',hx',hy',x0',x1',x2',y0',y1',y2'⟩:=kK (h.ok _ (au (τ:=kI) P j hjl))
   have hap:nW (rd (τ:=kI) P (j:Int)) (rd (τ:=kI) P (i:Int)):=by
    rw[aW (τ:=kI) P j hjl,aW (τ:=kI) P i hi]
    exact List.pairwise_iff_getElem.1 h.dis j i hjl hi hji
   unfold nW at hap
   rw[hx,hy,hx',hy']at hap
   have hlen:(P.take i).length=i:=by rw[List.length_take];omega
   rw[sJ.b_eq,ah,ab hji,aj,hlen,ab hji,hr,hx,hy,hx',hy',aT (n:=x'+y') (by omega) (by omega),aT (n:=x+y) (by omega) (by omega),an j i hji (by omega)]
   simp only[ae]
   rcases hap with g|g
   ·rw[ak (show¬x<x'+y' by omega),ac]
    exact ih (j+1) (by omega)
   ·rw[ak (show¬x'<x+y by omega)]
    cases decide (x<x'+y')
    ·exact ih (j+1) (by omega)
    ·exact ih (j+1) (by omega)
 have outer:∀k i:Nat,i+k=P.length→sJ.a P P (P.length:Int) (i:Int)=some true:=by
  intro k
  induction k with
  |zero=>
   intro i hi
   have:i=P.length:=by omega
   subst this
   rw[sJ.a_eq,ah,ak (aA _)];rfl
  |succ k ih=>
   intro i hi
   have hil:i<P.length:=by omega
   have hlen:(P.take i).length=i:=by rw[List.length_take];omega
   rw[sJ.a_eq,ah,aj,ab hil,one _ (h.ok _ (au (τ:=kI) P i hil)),gJ i _ (by omega),gI,hlen]
   simp only[ae,af,aD,ac]
   have:=inner i hil i 0 (by omega)
   rw[show((0:Nat):Int)=0 from rfl]at this
   rw[this]
   exact ih (i+1) (by omega)
 exact outer P.length 0 (by omega)
theorem rM (a b:Int):Rm a b=some (IntKind.wrap .i64 (a+b)):=by
 rw[NO]
 have hu:∀n,IntKind.wrap .u64 n=n%18446744073709551616:=fun n=>by simp[IntKind.wrap,IntKind.bits,IntKind.signed]
 have hi:∀n,IntKind.wrap .i64 n=(if n%18446744073709551616<9223372036854775808 then n%18446744073709551616 else n%18446744073709551616-18446744073709551616):=fun n=>by
  simp only[IntKind.wrap,IntKind.bits,IntKind.signed]
  simp
  split<;>split<;>omega
 rw[hu,hu,hu,hi,hi]
 congr 1
 have e:(a%18446744073709551616+b%18446744073709551616)%18446744073709551616%18446744073709551616=(a+b)%18446744073709551616:=by omega
 rw[e]
theorem IC (a b:Int):IntKind.wrap .i64 (IntKind.wrap .i64 (a+b)-8)=IntKind.wrap .i64 (a+(b-8)):=by
 have hi:∀n,IntKind.wrap .i64 n=(if n%18446744073709551616<9223372036854775808 then n%18446744073709551616 else n%18446744073709551616-18446744073709551616):=fun n=>by
  simp only[IntKind.wrap,IntKind.bits,IntKind.signed]
  simp
  split<;>split<;>omega
 rw[hi (a+b),hi (a+(b-8))]
 split<;>rw[hi]<;>split<;>split<;>omega
abbrev UJ:Ty:= .pair (.int .i64) (.pair (.int .i64) (.pair (.int .i64) (.int .i64)))
abbrev Fr:Type:=Int×Int×Int×Int
structure Ka (P:List Pc) (f:Fr):Prop where
 p:∃k:Nat,f.1=(k:Int)∧k<P.length
 pc:mS f.2.1
 sp:mS f.2.2.1
 ph:f.2.2.2=0∨f.2.2.2=1∨f.2.2.2=2
theorem AF {m:OM} (hm:iv m.1=true) {P:List Pc} {top:Int} (hP:ja P top) (hl:P.length≤40) (h:List Int×Int) (h2:mS h.2) (hs:mS (rd (τ:= .int .i64) h.1 2)):
  ∃v v':Fr×Bool,TX m P h=some v∧Tp m P h=some v'∧v.2=v'.2∧(v.2=true→v.1=v'.1∧Ka P v.1):=by
 obtain⟨a1,a2⟩:=uw hP hl h.2
 rw[Qb,NN,a1,a2]
 simp only[af,aF]
 rcases BG hP h.2 with hneg|⟨k,x,y,hk,hkl,hx,hy,x0,x1,x2,y1,g1,g2⟩
 ·rw[ab hneg]
  exact⟨_,_,rfl,rfl,rfl,fun h=>by cases h⟩
 rw[hk,ak (show¬(k:Int)<0 by omega)]
 simp only[ac]
 by_cases hal:h.2.tmod 4=0
 ·rw[ab hal,aj,ab hkl,hx,aT (n:=h.2-x) (by omega) (by omega),Int.tdiv_eq_ediv_of_nonneg (by omega),aT (n:=(h.2-x)/4) (by omega) (by omega)]
  simp only[aD,ac,ae]
  rw[Int.tmod_eq_emod_of_nonneg (by omega)]at hal
  have h32:az 2 32=true:=rfl
  rw[h32]
  simp only[ae]
  have fr:∀ph:Int,(ph=0∨ph=1∨ph=2)→Ka P ((k:Int),h.2,(rd (τ:= .int .i64) h.1 2),ph):=fun ph hph=>⟨⟨k,rfl,hkl⟩,h2,hs,hph⟩
  by_cases he:h.2=x
  ·rw[ab (show(h.2-x)/4=0 by omega),ab he]
   exact⟨_,_,rfl,rfl,rfl,fun _=>⟨rfl,fr 0 (.inl rfl)⟩⟩
  ·rw[ak (show¬(h.2-x)/4=0 by omega),ak he]
   simp only[ac]
   obtain⟨v,i1,i2,_,_⟩:=rL hm h.2 h2
   rw[i1,i2]
   simp only[af]
   rw[NM,ak (show¬(h.2-x)/4=0 by omega)]
   simp only[ac,aF]
   cases hv:v.2 with
   |false=>
    simp only[Bool.not_false,ae]
    cases decide (v.1.1=4)<;>cases decide ((h.2-x)/4=1)<;>cases decide (v.1.1=22)<;>cases decide (v.1.2.1=2)<;>exact⟨_,_,rfl,rfl,rfl,fun h=>by cases h⟩
   |true=>
    simp only[aD,ac]
    cases decide (v.1.1=4)<;>cases decide ((h.2-x)/4=1)<;>cases decide (v.1.1=22)<;>cases decide (v.1.2.1=2)<;>exact⟨_,_,rfl,rfl,rfl,fun _=>⟨rfl,fr _ (by simp)⟩⟩
 ·rw[ak hal]
  exact⟨_,_,rfl,rfl,rfl,fun h=>by cases h⟩
theorem ID (n:Nat) (h:n≤4096):aI n 32=true:=by simp[aI];omega
theorem Ez {m:OM} (hm:iv m.1=true) {P:List Pc} {top:Int} (hP:ja P top) (hl:P.length≤40) (t:Int) (h:List Int×Int) (hra:mS (rd (τ:= .int .i64) h.1 1)):
  ∀(k:Nat) (out:List Fr) (f:Fr),out.length+k=40→(∀g∈out,Ka P g)→Ka P f→
  ∃v v':List Fr×Bool,ud.a P t m h f true out=some v∧Fp.a P t m h f (out++[f])=some v'∧v.2=v'.2∧(v.2=true→v.1=v'.1∧v.1.length≤40∧∀g∈v.1,Ka P g):=by
 intro k
 induction k with
 |zero=>
  intro out f hk ho hf
  rw[ud.a_eq,Fp.a_eq]
  rw[ak (show¬(out.length:Int)<40 by omega),ak (show¬(((out++[f]).length:Nat):Int)≤40 by rw[List.length_append];simp only[List.length_cons,List.length_nil];omega)]
  exact⟨_,_,rfl,rfl,rfl,fun h=>by cases h⟩
 |succ k ih=>
  intro out f hk ho hf
  obtain⟨⟨q,hq,hql⟩,fpc,fsp,fph⟩:=hf
  have hall:∀g∈out++[f],Ka P g:=fun g hg=>by
   rcases List.mem_append.1 hg with hg|hg
   ·exact ho g hg
   ·rw[List.mem_singleton]at hg;rw[hg];exact⟨⟨q,hq,hql⟩,fpc,fsp,fph⟩
  have hlen:(out++[f]).length=out.length+1:=by rw[List.length_append];rfl
  rw[ud.a_eq,Fp.a_eq]
  rw[ab (show(out.length:Int)<40 by omega),hlen,ab (show((out.length+1:Nat):Int)≤40 by omega),NR,hq,aj,ab hql]
  simp only[ae,aF,List.length_cons,List.length_nil]
  rw[ID _ (by omega)]
  simp only[ae]
  have h32:az 1 32=true:=rfl
  rw[h32]
  simp only[ae]
  obtain⟨fr,hfr⟩:∃x:Int,(rd (τ:=kI) P (q:Int)).2.2.2.2=x:=⟨_,rfl⟩
  have hfv:=(hP.ok _ (au (τ:=kI) P q hql)).fr
  rw[hfr]at hfv⊢
  have hfr2:=mJ hfv
  have rest:∀ra sp:Int,mS ra→mS sp→∃v v':List Fr×Bool,
    (bif (decide (ra=0))then((TY t).bind fun r7=>some ((out++[f]),(decide (sp=r7))))else((RA P ra).bind fun r8=>bif (decide (r8<0))then some ([],false)else(bif (!decide ((ra.tmod 4)=0))then some ([],false)else(bif (az r8 (P.length))then(bif (decide ((IntKind.wrap .i64 (ra-(rd (τ:=kI) P r8).2.2.1))<12))then some ([],false)else((Rz m.1 (IntKind.wrap .i64 (ra-4))).bind fun r13=>bif r13.2 then(bif (decide (r13.1.1=3))then ud.a P t m h (r8,ra,sp,2) (decide (r13.1.2.1=1)) (out++[f])else ud.a P t m h (r8,ra,sp,2) false (out++[f]))else ud.a P t m h (r8,ra,sp,2) false (out++[f])))else none))))=some v∧
    (bif (decide (ra=0))then((Tr t).bind fun r3=>bif (!decide (sp=r3))then some ([],false)else some ((out++[f]),true))else((Ba P ra).bind fun r4=>bif (decide (r4<0))then some ([],false)else(bif (!decide ((ra.tmod 4)=0))then some ([],false)else(bif (az r4 (P.length))then(bif (decide ((IntKind.wrap .i64 (ra-(rd (τ:=kI) P r4).2.2.1))<12))then some ([],false)else((Rl m.1 (IntKind.wrap .i64 (ra-4))).bind fun r9=>bif (!r9.2)then some ([],false)else(bif (!decide (r9.1.1=3))then some ([],false)else(bif (!decide (r9.1.2.1=1))then some ([],false)else(bif (aI (out.length+1+1) 32)then Fp.a P t m h (r4,ra,sp,2) ((out++[f])++[(r4,ra,sp,2)])else none)))))else none))))=some v'∧
    v.2=v'.2∧(v.2=true→v.1=v'.1∧v.1.length≤40∧∀g∈v.1,Ka P g):=by
   intro ra sp hra hsp
   by_cases h0:ra=0
   ·rw[ab h0,Qc,NS]
    simp only[ae,af]
    cases decide (sp=IntKind.wrap .i64 (IntKind.wrap .i64 (32768+IntKind.wrap .i64 (1024*t))+512))with
    |false=>exact⟨_,_,rfl,rfl,rfl,fun h=>by cases h⟩
    |true=>exact⟨_,_,rfl,rfl,rfl,fun _=>⟨rfl,by rw[hlen];omega,hall⟩⟩
   rw[ak h0]
   simp only[ac]
   obtain⟨a1,a2⟩:=uw hP hl ra
   rw[a1,a2]
   simp only[af]
   rcases BG hP ra with hneg|⟨j,x,y,hk',hkl,hx,hy,x0,x1,x2,y1,g1,g2⟩
   ·rw[ab hneg]
    exact⟨_,_,rfl,rfl,rfl,fun h=>by cases h⟩
   rw[hk',ak (show¬(j:Int)<0 by omega),aj,ab hkl]
   simp only[ac,ae]
   cases decide (ra.tmod 4=0)with
   |false=>exact⟨_,_,rfl,rfl,rfl,fun h=>by cases h⟩
   |true=>
    simp only[aD,ac]
    cases decide ((IntKind.wrap .i64 (ra-(rd (τ:=kI) P (j:Int)).2.2.1))<12)with
    |true=>exact⟨_,_,rfl,rfl,rfl,fun h=>by cases h⟩
    |false=>
     simp only[ac]
     obtain⟨v,i1,i2,_,_⟩:=rL hm (IntKind.wrap .i64 (ra-4)) (Ep _)
     rw[i1,i2]
     simp only[af]
     have stop:ud.a P t m h ((j:Int),ra,sp,2) false (out++[f])=some ([],false):=by
      rw[ud.a_eq];rfl
     cases v.2 with
     |false=>exact⟨_,_,stop,rfl,rfl,fun h=>by cases h⟩
     |true=>
      simp only[aD,ac,ae]
      cases decide (v.1.1=3)with
      |false=>exact⟨_,_,stop,rfl,rfl,fun h=>by cases h⟩
      |true=>
       simp only[aD,ac,ae]
       cases decide (v.1.2.1=1)with
       |false=>exact⟨_,_,stop,rfl,rfl,fun h=>by cases h⟩
       |true=>
        simp only[aD,ac]
        rw[ID _ (by omega)]
        exact ih (out++[f]) ((j:Int),ra,sp,2) (by rw[hlen];omega) hall ⟨⟨j,rfl,hkl⟩,hra,hsp,.inr (.inr rfl)⟩
  rcases fph with h0|h1|h2
  ·rw[h0]
   simp only[show decide ((0:Int)=2)=false from rfl,show decide ((0:Int)=1)=false from rfl,ac]
   exact rest _ _ hra fsp
  ·rw[h1,rM]
   simp only[show decide ((1:Int)=2)=false from rfl,show decide ((1:Int)=0)=false from rfl,ac,ae,Bool.not_false,af]
   exact rest _ _ hra (Ep _)
  ·rw[h2,rM,rM,aT (n:=fr-8) (by omega) (by omega),IC]
   simp only[show decide ((2:Int)=0)=false from rfl,show decide ((2:Int)=1)=false from rfl,ac,ae,Bool.not_false,af]
   obtain⟨v,l1,l2,l3⟩:=Ey hm (IntKind.wrap .i64 (f.2.2.1+(fr-8))) (Ep _) 8 (.inr rfl)
   rw[show((8:Nat):Int)=8 from rfl]at l1 l2
   rw[l1,l2]
   simp only[af]
   cases decide (v.2=0)with
   |false=>exact⟨_,_,rfl,rfl,rfl,fun h=>by cases h⟩
   |true=>
    simp only[aD,ac]
    exact rest _ _ l3 (Ep _)
theorem EA {m:OM} (hm:iv m.1=true) {P:List Pc} {top:Int} (hP:ja P top) (hl:P.length≤40) (i:Nat) (hi:i<m.2.1.length)
  (h2:mS (rd (τ:=dS) m.2.1 (i:Int)).2.1.2) (hr:∀j:Int,mS (rd (τ:= .int .i64) (rd (τ:=dS) m.2.1 (i:Int)).2.1.1 j)):
  ∃v v':List Fr×Bool,ud m P (i:Int)=some v∧Fp m P (i:Int)=some v'∧v.2=v'.2∧(v.2=true→v.1=v'.1∧v.1.length≤40∧∀g∈v.1,Ka P g):=by
 rw[Qd,NT,aj,ab hi]
 simp only[ae]
 obtain⟨v,v',e1,e2,e3,e4⟩:=AF hm hP hl (rd (τ:=dS) m.2.1 (i:Int)).2.1 h2 (hr 2)
 rw[e1,e2]
 simp only[af]
 rw[←e3]
 cases hv:v.2 with
 |false=>
  have:ud.a P (i:Int) m (rd (τ:=dS) m.2.1 (i:Int)).2.1 v.1 false []=some ([],false):=by rw[ud.a_eq];rfl
  rw[this]
  exact⟨_,_,rfl,rfl,rfl,fun h=>by cases h⟩
 |true=>
  obtain⟨g1,g2⟩:=e4 hv
  rw[←g1]
  simp only[aD,ac]
  exact Ez hm hP hl (i:Int) (rd (τ:=dS) m.2.1 (i:Int)).2.1 (hr 1) 40 [] v.1 (by simp) (fun g hg=>by cases hg) g2
theorem Kb (R:List Int) (h:∀x∈R,mS x) (q:Int):mS (rd (τ:= .int .i64) R q):=by
 have e:rd (τ:= .int .i64) R q=R.getD q.toNat (0:Int):=rfl
 rw[e,List.getD_eq_getElem?_getD]
 cases hg:R[q.toNat]? with
 |none=>exact⟨by decide,by decide⟩
 |some x=>exact h x (List.mem_of_getElem? hg)
theorem yf (t:List dg) (P:List Pc) (m:List eB) (a b:bH) (ht:t.length≤64) (he:∀e∈t,RH e) (hp:∀p∈P,0≤p.1∧p.1< (t.length:Int)∧0≤p.2.1∧p.2.1≤6) (L:List Fr) (hL:∀g∈L,Ka P g) (hl:L.length≤40):
  ∃V:List ByteArray,V.length≤64∧Dl.a (t,P,m,a,b) [] L (L.length:Int) 0=some (V,0)∧Gq.a (t,a,b,P,m) L [] 0=some (V,0):=by
 have key:∀(n i:Nat) (x:List ByteArray),i+n=L.length→x.length=i→∃V:List ByteArray,V.length≤64∧
   Dl.a (t,P,m,a,b) x L (L.length:Int) (i:Int)=some (V,0)∧Gq.a (t,a,b,P,m) L x (i:Int)=some (V,0):=by
  intro n
  induction n with
  |zero=>
   intro i x h hx
   have:i=L.length:=by omega
   subst this
   rw[Dl.a_eq,Gq.a_eq,ah,ak (aA _)]
   exact⟨x,by omega,rfl,rfl⟩
  |succ n ih=>
   intro i x h hx
   have hi:i<L.length:=by omega
   obtain⟨⟨k,hk,hkl⟩,f2,f3,_⟩:=hL _ (au (τ:=UJ) L i hi)
   obtain⟨f,hf⟩:∃f:Fr,rd (τ:=UJ) L (i:Int)=f:=⟨_,rfl⟩
   rw[hf]at hk f2 f3
   obtain⟨p,hpe⟩:∃p:Pc,rd (τ:=kI) P (k:Int)=p:=⟨_,rfl⟩
   have hpp:=hp _ (au (τ:=kI) P k hkl)
   rw[hpe]at hpp
   obtain⟨p1,p2,p3,p4⟩:=hpp
   obtain⟨q,hq⟩:∃q:Nat,p.1=(q:Int):=⟨p.1.toNat,by omega⟩
   have hqt:q<t.length:=by omega
   have hE:=he _ (au (τ:=ba) t q hqt)
   obtain⟨e,hee⟩:∃e:dg,rd (τ:=ba) t (q:Int)=e:=⟨_,rfl⟩
   rw[hee]at hE
   have hn:=hE.n
   have w1:mS (IntKind.wrap .i64 (f.2.1-p.2.2.1)):=Ep _
   have w2:mS p.2.1:=⟨by omega,by omega⟩
   have s1:=jD _ w1
   have s2:=jD _ w2
   have s3:=jD _ f3
   have q1:(⟨#[43]⟩:ByteArray).size=1:=rfl
   have q2:(⟨#[32,112,97,116,99,104,32]⟩:ByteArray).size=7:=rfl
   have q3:(⟨#[32,115,112,32]⟩:ByteArray).size=4:=rfl
   have c1:((⟨#[32]⟩:ByteArray)++(⟨#[112,97,116,99,104]⟩:ByteArray))++(⟨#[32]⟩:ByteArray)=(⟨#[32,112,97,116,99,104,32]⟩:ByteArray):=rfl
   have c2:((⟨#[32]⟩:ByteArray)++(⟨#[115,112]⟩:ByteArray))++(⟨#[32]⟩:ByteArray)=(⟨#[32,115,112,32]⟩:ByteArray):=rfl
   have hx16:aI (x.length+1) 16=true:=ju _ (by omega)
   rw[Dl.a_eq,Gq.a_eq,ah,aj,ab hi,an i _ hi (by omega),hf]
   simp only[ae]
   rw[hk,aj,ab hkl,hpe]
   simp only[ae]
   rw[hq,aj,ab hqt,hee,(gR _ w1).1,(gR _ w1).2,kJ _ _ (by decide) w2,kJ _ _ (by decide) f3,(gR _ w2).2,(gR _ f3).2,c1,c2]
   simp only[ae,af,List.length_cons,List.length_nil]
   rw[hx16]
   rw[Er (by first|omega|(simp only[ByteArray.size_append];omega)),Er (by first|omega|(simp only[ByteArray.size_append];omega)),Er (by first|omega|(simp only[ByteArray.size_append];omega)),Er (by first|omega|(simp only[ByteArray.size_append];omega)),Er (by first|omega|(simp only[ByteArray.size_append];omega)),Er (by first|omega|(simp only[ByteArray.size_append];omega)),Er (by first|omega|(simp only[ByteArray.size_append];omega)),Er (by first|omega|(simp only[ByteArray.size_append];omega))]
   simp only[ae,ByteArray.append_assoc]
   exact ih (i+1) _ (by omega) (by simp;omega)
 exact key L.length 0 [] (by omega) rfl
theorem oT (s:SS) (hw:o6 TSys s) (i:Int):∃(V:List ByteArray) (c:Int),V.length≤64∧Dl s i=some (V,c)∧Ts s i=some (V,c):=by
 obtain⟨rI,rS,f1,f2,f3,f4⟩:=vu s (Iw hw.2.2)
 rw[Qj,NV,f1,f2]
 simp only[af]
 rw[←f3]
 cases hr:rI.2 with
 |false=>exact⟨_,_,by simp,rfl,rfl⟩
 |true=>
  obtain⟨⟨n1,n2,_⟩,t',P',F',a',b',g1,g2,g3⟩:=f4 hr
  have hpl:=g3.pl
  have hl40:P'.length≤40:=by omega
  have hm:iv s.2.1.1=true:=by
   unfold sG at n2
   rw[ay]at n2
   exact n2.1
  rw[g1,g2]
  simp only[aD,ac]
  rw[Qe,P5,ak (show¬(P'.length:Int)>4096 by omega),IB g3.pk hl40,(ow s.2.1).1,n2,NU,P6,NI]
  simp only[af,ac,aD,decide_true,aF]
  have hlen:s.2.1.2.1.length≤4:=by
   unfold sG at n2
   simp only[ay]at n2
   have:=n2.2.2.2
   unfold xy at this
   simp only[ay]at this
   have:=bm.1 this.1
   omega
  rw[aT (n:=(s.2.1.2.1.length:Int)-1) (by omega) (by omega),sF]
  simp only[af]
  by_cases hi:0≤i∧i< (s.2.1.2.1.length:Int)
  ·obtain⟨j,rfl⟩:∃j:Nat,i=(j:Int):=⟨i.toNat,by omega⟩
   have hj:j<s.2.1.2.1.length:=by omega
   rw[bm.2 (show 0≤(j:Int)∧(j:Int)≤(s.2.1.2.1.length:Int)-1 by omega),ak (show¬(j:Int)<0 by omega),ak (show¬(j:Int)≥(s.2.1.2.1.length:Int) by omega),aj,ab hj]
   simp only[aD,ac,ae]
   cases decide ((rd (τ:=dS) s.2.1.2.1 (j:Int)).1=1)with
   |false=>exact⟨[],31,by simp,rfl,rfl⟩
   |true=>
    simp only[aD,ac,af,decide_true]
    have hth:=hw.2.1.2.1.2 _ (au (τ:=dS) s.2.1.2.1 j hj)
    obtain⟨v,v',e1,e2,e3,e4⟩:=EA hm g3.pk hl40 j hj hth.2.1.2 (fun q=>by
     exact Kb _ hth.2.1.1.2 q)
    rw[e1,e2]
    simp only[af]
    rw[←e3]
    cases hv:v.2 with
    |false=>exact⟨[],14,by simp,rfl,rfl⟩
    |true=>
     obtain⟨w1,w2,w3⟩:=e4 hv
     simp only[aD,ac,decide_true,af]
     rw[←w1]
     obtain⟨V,v0,v1,v2⟩:=yf t' P' (aK F' BL) a' b' g3.tab.len (fun e he=>J9 (g3.tab.ent e he)) (fun p hp=>by have:=g3.pcs p hp;omega) v.1 w3 w2
     rw[v1,v2]
     exact⟨V,0,v0,rfl,rfl⟩
  ·have h1:c7 i 0 ((s.2.1.2.1.length:Int)-1)=false:=by
    cases h:c7 i 0 ((s.2.1.2.1.length:Int)-1)with
    |false=>rfl
    |true=>have:=bm.1 h;omega
   rw[h1]
   simp only[Bool.not_false,ae]
   by_cases h0:i<0
   ·rw[ab h0]
    exact⟨[],5,by simp,rfl,rfl⟩
   ·rw[ak h0,ab (show i≥(s.2.1.2.1.length:Int) by omega)]
    exact⟨[],5,by simp,rfl,rfl⟩
theorem rN (s:SS) (hw:o6 TSys s) (i:Int):UF s i=some true:=by
 rw[Qk]
 obtain⟨r,e1,e2,e3⟩:=DR s hw 1048576 ⟨by decide,by decide⟩
 rw[e1]
 simp only[af]
 by_cases h:r<0
 ·rw[ab h];rfl
 ·have hb:=e3 (by omega)
  obtain⟨V,c,v0,v1,v2⟩:=oT s hw i
  obtain⟨k,m1,m2,m3⟩:=Ew s hb 1 (by decide) (by decide)
  obtain⟨i1,i2⟩:=Ex V (by omega)
  rw[ak h,Ec s hw hb]
  simp only[af,ac,aF]
  rw[v1,v2]
  simp only[af,J8 V (by omega),decide_true,aD,ac,Eo s hw hb,m1,ul (show 0≤k.1 by omega),i1,i2,ul (show 0≤1+1*(V.length:Int) by omega)]
end Go.Proofs.YtijpmnicihmoaaaGreatDoor.S
