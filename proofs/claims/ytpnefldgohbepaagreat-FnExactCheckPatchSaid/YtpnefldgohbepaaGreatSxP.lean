import Derived.Test.YtpnefldgohbepaaGreatSxI
import Derived.IntWalk
import Derived.Lib.AtoiAllCases
import Derived.Lib.IndexBytes
import Derived.Lib.IndexLaws
import Derived.Lib.SplitLaws
namespace Go.Proofs.YtpnefldgohbepaaGreat.S
noncomputable section
open Go.Ps
set_option linter.unusedVariables false
set_option maxRecDepth 100000
theorem bf {n:Int} (h: -9223372036854775808≤n) (h':n≤9223372036854775807):IntKind.wrap .i64 n=n:=IntWalk.i64_in n ⟨h,h'⟩
theorem ne (n:Int):Tv n=Ui n:=by rw[IN,Om]
theorem yn (n:Int):UI n=Vm n:=by rw[IO,On]
theorem EO (t:ByteArray) (ht:t.size≤20):∀(k:Nat) (i:Int),0≤i→t.size≤i.toNat+k→p8.a t i=v7.a t i:=by
 intro k
 induction k with
 |zero=>
  intro i h0 hk
  have:decide (i< (t.size:Int))=false:=by simp;omega
  rw[p8.a_eq,v7.a_eq,this];rfl
 |succ k ih=>
  intro i h0 hk
  rw[p8.a_eq,v7.a_eq,ne,yn]
  by_cases hi:i< (t.size:Int)
  ·rw[bf (n:=i+1) (by omega) (by omega),ih (i+1) (by omega) (by omega)]
  ·rw[show decide (i< (t.size:Int))=false by simp;omega];rfl
theorem RP (t:ByteArray):p8 t=v7 t:=by
 rw[IP,Oo,AU]
 by_cases h1:(t.size:Int)<1
 ·rw[show decide ((1:Int)≤(t.size:Int))=false by simp;omega,show decide ((t.size:Int)<1)=true by simp;omega];rfl
 ·rw[show decide ((1:Int)≤(t.size:Int))=true by simp;omega,show decide ((t.size:Int)<1)=false by simp;omega]
  by_cases h2:(t.size:Int)>20
  ·rw[show decide ((t.size:Int)>20)=true by simp;omega,show decide ((t.size:Int)≤20)=false by simp;omega];rfl
  ·rw[show decide ((t.size:Int)>20)=false by simp;omega,show decide ((t.size:Int)≤20)=true by simp;omega]
   simp only[ae,ac,af,aH]
   rw[ne,EO t (by omega) t.size 1 (by omega) (by omega)]
theorem IZ (t:ByteArray) (ht:t.size≤1048576):∀(k:Nat) (x i:Int),0≤i→t.size≤i.toNat+k→FF.a t x i=yk.a t x i:=by
 intro k
 induction k with
 |zero=>
  intro x i h0 hk
  have:decide (i< (t.size:Int))=false:=by simp;omega
  rw[FF.a_eq,yk.a_eq,this];rfl
 |succ k ih=>
  intro x i h0 hk
  rw[FF.a_eq,yk.a_eq]
  by_cases hi:i< (t.size:Int)
  ·rw[bf (n:=i+1) (by omega) (by omega),ih _ (i+1) (by omega) (by omega)]
  ·rw[show decide (i< (t.size:Int))=false by simp;omega];rfl
theorem TC (t:ByteArray) (ht:t.size≤1048576):FF t=yk t:=by
 rw[Mm,IJ,IZ t ht t.size 1 0 (by omega) (by omega)]
theorem nf (t:ByteArray) (i:Int):0≤bt t i∧bt t i≤255:=by
 unfold bt
 have:=(t.data.getD i.toNat 0).toNat_lt
 omega
theorem I0 {n:Int} (h:0≤n) (h':n≤18446744073709551615):IntKind.wrap .u64 n=n:=by
 have:IntKind.wrap .u64 n=n%18446744073709551616:=by simp[IntKind.wrap,IntKind.bits,IntKind.signed]
 rw[this];omega
def mB (p:ByteArray×Bool) (q:ByteArray×Int×Bool):Prop:=0≤q.2.1∧q.2.1≤(q.1.size:Int)∧q.1.size≤65536∧p=(q.1.extract q.2.1.toNat q.1.size,q.2.2)
theorem se {p:ByteArray×Bool} {q:ByteArray×Int×Bool} {n:Int} (h:mB p q) (hn:0≤n) (hn':n≤4294967296):
  ∃o p' q',Sa p n=some (o,p')∧PS q n=some (o,q')∧mB p' q'∧(q'.2.2=false→(o.size:Int)=n)∧(q'.2.2=true→o=⟨#[]⟩):=by
 obtain⟨t,a,s⟩:=q
 obtain⟨h0,h1,h2,rfl⟩:=h
 simp only at h0 h1 h2
 have hsz:(t.extract a.toNat t.size).size=t.size-a.toNat:=by rw[ByteArray.size_extract];omega
 rw[Mp,AT]
 simp only[aA,hsz]
 rw[bf (n:=(t.size:Int)-a) (by omega) (by omega),bf (n:=a+n) (by omega) (by omega),bf (n:=a+n-n) (by omega) (by omega)]
 cases s with
 |true=>exact⟨_,_,_,rfl,rfl,⟨h0,h1,h2,rfl⟩,(fun h=>by cases h),fun _=>rfl⟩
 |false=>
  by_cases hb:n>((t.size-a.toNat:Nat):Int)
  ·rw[show decide (n>((t.size-a.toNat:Nat):Int))=true by simp;omega,show decide (n>(t.size:Int)-a)=true by simp;omega]
   exact⟨_,_,_,rfl,rfl,⟨h0,h1,h2,rfl⟩,(fun h=>by cases h),fun _=>rfl⟩
  ·rw[show decide (n>((t.size-a.toNat:Nat):Int))=false by simp;omega,show decide (n>(t.size:Int)-a)=false by simp;omega]
   have e1:n≤((t.size-a.toNat:Nat):Int):=by omega
   have e2:0≤a+n-n:=by omega
   have e3:a+n-n≤a+n:=by omega
   have e4:a+n≤(t.size:Int):=by omega
   simp only[ac,ab hn,ab e1,ab e2,ab e3,ab e4,ab (Int.le_refl ((t.size-a.toNat:Nat):Int)),Bool.and_self,ae]
   have f1:(t.extract a.toNat t.size).extract (Int.toNat 0) n.toNat=t.extract (a+n-n).toNat (a+n).toNat:=by
    rw[ByteArray.extract_extract]
    congr 1
    ·have:(Int.toNat 0)=0:=rfl
     omega
    ·omega
   have f2:(t.extract a.toNat t.size).extract n.toNat (((t.size-a.toNat:Nat):Int)).toNat=t.extract (a+n).toNat t.size:=by
    rw[ByteArray.extract_extract]
    congr 1
    ·omega
    ·omega
   rw[f1,f2]
   refine⟨_,_,_,rfl,rfl,⟨by simp only;omega,by simp only;omega,h2,rfl⟩,fun _=> ?_,fun h=>by cases h⟩
   rw[ByteArray.size_extract];omega
def tB {α:Type} (x y:Option α):Prop:=∃v,x=some v∧y=some v
theorem tB.mk {α:Type} (v:α):tB (some v) (some v):=⟨v,rfl,rfl⟩
theorem tB.bind {α β:Type} {x y:Option α} {f g:α→Option β} (h:tB x y) (k:∀v,x=some v→tB (f v) (g v)):tB (x.bind f) (y.bind g):=by
 obtain⟨v,h1,h2⟩:=h
 rw[h1,h2];exact k v h1
theorem tB.some {α:Type} {x y:Option α} (e:x=y) (h:∃v,x=some v):tB x y:=by obtain⟨v,h⟩:=h;exact⟨v,h,e▸h⟩
theorem pd (n:Int):∃v,Tv n=some v:=by
 rw[IN]
 cases decide (n≥97)<;>cases decide (n≤122)<;>cases decide (n≥65)<;>cases decide (n≤90)<;>exact⟨_,rfl⟩
theorem AY (n:Int):∃v,UI n=some v:=by
 rw[IO];cases decide (n≥48)<;>exact⟨_,rfl⟩
theorem si (t:ByteArray) (ht:t.size≤20):∀(k:Nat) (i:Int),0≤i→t.size≤i.toNat+k→∃v,p8.a t i=some v:=by
 intro k
 induction k with
 |zero=>
  intro i h0 hk
  have:decide (i< (t.size:Int))=false:=by simp;omega
  rw[p8.a_eq,this];exact⟨_,rfl⟩
 |succ k ih=>
  intro i h0 hk
  rw[p8.a_eq]
  by_cases hi:i< (t.size:Int)
  ·have e:aG i t.size=true:=by simp[aG];omega
   obtain⟨v1,h1⟩:=pd (bt t i)
   obtain⟨v2,h2⟩:=AY (bt t i)
   obtain⟨v3,h3⟩:=ih (i+1) (by omega) (by omega)
   rw[bf (n:=i+1) (by omega) (by omega),e,h1,h2,h3]
   simp only[ab hi,ae,af]
   cases v1<;>cases v2<;>exact⟨_,rfl⟩
  ·rw[show decide (i< (t.size:Int))=false by simp;omega];exact⟨_,rfl⟩
theorem uG (t:ByteArray):∃v,p8 t=some v:=by
 rw[IP,AU]
 by_cases h1:(1:Int)≤(t.size:Int)
 ·by_cases h2:(t.size:Int)≤20
  ·obtain⟨v1,e1⟩:=pd (bt t 0)
   obtain⟨v2,e2⟩:=si t (by omega) t.size 1 (by omega) (by omega)
   have e:aG 0 t.size=true:=by simp[aG];omega
   simp only[ab h1,ab h2,ae,af,aH,ac,e,e1,e2]
   cases v1<;>exact⟨_,rfl⟩
  ·simp only[ab h1,ae,af,ak h2,Bool.not_false];exact⟨_,rfl⟩
 ·simp only[ak h1,ac,af,Bool.not_false,ae];exact⟨_,rfl⟩
theorem EP (t:ByteArray):tB (p8 t) (v7 t):=tB.some (RP t) (uG t)
theorem eB {α:Type} (c:Bool) (a b:α):cond c a b=if c=true then a else b:=by cases c<;>rfl
theorem AZ (n:Int):∃q:Int,IntKind.wrap .i64 n=n-18446744073709551616*q:=by
 rw[IntKind.wrap_i64];exact⟨(n+9223372036854775808)/18446744073709551616,by omega⟩
theorem EQ (n:Int): -9223372036854775808≤IntKind.wrap .i64 n∧IntKind.wrap .i64 n≤9223372036854775807:=by
 rw[IntKind.wrap_i64];omega
theorem A0 (x:Int):((BitVec.ofInt IntKind.i64.bits x).toNat:Int)=x%18446744073709551616:=by
 rw[BitVec.toNat_ofInt]
 have hb:((2^IntKind.i64.bits:Nat):Int)=18446744073709551616:=rfl
 rw[hb];omega
theorem yp (x:Int) (c:Nat) (hc:c≤62):x%18446744073709551616%2^c=x%2^c:=by
 apply Int.emod_emod_of_dvd
 exact⟨2^(64-c),by rw[←Int.pow_add,show c+(64-c)=64 by omega];rfl⟩
theorem jj (c:Nat) (hc:c≤62):(1:Int)≤2^c∧(2:Int)^c≤4611686018427387904:=by
 have h1:2^c≤2^62:=Nat.pow_le_pow_right (by decide) hc
 have h2:1≤2^c:=Nat.one_le_two_pow
 have e:((2^c:Nat):Int)=(2:Int)^c:=by simp
 omega
theorem I1 (x:Int) (c:Nat) (hc:c≤62):andI .i64 x (2^c-1)=x%2^c:=by
 have hp:=jj c hc
 have e:((2^c:Nat):Int)=(2:Int)^c:=by simp
 unfold andI
 have h1:(BitVec.ofInt IntKind.i64.bits x&&&BitVec.ofInt IntKind.i64.bits ((2:Int)^c-1)).toNat=(BitVec.ofInt IntKind.i64.bits x).toNat%2^c:=by
  rw[BitVec.toNat_and]
  have:(BitVec.ofInt IntKind.i64.bits ((2:Int)^c-1)).toNat=2^c-1:=by
   have:=A0 ((2:Int)^c-1);omega
  rw[this,Nat.and_two_pow_sub_one_eq_mod]
 rw[h1]
 have h2:(((BitVec.ofInt IntKind.i64.bits x).toNat%2^c:Nat):Int)=x%2^c:=by
  rw[Int.natCast_emod,A0,e,yp x c hc]
 rw[h2]
 have h3:0≤x%2^c:=Int.emod_nonneg _ (by omega)
 have h4:x%2^c<2^c:=Int.emod_lt_of_pos _ (by omega)
 exact bf (by omega) (by omega)
theorem qb {x:Int} {k:Int} (h:0≤k) (h':k≤64):mR .i64 x k=x/2^k.toNat:=by
 unfold mR
 have hb:IntKind.i64.bits=64:=rfl
 rw[show min k.toNat IntKind.i64.bits=k.toNat by omega,Int.fdiv_eq_ediv_of_nonneg]
 have:=jj
 exact Int.le_of_lt (Int.pow_pos (by decide))
theorem uH {x:Int} {k:Int} (h:0≤k) (h':k≤64):mR .u64 x k=x/2^k.toNat:=by
 unfold mR
 have hb:IntKind.u64.bits=64:=rfl
 rw[show min k.toNat IntKind.u64.bits=k.toNat by omega,Int.fdiv_eq_ediv_of_nonneg]
 exact Int.le_of_lt (Int.pow_pos (by decide))
theorem ng {x:Int} {k:Int} (h:0≤k) (h':k≤64):dl .i64 x k=IntKind.wrap .i64 (x*2^k.toNat):=by
 unfold dl
 have hb:IntKind.i64.bits=64:=rfl
 rw[show min k.toNat IntKind.i64.bits=k.toNat by omega]
theorem fI (v low count:Int) (h:0≤low) (h':low≤64) (hc:0≤count) (hc':count≤62):IR v low count=some (v/2^low.toNat%2^count.toNat):=by
 rw[Q0]
 have hp:=jj count.toNat (by omega)
 rw[show decide (low<0)=false by simp;omega,show decide (count<0)=false by simp;omega,ng hc (by omega),qb h h',Int.one_mul,bf (n:=2^count.toNat) (by omega) (by omega),bf (n:=2^count.toNat-1) (by omega) (by omega),I1 _ _ (by omega)]
 rfl
theorem nh (x y k c:Nat) (hy:y<2^c) (h:x/2^k%2^c=0):x|||y*2^k=x+y*2^k:=by
 have hk:0<2^k:=Nat.two_pow_pos k
 have hkc:0<2^(k+c):=Nat.two_pow_pos _
 have e1:x%2^(k+c)<2^k:=by
  rw[Nat.pow_add]
  have:x% (2^k*2^c)=x%2^k+2^k*(x/2^k%2^c):=Nat.mod_mul
  rw[this,h]
  have:=Nat.mod_lt x hk
  omega
 have e2:y*2^k+x%2^(k+c)<2^(k+c):=by
  have:(y+1)*2^k≤2^c*2^k:=Nat.mul_le_mul_right _ (by omega)
  rw[Nat.pow_add,Nat.mul_comm (2^k) (2^c)]
  rw[Nat.pow_add,Nat.mul_comm (2^k) (2^c)]at e1
  rw[Nat.add_mul]at this
  omega
 have hx:x=(x/2^(k+c))<<< (k+c)|||x%2^(k+c):=by
  rw[←Nat.shiftLeft_add_eq_or_of_lt (Nat.mod_lt x hkc),Nat.shiftLeft_eq]
  have:=Nat.div_add_mod x (2^(k+c))
  rw[Nat.mul_comm]at this;exact this.symm
 have h3:x%2^(k+c)|||y*2^k=y*2^k+x%2^(k+c):=by
  rw[Nat.or_comm,←Nat.shiftLeft_eq y k,←Nat.shiftLeft_add_eq_or_of_lt e1,Nat.shiftLeft_eq]
 calc
  x|||y*2^k=(x/2^(k+c))<<< (k+c)||| (x%2^(k+c)|||y*2^k):=by
    conv=>lhs;rw[hx]
    rw[Nat.or_assoc]
  _=(x/2^(k+c))<<< (k+c)+(y*2^k+x%2^(k+c)):=by rw[h3,Nat.shiftLeft_add_eq_or_of_lt e2]
  _=x+y*2^k:=by
    rw[Nat.shiftLeft_eq]
    have:=Nat.div_add_mod x (2^(k+c))
    rw[Nat.mul_comm]at this;omega
theorem bL {x y P Q:Int} (k c:Nat) (hP:P=2^k) (hQ:Q=2^c) (hkc:k+c≤62) (hx:0≤x) (hx':x<4611686018427387904) (hy:0≤y) (hy':y<Q) (h:x/P%Q=0):iU .i64 x (y*P)=x+y*P:=by
 subst hP hQ
 obtain⟨a,rfl⟩:=Int.eq_ofNat_of_zero_le hx
 obtain⟨b,rfl⟩:=Int.eq_ofNat_of_zero_le hy
 have hp:=jj k (by omega)
 have ek:((2^k:Nat):Int)=(2:Int)^k:=by simp
 have ec:((2^c:Nat):Int)=(2:Int)^c:=by simp
 have hb:b<2^c:=by omega
 have hlt:b*2^k<4611686018427387904:=by
  have h1:b*2^k<2^c*2^k:=Nat.mul_lt_mul_of_pos_right hb (Nat.two_pow_pos k)
  rw[←Nat.pow_add]at h1
  have h2:2^(c+k)≤2^62:=Nat.pow_le_pow_right (by decide) (by omega)
  omega
 have h0:a/2^k%2^c=0:=by
  have:((a/2^k%2^c:Nat):Int)=(a:Int)/2^k%2^c:=by
   rw[Int.natCast_emod,Int.natCast_ediv,ek,ec]
  omega
 have em:((b*2^k:Nat):Int)=(b:Int)*2^k:=by rw[Int.natCast_mul,ek]
 unfold iU
 rw[BitVec.toNat_or]
 have f1:(BitVec.ofInt IntKind.i64.bits (a:Int)).toNat=a:=by have:=A0 (a:Int);omega
 have f2:(BitVec.ofInt IntKind.i64.bits ((b:Int)*2^k)).toNat=b*2^k:=by have:=A0 ((b:Int)*2^k);omega
 rw[f1,f2,nh a b k c hb h0,Int.natCast_add,em]
 exact bf (by omega) (by omega)
theorem iy (v i:Int) (hv: -9223372036854775808≤v) (hv':v≤9223372036854775807) (h:0≤i) (h':i≤63):yY v i=some (v/2^i.toNat%2):=by
 rw[Oz,I0 (n:=i) (by omega) (by omega),show decide (i<0)=false by simp;omega,uH h (by omega)]
 have hu:IntKind.wrap .u64 v=v%18446744073709551616:=by simp[IntKind.wrap,IntKind.bits,IntKind.signed]
 have h0:0≤v%18446744073709551616:=by omega
 have hp:(0:Int)<2^i.toNat:=Int.pow_pos (by decide)
 have hd:0≤v%18446744073709551616/2^i.toNat:=Int.ediv_nonneg h0 (by omega)
 rw[hu,Int.tmod_eq_emod_of_nonneg hd]
 have e:v%18446744073709551616/2^i.toNat%2=v/2^i.toNat%2:=by
  have hpe:(18446744073709551616:Int)=2^i.toNat*(2^(63-i.toNat)*2):=by
   rw[←Int.pow_succ,←Int.pow_add,show i.toNat+(63-i.toNat+1)=64 by omega];rfl
  have h1:v%18446744073709551616=v-2^i.toNat*(2^(63-i.toNat)*2*(v/18446744073709551616)):=by
   rw[Int.emod_def,←Int.mul_assoc,←hpe]
  rw[h1,Int.sub_eq_add_neg,←Int.mul_neg,Int.add_mul_ediv_left _ _ (by omega)]
  rw[Int.mul_comm (2^(63-i.toNat)) 2,Int.mul_assoc,←Int.mul_neg,Int.add_mul_emod_self_left]
 rw[e]
 have:v/2^i.toNat%2=0∨v/2^i.toNat%2=1:=by omega
 rcases this with h|h<;>rw[h]<;>rfl
theorem A3 (w low:Int) (hw: -9223372036854775808≤w) (hw':w≤9223372036854775807) (h:0≤low):∀(k:Nat) (x:Int),low+k≤63→k≤62→0≤x→(x+1)*2^k≤4611686018427387904→sN.a w low x ((k:Int)-1)=some (x*2^k+w/2^low.toNat%2^k):=by
 intro k
 induction k with
 |zero=>
  intro x _ _ _ _
  rw[sN.a_eq,show decide (((0:Nat):Int)-1≥0)=false by rfl]
  simp only[ac,Int.pow_zero,Int.emod_one,Int.mul_one,Int.add_zero]
 |succ k ih=>
  intro x h1 h2 h3 h4
  have hpk:=jj k (by omega)
  have hx:2*x+2≤4611686018427387904:=by
   rw[Int.pow_succ]at h4
   have:(x+1)*2≤(x+1)*(2^k*2):=Int.mul_le_mul_of_nonneg_left (by omega) (by omega)
   omega
  have hs:(((k+1:Nat):Int)-1)=(k:Int):=by omega
  rw[hs,sN.a_eq,show decide ((k:Int)≥0)=true by simp,bf (n:=low+k) (by omega) (by omega),iy w (low+k) hw hw' (by omega) (by omega)]
  have hb:0≤w/2^(low+k).toNat%2∧w/2^(low+k).toNat%2≤1:=by omega
  simp only[ae,af]
  rw[bf (n:=2*x) (by omega) (by omega),bf (n:=2*x+_) (by omega) (by omega),bf (n:=(k:Int)-1) (by omega) (by omega)]
  rw[ih _ (by omega) (by omega) (by omega) (by
   rw[Int.pow_succ,Int.mul_comm (2^k) 2,←Int.mul_assoc]at h4
   exact Int.le_trans (Int.mul_le_mul_of_nonneg_right (by omega) (by omega)) h4)]
  congr 1
  have e1:(low+k).toNat=low.toNat+k:=by omega
  have e2:w/2^low.toNat%2^(k+1)=w/2^low.toNat%2^k+2^k*(w/2^(low.toNat+k)%2):=by
   rw[Int.pow_succ,Int.pow_add,←Int.ediv_ediv_of_nonneg (Int.le_of_lt (Int.pow_pos (by decide)))]
   generalize w/2^low.toNat=z
   have hk:(0:Int)≤2^k:=by omega
   rw[Int.emod_def z (2^k*2),←Int.ediv_ediv_of_nonneg hk,Int.emod_def (z/2^k) 2,Int.emod_def z (2^k),Int.mul_sub]
   rw[Int.mul_assoc (2^k) 2];omega
  rw[e1,e2,Int.add_mul,Int.pow_succ,Int.mul_comm (2^k) 2,←Int.mul_assoc,Int.mul_comm x 2,Int.mul_comm (2^k) (w/2^(low.toNat+k)%2)]
  omega
theorem ER (w low count:Int) (hw: -9223372036854775808≤w) (hw':w≤9223372036854775807) (h:0≤low) (hc:0≤count) (hlc:low+count≤62):sN w low count=some (w/2^low.toNat%2^count.toNat):=by
 have hp:=jj count.toNat (by omega)
 rw[OG,bf (n:=count-1) (by omega) (by omega),show count-1=(count.toNat:Int)-1 by omega,A3 w low hw hw' h count.toNat 0 (by omega) (by omega) (by omega) (by omega)]
 rw[Int.zero_mul,Int.zero_add]
theorem lw (a z:Int) (n i:Nat) (h:i<n):(a+2^n*z)/2^i%2=a/2^i%2:=by
 have e:(2:Int)^n=2^i*(2*2^(n-i-1)):=by
  rw[←Int.mul_assoc,←Int.pow_succ,←Int.pow_add,show i+1+(n-i-1)=n by omega]
 have hp:(0:Int)<2^i:=Int.pow_pos (by decide)
 rw[e,Int.mul_assoc,Int.add_mul_ediv_left _ _ (by omega),Int.mul_assoc,Int.add_mul_emod_self_left]
theorem ni (t:Int) (i:Nat):2*(t/2^(i+1))+t/2^i%2=t/2^i:=by
 have hp:(0:Int)≤2^i:=Int.le_of_lt (Int.pow_pos (by decide))
 rw[Int.pow_succ,←Int.ediv_ediv_of_nonneg hp];omega
def dv (w low count v:Int):Int:=w%2^low.toNat+2^low.toNat*(v%2^count.toNat+2^count.toNat*(w/2^(low.toNat+count.toNat)))
theorem kU (w low count v:Int) (h:0≤low) (hc:0≤count) (i:Nat):dv w low count v/2^i%2=if low≤i∧(i:Int)<low+count then v/2^(i-low.toNat)%2 else w/2^i%2:=by
 obtain⟨l,rfl⟩:=Int.eq_ofNat_of_zero_le h
 obtain⟨c,rfl⟩:=Int.eq_ofNat_of_zero_le hc
 have hl:(0:Int)<2^l:=Int.pow_pos (by decide)
 have hcc:(0:Int)<2^c:=Int.pow_pos (by decide)
 simp only[dv,aP]
 by_cases h1:i<l
 ·rw[lw _ _ _ _ h1,ap (by omega)]
  conv=>rhs;rw[←Int.emod_add_mul_ediv w (2^l)]
  rw[lw _ _ _ _ h1]
 ·have e:(2:Int)^i=2^l*2^(i-l):=by rw[←Int.pow_add,show l+(i-l)=i by omega]
  rw[e,←Int.ediv_ediv_of_nonneg (by omega:(0:Int)≤2^l),Int.add_mul_ediv_left _ _ (by omega),Int.ediv_eq_zero_of_lt (Int.emod_nonneg _ (by omega)) (Int.emod_lt_of_pos _ hl),Int.zero_add]
  by_cases h2:i<l+c
  ·rw[av (by omega),lw _ _ _ _ (show i-l<c by omega)]
   conv=>rhs;rw[←Int.emod_add_mul_ediv v (2^c)]
   rw[lw _ _ _ _ (show i-l<c by omega)]
  ·have e2:(2:Int)^(i-l)=2^c*2^(i-l-c):=by rw[←Int.pow_add,show c+(i-l-c)=i-l by omega]
   rw[ap (by omega),e2,←Int.ediv_ediv_of_nonneg (by omega:(0:Int)≤2^c),Int.add_mul_ediv_left _ _ (by omega),Int.ediv_eq_zero_of_lt (Int.emod_nonneg _ (by omega)) (Int.emod_lt_of_pos _ hcc),Int.zero_add,Int.pow_add,←Int.ediv_ediv_of_nonneg (by omega:(0:Int)≤2^l),Int.ediv_ediv_of_nonneg (by omega:(0:Int)≤2^c),←e2,Int.ediv_ediv_of_nonneg (by omega:(0:Int)≤2^l)]
theorem cp (w low count v:Int) (h:0≤low) (hc:0≤count) (hlc:low+count≤32) (hw:0≤w) (hw':w<4294967296):0≤dv w low count v∧dv w low count v<4294967296:=by
 obtain⟨l,rfl⟩:=Int.eq_ofNat_of_zero_le h
 obtain⟨c,rfl⟩:=Int.eq_ofNat_of_zero_le hc
 have hl:(0:Int)<2^l:=Int.pow_pos (by decide)
 have hcc:(0:Int)<2^c:=Int.pow_pos (by decide)
 simp only[dv,aP]
 have a1:=Int.emod_nonneg w (show(2:Int)^l≠0 by omega)
 have a2:=Int.emod_lt_of_pos w hl
 have b1:=Int.emod_nonneg v (show(2:Int)^c≠0 by omega)
 have b2:=Int.emod_lt_of_pos v hcc
 have hlcp:(0:Int)<2^(l+c):=Int.pow_pos (by decide)
 have c1:0≤w/2^(l+c):=Int.ediv_nonneg hw (by omega)
 have c2:w/2^(l+c)+1≤2^(32-l-c):=by
  have:w/2^(l+c)<2^(32-l-c):=by
   apply Int.ediv_lt_of_lt_mul hlcp
   rw[←Int.pow_add,show 32-l-c+(l+c)=32 by omega];exact hw'
  omega
 generalize w/2^(l+c)=z at*
 generalize w%2^l=x at*
 generalize v%2^c=y at*
 have d1:0≤2^c*z:=Int.mul_nonneg (by omega) c1
 have d2:2^c*z+2^c≤2^c*2^(32-l-c):=by
  have:=Int.mul_le_mul_of_nonneg_left c2 (show(0:Int)≤2^c by omega)
  rw[Int.mul_add,Int.mul_one]at this;exact this
 rw[←Int.pow_add,show c+(32-l-c)=32-l by omega]at d2
 have d3:0≤2^l*(y+2^c*z):=Int.mul_nonneg (by omega) (by omega)
 have d4:2^l*(y+2^c*z)+2^l≤2^l*2^(32-l):=by
  have:=Int.mul_le_mul_of_nonneg_left (show y+2^c*z+1≤2^(32-l) by omega) (show(0:Int)≤2^l by omega)
  rw[Int.mul_add (2^l) _ 1,Int.mul_one]at this;exact this
 rw[←Int.pow_add,show l+(32-l)=32 by omega,show(2:Int)^32=4294967296 by rfl]at d4
 omega
theorem I2 (w low count v:Int) (h:0≤low) (hc:0≤count) (hlc:low+count≤32) (hw:0≤w) (hw':w<4294967296) (hv: -9223372036854775808≤v) (hv':v≤9223372036854775807):
  ∀(k:Nat),k≤32→g7.a w low count v (dv w low count v/2^k) ((k:Int)-1)=some (dv w low count v):=by
 have hr:=cp w low count v h hc hlc hw hw'
 intro k
 induction k with
 |zero=>
  intro _
  rw[g7.a_eq,show decide (((0:Nat):Int)-1≥0)=false by rfl]
  simp only[ac,Int.pow_zero,Int.ediv_one]
 |succ k ih=>
  intro hk
  have ih:=ih (by omega)
  have hb:=kU w low count v h hc k
  have hst:=ni (dv w low count v) k
  generalize ht:dv w low count v=T at*
  have hp:(0:Int)<2^(k+1):=Int.pow_pos (by decide)
  have q0:0≤T/2^(k+1):=Int.ediv_nonneg hr.1 (by omega)
  have q1:T/2^(k+1)≤T:=Int.ediv_le_self _ hr.1
  have hs:(((k+1:Nat):Int)-1)=(k:Int):=by omega
  rw[hs,g7.a_eq,show decide ((k:Int)≥0)=true by simp,iy w k (by omega) (by omega) (by omega) (by omega),bf (n:=low+count) (by omega) (by omega),bf (n:=2*(T/2^(k+1))) (by omega) (by omega),bf (n:=(k:Int)-1) (by omega) (by omega)]
  simp only[ae,af,aP]
  by_cases h1:low≤(k:Int)
  ·by_cases h2:(k:Int)<low+count
   ·rw[show decide ((k:Int)≥low)=true by simp;omega,show decide ((k:Int)<low+count)=true by simp;omega,bf (n:=(k:Int)-low) (by omega) (by omega),iy v _ hv hv' (by omega) (by omega)]
    rw[av ⟨h1,h2⟩]at hb
    simp only[ae,af]
    rw[show((k:Int)-low).toNat=k-low.toNat by omega,←hb,bf (by omega) (by omega),hst,ih]
   ·rw[show decide ((k:Int)≥low)=true by simp;omega,show decide ((k:Int)<low+count)=false by simp;omega]
    rw[ap (by omega)]at hb
    simp only[ae,ac]
    rw[←hb,bf (by omega) (by omega),hst,ih]
  ·rw[show decide ((k:Int)≥low)=false by simp;omega]
   rw[ap (by omega)]at hb
   simp only[ac]
   rw[←hb,bf (by omega) (by omega),hst,ih]
theorem cW (w low count v:Int) (h:0≤low) (hc:0≤count) (hlc:low+count≤32) (hw:0≤w) (hw':w<4294967296) (hv: -9223372036854775808≤v) (hv':v≤9223372036854775807):
  g7 w low count v=some (dv w low count v):=by
 have hr:=cp w low count v h hc hlc hw hw'
 have:=I2 w low count v h hc hlc hw hw' hv hv' 32 (by omega)
 rw[OA]
 rw[Int.ediv_eq_zero_of_lt hr.1 (by rw[show(2:Int)^32=4294967296 by rfl];exact hr.2)]at this
 exact this
def cz (v:Int) (c:Nat):Int:=if v%2^c<2^(c-1)then v%2^c else v%2^c-2^c
theorem yq (c:Nat) (h:1≤c):(2:Int)^c=2*2^(c-1):=by
 obtain⟨d,rfl⟩:=Nat.exists_eq_add_of_le h
 rw[Nat.add_comm,Int.pow_succ,Int.mul_comm];rfl
theorem uI (v:Int) (c:Nat):∃q,cz v c=v+2^c*q:=by
 unfold cz
 rw[Int.emod_def]
 split
 ·exact⟨-(v/2^c),by rw[Int.mul_neg];omega⟩
 ·exact⟨-(v/2^c)-1,by rw[Int.mul_sub,Int.mul_neg];omega⟩
theorem iz (v:Int) (c:Nat) (h:1≤c): -2^(c-1)≤cz v c∧cz v c<2^(c-1):=by
 have hp:=yq c h
 have hp1:(0:Int)<2^(c-1):=Int.pow_pos (by decide)
 have a1:=Int.emod_nonneg v (show(2:Int)^c≠0 by omega)
 have a2:=Int.emod_lt_of_pos v (show(0:Int)<2^c by omega)
 unfold cz
 split<;>omega
theorem LH (c:Nat) (h:c≤63):(2:Int)^c≤9223372036854775808:=by
 have h1:2^c≤2^63:=Nat.pow_le_pow_right (by decide) h
 have e:((2^c:Nat):Int)=(2:Int)^c:=by simp
 omega
theorem kV {n s:Int} (q:Int) (h:n=s+18446744073709551616*q) (h1: -9223372036854775808≤s) (h2:s≤9223372036854775807):IntKind.wrap .i64 n=s:=by
 rw[IntKind.wrap_i64];omega
theorem sj (v count:Int) (h:1≤count) (h':count≤64):Tz v count=some (cz v count.toNat):=by
 rw[Q3,bf (n:=64-count) (by omega) (by omega),show decide (64-count<0)=false by simp;omega,ng (by omega) (by omega),qb (by omega) (by omega)]
 simp only[ac]
 congr 1
 obtain⟨c,rfl⟩:=Int.eq_ofNat_of_zero_le (show 0≤count by omega)
 rw[show((64:Int)-(c:Int)).toNat=64-c by omega,aP]
 have hp1:(0:Int)<2^(c-1):=Int.pow_pos (by decide)
 have hk:(0:Int)<2^(64-c):=Int.pow_pos (by decide)
 obtain⟨q,hq⟩:=uI v c
 have hr:=iz v c (by omega)
 have e64:(2:Int)^c*2^(64-c)=18446744073709551616:=by rw[←Int.pow_add,show c+(64-c)=64 by omega];rfl
 have e63:(2:Int)^(c-1)*2^(64-c)=9223372036854775808:=by rw[←Int.pow_add,show c-1+(64-c)=63 by omega];rfl
 have hv:v*2^(64-c)=cz v c*2^(64-c)+18446744073709551616*(-q):=by
  rw[hq,←e64,Int.add_mul,Int.mul_neg,Int.mul_assoc,Int.mul_comm q,←Int.mul_assoc];omega
 have l1: -9223372036854775808≤cz v c*2^(64-c):=by
  have:=Int.mul_le_mul_of_nonneg_right hr.1 (show(0:Int)≤2^(64-c) by omega)
  rw[Int.neg_mul,e63]at this;exact this
 have l2:cz v c*2^(64-c)≤9223372036854775807:=by
  have:=Int.mul_lt_mul_of_pos_right hr.2 hk
  rw[e63]at this;omega
 rw[kV (-q) hv l1 l2,Int.mul_ediv_cancel _ (by omega)]
theorem I3 (v:Int) (c i:Nat) (h:1≤c):cz v c/2^i%2=v/2^(min i (c-1))%2:=by
 obtain⟨q,hq⟩:=uI v c
 by_cases h1:i<c
 ·rw[show min i (c-1)=i by omega,hq,lw _ _ _ _ h1]
 ·have hr:=iz v c h
  rw[show min i (c-1)=c-1 by omega]
  have e:v/2^(c-1)%2=cz v c/2^(c-1)%2:=by rw[hq,lw _ _ _ _ (by omega)]
  rw[e]
  have hp1:(0:Int)<2^(c-1):=Int.pow_pos (by decide)
  have hm:(2:Int)^(c-1)≤2^i:=by
   have h9:2^(c-1)≤2^i:=Nat.pow_le_pow_right (by decide) (show c-1≤i by omega)
   have e1:((2^(c-1):Nat):Int)=(2:Int)^(c-1):=by simp
   have e2:((2^i:Nat):Int)=(2:Int)^i:=by simp
   omega
  by_cases hs:0≤cz v c
  ·rw[Int.ediv_eq_zero_of_lt hs (by omega),Int.ediv_eq_zero_of_lt hs hr.2]
  ·have f:∀P:Int,0<P→ -P≤cz v c→cz v c/P= -1:=by
    intro P hP hle
    have:cz v c/P<0:=Int.ediv_neg_of_neg_of_pos (by omega) hP
    have h2: -1≤cz v c/P:=Int.le_ediv_of_mul_le hP (by omega)
    omega
   rw[f _ (by omega) (by omega),f _ hp1 hr.1]
theorem ES (v:Int) (c:Nat) (h:1≤c) (h':c≤64) (hv: -9223372036854775808≤v) (hv':v≤9223372036854775807):
  ∀k:Nat,k≤64→yg.a v c (cz v c/2^k%2^(64-k)) ((k:Int)-1)=some (cz v c):=by
 have hr:=iz v c h
 have hp:=LH (c-1) (by omega)
 intro k
 induction k with
 |zero=>
  intro _
  rw[yg.a_eq,show decide (((0:Nat):Int)-1≥0)=false by rfl]
  simp only[ac,Int.pow_zero,Int.ediv_one]
  congr 1
  rw[show(2:Int)^(64-0)=18446744073709551616 by rfl,Int.emod_def]
  exact kV (-(cz v c/18446744073709551616)) (by omega) (by omega) (by omega)
 |succ k ih=>
  intro hk
  have ih:=ih (by omega)
  have hs:(((k+1:Nat):Int)-1)=(k:Int):=by omega
  have hmin:(if IntKind.wrap .i64 ((c:Int)-1)< (k:Int)then IntKind.wrap .i64 ((c:Int)-1)else(k:Int))=((min k (c-1):Nat):Int):=by
   rw[bf (n:=(c:Int)-1) (by omega) (by omega)];split<;>omega
  rw[hs,yg.a_eq,show decide ((k:Int)≥0)=true by simp,hmin,iy v _ hv hv' (by omega) (by omega),bf (n:=(k:Int)-1) (by omega) (by omega)]
  simp only[ae,af,aP]
  rw[←I3 v c k h]
  have hst:=ni (cz v c) k
  have e:(2:Int)^(64-k)=2*2^(64-(k+1)):=by
   have:=yq (64-k) (by omega);rw[this,show 64-k-1=64-(k+1) by omega]
  have hq:(0:Int)<2^(64-(k+1)):=Int.pow_pos (by decide)
  have hq':=LH (64-(k+1)) (by omega)
  generalize cz v c/2^(k+1)=z at*
  generalize cz v c/2^k=y at*
  rw[e]at ih
  have z1:=Int.emod_nonneg z (show(2:Int)^(64-(k+1))≠0 by omega)
  have z2:=Int.emod_lt_of_pos z hq
  have ey:2*(z%2^(64-(k+1)))+y%2=y% (2*2^(64-(k+1))):=by
   rw[Int.emod_def z,Int.emod_def y (2*_),←Int.ediv_ediv_of_nonneg (by decide),show y/2=z by omega,Int.mul_assoc];omega
  rw[I0 (n:=2*_) (by omega) (by omega),I0 (n:=y%2) (by omega) (by omega),I0 (n:=2*_+y%2) (by omega) (by omega),ey,ih]
theorem fZ (v count:Int) (h:1≤count) (h':count≤64) (hv: -9223372036854775808≤v) (hv':v≤9223372036854775807):yg v count=some (cz v count.toNat):=by
 obtain⟨c,rfl⟩:=Int.eq_ofNat_of_zero_le (show 0≤count by omega)
 have:=ES v c (by omega) (by omega) hv hv' 64 (by omega)
 rw[show(64-64:Nat)=0 by rfl,Int.pow_zero,Int.emod_one]at this
 rw[OF,aP]
 exact this
def V7:List (Int×Int×Int×Int):=[(0,0,0,0),(1,55,0,0),(1,23,0,0),(2,111,0,0),(3,103,0,0),(4,99,0,0),(4,99,1,0),(4,99,4,0),(4,99,5,0),(4,99,6,0),(4,99,7,0),(3,3,0,0),(3,3,1,0),(3,3,2,0),(3,3,3,0),(3,3,4,0),(3,3,5,0),(3,3,6,0),(5,35,0,0),(5,35,1,0),(5,35,2,0),(5,35,3,0),(3,19,0,0),(3,19,2,0),(3,19,3,0),(3,19,4,0),(3,19,6,0),(3,19,7,0),(6,19,1,0),(6,19,5,0),(6,19,5,32),(8,51,0,0),(8,51,0,32),(8,51,1,0),(8,51,2,0),(8,51,3,0),(8,51,4,0),(8,51,5,0),(8,51,5,32),(8,51,6,0),(8,51,7,0),(3,27,0,0),(7,27,1,0),(7,27,5,0),(7,27,5,32),(8,59,0,0),(8,59,0,32),(8,59,1,0),(8,59,5,0),(8,59,5,32),(8,51,0,1),(8,51,1,1),(8,51,2,1),(8,51,3,1),(8,51,4,1),(8,51,5,1),(8,51,6,1),(8,51,7,1),(8,59,0,1),(8,59,4,1),(8,59,5,1),(8,59,6,1),(8,59,7,1),(9,115,0,0),(9,115,0,1)]
def bN (n:Int):Int×Int×Int×Int:=V7.getD n.toNat (0,0,0,0)
theorem nj {n:Int} (h:0≤n) (h':n≤64):∃k:Fin 65,n=(k.val:Int):=⟨⟨n.toNat,by omega⟩,by simp;omega⟩
theorem mC (n:Int) (h:0≤n) (h':n≤64):Tx n=some (bN n):=by
 rw[QY,IQ]
 simp only[af]
 obtain⟨k,rfl⟩:=nj h h'
 clear h h';revert k
 decide+kernel
theorem fJ (n:Int) (h:0≤n) (h':n≤64):LG n=some (bN n):=by
 rw[Oy]
 obtain⟨k,rfl⟩:=nj h h'
 clear h h';revert k
 decide+kernel
def uJ (s:Int×Int×Int×Int):Bool:=decide (1≤s.1)&&decide (s.1≤9)&&decide (0≤s.2.1)&&decide (s.2.1<128)&&decide (0≤s.2.2.1)&&decide (s.2.2.1<8)&&decide (0≤s.2.2.2)&&decide (s.2.2.2<64)&&(!decide (s.1=6)||decide (s.2.2.2%2=0))&&(!decide (s.1=9)|| (decide (s.2.2.2<2)&&decide (s.2.2.1=0)))
theorem iP (n:Int) (h:1≤n) (h':n≤64):uJ (bN n)=true:=by
 obtain⟨k,rfl⟩:=nj (show 0≤n by omega) h'
 clear h';revert k
 decide+kernel
theorem RQ {x y:Int} (hx:0≤x) (hx':x<4611686018427387904) (hy:0≤y) (hy':y<2) (h:x/128%2=0):iU .i64 x (y*128)=x+y*128:=bL 7 1 rfl rfl (by decide) hx hx' hy hy' h
theorem mD {x y:Int} (hx:0≤x) (hx':x<4611686018427387904) (hy:0≤y) (hy':y<32) (h:x/128%32=0):iU .i64 x (y*128)=x+y*128:=bL 7 5 rfl rfl (by decide) hx hx' hy hy' h
theorem RR {x y:Int} (hx:0≤x) (hx':x<4611686018427387904) (hy:0≤y) (hy':y<16) (h:x/256%16=0):iU .i64 x (y*256)=x+y*256:=bL 8 4 rfl rfl (by decide) hx hx' hy hy' h
theorem lx {x y:Int} (hx:0≤x) (hx':x<4611686018427387904) (hy:0≤y) (hy':y<8) (h:x/4096%8=0):iU .i64 x (y*4096)=x+y*4096:=bL 12 3 rfl rfl (by decide) hx hx' hy hy' h
theorem Ct {x y:Int} (hx:0≤x) (hx':x<4611686018427387904) (hy:0≤y) (hy':y<256) (h:x/4096%256=0):iU .i64 x (y*4096)=x+y*4096:=bL 12 8 rfl rfl (by decide) hx hx' hy hy' h
theorem yr {x y:Int} (hx:0≤x) (hx':x<4611686018427387904) (hy:0≤y) (hy':y<1048576) (h:x/4096%1048576=0):iU .i64 x (y*4096)=x+y*4096:=bL 12 20 rfl rfl (by decide) hx hx' hy hy' h
theorem v9 {x y:Int} (hx:0≤x) (hx':x<4611686018427387904) (hy:0≤y) (hy':y<2) (h:x/1048576%2=0):iU .i64 x (y*1048576)=x+y*1048576:=bL 20 1 rfl rfl (by decide) hx hx' hy hy' h
theorem qc {x y:Int} (hx:0≤x) (hx':x<4611686018427387904) (hy:0≤y) (hy':y<32) (h:x/1048576%32=0):iU .i64 x (y*1048576)=x+y*1048576:=bL 20 5 rfl rfl (by decide) hx hx' hy hy' h
theorem KT {x y:Int} (hx:0≤x) (hx':x<4611686018427387904) (hy:0≤y) (hy':y<64) (h:x/1048576%64=0):iU .i64 x (y*1048576)=x+y*1048576:=bL 20 6 rfl rfl (by decide) hx hx' hy hy' h
theorem I4 {x y:Int} (hx:0≤x) (hx':x<4611686018427387904) (hy:0≤y) (hy':y<4096) (h:x/1048576%4096=0):iU .i64 x (y*1048576)=x+y*1048576:=bL 20 12 rfl rfl (by decide) hx hx' hy hy' h
theorem I5 {x y:Int} (hx:0≤x) (hx':x<4611686018427387904) (hy:0≤y) (hy':y<1024) (h:x/2097152%1024=0):iU .i64 x (y*2097152)=x+y*2097152:=bL 21 10 rfl rfl (by decide) hx hx' hy hy' h
theorem KU {x y:Int} (hx:0≤x) (hx':x<4611686018427387904) (hy:0≤y) (hy':y<64) (h:x/33554432%64=0):iU .i64 x (y*33554432)=x+y*33554432:=bL 25 6 rfl rfl (by decide) hx hx' hy hy' h
theorem wa {x y:Int} (hx:0≤x) (hx':x<4611686018427387904) (hy:0≤y) (hy':y<128) (h:x/33554432%128=0):iU .i64 x (y*33554432)=x+y*33554432:=bL 25 7 rfl rfl (by decide) hx hx' hy hy' h
theorem KV {x y:Int} (hx:0≤x) (hx':x<4611686018427387904) (hy:0≤y) (hy':y<64) (h:x/67108864%64=0):iU .i64 x (y*67108864)=x+y*67108864:=bL 26 6 rfl rfl (by decide) hx hx' hy hy' h
theorem Cu {x y:Int} (hx:0≤x) (hx':x<4611686018427387904) (hy:0≤y) (hy':y<2) (h:x/2147483648%2=0):iU .i64 x (y*2147483648)=x+y*2147483648:=bL 31 1 rfl rfl (by decide) hx hx' hy hy' h
theorem RS {x y:Int} (hx:0≤x) (hx':x<4611686018427387904) (hy:0≤y) (hy':y<16) (h:x/2%16=0):iU .i64 x (y*2)=x+y*2:=bL 1 4 rfl rfl (by decide) hx hx' hy hy' h
theorem KW {x y:Int} (hx:0≤x) (hx':x<4611686018427387904) (hy:0≤y) (hy':y<1024) (h:x/2%1024=0):iU .i64 x (y*2)=x+y*2:=bL 1 10 rfl rfl (by decide) hx hx' hy hy' h
theorem RT {x y:Int} (hx:0≤x) (hx':x<4611686018427387904) (hy:0≤y) (hy':y<64) (h:x/32%64=0):iU .i64 x (y*32)=x+y*32:=bL 5 6 rfl rfl (by decide) hx hx' hy hy' h
theorem RU {x y:Int} (hx:0≤x) (hx':x<4611686018427387904) (hy:0≤y) (hy':y<128) (h:x/32%128=0):iU .i64 x (y*32)=x+y*32:=bL 5 7 rfl rfl (by decide) hx hx' hy hy' h
theorem Cv {x y:Int} (hx:0≤x) (hx':x<4611686018427387904) (hy:0≤y) (hy':y<2) (h:x/2048%2=0):iU .i64 x (y*2048)=x+y*2048:=bL 11 1 rfl rfl (by decide) hx hx' hy hy' h
theorem KX {x y:Int} (hx:0≤x) (hx':x<4611686018427387904) (hy:0≤y) (hy':y<2) (h:x/4096%2=0):iU .i64 x (y*4096)=x+y*4096:=bL 12 1 rfl rfl (by decide) hx hx' hy hy' h
theorem uK {w a b:Int} (hw:0≤w) (hw':w<4611686018427387904) (ha:0≤a) (ha':a<32) (hb:0≤b) (hb':b<8) (h:w/4096%256=0):iU .i64 w (a*32768+b*4096)=w+(a*32768+b*4096):=by
 have:=bL (x:=w) (y:=a*8+b) (P:=4096) (Q:=256) 12 8 rfl rfl (by decide) hw hw' (by omega) (by omega) h
 rw[show a*32768+b*4096=(a*8+b)*4096 by omega];exact this
def bU (s:Int×Int×Int×Int) (x:Int×Int×Int×Int×Int):Int:=
 if s.1=1 then s.2.1+x.2.1*128+x.2.2.2.2/4096%1048576*4096
 else if s.1=2 then s.2.1+x.2.1*128+x.2.2.2.2/4096%256*4096+x.2.2.2.2/2048%2*1048576+x.2.2.2.2/2%1024*2097152+x.2.2.2.2/1048576%2*2147483648
 else if s.1=3 then s.2.1+x.2.1*128+s.2.2.1*4096+x.2.2.1*32768+x.2.2.2.2%4096*1048576
 else if s.1=4 then s.2.1+x.2.2.2.2/2048%2*128+x.2.2.2.2/2%16*256+s.2.2.1*4096+x.2.2.1*32768+x.2.2.2.1*1048576+x.2.2.2.2/32%64*33554432+x.2.2.2.2/4096%2*2147483648
 else if s.1=5 then s.2.1+x.2.2.2.2%32*128+s.2.2.1*4096+x.2.2.1*32768+x.2.2.2.1*1048576+x.2.2.2.2/32%128*33554432
 else if s.1=6 then s.2.1+x.2.1*128+s.2.2.1*4096+x.2.2.1*32768+x.2.2.2.2%64*1048576+s.2.2.2/2*67108864
 else if s.1=7 then s.2.1+x.2.1*128+s.2.2.1*4096+x.2.2.1*32768+x.2.2.2.2%32*1048576+s.2.2.2*33554432
 else if s.1=8 then s.2.1+x.2.1*128+s.2.2.1*4096+x.2.2.1*32768+x.2.2.2.1*1048576+s.2.2.2*33554432
 else s.2.1+s.2.2.2*1048576
structure gt (x:Int×Int×Int×Int×Int):Prop where
 d:0≤x.2.1∧x.2.1≤31
 a:0≤x.2.2.1∧x.2.2.1≤31
 b:0≤x.2.2.2.1∧x.2.2.2.1≤31
 i: -9223372036854775808≤x.2.2.2.2∧x.2.2.2.2≤9223372036854775807
theorem dB {f c f3 f7:Int} (h:uJ (f,c,f3,f7)=true):(1≤f∧f≤9)∧(0≤c∧c<128)∧(0≤f3∧f3<8)∧(0≤f7∧f7<64)∧(f=6→f7%2=0)∧(f=9→f7<2∧f3=0):=by
 simp only[uJ,az,Bool.or_eq_true,Bool.not_eq_true',aW,decide_eq_false_iff_not]at h
 omega
theorem ga {f:Int} (h:1≤f∧f≤9):f=1∨f=2∨f=3∨f=4∨f=5∨f=6∨f=7∨f=8∨f=9:=by omega
theorem aj (j n:Nat):aG (j:Int) n=decide (j<n):=by
 unfold aG;rw[show decide (0≤(j:Int))=true by simp,Bool.true_and];congr 1;simp
theorem aV {τ:Ty} (xs:List τ.den) (j:Nat) (h:j<xs.length):rd (τ:=τ) xs (j:Int)=xs[j]:=by
 unfold rd;rw[aP,List.getD_eq_getElem?_getD,List.getElem?_eq_getElem h];rfl
theorem an (j n:Nat) (h:j<n) (h':n≤9223372036854775807):IntKind.wrap .i64 ((j:Int)+1)=((j+1:Nat):Int):=by
 rw[bf (by omega) (by omega)];omega
theorem ai (j n:Nat):decide ((j:Int)< (n:Int))=decide (j<n):=by congr 1;simp
def yu (imm:Int) (w:Int) (p:Int×Int×Int):Int:=iU .i64 w (dl .i64 (imm/2^p.1.toNat%2^p.2.1.toNat) p.2.2)
def nk (ps:List (Int×Int×Int)):Prop:=ps.length≤4∧∀p∈ps,0≤p.1∧p.1≤62∧0≤p.2.1∧p.2.1≤62∧0≤p.2.2∧p.2.2≤62
theorem I6 (x:Int×Int×Int×Int×Int) (s:Int×Int×Int×Int) (ps:List (Int×Int×Int)) (hp:nk ps):
  ∀(k j:Nat) (w:Int),j+k=ps.length→yl.a x s w ps (ps.length:Int) (j:Int)=yl.a x s ((ps.drop j).foldl (yu x.2.2.2.2) w) ps (ps.length:Int) (ps.length:Int):=by
 intro k
 induction k with
 |zero=>
   intro j w h;have:j=ps.length:=by omega
   subst this;simp
 |succ k ih=>
  intro j w h
  have hj:j<ps.length:=by omega
  obtain⟨p1,p2,p3,p4,p5,p6⟩:=hp.2 ps[j] (List.getElem_mem hj)
  have e:=aV (τ:= .pair (.int .i64) (.pair (.int .i64) (.int .i64))) ps j hj
  rw[yl.a_eq,ai,aj,e,an j ps.length hj (by have:=hp.1;omega)]
  simp only[ab hj,ae]
  rw[fI _ _ _ (by omega) (by omega) (by omega) (by omega)]
  simp only[af]
  rw[show decide (ps[j].2.2<0)=false by simp;omega]
  simp only[ac]
  rw[ih (j+1) _ (by omega),List.drop_eq_getElem_cons hj,List.foldl_cons]
  rfl
def cw (f:Int):List (Int×Int×Int):=
 if f=1 then[(12,20,12)]else if f=2 then[(12,8,12),(11,1,20),(1,10,21),(20,1,31)]else if f=3 then[(0,12,20)]else if f=4 then[(11,1,7),(1,4,8),(5,6,25),(12,1,31)]
 else if f=5 then[(0,5,7),(5,7,25)]else if f=6 then[(0,6,20)]else if f=7 then[(0,5,20)]else[]
theorem sk {f:Int} (h:1≤f∧f≤9):UN f=some (cw f)∧nk (cw f):=by
 rw[QZ]
 rcases ga h with rfl|rfl|rfl|rfl|rfl|rfl|rfl|rfl|rfl<;>exact⟨rfl,by unfold nk;decide⟩
theorem eK {y:Int} (k:Nat) (P:Int) (hP:P=2^k) (hk:k≤62) (h0:0≤y) (h:y*P≤9223372036854775807):dl .i64 y (k:Int)=y*P:=by
 rw[ng (by omega) (by omega),aP,←hP]
 have:0≤y*P:=Int.mul_nonneg h0 (by rw[hP];exact Int.le_of_lt (Int.pow_pos (by decide)))
 exact bf (by omega) (by omega)
theorem pf {y:Int} (h0:0≤y) (h:y≤2147483647):dl .i64 y 7=y*128:=eK 7 128 rfl (by decide) h0 (by omega)
theorem TD {y:Int} (h0:0≤y) (h:y≤2147483647):dl .i64 y 8=y*256:=eK 8 256 rfl (by decide) h0 (by omega)
theorem g9 {y:Int} (h0:0≤y) (h:y≤2147483647):dl .i64 y 12=y*4096:=eK 12 4096 rfl (by decide) h0 (by omega)
theorem ou {y:Int} (h0:0≤y) (h:y≤2147483647):dl .i64 y 15=y*32768:=eK 15 32768 rfl (by decide) h0 (by omega)
theorem jN {y:Int} (h0:0≤y) (h:y≤2147483647):dl .i64 y 20=y*1048576:=eK 20 1048576 rfl (by decide) h0 (by omega)
theorem RV {y:Int} (h0:0≤y) (h:y≤2147483647):dl .i64 y 21=y*2097152:=eK 21 2097152 rfl (by decide) h0 (by omega)
theorem wb {y:Int} (h0:0≤y) (h:y≤2147483647):dl .i64 y 25=y*33554432:=eK 25 33554432 rfl (by decide) h0 (by omega)
theorem RW {y:Int} (h0:0≤y) (h:y≤2147483647):dl .i64 y 26=y*67108864:=eK 26 67108864 rfl (by decide) h0 (by omega)
theorem I7 {y:Int} (h0:0≤y) (h:y≤2147483647):dl .i64 y 31=y*2147483648:=eK 31 2147483648 rfl (by decide) h0 (by omega)
theorem KY {x:Int}:mR .i64 x 1=x/2:=by rw[qb (by decide) (by decide)];rfl
def be (f:Int):Bool×Bool×Bool:=
 if f=1∨f=2 then(true,false,false)else if f=3∨f=6∨f=7 then(true,true,false)else if f=4∨f=5 then(false,true,true)else if f=8 then(true,true,true)else(false,false,false)
theorem sm {f:Int} (h:1≤f∧f≤9):UO f=some (be f):=by
 rw[Q1]
 rcases ga h with rfl|rfl|rfl|rfl|rfl|rfl|rfl|rfl|rfl<;>rfl
theorem eL (x:Int×Int×Int×Int×Int) (h:1≤x.1) (h':x.1≤64) (hr:gt x):yl x=some (bU (bN x.1) x):=by
 rw[Q2,mC _ (by omega) h']
 have hs:=iP x.1 h h'
 generalize bN x.1=s at*
 obtain⟨n,rd',rs1,rs2,imm⟩:=x
 obtain⟨f,c,f3,f7⟩:=s
 obtain⟨⟨d1,d2⟩,⟨a1,a2⟩,⟨b1,b2⟩,⟨i1,i2⟩⟩:=hr
 obtain⟨s1,⟨s2,s2'⟩,⟨s3,s3'⟩,⟨s4,s4'⟩,s5,s6⟩:=dB hs
 clear hs
 dsimp only at*
 obtain⟨hp,hpo⟩:=sk s1
 have hf:=sm s1
 simp only[af,hp]
 rw[show(0:Int)=((0:Nat):Int) by rfl,I6 _ _ _ hpo (cw f).length 0 _ (by omega),yl.a_eq,ai]
 simp only[aB,decide_false,ac,hf,List.drop_zero,af,aA]
 clear hp hpo hf
 rcases ga s1 with rfl|rfl|rfl|rfl|rfl|rfl|rfl|rfl|rfl
 ·simp[cw,be,yu,bU]
  have hb0:0≤imm/4096%1048576∧imm/4096%1048576<1048576:=by omega
  generalize imm/4096%1048576=y0 at*
  simp(disch:=omega) only[g9,pf,yr,mD]
  try omega
 ·simp[cw,be,yu,bU]
  have hb0:0≤imm/4096%256∧imm/4096%256<256:=by omega
  generalize imm/4096%256=y0 at*
  have hb1:0≤imm/2048%2∧imm/2048%2<2:=by omega
  generalize imm/2048%2=y1 at*
  have hb2:0≤imm/2%1024∧imm/2%1024<1024:=by omega
  generalize imm/2%1024=y2 at*
  have hb3:0≤imm/1048576%2∧imm/1048576%2<2:=by omega
  generalize imm/1048576%2=y3 at*
  simp(disch:=omega) only[g9,jN,RV,I7,pf,Ct,v9,I5,Cu,mD]
  try omega
 ·simp[cw,be,yu,bU]
  have hb0:0≤imm%4096∧imm%4096<4096:=by omega
  generalize imm%4096=y0 at*
  simp(disch:=omega) only[jN,pf,ou,g9,I4,mD,lx,uK]
  try omega
 ·simp[cw,be,yu,bU]
  have hb0:0≤imm/2048%2∧imm/2048%2<2:=by omega
  generalize imm/2048%2=y0 at*
  have hb1:0≤imm/2%16∧imm/2%16<16:=by omega
  generalize imm/2%16=y1 at*
  have hb2:0≤imm/32%64∧imm/32%64<64:=by omega
  generalize imm/32%64=y2 at*
  have hb3:0≤imm/4096%2∧imm/4096%2<2:=by omega
  generalize imm/4096%2=y3 at*
  simp(disch:=omega) only[pf,TD,wb,I7,ou,g9,jN,RQ,RR,KU,Cu,lx,uK,qc]
  try omega
 ·simp[cw,be,yu,bU]
  have hb0:0≤imm%32∧imm%32<32:=by omega
  generalize imm%32=y0 at*
  have hb1:0≤imm/32%128∧imm/32%128<128:=by omega
  generalize imm/32%128=y1 at*
  simp(disch:=omega) only[pf,wb,ou,g9,jN,mD,wa,lx,uK,qc]
  try omega
 ·simp[cw,be,yu,bU,KY]
  have hb0:0≤imm%64∧imm%64<64:=by omega
  generalize imm%64=y0 at*
  have hs:0≤f7/2∧f7/2<64:=by omega
  generalize f7/2=z at*
  simp(disch:=omega) only[jN,pf,ou,g9,RW,KT,mD,lx,uK,KV]
  try omega
 ·simp[cw,be,yu,bU]
  have hb0:0≤imm%32∧imm%32<32:=by omega
  generalize imm%32=y0 at*
  simp(disch:=omega) only[jN,pf,ou,g9,wb,qc,mD,lx,uK,wa]
  try omega
 ·simp[cw,be,bU]
  simp(disch:=omega) only[pf,ou,g9,jN,wb,mD,lx,uK,qc,wa]
  try omega
 ·simp[cw,be,bU]
  simp(disch:=omega) only[jN,v9]
  try omega
theorem yw {a b:Int} (ha:0≤a∧a<4294967296) (hb:0≤b∧b<4294967296) (h:∀i:Nat,i<32→a/2^i%2=b/2^i%2):a=b:=by
 have:∀k:Nat,k≤32→a/2^(32-k)=b/2^(32-k):=by
  intro k
  induction k with
  |zero=>intro _;rw[show(2:Int)^(32-0)=4294967296 by rfl];omega
  |succ k ih=>
   intro hk
   have ih:=ih (by omega)
   have h1:=h (32-(k+1)) (by omega)
   have e:32-k=32-(k+1)+1:=by omega
   rw[e]at ih
   have ea:=ni a (32-(k+1))
   have eb:=ni b (32-(k+1))
   omega
 have:=this 32 (by omega)
 simpa using this
theorem ET (w low v:Int) (c:Nat) (h:0≤low) (hlc:low+c+1≤32) (hw:0≤w) (hw':w<4294967296):dv (dv w low c v) (low+c) 1 (v/2^c%2)=dv w low ((c+1:Nat):Int) v:=by
 have r1:=cp w low c v h (by omega) (by omega) hw hw'
 apply yw (cp _ _ _ _ (by omega) (by omega) (by omega) r1.1 r1.2) (cp _ _ _ _ h (by omega) (by omega) hw hw')
 intro i hi
 rw[kU _ _ _ _ (by omega) (by omega),kU _ _ _ _ h (by omega),kU _ _ _ _ h (by omega)]
 by_cases h1:low+c≤(i:Int)∧(i:Int)<low+c+1
 ·rw[av h1,av (by omega),show i-(low+(c:Int)).toNat=0 by omega,show i-low.toNat=c by omega,Int.pow_zero,Int.ediv_one];omega
 ·rw[ap h1]
  by_cases h2:low≤(i:Int)∧(i:Int)<low+c
  ·rw[av h2,av (by omega)]
  ·rw[ap h2,ap (by omega)]
theorem EU (w low v:Int) (h:0≤low) (hl:low≤31) (hw:0≤w) (hw':w<4294967296):dv w low 0 v=w:=by
 apply yw (cp _ _ _ _ h (by omega) (by omega) hw hw') ⟨hw,hw'⟩
 intro i hi
 rw[kU _ _ _ _ h (by omega),ap (by omega)]
theorem bP {w v:Int} (k c:Nat) (P Q:Int) (hP:P=2^k) (hQ:Q=2^c) (h:w/P%Q=0):dv w (k:Int) (c:Int) v=w+v%Q*P:=by
 subst hP hQ
 simp only[dv,aP]
 have hk:(0:Int)<2^k:=Int.pow_pos (by decide)
 have hc:(0:Int)<2^c:=Int.pow_pos (by decide)
 have e1:=Int.emod_add_mul_ediv w (2^k)
 have e2:=Int.emod_add_mul_ediv (w/2^k) (2^c)
 rw[h,Int.zero_add,Int.ediv_ediv_of_nonneg (by omega),←Int.pow_add]at e2
 rw[e2,Int.mul_add]
 rw[Int.mul_comm (v%2^c)]
 omega
theorem EV (x:Int×Int×Int×Int×Int) (hx: -9223372036854775808≤x.2.2.2.2) (hx':x.2.2.2.2≤9223372036854775807) (w:Int) (hw:0≤w) (hw':w<4294967296) (i:Nat) (h:1≤i) (h':i≤20):
  iV.a x w (i:Int)=iV.a x (dv w (if i=20 then 31 else if 11<i then i else if 10<i then 9+i else 20+i:Nat) 1 (x.2.2.2.2/2^i%2)) ((i+1:Nat):Int):=by
 rw[iV.a_eq,show decide ((i:Int)<21)=true by simp;omega,iy _ _ hx hx' (by omega) (by omega),bf (n:=9+(i:Int)) (by omega) (by omega),bf (n:=20+(i:Int)) (by omega) (by omega),bf (n:=(i:Int)+1) (by omega) (by omega)]
 simp only[aA,ae,aP,af]
 have e0:((i+1:Nat):Int)=(i:Int)+1:=by omega
 rw[e0]
 by_cases h1:i=20
 ·subst h1;rw[show decide (((20:Nat):Int)=20)=true by rfl,cW _ _ _ _ (by omega) (by omega) (by omega) hw hw' (by omega) (by omega)];rfl
 ·by_cases h2:11<i
  ·rw[show decide ((i:Int)=20)=false by simp;omega,show decide ((i:Int)>11)=true by simp;omega,show decide ((i:Int)>10)=true by simp;omega,ap h1,av h2]
   simp only[ae,ac]
   rw[cW _ _ _ _ (by omega) (by omega) (by omega) hw hw' (by omega) (by omega)];rfl
  ·by_cases h3:10<i
   ·rw[show decide ((i:Int)=20)=false by simp;omega,show decide ((i:Int)>11)=false by simp;omega,show decide ((i:Int)>10)=true by simp;omega,ap h1,ap h2,av h3]
    simp only[ae,ac]
    rw[cW _ _ _ _ (by omega) (by omega) (by omega) hw hw' (by omega) (by omega),show((9+i:Nat):Int)=9+(i:Int) by omega];rfl
   ·rw[show decide ((i:Int)=20)=false by simp;omega,show decide ((i:Int)>11)=false by simp;omega,show decide ((i:Int)>10)=false by simp;omega,ap h1,ap h2,ap h3]
    simp only[ac]
    rw[cW _ _ _ _ (by omega) (by omega) (by omega) hw hw' (by omega) (by omega),show((20+i:Nat):Int)=20+(i:Int) by omega];rfl
theorem sn (L:Int→Nat→Option Int) (v:Int) (pl:Nat→Nat) (lo hi:Nat) (step:∀(w:Int) (i:Nat),0≤w→w<4294967296→lo≤i→i<hi→L w i=L (dv w (pl i:Nat) 1 (v/2^i%2)) (i+1))
  (a p:Nat) (ha:lo≤a) (w:Int) (hw:0≤w) (hw':w<4294967296) (n:Nat) (hn:a+n≤hi) (hp1:p≤31) (hpn:p+n≤32) (hp:∀c:Nat,c<n→pl (a+c)=p+c):
  ∀c:Nat,c≤n→L w a=L (dv w (p:Int) (c:Int) (v/2^a)) (a+c):=by
 intro c
 induction c with
 |zero=>intro _;rw[show((0:Nat):Int)=0 by rfl,EU _ _ _ (by omega) (by omega) hw hw',Nat.add_zero]
 |succ c ih=>
  intro hc
  have r:=cp w p c (v/2^a) (by omega) (by omega) (by omega) hw hw'
  rw[ih (by omega),step _ (a+c) r.1 r.2 (by omega) (by omega),hp c (by omega)]
  have e:v/2^(a+c)=v/2^a/2^c:=by rw[Int.pow_add,Int.ediv_ediv_of_nonneg (Int.le_of_lt (Int.pow_pos (by decide)))]
  rw[e,show((p+c:Nat):Int)=(p:Int)+(c:Int) by omega,ET _ _ _ _ (by omega) (by omega) hw hw']
  rfl
def RX (i:Nat):Nat:=if i=20 then 31 else if 11<i then i else if 10<i then 9+i else 20+i
def so (i:Nat):Nat:=if i=12 then 31 else if i=11 then 7 else if 4<i then 20+i else 7+i
theorem I8 (x:Int×Int×Int×Int×Int) (hx: -9223372036854775808≤x.2.2.2.2) (hx':x.2.2.2.2≤9223372036854775807) (w:Int) (hw:0≤w) (hw':w<4294967296):
  iV.a x w 1=some (dv (dv (dv (dv w 21 10 (x.2.2.2.2/2)) 20 1 (x.2.2.2.2/2048)) 12 8 (x.2.2.2.2/4096)) 31 1 (x.2.2.2.2/1048576)):=by
 have st:=sn (fun w i=>iV.a x w (i:Int)) x.2.2.2.2 RX 1 21 (fun w i h1 h2 h3 h4=>EV x hx hx' w h1 h2 i h3 (by omega))
 have r1:=cp w 21 10 (x.2.2.2.2/2) (by decide) (by decide) (by decide) hw hw'
 have r2:=cp _ 20 1 (x.2.2.2.2/2048) (by decide) (by decide) (by decide) r1.1 r1.2
 have r3:=cp _ 12 8 (x.2.2.2.2/4096) (by decide) (by decide) (by decide) r2.1 r2.2
 refine(st 1 21 (by decide) w hw hw' 10 (by decide) (by decide) (by decide) (by decide) 10 (by decide)).trans ?_
 refine(st 11 20 (by decide) _ r1.1 r1.2 1 (by decide) (by decide) (by decide) (by decide) 1 (by decide)).trans ?_
 refine(st 12 12 (by decide) _ r2.1 r2.2 8 (by decide) (by decide) (by decide) (by decide) 8 (by decide)).trans ?_
 refine(st 20 31 (by decide) _ r3.1 r3.2 1 (by decide) (by decide) (by decide) (by decide) 1 (by decide)).trans ?_
 exact iV.a_eq _ _ _
theorem yx (x:Int×Int×Int×Int×Int) (hx: -9223372036854775808≤x.2.2.2.2) (hx':x.2.2.2.2≤9223372036854775807) (w:Int) (hw:0≤w) (hw':w<4294967296) (i:Nat) (h:1≤i) (h':i≤12):
  iV.b x w (i:Int)=iV.b x (dv w (so i:Nat) 1 (x.2.2.2.2/2^i%2)) ((i+1:Nat):Int):=by
 rw[iV.b_eq,show decide ((i:Int)<13)=true by simp;omega,iy _ _ hx hx' (by omega) (by omega),bf (n:=7+(i:Int)) (by omega) (by omega),bf (n:=20+(i:Int)) (by omega) (by omega),bf (n:=(i:Int)+1) (by omega) (by omega)]
 simp only[aA,ae,aP,af,so]
 have e0:((i+1:Nat):Int)=(i:Int)+1:=by omega
 rw[e0]
 by_cases h1:i=12
 ·subst h1;rw[show decide (((12:Nat):Int)=12)=true by rfl,cW _ _ _ _ (by omega) (by omega) (by omega) hw hw' (by omega) (by omega)];rfl
 ·by_cases h2:i=11
  ·subst h2
   rw[show decide (((11:Nat):Int)=12)=false by rfl,show decide (((11:Nat):Int)>4)=true by rfl,show decide (((11:Nat):Int)=11)=true by rfl]
   simp only[ae,ac]
   rw[cW _ _ _ _ (by omega) (by omega) (by omega) hw hw' (by omega) (by omega)];rfl
  ·by_cases h3:4<i
   ·rw[show decide ((i:Int)=12)=false by simp;omega,show decide ((i:Int)=11)=false by simp;omega,show decide ((i:Int)>4)=true by simp;omega,ap h1,ap h2,av h3]
    simp only[ae,ac]
    rw[cW _ _ _ _ (by omega) (by omega) (by omega) hw hw' (by omega) (by omega),show((20+i:Nat):Int)=20+(i:Int) by omega];rfl
   ·rw[show decide ((i:Int)=12)=false by simp;omega,show decide ((i:Int)=11)=false by simp;omega,show decide ((i:Int)>4)=false by simp;omega,ap h1,ap h2,ap h3]
    simp only[ac]
    rw[cW _ _ _ _ (by omega) (by omega) (by omega) hw hw' (by omega) (by omega),show((7+i:Nat):Int)=7+(i:Int) by omega];rfl
theorem A4 (x:Int×Int×Int×Int×Int) (hx: -9223372036854775808≤x.2.2.2.2) (hx':x.2.2.2.2≤9223372036854775807) (w:Int) (hw:0≤w) (hw':w<4294967296):
  iV.b x w 1=some (dv (dv (dv (dv w 8 4 (x.2.2.2.2/2)) 25 6 (x.2.2.2.2/32)) 7 1 (x.2.2.2.2/2048)) 31 1 (x.2.2.2.2/4096)):=by
 have st:=sn (fun w i=>iV.b x w (i:Int)) x.2.2.2.2 so 1 13 (fun w i h1 h2 h3 h4=>yx x hx hx' w h1 h2 i h3 (by omega))
 have r1:=cp w 8 4 (x.2.2.2.2/2) (by decide) (by decide) (by decide) hw hw'
 have r2:=cp _ 25 6 (x.2.2.2.2/32) (by decide) (by decide) (by decide) r1.1 r1.2
 have r3:=cp _ 7 1 (x.2.2.2.2/2048) (by decide) (by decide) (by decide) r2.1 r2.2
 refine(st 1 8 (by decide) w hw hw' 4 (by decide) (by decide) (by decide) (by decide) 4 (by decide)).trans ?_
 refine(st 5 25 (by decide) _ r1.1 r1.2 6 (by decide) (by decide) (by decide) (by decide) 6 (by decide)).trans ?_
 refine(st 11 7 (by decide) _ r2.1 r2.2 1 (by decide) (by decide) (by decide) (by decide) 1 (by decide)).trans ?_
 refine(st 12 31 (by decide) _ r3.1 r3.2 1 (by decide) (by decide) (by decide) (by decide) 1 (by decide)).trans ?_
 exact iV.b_eq _ _ _
theorem A5 (x:Int×Int×Int×Int×Int) (hx: -9223372036854775808≤x.2.2.2.2) (hx':x.2.2.2.2≤9223372036854775807) (w:Int) (hw:0≤w) (hw':w<4294967296) (i:Nat) (h:5≤i) (h':i≤11):
  iV.c x w (i:Int)=iV.c x (dv w (20+i:Nat) 1 (x.2.2.2.2/2^i%2)) ((i+1:Nat):Int):=by
 rw[iV.c_eq,show decide ((i:Int)<12)=true by simp;omega,iy _ _ hx hx' (by omega) (by omega),bf (n:=20+(i:Int)) (by omega) (by omega),bf (n:=(i:Int)+1) (by omega) (by omega)]
 simp only[ae,aP,af]
 rw[cW _ _ _ _ (by omega) (by omega) (by omega) hw hw' (by omega) (by omega),show((20+i:Nat):Int)=20+(i:Int) by omega];rfl
theorem EW (x:Int×Int×Int×Int×Int) (hx: -9223372036854775808≤x.2.2.2.2) (hx':x.2.2.2.2≤9223372036854775807) (w:Int) (hw:0≤w) (hw':w<4294967296):
  iV.c x w 5=some (dv w 25 7 (x.2.2.2.2/32)):=by
 have st:=sn (fun w i=>iV.c x w (i:Int)) x.2.2.2.2 (fun i=>20+i) 5 12 (fun w i h1 h2 h3 h4=>A5 x hx hx' w h1 h2 i h3 (by omega))
 refine(st 5 25 (by decide) w hw hw' 7 (by decide) (by decide) (by decide) (by decide) 7 (by decide)).trans ?_
 exact iV.c_eq _ _ _
theorem jO {w v:Int} (hw:0≤w) (hw':w<4294967296) (h:w/128%32=0) (hv: -9223372036854775808≤v) (hv':v≤9223372036854775807):g7 w 7 5 v=some (w+v%32*128):=
 (cW w 7 5 v (by decide) (by decide) (by decide) hw hw' hv hv').trans (congrArg some (bP 7 5 128 32 rfl rfl h))
theorem EX {w v:Int} (hw:0≤w) (hw':w<4294967296) (h:w/4096%1048576=0) (hv: -9223372036854775808≤v) (hv':v≤9223372036854775807):g7 w 12 20 v=some (w+v%1048576*4096):=
 (cW w 12 20 v (by decide) (by decide) (by decide) hw hw' hv hv').trans (congrArg some (bP 12 20 4096 1048576 rfl rfl h))
theorem jk {w v:Int} (hw:0≤w) (hw':w<4294967296) (h:w/4096%8=0) (hv: -9223372036854775808≤v) (hv':v≤9223372036854775807):g7 w 12 3 v=some (w+v%8*4096):=
 (cW w 12 3 v (by decide) (by decide) (by decide) hw hw' hv hv').trans (congrArg some (bP 12 3 4096 8 rfl rfl h))
theorem jl {w v:Int} (hw:0≤w) (hw':w<4294967296) (h:w/32768%32=0) (hv: -9223372036854775808≤v) (hv':v≤9223372036854775807):g7 w 15 5 v=some (w+v%32*32768):=
 (cW w 15 5 v (by decide) (by decide) (by decide) hw hw' hv hv').trans (congrArg some (bP 15 5 32768 32 rfl rfl h))
theorem uL {w v:Int} (hw:0≤w) (hw':w<4294967296) (h:w/1048576%4096=0) (hv: -9223372036854775808≤v) (hv':v≤9223372036854775807):g7 w 20 12 v=some (w+v%4096*1048576):=
 (cW w 20 12 v (by decide) (by decide) (by decide) hw hw' hv hv').trans (congrArg some (bP 20 12 1048576 4096 rfl rfl h))
theorem nl {w v:Int} (hw:0≤w) (hw':w<4294967296) (h:w/1048576%32=0) (hv: -9223372036854775808≤v) (hv':v≤9223372036854775807):g7 w 20 5 v=some (w+v%32*1048576):=
 (cW w 20 5 v (by decide) (by decide) (by decide) hw hw' hv hv').trans (congrArg some (bP 20 5 1048576 32 rfl rfl h))
theorem I9 {w v:Int} (hw:0≤w) (hw':w<4294967296) (h:w/1048576%64=0) (hv: -9223372036854775808≤v) (hv':v≤9223372036854775807):g7 w 20 6 v=some (w+v%64*1048576):=
 (cW w 20 6 v (by decide) (by decide) (by decide) hw hw' hv hv').trans (congrArg some (bP 20 6 1048576 64 rfl rfl h))
theorem sq {w v:Int} (hw:0≤w) (hw':w<4294967296) (h:w/33554432%128=0) (hv: -9223372036854775808≤v) (hv':v≤9223372036854775807):g7 w 25 7 v=some (w+v%128*33554432):=
 (cW w 25 7 v (by decide) (by decide) (by decide) hw hw' hv hv').trans (congrArg some (bP 25 7 33554432 128 rfl rfl h))
theorem A6 {w v:Int} (h:w/2097152%1024=0):dv w 21 10 v=w+v%1024*2097152:=bP 21 10 2097152 1024 rfl rfl h
theorem EY {w v:Int} (h:w/1048576%2=0):dv w 20 1 v=w+v%2*1048576:=bP 20 1 1048576 2 rfl rfl h
theorem EZ {w v:Int} (h:w/4096%256=0):dv w 12 8 v=w+v%256*4096:=bP 12 8 4096 256 rfl rfl h
theorem uM {w v:Int} (h:w/2147483648%2=0):dv w 31 1 v=w+v%2*2147483648:=bP 31 1 2147483648 2 rfl rfl h
theorem Ja {w v:Int} (h:w/256%16=0):dv w 8 4 v=w+v%16*256:=bP 8 4 256 16 rfl rfl h
theorem E0 {w v:Int} (h:w/33554432%64=0):dv w 25 6 v=w+v%64*33554432:=bP 25 6 33554432 64 rfl rfl h
theorem Jb {w v:Int} (h:w/128%2=0):dv w 7 1 v=w+v%2*128:=bP 7 1 128 2 rfl rfl h
theorem E1 {w v:Int} (h:w/33554432%128=0):dv w 25 7 v=w+v%128*33554432:=bP 25 7 33554432 128 rfl rfl h
theorem gu (x:Int×Int×Int×Int×Int) (h:1≤x.1) (h':x.1≤64) (hr:gt x) (hu:(bN x.1).1=1→x.2.2.2.2%4096=0):iV x=some (bU (bN x.1) x):=by
 rw[OB,fJ _ (by omega) h']
 have hs:=iP x.1 h h'
 generalize bN x.1=s at*
 obtain⟨n,rd',rs1,rs2,imm⟩:=x
 obtain⟨f,c,f3,f7⟩:=s
 obtain⟨⟨d1,d2⟩,⟨a1,a2⟩,⟨b1,b2⟩,⟨i1,i2⟩⟩:=hr
 obtain⟨s1,⟨s2,s2'⟩,⟨s3,s3'⟩,⟨s4,s4'⟩,s5,s6⟩:=dB hs
 clear hs
 dsimp only at*
 simp only[af,aA]
 rcases ga s1 with rfl|rfl|rfl|rfl|rfl|rfl|rfl|rfl|rfl
 ·have hu:=hu rfl
  have ht:imm.tdiv 4096=imm/4096:=by
   rw[Int.tdiv_eq_ediv_of_dvd];exact Int.dvd_of_emod_eq_zero hu
  simp only[eB,↓reduceIte,decide_true,ht]
  rw[bf (n:=imm/4096) (by omega) (by omega),jO (by omega) (by omega) (by omega) (by omega) (by omega)]
  simp only[af]
  rw[EX (by omega) (by omega) (by omega) (by omega) (by omega)]
  simp[bU];omega
 ·simp(disch:=omega) [jO,I8,bU]
  rw[A6 (by omega)]
  have hb0:0≤imm/2%1024∧imm/2%1024<1024:=by omega
  generalize imm/2%1024=y0 at*
  rw[EY (by omega)]
  have hb1:0≤imm/2048%2∧imm/2048%2<2:=by omega
  generalize imm/2048%2=y1 at*
  rw[EZ (by omega)]
  have hb2:0≤imm/4096%256∧imm/4096%256<256:=by omega
  generalize imm/4096%256=y2 at*
  rw[uM (by omega)]
  have hb3:0≤imm/1048576%2∧imm/1048576%2<2:=by omega
  generalize imm/1048576%2=y3 at*
  omega
 ·simp(disch:=omega) [jO,jk,jl,uL,bU]
  omega
 ·simp(disch:=omega) [jk,jl,nl,A4,bU]
  rw[Ja (by omega)]
  have hb0:0≤imm/2%16∧imm/2%16<16:=by omega
  generalize imm/2%16=y0 at*
  rw[E0 (by omega)]
  have hb1:0≤imm/32%64∧imm/32%64<64:=by omega
  generalize imm/32%64=y1 at*
  rw[Jb (by omega)]
  have hb2:0≤imm/2048%2∧imm/2048%2<2:=by omega
  generalize imm/2048%2=y2 at*
  rw[uM (by omega)]
  have hb3:0≤imm/4096%2∧imm/4096%2<2:=by omega
  generalize imm/4096%2=y3 at*
  omega
 ·simp(disch:=omega) [jO,jk,jl,nl,EW,bU]
  have hb0:0≤imm%32∧imm%32<32:=by omega
  generalize imm%32=y0 at*
  rw[E1 (by omega)]
  have hb1:0≤imm/32%128∧imm/32%128<128:=by omega
  generalize imm/32%128=y1 at*
  omega
 ·have hf:=s5 rfl
  simp(disch:=omega) [jO,jk,jl,sq,I9,bU]
  omega
 ·simp(disch:=omega) [jO,jk,jl,sq,nl,bU]
  omega
 ·simp(disch:=omega) [jO,jk,jl,sq,nl,bU]
  omega
 ·simp(disch:=omega) [uL,bU]
  omega
def gb (f w:Int):Int:=
 if f=1 then w/4096%1048576*4096
 else if f=2 then w/4096%256*4096+w/1048576%2*2048+w/2097152%1024*2+w/2147483648%2*1048576
 else if f=3 then w/1048576%4096
 else if f=4 then w/128%2*2048+w/256%16*2+w/33554432%64*32+w/2147483648%2*4096
 else if f=5 then w/128%32+w/33554432%128*32
 else if f=6 then w/1048576%64
 else if f=7 then w/1048576%32
 else 0
def eX (f:Int):Nat:=if f=1 then 32 else if f=2 then 21 else if f=3∨f=5 then 12 else if f=4 then 13 else 0
def ov (f w:Int):Int:=if 0<eX f then cz (gb f w) (eX f)else gb f w
def ef (n f w:Int):Int×Int×Int×Int×Int:=
 (n,(if(be f).1 then w/128%32 else 0),(if(be f).2.1 then w/32768%32 else 0),(if(be f).2.2 then w/1048576%32 else 0),ov f w)
theorem yy {f:Int} (h:1≤f∧f≤9):VU f=some ((eX f:Nat):Int):=by
 rw[Q4]
 rcases ga h with rfl|rfl|rfl|rfl|rfl|rfl|rfl|rfl|rfl<;>rfl
theorem A7 {f w:Int} (hf:1≤f∧f≤9) (h:0≤w) (h':w<4294967296): -2147483648≤ov f w∧ov f w≤2147483647:=by
 rcases ga hf with rfl|rfl|rfl|rfl|rfl|rfl|rfl|rfl|rfl<;>simp[ov,eX,gb,cz]<;>omega
theorem ge {n f w:Int} (hf:1≤f∧f≤9) (h:0≤w) (h':w<4294967296):gt (ef n f w):=by
 have hi:=A7 hf h h'
 refine⟨?_, ?_, ?_, ?_⟩
 ·simp only[ef];split<;>omega
 ·simp only[ef];split<;>omega
 ·simp only[ef];split<;>omega
 ·simp only[ef];omega
def nn (w:Int) (i:Int) (p:Int×Int×Int):Int:=iU .i64 i (dl .i64 (w/2^p.2.2.toNat%2^p.2.1.toNat) p.1)
theorem Jc (w:Int) (z:Int×Int×Int×Int×Int) (s:Int×Int×Int×Int) (os:List (ByteArray×Int×Int×Int×Int)) (ln n:Int) (op rd' r1 r2:Int) (ps:List (Int×Int×Int)) (hp:nk ps):
  ∀(k j:Nat) (i:Int),j+k=ps.length→km.b w z s (op,rd',r1,r2,i) os ln n ps (ps.length:Int) (j:Int)=km.b w z s (op,rd',r1,r2,(ps.drop j).foldl (nn w) i) os ln n ps (ps.length:Int) (ps.length:Int):=by
 intro k
 induction k with
 |zero=>
   intro j i h;have:j=ps.length:=by omega
   subst this;simp
 |succ k ih=>
  intro j i h
  have hj:j<ps.length:=by omega
  obtain⟨p1,p2,p3,p4,p5,p6⟩:=hp.2 ps[j] (List.getElem_mem hj)
  have e:=aV (τ:= .pair (.int .i64) (.pair (.int .i64) (.int .i64))) ps j hj
  rw[km.b_eq,ai,aj,e,an j ps.length hj (by have:=hp.1;omega)]
  simp only[ab hj,ae]
  rw[fI _ _ _ (by omega) (by omega) (by omega) (by omega)]
  simp only[af]
  rw[show decide (ps[j].1<0)=false by simp;omega]
  simp only[ac]
  rw[ih (j+1) _ (by omega),List.drop_eq_getElem_cons hj,List.foldl_cons]
  rfl
theorem Jd {y:Int} (h0:0≤y) (h:y≤2147483647):dl .i64 y 11=y*2048:=eK 11 2048 rfl (by decide) h0 (by omega)
theorem LI {y:Int} (h0:0≤y) (h:y≤2147483647):dl .i64 y 1=y*2:=eK 1 2 rfl (by decide) h0 (by omega)
theorem LJ {y:Int} (h0:0≤y) (h:y≤2147483647):dl .i64 y 5=y*32:=eK 5 32 rfl (by decide) h0 (by omega)
theorem Cw {y:Int} (h0:0≤y) (h:y≤2147483647):dl .i64 y 0=y:=by
 rw[ng (by decide) (by decide)];simp;exact bf (by omega) (by omega)
theorem qd {y:Int} (h0:0≤y) (h:y≤2147483647):iU .i64 0 y=y:=by
 have:=bL (x:=0) (y:=y) (P:=1) (Q:=2147483648) 0 31 rfl rfl (by decide) (by decide) (by decide) h0 (by omega) (by omega)
 simpa using this
theorem yz {f w:Int} (hf:1≤f∧f≤9) (h:0≤w) (h':w<4294967296):(cw f).foldl (nn w) 0=gb f w:=by
 rcases ga hf with rfl|rfl|rfl|rfl|rfl|rfl|rfl|rfl|rfl
 ·simp[cw,nn,gb]
  have hb0:0≤w/4096%1048576∧w/4096%1048576<1048576:=by omega
  generalize w/4096%1048576=y0 at*
  simp(disch:=omega) only[g9,yr]
  omega
 ·simp[cw,nn,gb]
  have hb0:0≤w/4096%256∧w/4096%256<256:=by omega
  generalize w/4096%256=y0 at*
  have hb1:0≤w/1048576%2∧w/1048576%2<2:=by omega
  generalize w/1048576%2=y1 at*
  have hb2:0≤w/2097152%1024∧w/2097152%1024<1024:=by omega
  generalize w/2097152%1024=y2 at*
  have hb3:0≤w/2147483648%2∧w/2147483648%2<2:=by omega
  generalize w/2147483648%2=y3 at*
  simp(disch:=omega) only[g9,Jd,LI,jN,Ct,Cv,KW,v9]
  omega
 ·simp[cw,nn,gb]
  have hb0:0≤w/1048576%4096∧w/1048576%4096<4096:=by omega
  generalize w/1048576%4096=y0 at*
  simp(disch:=omega) only[Cw,qd]
 ·simp[cw,nn,gb]
  have hb0:0≤w/128%2∧w/128%2<2:=by omega
  generalize w/128%2=y0 at*
  have hb1:0≤w/256%16∧w/256%16<16:=by omega
  generalize w/256%16=y1 at*
  have hb2:0≤w/33554432%64∧w/33554432%64<64:=by omega
  generalize w/33554432%64=y2 at*
  have hb3:0≤w/2147483648%2∧w/2147483648%2<2:=by omega
  generalize w/2147483648%2=y3 at*
  simp(disch:=omega) only[Jd,LI,LJ,g9,Cv,RS,RT,KX]
  omega
 ·simp[cw,nn,gb]
  have hb0:0≤w/128%32∧w/128%32<32:=by omega
  generalize w/128%32=y0 at*
  have hb1:0≤w/33554432%128∧w/33554432%128<128:=by omega
  generalize w/33554432%128=y1 at*
  simp(disch:=omega) only[Cw,LJ,qd,RU]
 ·simp[cw,nn,gb]
  have hb0:0≤w/1048576%64∧w/1048576%64<64:=by omega
  generalize w/1048576%64=y0 at*
  simp(disch:=omega) only[Cw,qd]
 ·simp[cw,nn,gb]
  have hb0:0≤w/1048576%32∧w/1048576%32<32:=by omega
  generalize w/1048576%32=y0 at*
  simp(disch:=omega) only[Cw,qd]
 ·rfl
 ·rfl
theorem KZ {f w:Int} (hf:1≤f∧f≤9):(if 0<eX f then Tz (gb f w) ((eX f:Nat):Int)else some (gb f w))=some (ov f w):=by
 unfold ov
 rcases ga hf with rfl|rfl|rfl|rfl|rfl|rfl|rfl|rfl|rfl<;>simp[eX]<;>rw[sj _ _ (by decide) (by decide)]<;>rfl
theorem Je (n:Int) (h:0≤n) (h':n≤64):∃os:List (ByteArray×Int×Int×Int×Int),UM=some os∧os.length=65∧∀m:Nat,m≤64→((rd (τ:=(.pair .str (.pair (.int .i64) (.pair (.int .i64) (.pair (.int .i64) (.int .i64)))))) os m).2)=bN m:=by
 refine⟨_,IQ,rfl,fun m hm=> ?_⟩
 obtain⟨k,rfl⟩:∃k:Fin 65,m=k.val:=⟨⟨m,by omega⟩,rfl⟩
 clear hm;revert k
 decide+kernel
theorem iQ (w:Int) (h:0≤w) (h':w<4294967296) (z:Int×Int×Int×Int×Int) (os:List (ByteArray×Int×Int×Int×Int)) (ho:os.length=65) (hs:∀m:Nat,m≤64→((rd (τ:=(.pair .str (.pair (.int .i64) (.pair (.int .i64) (.pair (.int .i64) (.int .i64)))))) os m).2)=bN m) (n:Nat) (h1:1≤n) (hn:n≤64):
  km.a w z os 65 n=if(bN n).2.1=w%128∧bU (bN n) (ef n (bN n).1 w)=w then some (ef n (bN n).1 w,true)else km.a w z os 65 ((n+1:Nat):Int):=by
 have hsf:=iP n (by omega) (by omega)
 rw[km.a_eq,show decide ((n:Int)<65)=true by simp;omega,ho,show aG (n:Int) 65=true by rw[aj];simp;omega,hs n hn,show decide ((n:Int)=0)=false by simp;omega,fI w 0 7 (by decide) (by decide) (by decide) (by decide),bf (n:=(n:Int)+1) (by omega) (by omega)]
 have e0:((n+1:Nat):Int)=(n:Int)+1:=by omega
 rw[e0]
 simp only[ae,ac,aA,af]
 rw[show w/2^(0:Int).toNat%2^(7:Int).toNat=w%128 by simp]
 by_cases hc:(bN n).2.1=w%128
 ·have henc:∀x:Int×Int×Int×Int×Int,x.1=(n:Int)→gt x→yl x=some (bU (bN n) x):=fun x hx hr=>by rw[←hx];exact eL x (by omega) (by omega) hr
  generalize hS:bN n=s at*
  obtain⟨f,c,f3,f7⟩:=s
  obtain⟨s1,⟨s2,s2'⟩,⟨s3,s3'⟩,⟨s4,s4'⟩,s5,s6⟩:=dB hsf
  obtain⟨hp,hpo⟩:=sk s1
  dsimp only at*
  rw[ab hc,hp]
  simp only[eq_true hc,true_and,aH,ac,af]
  clear hc
  rw[show(0:Int)=((0:Nat):Int) by rfl,Jc _ _ _ _ _ _ _ _ _ _ _ hpo (cw f).length 0 _ (by omega),List.drop_zero,show(((0:Nat):Int))=0 by rfl,yz s1 h h',km.b_eq,ai]
  simp only[aB,decide_false,ac,yy s1,sm s1,af,aA]
  have hi:=KZ (w:=w) s1
  have he:=henc (ef n f w) rfl (ge s1 h h')
  have b1:IR w 7 5=some (w/128%32):=fI w 7 5 (by decide) (by decide) (by decide) (by decide)
  have b2:IR w 15 5=some (w/32768%32):=fI w 15 5 (by decide) (by decide) (by decide) (by decide)
  have b3:IR w 20 5=some (w/1048576%32):=fI w 20 5 (by decide) (by decide) (by decide) (by decide)
  rw[bf (n:=(n:Int)+1) (by omega) (by omega)]
  clear henc hS hs ho hp hpo s5 s6 hsf
  unfold ef at he⊢
  generalize km.a w z os 65 (↑n+1)=nx
  generalize gb f w=iu at*
  generalize ov f w=im at*
  simp only[b1,b2,b3,af]
  rcases ga s1 with rfl|rfl|rfl|rfl|rfl|rfl|rfl|rfl|rfl<;>simp[eX,be]at hi he⊢ <;>first|(rw[hi,af,he];simp[eB])|(rw[hi,he];simp[eB])
 ·rw[ap (fun hh=>hc hh.1),show decide ((bN n).2.1=w%128)=false by simpa using hc]
  rfl
theorem yA (n:Int):Vn n=some (decide (1≤n)&&decide (n≤64)):=by
 rw[OC,AS]
 by_cases h:n≥1<;>simp[h]
theorem wc (n:Int):Tr n=some (decide (0≤n)&&decide (n≤31)):=by
 rw[OD,AS]
 by_cases h:n≥0<;>simp[h]
theorem gf (n a b:Int):o9 n a b=some (decide (a≤n)&&decide (n≤b)):=by
 rw[AS]
 by_cases h:n≥a<;>simp[h]
theorem cL (n a b:Int):ic n a b=some (decide (a≤n)&&decide (n≤b)):=by
 rw[AU]
 by_cases h:a≤n<;>simp[h]
def jP (f i:Int):Bool:=
 if f=1 then decide (-2147483648≤i)&&decide (i≤2147479552)&&decide (i%4096=0)
 else if f=2 then decide (-1048576≤i)&&decide (i≤1048574)&&decide (i%2=0)
 else if f=3∨f=5 then decide (-2048≤i)&&decide (i≤2047)
 else if f=4 then decide (-4096≤i)&&decide (i≤4094)&&decide (i%2=0)
 else if f=6 then decide (0≤i)&&decide (i≤63)
 else if f=7 then decide (0≤i)&&decide (i≤31)
 else decide (i=0)
def dF (x:Int×Int×Int×Int×Int):Bool:=
 decide (1≤x.1)&&decide (x.1≤64)&&decide (0≤x.2.1)&&decide (x.2.1≤31)&&decide (0≤x.2.2.1)&&decide (x.2.2.1≤31)&&decide (0≤x.2.2.2.1)&&decide (x.2.2.2.1≤31)
  &&((be (bN x.1).1).1||decide (x.2.1=0))&&((be (bN x.1).1).2.1||decide (x.2.2.1=0))&&((be (bN x.1).1).2.2||decide (x.2.2.2.1=0))&&jP (bN x.1).1 x.2.2.2.2
theorem kW (x:Int×Int×Int×Int×Int):Uk x=some (dF x):=by
 rw[OE]
 obtain⟨n,d,a,b,i⟩:=x
 simp only[aA,yA,wc,gf,af,dF]
 by_cases hn:1≤n∧n≤64
 ·by_cases hd:0≤d∧d≤31
  ·by_cases ha:0≤a∧a≤31
   ·by_cases hb:0≤b∧b≤31
    ·have hs:=iP n hn.1 hn.2
     rw[fJ n (by omega) hn.2]
     generalize bN n=s at*
     obtain⟨f,c,f3,f7⟩:=s
     have s1:=(dB hs).1
     simp only[hn,hd,ha,hb,decide_true,Bool.and_self,aH,ac,af,Bool.true_and]
     clear hs
     have t1:decide (i.tmod 4096=0)=decide (i%4096=0):=by
      congr 1;exact propext ⟨fun h=>by rw[←Int.dvd_iff_tmod_eq_zero]at h;omega,fun h=>by rw[←Int.dvd_iff_tmod_eq_zero];omega⟩
     have t2:decide (i.tmod 2=0)=decide (i%2=0):=by
      congr 1;exact propext ⟨fun h=>by rw[←Int.dvd_iff_tmod_eq_zero]at h;omega,fun h=>by rw[←Int.dvd_iff_tmod_eq_zero];omega⟩
     rw[t1,t2]
     rcases ga s1 with rfl|rfl|rfl|rfl|rfl|rfl|rfl|rfl|rfl<;>simp[be,jP]<;>by_cases e1:d=0<;>by_cases e2:a=0<;>by_cases e3:b=0<;>simp[e1,e2,e3,eB]<;>(first|done|(split<;>first|(simp_all;done)|(simp;intro q1 q2;omega)))
    ·have:(decide (0≤b)&&decide (b≤31))=false:=by simpa using hb
     have h2:¬(0≤b∧b≤31):=hb
     rw[this]
     simp[hn,hd,ha]
     by_cases q:0≤b<;>simp[q]<;>intros<;>omega
   ·have:(decide (0≤a)&&decide (a≤31))=false:=by simpa using ha
    rw[this]
    simp[hn,hd]
    by_cases q:0≤a<;>simp[q]<;>intros<;>omega
  ·have:(decide (0≤d)&&decide (d≤31))=false:=by simpa using hd
   rw[this]
   simp[hn]
   by_cases q:0≤d<;>simp[q]<;>intros<;>omega
 ·have:(decide (1≤n)&&decide (n≤64))=false:=by simpa using hn
  rw[this]
  simp
theorem gg {n:Int} (h:1≤n) (h':n≤64):1≤(bN n).1∧(bN n).1≤9:=by
 have:=iP n h h'
 generalize bN n=s at*
 exact(dB this).1
theorem uN {n f w:Int} (hn:1≤n) (hn':n≤64) (hf:f=(bN n).1) (h:0≤w) (h':w<4294967296):dF (ef n f w)=true:=by
 have s1:=gg hn hn'
 obtain⟨⟨d1,d2⟩,⟨a1,a2⟩,⟨b1,b2⟩,⟨i1,i2⟩⟩:=ge (n:=n) (hf▸s1) h h'
 have hi:jP f (ov f w)=true:=by
  subst hf
  rcases ga s1 with e|e|e|e|e|e|e|e|e<;>rw[e]<;>simp[jP,ov,eX,gb,cz]<;>omega
 subst hf
 unfold dF
 simp only[az,Bool.or_eq_true,aW]
 simp only[ef]at d1 d2 a1 a2 b1 b2⊢
 refine⟨⟨⟨⟨⟨⟨⟨⟨⟨⟨⟨hn,hn'⟩,d1⟩,d2⟩,a1⟩,a2⟩,b1⟩,b2⟩, ?_⟩, ?_⟩, ?_⟩,hi⟩
 ·cases (be (bN n).1).1<;>simp
 ·cases (be (bN n).1).2.1<;>simp
 ·cases (be (bN n).1).2.2<;>simp
theorem sr (w:Int) (h:0≤w) (h':w<4294967296) (n:Int) (h1:1≤n) (hn:n≤64):Vo n w=some (ef n (bN n).1 w):=by
 have s1:=gg h1 hn
 have fv:∀l c:Int,0≤l→0≤c→l+c≤62→sN w l c=some (w/2^l.toNat%2^c.toNat):=fun l c a b d=>ER w l c (by omega) (by omega) a b d
 have bv:∀l:Int,0≤l→l≤63→yY w l=some (w/2^l.toNat%2):=fun l a b=>iy w l (by omega) (by omega) a b
 rw[OH,fv 7 5 (by decide) (by decide) (by decide),fv 15 5 (by decide) (by decide) (by decide),fv 20 5 (by decide) (by decide) (by decide),fv 12 20 (by decide) (by decide) (by decide),fv 21 10 (by decide) (by decide) (by decide),fv 12 8 (by decide) (by decide) (by decide),fv 20 12 (by decide) (by decide) (by decide),fv 8 4 (by decide) (by decide) (by decide),fv 25 6 (by decide) (by decide) (by decide),fv 25 7 (by decide) (by decide) (by decide),fv 20 6 (by decide) (by decide) (by decide),bv 20 (by decide) (by decide),bv 31 (by decide) (by decide),bv 7 (by decide) (by decide),fJ n (by omega) hn]
 generalize bN n=s at*
 obtain⟨f,c,f3,f7⟩:=s
 dsimp only at*
 simp only[af,ef,ov]
 rcases ga s1 with rfl|rfl|rfl|rfl|rfl|rfl|rfl|rfl|rfl
 ·simp[be,eX,gb]
  rw[fZ _ 20 (by decide) (by decide) (by omega) (by omega)]
  simp[cz]
  rw[bf (by omega) (by omega)]
  omega
 ·simp[be,eX,gb]
  rw[bf (n:=w/2097152%1024*2) (by omega) (by omega),bf (n:=w/1048576%2*2048) (by omega) (by omega),bf (n:=w/4096%256*4096) (by omega) (by omega),bf (n:=w/2147483648%2*1048576) (by omega) (by omega),bf (n:=w/2097152%1024*2+w/1048576%2*2048) (by omega) (by omega),bf (n:=w/2097152%1024*2+w/1048576%2*2048+w/4096%256*4096) (by omega) (by omega),bf (by omega) (by omega),fZ _ 21 (by decide) (by decide) (by omega) (by omega)]
  simp
  congr 1;omega
 ·simp[be,eX,gb]
  rw[fZ _ 12 (by decide) (by decide) (by omega) (by omega)]
  simp
 ·simp[be,eX,gb]
  rw[bf (n:=w/256%16*2) (by omega) (by omega),bf (n:=w/33554432%64*32) (by omega) (by omega),bf (n:=w/128%2*2048) (by omega) (by omega),bf (n:=w/2147483648%2*4096) (by omega) (by omega),bf (n:=w/256%16*2+w/33554432%64*32) (by omega) (by omega),bf (n:=w/256%16*2+w/33554432%64*32+w/128%2*2048) (by omega) (by omega),bf (by omega) (by omega),fZ _ 13 (by decide) (by decide) (by omega) (by omega)]
  simp
  congr 1;omega
 ·simp[be,eX,gb]
  rw[bf (n:=w/33554432%128*32) (by omega) (by omega),bf (by omega) (by omega),fZ _ 12 (by decide) (by decide) (by omega) (by omega)]
  simp
 ·simp[be,eX,gb]
 ·simp[be,eX,gb]
 ·simp[be,eX,gb]
 ·simp[be,eX,gb]
theorem RY {n f c f3 f7 w:Int} (hs:uJ (f,c,f3,f7)=true) (h:0≤w) (h':w<4294967296) (hc:c=w%128) (h3:3≤f) (h8:f≤8) (he:bU (f,c,f3,f7) (ef n f w)=w):f3=w/4096%8:=by
 obtain⟨s1,⟨s2,s2'⟩,⟨s3,s3'⟩,⟨s4,s4'⟩,s5,s6⟩:=dB hs
 clear hs
 have hd:=(ge (n:=n) s1 h h').d
 have ha:=(ge (n:=n) s1 h h').a
 have hb:=(ge (n:=n) s1 h h').b
 have:f=3∨f=4∨f=5∨f=6∨f=7∨f=8:=by omega
 generalize ef n f w=x at*
 obtain⟨n',d,a,b,i⟩:=x
 dsimp only at*
 rcases this with rfl|rfl|rfl|rfl|rfl|rfl<;>simp only[bU,Int.reduceEq,↓reduceIte]at he
 ·have hb0:0≤i%4096∧i%4096<4096:=by omega
  generalize i%4096=y0 at*;omega
 ·have hb0:0≤i/2048%2∧i/2048%2<2:=by omega
  generalize i/2048%2=y0 at*
  have hb1:0≤i/2%16∧i/2%16<16:=by omega
  generalize i/2%16=y1 at*
  have hb2:0≤i/32%64∧i/32%64<64:=by omega
  generalize i/32%64=y2 at*
  have hb3:0≤i/4096%2∧i/4096%2<2:=by omega
  generalize i/4096%2=y3 at*;omega
 ·have hb0:0≤i%32∧i%32<32:=by omega
  generalize i%32=y0 at*
  have hb1:0≤i/32%128∧i/32%128<128:=by omega
  generalize i/32%128=y1 at*;omega
 ·have hb0:0≤i%64∧i%64<64:=by omega
  generalize i%64=y0 at*;omega
 ·have hb0:0≤i%32∧i%32<32:=by omega
  generalize i%32=y0 at*;omega
 ·omega
theorem tC (w:Int) (h:0≤w) (h':w<4294967296) (z:Int×Int×Int×Int×Int) (n:Nat) (h1:1≤n) (hn:n≤64):
  yh.a w z n=if(bN n).2.1=w%128∧bU (bN n) (ef n (bN n).1 w)=w then some (ef n (bN n).1 w,true)else yh.a w z ((n+1:Nat):Int):=by
 have hsf:=iP n (by omega) (by omega)
 have s1:=gg (n:=n) (by omega) (by omega)
 have hr:=uN (n:=n) (by omega) (by omega) rfl h h'
 have he:iV (ef n (bN n).1 w)=some (bU (bN n) (ef n (bN n).1 w)):=gu (ef n (bN n).1 w) (by simp only[ef];omega) (by simp only[ef];omega) (ge s1 h h') (fun hf=>by
  have hf:(bN n).1=1:=hf
  show ov (bN n).1 w%4096=0
  rw[hf];simp[ov,eX,gb,cz];omega)
 have e0:((n+1:Nat):Int)=(n:Int)+1:=by omega
 rw[yh.a_eq,show decide ((n:Int)≤64)=true by simp;omega,fJ n (by omega) (by omega),bf (n:=(n:Int)+1) (by omega) (by omega),e0]
 simp only[ae,aA,af,gf,sr w h h' n (by omega) (by omega),kW,hr,he]
 have t1:w.tmod 128=w%128:=Int.tmod_eq_emod_of_nonneg h
 have t2:(w.tdiv 4096).tmod 8=w/4096%8:=by rw[Int.tdiv_eq_ediv_of_nonneg h,Int.tmod_eq_emod_of_nonneg (by omega)]
 have w1:IntKind.wrap .i64 (w.tdiv 4096)=w.tdiv 4096:=by rw[Int.tdiv_eq_ediv_of_nonneg h];exact bf (by omega) (by omega)
 rw[w1,t1,t2]
 have h3:=fun(hc:(bN n).2.1=w%128) (h3:3≤(bN n).1) (h8:(bN n).1≤8) (he:bU (bN n) (ef n (bN n).1 w)=w)=>RY (n:=n) (f:=(bN n).1) (c:=(bN n).2.1) (f3:=(bN n).2.2.1) (f7:=(bN n).2.2.2) hsf h h' hc h3 h8 he
 clear hsf hr he
 generalize bN n=s at*
 by_cases hc:s.2.1=w%128
 ·by_cases hf:3≤s.1∧s.1≤8
  ·by_cases hg:s.2.2.1=w/4096%8
   ·simp[hc,hf,hg,eB]
   ·have:¬bU s (ef n s.1 w)=w:=fun he=>hg (h3 hc hf.1 hf.2 he)
    simp[hc,hf,hg,this]
  ·have:(decide (3≤s.1)&&decide (s.1≤8))=false:=by simpa using hf
   simp[hc,this,eB]
 ·simp[hc]
def E2 (w:Int) (v:(Int×Int×Int×Int×Int)×Bool):Prop:=(v.2=true→1≤v.1.1∧v.1.1≤64∧v.1=ef v.1.1 (bN v.1.1).1 w∧bU (bN v.1.1) v.1=w)∧(v.2=false→v.1=(0,0,0,0,0))
theorem kX (w:Int) (h:0≤w) (h':w<4294967296):∃v,km w=some v∧yh w=some v∧E2 w v:=by
 obtain⟨os,ho,hl,hs⟩:=Je 0 (by decide) (by decide)
 rw[IS,OI,ho]
 simp only[af,hl]
 have hz:km.a w (0,0,0,0,0) os 65 0=km.a w (0,0,0,0,0) os 65 1:=by
  rw[km.a_eq,hl];rfl
 have key:∀(k n:Nat),n+k=65→1≤n→∃v,km.a w (0,0,0,0,0) os 65 (n:Int)=some v∧yh.a w (0,0,0,0,0) (n:Int)=some v∧E2 w v:=by
  intro k
  induction k with
  |zero=>
   intro n hn h1
   have:n=65:=by omega
   subst this
   rw[km.a_eq,yh.a_eq]
   exact⟨_,rfl,rfl,(fun hh=>by cases hh),fun _=>rfl⟩
  |succ k ih=>
   intro n hn h1
   obtain⟨v,e1,e2,e3⟩:=ih (n+1) (by omega) (by omega)
   rw[iQ w h h' _ os hl hs n h1 (by omega),tC w h h' _ n h1 (by omega),e1,e2]
   by_cases hc:(bN n).2.1=w%128∧bU (bN n) (ef n (bN n).1 w)=w
   ·rw[av hc]
    exact⟨_,rfl,rfl,fun _=>⟨by simp only[ef];omega,by simp only[ef];omega,rfl,hc.2⟩,(fun hh=>by cases hh)⟩
   ·rw[ap hc]
    exact⟨v,rfl,rfl,e3⟩
 rw[show(((65:Nat)):Int)=65 by rfl,hz]
 exact key 64 1 (by omega) (by omega)
abbrev eC:Ty:= .pair (.int .i64) (.pair (.int .i64) (.pair (.int .i64) (.pair (.int .i64) (.int .i64))))
abbrev ig:Type:=Int×Int×Int×Int×Int
theorem E3 (a b:ByteArray):(bM a b=true)=(a=b):=by
 unfold bM
 rw[beq_iff_eq]
 refine propext ⟨fun h=> ?_,fun h=>by rw[h]⟩
 have e:∀x:ByteArray,x.toList=x.data.toList:=by
  intro x
  have:∀(n i:Nat) (r:List UInt8),n=x.size-i→ByteArray.toList.loop x i r=r.reverse++x.data.toList.drop i:=by
   intro n
   induction n with
   |zero=>
     intro i r hn
     rw[ByteArray.toList.loop,ap (by omega),List.drop_eq_nil_of_le (by have:x.size=x.data.size:=rfl;simp;omega),List.append_nil]
   |succ n ih=>
    intro i r hn
    have hi:i<x.data.toList.length:=by have:x.size=x.data.size:=rfl;simp;omega
    rw[ByteArray.toList.loop,av (by omega),ih (i+1) _ (by omega),List.drop_eq_getElem_cons hi]
    have:x.get! i=x.data.toList[i]:=by
     have h2:i<x.data.size:=by simpa using hi
     rw[ByteArray.get!,getElem!_pos x.data i h2];simp
    rw[this];simp
  have:=this (x.size-0) 0 [] rfl
  rw[ByteArray.toList,this];simp
 rw[e,e]at h
 have:a.data=b.data:=Array.toList_inj.mp h
 cases a;cases b;simp_all
theorem a9 (a b:ByteArray):bM a b=decide (a=b):=by
 have:=E3 a b
 by_cases h:a=b
 ·rw[ab h,this.mpr h]
 ·rw[ak h]
  cases e:bM a b
  ·rfl
  ·exact absurd (this.mp e) h
theorem qe (a b:ig):li eC a b=decide (a=b):=by
 obtain⟨a1,a2,a3,a4,a5⟩:=a
 obtain⟨b1,b2,b3,b4,b5⟩:=b
 simp[li]
def ej (t:ByteArray) (a:Nat):Nat→Nat
 |0=>0
 |n+1=>(t.data.getD a 0).toNat+256*ej t (a+1) n
theorem A8 (t:ByteArray):∀(n a:Nat),ej t a n<256^n:=by
 intro n
 induction n with
 |zero=>intro a;simp[ej]
 |succ n ih=>
  intro a
  have h1:=ih (a+1)
  have h2:=(t.data.getD a 0).toNat_lt
  rw[ej,Nat.pow_succ];omega
theorem eY (t:ByteArray) (a b:Nat) (hb:b≤t.size):∀(n i:Nat),i+n≤b-a→ej (t.extract a b) i n=ej t (a+i) n:=by
 intro n
 induction n with
 |zero=>intro i _;rfl
 |succ n ih=>
  intro i h
  rw[ej,ej,ih (i+1) (by omega)]
  congr 2
  rw[ByteArray.data_extract]
  have hs:t.size=t.data.size:=rfl
  simp[Array.getD]
  rw[dif_pos (by omega),dif_pos (by omega)]
theorem K0 (V b:Int) (hV:0≤V) (hb:0≤b) (hb':b≤255):iU .i64 (dl .i64 (IntKind.wrap .i64 V) 8) b=IntKind.wrap .i64 (256*V+b):=by
 have h1:dl .i64 (IntKind.wrap .i64 V) 8=IntKind.wrap .i64 (V*256):=by
  rw[ng (by decide) (by decide)]
  obtain⟨q,hq⟩:=AZ V
  have e8:(2:Int)^(8:Int).toNat=256:=by decide
  rw[hq,e8,IntKind.wrap_i64,IntKind.wrap_i64];omega
 rw[h1]
 obtain⟨y,rfl⟩:=Int.eq_ofNat_of_zero_le hb
 unfold iU
 rw[BitVec.toNat_or]
 have f1:=A0 (IntKind.wrap .i64 (V*256))
 have f2:(BitVec.ofInt IntKind.i64.bits (y:Int)).toNat=y:=by have:=A0 (y:Int);omega
 have f3:IntKind.wrap .i64 (V*256)%18446744073709551616=V*256%18446744073709551616:=by
  rw[IntKind.wrap_i64];omega
 rw[f3]at f1
 rw[f2]
 generalize (BitVec.ofInt IntKind.i64.bits (IntKind.wrap .i64 (V*256))).toNat=x at*
 have h0:=nh x y 0 8 (by omega) (by omega)
 simp only[Nat.pow_zero,Nat.mul_one]at h0
 rw[h0,IntKind.wrap_i64,IntKind.wrap_i64]
 omega
theorem np (n:Int):IntKind.wrap .u64 n=n%18446744073709551616:=by simp[IntKind.wrap,IntKind.bits,IntKind.signed]
theorem fK (t:ByteArray) (i:Nat):bt t (i:Int)=((t.data.getD i 0).toNat:Int):=by unfold bt;rw[aP]
theorem ss (t:ByteArray) (hz:t.size≤9223372036854775807):∀(k:Nat),k≤t.size→tz.a t (IntKind.wrap .i64 (ej t k (t.size-k))) ((k:Int)-1)=some (IntKind.wrap .i64 (ej t 0 t.size)):=by
 intro k
 induction k with
 |zero=>
  intro _
  rw[tz.a_eq];rfl
 |succ k ih=>
  intro hk
  have hs:(((k+1:Nat):Int)-1)=(k:Int):=by omega
  have hb:=nf t (k:Int)
  rw[hs,tz.a_eq,show decide ((k:Int)≥0)=true by simp,aj,ab (show k<t.size by omega),bf (n:=bt t (k:Int)) (by omega) (by omega),K0 _ _ (by omega) hb.1 hb.2,bf (n:=(k:Int)-1) (by omega) (by omega)]
  simp only[ae]
  have e:ej t k (t.size-k)=(t.data.getD k 0).toNat+256*ej t (k+1) (t.size-(k+1)):=by
   rw[show t.size-k=(t.size-(k+1))+1 by omega,ej]
  have ih:=ih (by omega)
  rw[e]at ih
  rw[fK,show(256:Int)*(ej t (k+1) (t.size-(k+1)):Nat)+((t.data.getD k 0).toNat:Nat)=(((t.data.getD k 0).toNat+256*ej t (k+1) (t.size-(k+1)):Nat):Int) by omega]
  exact ih
theorem c7 (t:ByteArray) (hz:t.size≤9223372036854775807):tz t=some (IntKind.wrap .i64 (ej t 0 t.size)):=by
 have:=ss t hz t.size (by omega)
 rw[Nat.sub_self,show IntKind.wrap .i64 (ej t t.size 0:Nat)=0 by rfl]at this
 rw[QX,bf (n:=(t.size:Int)-1) (by omega) (by omega)]
 exact this
theorem su (t:ByteArray) (a n:Nat) (hz:t.size≤4611686018427387904) (han:a+n≤t.size):∀(k:Nat),k≤n→pZ.a t (a:Int) (((ej t (a+k) (n-k):Nat):Int)%18446744073709551616) ((k:Int)-1)=some (IntKind.wrap .i64 (ej t a n)):=by
 intro k
 induction k with
 |zero=>
  intro _
  rw[pZ.a_eq,show decide (((0:Nat):Int)-1≥0)=false by rfl]
  simp only[ac,Nat.add_zero,Nat.sub_zero]
  congr 1
  rw[IntKind.wrap_i64,IntKind.wrap_i64];omega
 |succ k ih=>
  intro hk
  have hs:(((k+1:Nat):Int)-1)=(k:Int):=by omega
  have hi:((a:Int)+(k:Int))=((a+k:Nat):Int):=by omega
  rw[hs,pZ.a_eq,show decide ((k:Int)≥0)=true by simp,hi,bf (n:=((a+k:Nat):Int)) (by omega) (by omega),aj,ab (show a+k<t.size by omega),bf (n:=(k:Int)-1) (by omega) (by omega)]
  simp only[ae]
  have e:ej t (a+k) (n-k)=(t.data.getD (a+k) 0).toNat+256*ej t (a+(k+1)) (n-(k+1)):=by
   rw[show n-k=(n-(k+1))+1 by omega,ej];rfl
  have ih:=ih (by omega)
  rw[e]at ih
  rw[fK]
  have hb:=(t.data.getD (a+k) 0).toNat_lt
  refine Eq.trans ?_ ih
  congr 1
  rw[np,np,np]
  generalize (t.data.getD (a+k) 0).toNat=b at*
  generalize ej t (a+(k+1)) (n-(k+1))=L at*
  omega
theorem dC (t:ByteArray) (a n:Nat) (hz:t.size≤4611686018427387904) (han:a+n≤t.size):pZ t (a:Int) (n:Int)=some (IntKind.wrap .i64 (ej t a n)):=by
 have:=su t a n hz han n (by omega)
 rw[Nat.sub_self,show((ej t (a+n) 0:Nat):Int)%18446744073709551616=0 by rfl]at this
 rw[Ox,bf (n:=(n:Int)-1) (by omega) (by omega)]
 exact this
theorem UV (t:ByteArray) (a:Nat):0≤((ej t a 4:Nat):Int)∧((ej t a 4:Nat):Int)<4294967296:=by
 have:=A8 t 4 a
 have e:256^4=4294967296:=by decide
 omega
def tD (x:ig):Prop:=1≤x.1∧x.1≤64∧gt x∧dF x=true
theorem E2.ins {w:Int} (h:0≤w) (h':w<4294967296) {v:ig×Bool} (hv:E2 w v) (hb:v.2=true):tD v.1:=by
 obtain⟨h1,h2,h3,h4⟩:=hv.1 hb
 refine⟨h1,h2, ?_, ?_⟩
 ·rw[h3];exact ge (gg h1 h2) h h'
 ·rw[h3];exact uN h1 h2 rfl h h'
theorem bj {n b:Nat} (h:n*b≤140737488355328) (h':n≤140737488355328):aw n b=true:=by
 simp only[aw,az,aW];omega
inductive TE (code:ByteArray):Prop where
 |ok (l:List ig) (hi:y6 code=some (l,0,true)) (hs:EG code=some (l,-1)) (hl:4*l.length=code.size) (hr:∀x∈l,tD x)
 |bad (k:Int) (hi:y6 code=some ([],k,false)) (hs:EG code=some ([],k)) (h0:0≤k)
theorem yB (code:ByteArray) (h4:code.size%4=0) (hz:code.size≤1048576):TE code:=by
 have key:∀(k i:Nat) (l:List ig),4*(i+k)=code.size→l.length=i→(∀x∈l,tD x)→
   (∃l',y6.a code l (4*i:Nat)=some (l',0,true)∧EG.a code l (i:Int)=some (l',-1)∧4*l'.length=code.size∧∀x∈l',tD x)∨
   (∃b:Int,y6.a code l (4*i:Nat)=some ([],b,false)∧EG.a code l (i:Int)=some ([],b)∧0≤b):=by
  intro k
  induction k with
  |zero=>
   intro i l hk hl hr
   rw[y6.a_eq,EG.a_eq,bf (n:=4*(i:Int)) (by omega) (by omega),show decide (((4*i:Nat):Int)< (code.size:Int))=false by simp;omega,show decide (4*(i:Int)< (code.size:Int))=false by simp;omega]
   exact Or.inl ⟨l,rfl,rfl,by omega,hr⟩
  |succ k ih=>
   intro i l hk hl hr
   have hw:=UV code (4*i)
   obtain⟨v,e1,e2,e3⟩:=kX _ hw.1 hw.2
   have t1:tz (code.extract (4*i) (4*i+4))=some ((ej code (4*i) 4:Nat):Int):=by
    have hsz:(code.extract (4*i) (4*i+4)).size=4:=by rw[ByteArray.size_extract];omega
    rw[c7 _ (by omega),hsz,eY code (4*i) (4*i+4) (by omega) 4 0 (by omega),Nat.add_zero,bf (by omega) (by omega)]
   have t2:pZ code ((4*i:Nat):Int) 4=some ((ej code (4*i) 4:Nat):Int):=by
    rw[show(4:Int)=((4:Nat):Int) by rfl,dC _ _ _ (by omega) (by omega),bf (by omega) (by omega)]
   rw[y6.a_eq,EG.a_eq,bf (n:=4*(i:Int)) (by omega) (by omega),bf (n:=(i:Int)+1) (by omega) (by omega),bf (n:=((4*i:Nat):Int)+4) (by omega) (by omega),show 4*(i:Int)=((4*i:Nat):Int) by omega,aP,show(((4*i:Nat):Int)+4).toNat=4*i+4 by omega,t1,t2]
   rw[show decide (((4*i:Nat):Int)< (code.size:Int))=true by simp;omega,show decide ((0:Int)≤((4*i:Nat):Int))=true by simp;omega,show decide (((4*i:Nat):Int)≤((4*i:Nat):Int)+4)=true by simp;omega,show decide (((4*i:Nat):Int)+4≤(code.size:Int))=true by simp;omega]
   simp only[ae,Bool.and_self,af,e1,e2]
   cases hb:v.2 with
   |false=>
    refine Or.inr ⟨(i:Int), ?_,rfl,by omega⟩
    rw[show(((4*i:Nat):Int)).tdiv 4=(i:Int) by rw[Int.tdiv_eq_ediv_of_nonneg (by omega)];omega,bf (by omega) (by omega)];rfl
   |true=>
    have hx:=E2.ins hw.1 hw.2 e3 hb
    rw[bj (by simp;omega) (by simp;omega)]
    simp only[aH,ac,ae]
    have ih:=ih (i+1) (l++[v.1]) (by omega) (by simp;omega) (by
     intro x hx'
     rcases List.mem_append.mp hx' with h|h
     ·exact hr x h
     ·rw[List.mem_singleton.mp h];exact hx)
    rw[show((4*(i+1):Nat):Int)=((4*i:Nat):Int)+4 by omega,show((i+1:Nat):Int)=(i:Int)+1 by omega]at ih
    exact ih
 rcases key (code.size/4) 0 [] (by omega) rfl (by simp)with⟨l,a1,a2,a3,a4⟩|⟨b,a1,a2,a3⟩
 ·exact .ok l ((AW code).trans a1) ((IC code).trans a2) a3 a4
 ·exact .bad b ((AW code).trans a1) ((IC code).trans a2) a3
theorem eM {α:Type} {c d:Prop} [Decidable c] [Decidable d] {a b b':α} (h:c↔d) (hb:b=b'):(if c then a else b)=(if d then a else b'):=by
 subst hb
 by_cases hc:c
 ·rw[av hc,av (h.mp hc)]
 ·rw[ap hc,ap (fun hd=>hc (h.mpr hd))]
theorem Jf (f:Int) (h:16≤f∧f≤128):VV f=some [(14,1,2,0,f-8),(22,2,2,0,f),(4,0,1,0,0)]∧Vq f=some [(14,1,2,0,f-8),(22,2,2,0,f),(4,0,1,0,0)]:=by
 rw[Q7,ON,bf (n:=f-8) (by omega) (by omega)];exact⟨rfl,rfl⟩
def ce (l:List ig) (f k:Int):Bool:=
 decide (2≤k)&&decide (k+2< (l.length:Int))&&decide (rd (τ:=eC) l k=((14,1,2,0,f-8):ig))&&decide (rd (τ:=eC) l (k+1)=((22,2,2,0,f):ig))&&decide (rd (τ:=eC) l (k+2)=((4,0,1,0,0):ig))
theorem K3 (i:Int) (n:Nat):(aG i n=true)=(0≤i∧i< (n:Int)):=by simp[aG]
theorem inL_true {i:Int} {n:Nat} (h:0≤i) (h':i< (n:Int)):aG i n=true:=by rw[K3];exact⟨h,h'⟩
theorem eD (l:List ig) (f k:Int) (hf:16≤f∧f≤128) (hl:l.length≤1048576) (hk: -4611686018427387904≤k) (hk':k≤4611686018427387904):KR l k f=some (ce l f k):=by
 rw[OO,(Jf f hf).2,bf (n:=k+1) (by omega) (by omega),bf (n:=k+2) (by omega) (by omega)]
 simp only[af]
 unfold ce
 by_cases h1:2≤k
 ·by_cases h2:k+2< (l.length:Int)
  ·rw[inL_true (i:=k) (by omega) (by omega),inL_true (i:=k+1) (by omega) (by omega),inL_true (i:=k+2) (by omega) (by omega),qe,qe,qe]
   simp only[h1,h2,decide_true,ae,Bool.true_and]
   have e0:∀a b c:ig,rd (τ:=eC) [a,b,c] 0=a:=fun _ _ _=>rfl
   have e1:∀a b c:ig,rd (τ:=eC) [a,b,c] 1=b:=fun _ _ _=>rfl
   have e2:∀a b c:ig,rd (τ:=eC) [a,b,c] 2=c:=fun _ _ _=>rfl
   rw[e0,e1,e2]
   show(bif true then bif decide _ then(bif true then bif decide _ then(bif true then some (decide _)else none)else some false else none)else some false else none)=_
   cases decide (rd (τ:=eC) l k=((14,1,2,0,f-8):ig))<;>cases decide (rd (τ:=eC) l (k+1)=((22,2,2,0,f):ig))<;>rfl
  ·simp[h1,h2]
 ·simp[h1]
theorem K4 (l:List ig) (f k:Int):(ce l f k=true→ce l f (k-1)=false)∧(ce l f k=true→ce l f (k-2)=false)∧(ce l f (k-1)=true→ce l f (k-2)=false):=by
 have e1:k-1+1=k:=by omega
 have e2:k-2+2=k:=by omega
 have e3:k-2+1=k-1:=by omega
 have e4:k-1+2=k+1:=by omega
 unfold ce
 rw[e1,e2,e3,e4]
 simp only[az,aW]
 refine⟨?_, ?_, ?_⟩
 ·rintro⟨⟨⟨_,h⟩,_⟩,_⟩
  rw[h];simp
 ·rintro⟨⟨⟨_,h⟩,_⟩,_⟩
  rw[h];simp
 ·rintro⟨⟨⟨_,h⟩,h2⟩,_⟩
  rw[h2];simp
def tE (l:List ig) (f:Int) (n j:Int):Int:=
 if j<n∧ce l f j=true then 1 else if j-1<n∧ce l f (j-1)=true then 2 else if j-2<n∧ce l f (j-2)=true then 3 else 0
def iA (l:List ig) (f:Int) (n:Int) (E:List Int):Prop:=E.length=l.length∧∀j:Nat,j<l.length→E[j]? =some (tE l f n (j:Int))
theorem A9 (a b:List ig) (hl:a.length=b.length) (hz:a.length≤1048576):∀(k j:Nat),j+k=a.length→IT.a a b (a.length:Int) (j:Int)=some (decide (a.drop j=b.drop j)):=by
 intro k
 induction k with
 |zero=>
  intro j hj
  rw[IT.a_eq,ai,show decide (j<a.length)=false by simp;omega,List.drop_eq_nil_of_le (by omega),List.drop_eq_nil_of_le (by omega)];rfl
 |succ k ih=>
  intro j hj
  have h1:j<a.length:=by omega
  have h2:j<b.length:=by omega
  rw[IT.a_eq,ai,aj,aj,ab h1,ab h2,an j a.length h1 (by omega),ih (j+1) (by omega)]
  simp only[ae]
  rw[aV (τ:=eC) a j h1,aV (τ:=eC) b j h2,qe,List.drop_eq_getElem_cons h1,List.drop_eq_getElem_cons h2]
  simp only[aC]
  by_cases h:a[j]=b[j]<;>simp[h]
theorem E4 (a b:List ig) (hz:a.length≤1048576):IT a b=some (decide (a=b)):=by
 rw[Q6]
 by_cases h:a.length=b.length
 ·rw[show decide ((a.length:Int)=(b.length:Int))=true by simp[h]]
  have:=A9 a b h hz a.length 0 (by omega)
  rw[show((0:Nat):Int)=0 by rfl]at this
  simp only[aH,ac,this,List.drop_zero]
 ·rw[show decide ((a.length:Int)=(b.length:Int))=false by simp;omega]
  simp only[Bool.not_false,ae]
  rw[ak];rintro rfl;exact h rfl
theorem Jg (l:List ig) (k:Nat) (hk:k+3≤l.length) (a b c:ig):decide ((l.take (k+3)).drop k=[a,b,c])=(decide (rd (τ:=eC) l k=a)&&decide (rd (τ:=eC) l ((k:Int)+1)=b)&&decide (rd (τ:=eC) l ((k:Int)+2)=c)):=by
 rw[show(k:Int)+1=((k+1:Nat):Int) by omega,show(k:Int)+2=((k+2:Nat):Int) by omega,aV (τ:=eC) l k (by omega),aV (τ:=eC) l (k+1) (by omega),aV (τ:=eC) l (k+2) (by omega)]
 rw[List.drop_take,show k+3-k=3 by omega,List.drop_eq_getElem_cons (show k<l.length by omega),List.drop_eq_getElem_cons (show k+1<l.length by omega),List.drop_eq_getElem_cons (show k+1+1<l.length by omega)]
 simp[List.take]
 rw[Bool.and_assoc]
theorem E5 (at_:Int) (calls:List Int) (l:List ig) (f:Int) (hf:16≤f∧f≤128) (hl:l.length≤1048576) (h2:2≤l.length):
  ∀(k i:Nat) (E:List Int),2≤i→i+k+2=l.length→iA l f i E→∃E',iA l f l.length E'∧kn.b f l (l,f,at_,calls,E) i=kn.c l (l,f,at_,calls,E') 2:=by
 intro k
 induction k with
 |zero=>
  intro i E h2i hk hE
  refine⟨E,⟨hE.1,fun j hj=> ?_⟩, ?_⟩
  ·rw[hE.2 j hj]
   congr 1
   have out:∀m:Int,(i:Int)≤m→ce l f m=false:=by
    intro m hm
    unfold ce
    rw[show decide (m+2< (l.length:Int))=false by simp;omega];simp
   have r:∀m:Int,m< (l.length:Int)→((m< (i:Int)∧ce l f m=true)↔(m< (l.length:Int)∧ce l f m=true)):=by
    intro m hm
    constructor
    ·rintro⟨_,h⟩;exact⟨hm,h⟩
    ·rintro⟨_,h⟩
     refine⟨?_,h⟩
     by_cases hmi:m< (i:Int)
     ·exact hmi
     ·rw[out m (by omega)]at h;cases h
   unfold tE
   exact eM (r j (by omega)) (eM (r (j-1) (by omega)) (eM (r (j-2) (by omega)) rfl))
  ·rw[kn.b_eq,bf (n:=(i:Int)+3) (by omega) (by omega),show decide ((i:Int)+3≤(l.length:Int))=false by simp;omega]
   rfl
 |succ k ih=>
  intro i E h2i hk hE
  have hstep:∀E':List Int,E'.length=l.length→(∀j:Nat,j<l.length→E'[j]? =some (tE l f ((i:Int)+1) j))→∃E'',iA l f l.length E''∧kn.b f l (l,f,at_,calls,E') (((i+1:Nat)):Int)=kn.c l (l,f,at_,calls,E'') 2:=by
   intro E' h1 h2'
   exact ih (i+1) E' (by omega) (by omega) ⟨h1,fun j hj=>by rw[h2' j hj];rfl⟩
  have hEl:=hE.1
  rw[kn.b_eq,bf (n:=(i:Int)+3) (by omega) (by omega),bf (n:=(i:Int)+1) (by omega) (by omega),bf (n:=(i:Int)+2) (by omega) (by omega),(Jf f hf).1,show decide ((i:Int)+3≤(l.length:Int))=true by simp;omega,show decide ((0:Int)≤(i:Int))=true by simp,show decide ((i:Int)≤(i:Int)+3)=true by simp;omega,show((i:Int)+3).toNat=i+3 by omega,aP,show((i:Int)+1).toNat=i+1 by omega,show((i:Int)+2).toNat=i+2 by omega]
  simp only[ae,Bool.and_self,af]
  rw[E4 _ _ (by simp;omega),Jg l i (by omega)]
  have hB:ce l f i=(decide (rd (τ:=eC) l i=((14,1,2,0,f-8):ig))&&decide (rd (τ:=eC) l ((i:Int)+1)=((22,2,2,0,f):ig))&&decide (rd (τ:=eC) l ((i:Int)+2)=((4,0,1,0,0):ig))):=by
   unfold ce
   rw[show decide (2≤(i:Int))=true by simp;omega,show decide ((i:Int)+2< (l.length:Int))=true by simp;omega];simp
  rw[←hB]
  simp only[af]
  cases hb:ce l f i with
  |true=>
   simp only[ae,letB]
   rw[inL_true (by omega) (by rw[hEl];omega),inL_true (by omega) (by rw[List.length_set,hEl];omega),inL_true (by omega) (by rw[List.length_set,List.length_set,hEl];omega)]
   simp only[ae]
   rw[show(i:Int)+1=((i+1:Nat):Int) by omega]
   refine hstep _ (by simp[hEl]) (fun j hj=> ?_)
   have hj':=hE.2 j hj
   rw[List.getElem?_set,List.getElem?_set,List.getElem?_set]
   simp only[List.length_set,hEl]
   unfold tE
   by_cases c2:i+2=j
   ·rw[av c2,av (by omega),ap (by omega),ap (by omega),av ⟨by omega,by rw[show(j:Int)-2=(i:Int) by omega];exact hb⟩]
   ·rw[ap c2]
    by_cases c1:i+1=j
    ·rw[av c1,av (by omega),ap (by omega),av ⟨by omega,by rw[show(j:Int)-1=(i:Int) by omega];exact hb⟩]
    ·rw[ap c1]
     by_cases c0:i=j
     ·rw[av c0,av (by omega),av ⟨by omega,by rw[show(j:Int)=(i:Int) by omega];exact hb⟩]
     ·rw[ap c0,hj']
      unfold tE
      congr 1
      have r:∀m:Int,m≠(i:Int)→((m< (i:Int)∧ce l f m=true)↔(m< (i:Int)+1∧ce l f m=true)):=by
       intro m hm
       constructor
       ·rintro⟨_,h⟩;exact⟨by omega,h⟩
       ·rintro⟨_,h⟩;exact⟨by omega,h⟩
      exact eM (r j (by omega)) (eM (r (j-1) (by omega)) (eM (r (j-2) (by omega)) rfl))
  |false=>
   simp only[ac]
   rw[show(i:Int)+1=((i+1:Nat):Int) by omega]
   refine hstep _ hEl (fun j hj=> ?_)
   rw[hE.2 j hj]
   unfold tE
   congr 1
   have r:∀m:Int,((m< (i:Int)∧ce l f m=true)↔(m< (i:Int)+1∧ce l f m=true)):=by
    intro m
    constructor
    ·rintro⟨_,h⟩;exact⟨by omega,h⟩
    ·rintro⟨_,h⟩
     refine⟨?_,h⟩
     by_cases hmi:m=(i:Int)
     ·rw[hmi,hb]at h;cases h
     ·omega
   exact eM (r j) (eM (r (j-1)) (eM (r (j-2)) rfl))
theorem Ba (l:List Int) (n:Int) (hz:l.length≤1048576):∀(k j:Nat),j+k=l.length→∃r:Int,JO.a l n (l.length:Int) (j:Int)=some r∧decide (r≥0)=decide (n∈l.drop j)∧EH.a l n (j:Int)=some (decide (n∈l.drop j)):=by
 intro k
 induction k with
 |zero=>
  intro j hj
  rw[JO.a_eq,EH.a_eq,ai,show decide (j<l.length)=false by simp;omega,List.drop_eq_nil_of_le (by omega)]
  exact⟨-1,rfl,by simp,by simp⟩
 |succ k ih=>
  intro j hj
  have h1:j<l.length:=by omega
  obtain⟨r,i1,i2,i3⟩:=ih (j+1) (by omega)
  rw[JO.a_eq,EH.a_eq,ai,aj,ab h1,an j l.length h1 (by omega),aV (τ:= .int .i64) l j h1,List.drop_eq_getElem_cons h1]
  simp only[ae]
  by_cases h:n=l[j]
  ·rw[ab h,ab h.symm,ab (show n∈l[j]::l.drop (j+1) by rw[h];exact List.mem_cons_self)]
   exact⟨(j:Int),rfl,by simp,rfl⟩
  ·have e:decide (n∈l[j]::l.drop (j+1))=decide (n∈l.drop (j+1)):=by simp only[List.mem_cons,h,false_or]
   rw[e,ak h,ak (fun q:l[j]=n=>h q.symm)]
   exact⟨r,i1,i2,i3⟩
theorem nq (l:List Int) (n:Int) (hz:l.length≤1048576):UP l n=some (decide (n∈l))∧EH l n=some (decide (n∈l)):=by
 obtain⟨r,i1,i2,i3⟩:=Ba l n hz l.length 0 (by omega)
 rw[show((0:Nat):Int)=0 by rfl]at i1 i3
 rw[Q9,Q8,i1,OL,i3]
 rw[af,i2,List.drop_zero]
 exact⟨rfl,rfl⟩
theorem sw (n:Int):UR n=some (decide (5≤n)&&decide (n≤10)):=by rw[Rb,cL];rfl
theorem Jh (n:Int):VW n=some (decide (11≤n)&&decide (n≤17)):=by rw[Rc,cL];rfl
theorem ow (n:Int):Sk n=some (decide (18≤n)&&decide (n≤21)):=by rw[Rd,cL];rfl
def kY (n:Int):Int×Bool:=
 if n=11 then(1,true)else if n=12 then(2,true)else if n=13 then(4,true)else if n=14 then(8,true)else if n=15 then(1,false)else if n=16 then(2,false)else if n=17 then(4,false)
 else if n=18 then(1,false)else if n=19 then(2,false)else if n=20 then(4,false)else if n=21 then(8,false)else(0,false)
theorem Ji (n:Int) (h:1≤n) (h':n≤64):Vp n=some (kY n):=by
 rw[OM]
 obtain⟨k,rfl⟩:=nj (show 0≤n by omega) h'
 clear h h';revert k
 decide+kernel
theorem Jj (n:Int) (h:11≤n) (h':n≤21):VX n=some (kY n):=by
 rw[Re,ow]
 have:n=11∨n=12∨n=13∨n=14∨n=15∨n=16∨n=17∨n=18∨n=19∨n=20∨n=21:=by omega
 rcases this with rfl|rfl|rfl|rfl|rfl|rfl|rfl|rfl|rfl|rfl|rfl<;>decide+kernel
theorem K5 (n:Int) (h:11≤n) (h':n≤21):1≤(kY n).1∧(kY n).1≤8:=by
 have:n=11∨n=12∨n=13∨n=14∨n=15∨n=16∨n=17∨n=18∨n=19∨n=20∨n=21:=by omega
 rcases this with rfl|rfl|rfl|rfl|rfl|rfl|rfl|rfl|rfl|rfl|rfl<;>decide
theorem Jk (n:Int) (h:¬(11≤n∧n≤21)):(kY n).1=0:=by
 unfold kY
 repeat rw[ap (by omega)]
theorem pi (n:Int) (h:1≤n) (h':n≤64):decide ((bN n).1=4)=(decide (5≤n)&&decide (n≤10)):=by
 obtain⟨k,rfl⟩:=nj (show 0≤n by omega) h'
 clear h';revert k
 decide+kernel
theorem K6 {l:List ig} {f:Int} {E:List Int} (hE:iA l f l.length E) (i:Int) (h:0≤i) (h':i< (l.length:Int)):rd (τ:= .int .i64) E i=tE l f l.length i:=by
 obtain⟨j,rfl⟩:=Int.eq_ofNat_of_zero_le h
 have:=hE.2 j (by omega)
 unfold rd
 rw[aP,List.getD_eq_getElem?_getD,this];rfl
theorem E6 (l:List ig) (f i:Int) (h:i< (l.length:Int)):tE l f l.length i=if ce l f i=true then 1 else if ce l f (i-1)=true then 2 else if ce l f (i-2)=true then 3 else 0:=by
 unfold tE
 exact eM ⟨fun h=>h.2,fun hh=>⟨h,hh⟩⟩ (eM ⟨fun h=>h.2,fun hh=>⟨by omega,hh⟩⟩ (eM ⟨fun h=>h.2,fun hh=>⟨by omega,hh⟩⟩ rfl))
theorem uO {l:List ig} {f:Int} {E:List Int} (hE:iA l f l.length E) (i:Int) (h:0≤i) (h':i< (l.length:Int)):
  decide (rd (τ:= .int .i64) E i=1)=ce l f i∧decide (rd (τ:= .int .i64) E i=2)=ce l f (i-1)∧decide (rd (τ:= .int .i64) E i=3)=ce l f (i-2)∧decide (rd (τ:= .int .i64) E i<2)=(!ce l f (i-1)&& !ce l f (i-2)):=by
 have hx:=K4 l f i
 rw[K6 hE i h h',E6 l f i h']
 cases h0:ce l f i<;>cases h1:ce l f (i-1)<;>cases h2:ce l f (i-2)<;>simp_all
theorem E7 (n:Int) (h: -9223372036854775808≤n) (h':n≤9223372036854775807):IntKind.wrap .i64 (n.tdiv 4)=n.tdiv 4:=by
 have: -9223372036854775808≤n.tdiv 4∧n.tdiv 4≤9223372036854775807:=by
  rcases Int.le_total 0 n with h0|h0
  ·rw[Int.tdiv_eq_ediv_of_nonneg h0];omega
  ·have:n.tdiv 4= -((-n).tdiv 4):=by rw[Int.neg_tdiv,Int.neg_neg]
   rw[this,Int.tdiv_eq_ediv_of_nonneg (by omega)];omega
 exact bf this.1 this.2
theorem TF (n:Int) (h:n.tmod 4=0):n.tdiv 4=n/4:=by
 rw[Int.tdiv_eq_ediv_of_dvd];exact Int.dvd_iff_tmod_eq_zero.mpr h
theorem tD.imm {x:ig} (h:tD x): -2147483648≤x.2.2.2.2∧x.2.2.2.2≤2147483647:=by
 have hrv:=h.2.2.2
 have hsf:=gg h.1 h.2.1
 unfold dF at hrv
 simp only[az]at hrv
 have hrv:=hrv.2
 generalize (bN x.1).1=ff at*
 unfold jP at hrv
 rcases ga hsf with rfl|rfl|rfl|rfl|rfl|rfl|rfl|rfl|rfl<;>simp at hrv<;>omega
theorem E8 (l:List ig) (f at_:Int) (calls E:List Int) (hE:iA l f l.length E) (hf:16≤f∧f≤128) (hl:l.length≤1048576) (i:Int) (h:0≤i) (h':i< (l.length:Int)) (hr:tD (rd (τ:=eC) l i)):
  ∃b,UQ (l,f,at_,calls,E) i=some b∧Ul l i (rd (τ:=eC) l i).2.2.2.2 f=some b:=by
 have hi:=hr.imm
 rw[Ra,OP]
 dsimp only
 rw[inL_true h h']
 generalize (rd (τ:=eC) l i).2.2.2.2=m at*
 rw[E7 m (by omega) (by omega)]
 by_cases h4:m.tmod 4=0
 ·rw[TF m h4,bf (n:=i+m/4) (by omega) (by omega),bf (n:=(l.length:Int)-1) (by omega) (by omega),bf (n:=i+m/4-1) (by omega) (by omega),bf (n:=i+m/4-2) (by omega) (by omega),cL,eD l f _ hf hl (by omega) (by omega),eD l f _ hf hl (by omega) (by omega)]
  simp only[h4,decide_true,ae,af]
  by_cases ha:2≤i+m/4
  ·by_cases hb:i+m/4< (l.length:Int)
   ·have he:=uO hE (i+m/4) (by omega) hb
    rw[inL_true (by omega) (by rw[hE.1];exact hb),he.2.2.2,ab ha,show decide (i+m/4≤(l.length:Int)-1)=true by simp;omega,ab hb]
    simp only[Bool.and_self,ae]
    cases ce l f (i+m/4-1)<;>exact⟨_,rfl,rfl⟩
   ·rw[show decide (i+m/4≤(l.length:Int)-1)=false by simp;omega,ak hb]
    rw[ab ha]
    exact⟨_,rfl,rfl⟩
  ·rw[ak ha]
   exact⟨_,rfl,rfl⟩
 ·rw[ak h4]
  exact⟨_,rfl,rfl⟩
theorem Bb (l:List ig) (f at_:Int) (calls E:List Int) (hE:iA l f l.length E) (hf:16≤f∧f≤128) (ha:0≤at_∧at_≤1048575) (hl:l.length≤1048576) (hc:calls.length≤1048576) (i:Int) (h:2≤i) (h':i< (l.length:Int)) (hr:tD (rd (τ:=eC) l i)):
  ∃b,VY (l,f,at_,calls,E) i=some b∧Vr l i at_ f calls=some b:=by
 obtain⟨g,g1,g2⟩:=E8 l f at_ calls E hE hf hl i (by omega) h' hr
 have he:=uO hE i (by omega) h'
 rw[Rf,OQ]
 dsimp only
 rw[inL_true (by omega) h',inL_true (by omega) (by rw[hE.1];exact h'),g1,g2,he.1,he.2.1,he.2.2.1,bf (n:=i-2) (by omega) (by omega),bf (n:=i-1) (by omega) (by omega),eD l f i hf hl (by omega) (by omega),eD l f (i-1) hf hl (by omega) (by omega),eD l f (i-2) hf hl (by omega) (by omega),(nq calls _ hc).1,(nq calls _ hc).2,Ji _ hr.1 hr.2.1,fJ _ (by have:=hr.1;omega) hr.2.1,sw,Jh,ow]
 have hbf:=pi _ hr.1 hr.2.1
 simp only[af,ae,aA,hbf,cL]
 clear g1 g2 he hr hE hbf
 generalize ce l f i=B0 at*
 generalize ce l f (i-1)=B1 at*
 generalize ce l f (i-2)=B2 at*
 obtain⟨x,hx⟩:∃x:ig,rd (τ:=eC) l i=x:=⟨_,rfl⟩
 rw[hx]at*
 clear hx
 obtain⟨n,d,a,b,m⟩:=x
 dsimp only at*
 have hw:=Jj n
 have hwp:=K5 n
 have hwz:=Jk n
 by_cases h4:n=4
 ·subst h4
  simp only[decide_true,ae]
  cases B2<;>exact⟨_,rfl,rfl⟩
 ·rw[ak h4]
  simp only[ac]
  by_cases h3:n=3
  ·subst h3
   simp only[decide_true,ae]
   by_cases hd:d=1
   ·rw[ab hd]
    cases decide (IntKind.wrap .i64 (IntKind.wrap .i64 (at_+IntKind.wrap .i64 (4*i))+m)∈calls)<;>exact⟨_,rfl,rfl⟩
   ·rw[ak hd]
    cases decide (d=0)<;>cases g<;>exact⟨_,rfl,rfl⟩
  ·rw[ak h3]
   simp only[ac]
   cases hb:(decide (5≤n)&&decide (n≤10))with
   |true=>cases g<;>exact⟨_,rfl,rfl⟩
   |false=>
    simp only[ac]
    have hm:0≤(kY n).1∧(kY n).1≤8:=by
     by_cases q:11≤n∧n≤21
     ·have:=hwp q.1 q.2;omega
     ·rw[hwz q];decide
    rw[bf (n:=f-8) (by omega) (by omega),bf (n:=f-8-(kY n).1) (by omega) (by omega)]
    by_cases q:11≤n∧n≤21
    ·have hwn:=hwp q.1 q.2
     rw[hw q.1 q.2]
     simp only[af]
     rw[bf (n:=f-8-(kY n).1) (by omega) (by omega),show decide ((kY n).1>0)=true by simp;omega,show decide ((kY n).1=0)=false by simp;omega]
     have hls:(bif (decide (11≤n)&&decide (n≤17))then true else(decide (18≤n)&&decide (n≤21)))=true:=by
      by_cases q2:n≤17
      ·simp[q.1,q2]
      ·rw[ak q2,show decide (18≤n)=true by simp;omega,ab q.2];simp
     have hm2:(decide (0≤m)&&decide (m≤f-8-(kY n).1))=(!decide (m<0)&& !decide (m>f-8-(kY n).1)):=by
      by_cases z1:m<0<;>by_cases z2:m>f-8-(kY n).1<;>simp[z1,z2]<;>omega
     rw[hm2]
     clear hm hw hwp hwz hwn hm2 hb
     generalize (decide (11≤n)&&decide (n≤17))=L at*
     generalize (decide (18≤n)&&decide (n≤21))=S at*
     generalize decide (m<0)=z1
     generalize decide (m>f-8-(kY n).1)=z2
     generalize decide (m.tmod (kY n).1=0)=z3
     generalize decide (d=1)=z4
     generalize decide (d=2)=z5
     generalize decide (a=2)=z6
     cases L<;>cases S<;>first|(cases hls;done)|(cases z4<;>cases z5<;>cases B0<;>cases B1<;>first|exact⟨_,rfl,rfl⟩|(cases z6<;>first|exact⟨_,rfl,rfl⟩|(cases z1<;>cases z2<;>cases z3<;>exact⟨_,rfl,rfl⟩)))
    ·have hls1:(decide (11≤n)&&decide (n≤17))=false:=by
      by_cases q1:11≤n
      ·rw[show decide (n≤17)=false by simp;omega];simp
      ·simp[q1]
     have hls2:(decide (18≤n)&&decide (n≤21))=false:=by
      by_cases q1:18≤n
      ·rw[show decide (n≤21)=false by simp;omega];simp
      ·simp[q1]
     rw[hls1,hls2,hwz q]
     cases decide (d=1)<;>cases decide (d=2)<;>cases B0<;>cases B1<;>exact⟨_,rfl,rfl⟩
def dT (f:Int):Bool:=bif decide (16≤f)&&decide (f≤128)then decide (f.tmod 16=0)else false
theorem eZ (f:Int):Tw f=some (dT f)∧Tq f=some (dT f):=by
 rw[QT,Ov,cL,gf]
 simp only[af,dT]
 cases (decide (16≤f)&&decide (f≤128))<;>exact⟨rfl,rfl⟩
theorem nr {f:Int} (h:dT f=true):16≤f∧f≤128:=by
 unfold dT at h
 cases hb:(decide (16≤f)&&decide (f≤128))with
 |true=>simpa using hb
 |false=>rw[hb]at h;cases h
def cf (a:Int):Bool:=bif decide (0≤a)&&decide (a≤1048575)then decide (a.tmod 4=0)else false
theorem jQ (a:Int):UL a=some (cf a):=by
 rw[QW,cL]
 simp only[af,cf]
 cases (decide (0≤a)&&decide (a≤1048575))<;>rfl
theorem fU {a:Int} (h:cf a=true):0≤a∧a≤1048575:=by
 unfold cf at h
 cases hb:(decide (0≤a)&&decide (a≤1048575))with
 |true=>simpa using hb
 |false=>rw[hb]at h;cases h
def ca (n:Nat):Bool:=bif decide ((n:Int).tmod 4=0)then decide ((n:Int)≤256)else false
theorem sx (t:ByteArray):UJ t=some (ca t.size):=by
 rw[QU]
 unfold ca
 cases decide ((t.size:Int).tmod 4=0)<;>rfl
theorem Bc (t:ByteArray):Uj t=some (ca t.size):=by
 rw[Ow]
 unfold ca
 cases decide ((t.size:Int).tmod 4=0)<;>rfl
theorem wd (t:ByteArray):UJ t=some (ca t.size)∧Uj t=some (ca t.size):=⟨sx t,Bc t⟩
theorem dw {n:Nat} (h:ca n=true):n%4=0∧n≤256:=by
 unfold ca at h
 cases hb:decide ((n:Int).tmod 4=0)with
 |true=>
  rw[hb]at h
  simp only[ae,aW]at h hb
  rw[Int.tmod_eq_emod_of_nonneg (by omega)]at hb
  omega
 |false=>rw[hb]at h;cases h
def bx (n:Nat):Bool:=bif ca n then decide ((n:Int)≥20)else false
theorem gD (t:ByteArray):UK t=some (bx t.size):=by
 rw[QV,sx t]
 simp only[af,bx]
 cases ca t.size<;>rfl
theorem Bd (l:List ig) (f at_:Int) (calls E:List Int) (hE:iA l f l.length E) (hf:16≤f∧f≤128) (ha:0≤at_∧at_≤1048575) (hl:l.length≤1048576) (hc:calls.length≤1048576) (hr:∀x∈l,tD x):
  ∀(k i:Nat),2≤i→i+k=l.length→∃v,kn.c l (l,f,at_,calls,E) i=some v∧sO.b at_ f calls l ((l.length:Int)-1) i=some v:=by
 intro k
 induction k with
 |zero=>
  intro i h2 hk
  rw[kn.c_eq,sO.b_eq,ai,show decide (i<l.length)=false by simp;omega,show decide ((i:Int)≤(l.length:Int)-1)=false by simp;omega]
  exact⟨_,rfl,rfl⟩
 |succ k ih=>
  intro i h2 hk
  obtain⟨v,v1,v2⟩:=ih (i+1) (by omega) (by omega)
  have hi:i<l.length:=by omega
  obtain⟨b,b1,b2⟩:=Bb l f at_ calls E hE hf ha hl hc i (by omega) (by omega) (by rw[aV (τ:=eC) l i hi];exact hr _ (List.getElem_mem hi))
  rw[kn.c_eq,sO.b_eq,ai,ab hi,show decide ((i:Int)≤(l.length:Int)-1)=true by simp;omega,b1,b2,an i l.length hi (by omega),v1,v2]
  simp only[ae,af]
  cases decide (b=0)<;>exact⟨_,rfl,rfl⟩
theorem uP (code:ByteArray) (at_ f:Int) (calls:List Int) (hz:code.size≤1048576) (hc:calls.length≤1048576):∃v,kn code at_ f calls=some v∧sO code at_ f calls=some v:=by
 rw[AX,OR,jQ,gf,(eZ f).1,(eZ f).2,gD,(wd code).2]
 simp only[af,aA]
 have ec:(bif !(decide (0≤at_)&&decide (at_≤1048575))then true else !decide (at_.tmod 4=0))= !cf at_:=by
  unfold cf;cases (decide (0≤at_)&&decide (at_≤1048575))<;>rfl
 cases hA:cf at_ with
 |false=>
  unfold cf at hA
  cases hq:(decide (0≤at_)&&decide (at_≤1048575))with
  |false=>exact⟨_,rfl,rfl⟩
  |true=>rw[hq]at hA;simp only[ae]at hA;rw[hA];exact⟨_,rfl,rfl⟩
 |true=>
  have ha:=fU hA
  have hq:(decide (0≤at_)&&decide (at_≤1048575))=true:=by simp[ha]
  have h4:decide (at_.tmod 4=0)=true:=by unfold cf at hA;rw[hq]at hA;exact hA
  rw[hq,h4]
  simp only[aH,ac]
  cases hF:dT f with
  |false=>exact⟨_,rfl,rfl⟩
  |true=>
   have hf:=nr hF
   simp only[aH,ac]
   cases hS:ca code.size with
   |false=>unfold bx;rw[hS];exact⟨_,rfl,rfl⟩
   |true=>
    have hs:=dw hS
    unfold bx
    rw[hS]
    simp only[aH,ac,ae]
    by_cases h20:(code.size:Int)≥20
    ·rw[ab h20,show decide ((code.size:Int)<20)=false by simp;omega]
     simp only[aH,ac]
     cases yB code hs.1 (by omega)with
     |bad k hi hsp h0=>
      rw[hi,hsp]
      simp only[af,Bool.not_false,ae]
      rw[ab (show k≥0 from h0)]
      exact⟨_,rfl,rfl⟩
     |ok l hi hsp hll hr=>
      rw[hi,hsp,Q5]
      simp only[af,aH,ac]
      rw[show decide ((-1:Int)≥0)=false by rfl]
      simp only[ac]
      have hl5:5≤l.length:=by omega
      have hl64:l.length≤64:=by omega
      have last:∃v,kn.a at_ f calls l [(22,2,2,0,(IntKind.wrap .i64 (0-f))),(21,0,2,1,(IntKind.wrap .i64 (f-8)))] 2 2=some v∧sO.a at_ f calls l 2=some v:=by
       rw[kn.a_eq,sO.a_eq]
       rw[show decide ((2:Int)<2)=false by rfl]
       simp only[ac,aA]
       rw[bf (n:=(l.length:Int)-1) (by omega) (by omega),inL_true (by omega) (by omega),bj (by rw[aP];omega) (by rw[aP];omega),show decide ((0:Int)≤(l.length:Int))=true by simp,aP]
       simp only[ae,Bool.and_self]
       obtain⟨E,hE,e⟩:=E5 at_ calls l f hf (by omega) (by omega) (l.length-4) 2 (List.replicate l.length 0) (by omega) (by omega) ⟨by simp,fun j hj=>by
        rw[List.getElem?_replicate,av hj]
        unfold tE
        have z:∀m:Int,m< ((2:Nat):Int)→ce l f m=false:=by
         intro m hm
         unfold ce
         rw[show decide (2≤m)=false by simp;omega];simp
        rw[ap (fun h=>by rw[z _ h.1]at h;cases h.2),ap (fun h=>by rw[z _ h.1]at h;cases h.2),ap (fun h=>by rw[z _ h.1]at h;cases h.2)]⟩
       rw[show((2:Nat):Int)=2 by rfl]at e
       rw[e]
       obtain⟨v,v1,v2⟩:=Bd l f at_ calls E hE hf ha (by omega) (by omega) hr (l.length-2) 2 (by omega) (by omega)
       rw[show((2:Nat):Int)=2 by rfl]at v1 v2
       rw[v1,v2]
       cases decide ((rd (τ:=eC) l ((l.length:Int)-1)).1=4)<;>cases decide ((rd (τ:=eC) l ((l.length:Int)-1)).1=3)<;>cases decide ((rd (τ:=eC) l ((l.length:Int)-1)).2.1=0)<;>exact⟨_,rfl,rfl⟩
      have step:∀(j:Nat),j<2→(∃v,kn.a at_ f calls l [(22,2,2,0,(IntKind.wrap .i64 (0-f))),(21,0,2,1,(IntKind.wrap .i64 (f-8)))] 2 ((j+1:Nat):Int)=some v∧sO.a at_ f calls l ((j+1:Nat):Int)=some v)→
        ∃v,kn.a at_ f calls l [(22,2,2,0,(IntKind.wrap .i64 (0-f))),(21,0,2,1,(IntKind.wrap .i64 (f-8)))] 2 (j:Int)=some v∧sO.a at_ f calls l (j:Int)=some v:=by
       rintro j hj ⟨v,v1,v2⟩
       rw[kn.a_eq,sO.a_eq,show decide ((j:Int)<2)=true by simp;omega,inL_true (i:=(j:Int)) (by omega) (by simp;omega),inL_true (i:=(j:Int)) (by omega) (by omega),bf (n:=(j:Int)+1) (by omega) (by omega),show(j:Int)+1=((j+1:Nat):Int) by omega,v1,v2,OJ]
       simp only[ae,af]
       rw[inL_true (i:=(j:Int)) (by omega) (by simp;omega)]
       simp only[ae]
       cases li eC (rd (τ:=eC) l (j:Int)) (rd (τ:=eC) [(22,2,2,0,(IntKind.wrap .i64 (0-f))),(21,0,2,1,(IntKind.wrap .i64 (f-8)))] (j:Int))<;>exact⟨_,rfl,rfl⟩
      exact step 0 (by omega) (step 1 (by omega) last)
    ·rw[ak h20,show decide ((code.size:Int)<20)=true by simp;omega]
     exact⟨_,rfl,rfl⟩
abbrev bE:Ty:= .pair .str (.pair (.int .i64) (.pair (.int .i64) (.pair (.int .i64) (.int .i64))))
abbrev ns:Type:=ByteArray×Int×Int×Int×Int
abbrev gE:Type:=ByteArray×ByteArray×List ns
def cM (t:ByteArray):Bool:=(p8 t).getD false
theorem RZ (t:ByteArray):p8 t=some (cM t):=by
 obtain⟨v,h1⟩:=uG t
 unfold cM
 rw[h1];rfl
theorem eE (t:ByteArray):p8 t=some (cM t)∧v7 t=some (cM t):=by
 obtain⟨v,h1,h2⟩:=EP t
 unfold cM
 rw[h1,h2];exact⟨rfl,rfl⟩
def mE (l:List ns) (name:ByteArray):Bool:=l.any fun y=>decide (y.1=name)
theorem yC {y:ns} {l:List ns} {n:ByteArray} (h:y.1=n):mE (y::l) n=true:=by simp[mE,h]
theorem yD {y:ns} {l:List ns} {n:ByteArray} (h:¬y.1=n):mE (y::l) n=mE l n:=by simp[mE,h]
theorem Jl (e:Int×Int) (im:gE) (s:ns) (l:List ns) (hl:l.length≤16):∀(k j:Nat),j+k=l.length→Gz.a e im s l (l.length:Int) (j:Int)=if mE (l.drop j) s.1=true then some (24,e)else Gz.a e im s l (l.length:Int) (l.length:Int):=by
 intro k
 induction k with
 |zero=>
   intro j h;have:j=l.length:=by omega
   subst this;simp[mE]
 |succ k ih=>
  intro j h
  have hj:j<l.length:=by omega
  rw[Gz.a_eq,ai,aj,ab hj,an j l.length hj (by omega),ih (j+1) (by omega),aV (τ:=bE) l j hj,a9,List.drop_eq_getElem_cons hj]
  by_cases hn:l[j].1=s.1
  ·rw[yC hn,ab hn];rfl
  ·rw[yD hn,ak hn];rfl
theorem Jm (im:gE) (c d:Int) (i:Nat) (s:ns) (hi:i≤im.2.2.length) (hl:im.2.2.length≤16):∀(k j:Nat),j+k=i→pD.b im c d (i:Int) s (j:Int)=if mE ((im.2.2.take i).drop j) s.1=true then some ((i:Int),24)else pD.b im c d (i:Int) s (i:Int):=by
 intro k
 induction k with
 |zero=>
   intro j h;have:j=i:=by omega
   subst this;simp[mE]
 |succ k ih=>
  intro j h
  have hj:j<i:=by omega
  rw[pD.b_eq,ai,aj,ab hj,ab (show j<im.2.2.length by omega),an j i hj (by omega),ih (j+1) (by omega),aV (τ:=bE) im.2.2 j (by omega),a9,List.drop_eq_getElem_cons (show j< (im.2.2.take i).length by simp;omega)]
  have hg:(im.2.2.take i)[j]'(by simp;omega)=im.2.2[j]:=List.getElem_take
  rw[hg]
  by_cases hn:im.2.2[j].1=s.1
  ·rw[yC hn,ab hn];rfl
  ·rw[yD hn,ak hn];rfl
def fo (im:gE) (i:Nat) (s:ns) (e:Int×Int):Int×Int×Int:=
 if cM s.1=false then(3,e)
 else if mE (im.2.2.take i) s.1=true then(24,e)
 else if s.2.1=1 then
  if s.2.2.1=e.1∧1≤s.2.2.2.1∧s.2.2.2.1≤(im.1.size:Int)-e.1 then(0,s.2.2.1+s.2.2.2.1,e.2)else(4,e)
 else if s.2.1=2 then
  if e.2≤s.2.2.1∧s.2.2.1≤(im.2.1.size:Int)∧s.2.2.1%8=0∧s.2.2.2.1%8=0∧1≤s.2.2.2.1∧s.2.2.2.1≤(im.2.1.size:Int)-s.2.2.1 then
   if s.2.2.2.2=0 then(0,e.1,s.2.2.1+s.2.2.2.1)else(17,e.1,s.2.2.1+s.2.2.2.1)
  else(4,e)
 else(26,e)
structure uQ (im:gE) (e:Int×Int):Prop where
 c:0≤e.1∧e.1≤(im.1.size:Int)
 d:0≤e.2∧e.2≤(im.2.1.size:Int)
structure l6 (im:gE):Prop where
 n:im.2.2.length≤16
 c:im.1.size≤1024
 d:im.2.1.size≤256
theorem Jn {n:Int}:decide (n.tmod 8=0)=decide (n%8=0):=by
 congr 1;exact propext ⟨fun h=>by rw[←Int.dvd_iff_tmod_eq_zero]at h;omega,fun h=>by rw[←Int.dvd_iff_tmod_eq_zero];omega⟩
theorem Be (im:gE) (hz:l6 im) (i:Nat) (hi:i<im.2.2.length) (e:Int×Int) (he:uQ im e):Gz im i e=some (fo im i im.2.2[i] e):=by
 obtain⟨hn,hc,hd⟩:=hz
 rw[QQ,aj,ab hi,aV (τ:=bE) im.2.2 i hi,RZ _,aP,show(Int.toNat 0)=0 by rfl,List.drop_zero,show decide ((0:Int)≤(i:Int))=true by simp,show decide ((i:Int)≤(im.2.2.length:Int))=true by simp;omega]
 simp only[ae,Bool.and_self,Nat.le_refl,decide_true,af]
 have hlt:(im.2.2.take i).length=i:=by simp;omega
 have hd':=Jl e im im.2.2[i] (im.2.2.take i) (by omega) i 0 (by omega)
 rw[hlt,show((0:Nat):Int)=0 by rfl,List.drop_zero]at hd'
 rw[hlt,hd',Gz.a_eq,show decide ((i:Int)< (i:Int))=false by simp]
 obtain⟨s,hs⟩:∃s:ns,im.2.2[i]=s:=⟨_,rfl⟩
 rw[hs]
 obtain⟨nm,kd,at_,sz,fr⟩:=s
 obtain⟨ec,ed⟩:=e
 obtain⟨⟨hc1,hc2⟩,⟨hd1,hd2⟩⟩:=he
 dsimp only at*
 unfold fo
 dsimp only
 simp only[ac,cL,af,aA]
 cases cM nm with
 |false=>rfl
 |true=>
  simp only[aH,ac,Bool.true_eq_false,↓reduceIte]
  by_cases hdup:mE (im.2.2.take i) nm=true
  ·rw[av hdup,av hdup]
  ·rw[ap hdup,ap hdup]
   by_cases k1:kd=1
   ·rw[ab k1,av k1]
    simp only[ae]
    by_cases h1:at_=ec
    ·subst h1
     rw[bf (n:=(im.1.size:Int)-at_) (by omega) (by omega)]
     simp only[decide_true,aH,ac]
     by_cases h2:1≤sz∧sz≤(im.1.size:Int)-at_
     ·rw[av ⟨trivial,h2⟩,ab h2.1,ab h2.2,bf (n:=at_+sz) (by omega) (by omega)];rfl
     ·rw[ap (fun hh=>h2 hh.2),show(decide (1≤sz)&&decide (sz≤(im.1.size:Int)-at_))=false by simpa using h2];rfl
    ·rw[ak h1,ap (fun hh=>h1 hh.1)];rfl
   ·rw[ak k1,ap k1]
    simp only[ac]
    by_cases k2:kd=2
    ·rw[ab k2,av k2,Jn,Jn]
     simp only[ae]
     by_cases h1:ed≤at_∧at_≤(im.2.1.size:Int)
     ·rw[bf (n:=(im.2.1.size:Int)-at_) (by omega) (by omega),ab h1.1,ab h1.2]
      simp only[Bool.and_self,aH,ac]
      by_cases h2:at_%8=0
      ·by_cases h3:sz%8=0
       ·by_cases h4:1≤sz∧sz≤(im.2.1.size:Int)-at_
        ·rw[av ⟨h1.1,h1.2,h2,h3,h4⟩,ab h2,ab h3,ab h4.1,ab h4.2,bf (n:=at_+sz) (by omega) (by omega)]
         by_cases h5:fr=0
         ·rw[ab h5,av h5];rfl
         ·rw[ak h5,ap h5];rfl
        ·rw[ap (fun hh=>h4 hh.2.2.2.2),ab h2,ab h3,show(decide (1≤sz)&&decide (sz≤(im.2.1.size:Int)-at_))=false by simpa using h4];rfl
       ·rw[ap (fun hh=>h3 hh.2.2.2.1),ab h2,ak h3];rfl
      ·rw[ap (fun hh=>h2 hh.2.2.1),ak h2];rfl
     ·rw[ap (fun hh=>h1 ⟨hh.1,hh.2.1⟩),show(decide (ed≤at_)&&decide (at_≤(im.2.1.size:Int)))=false by simpa using h1];rfl
    ·rw[ak k2,ap k2];rfl
theorem Bf (im:gE) (hz:l6 im) (i:Nat) (hi:i<im.2.2.length) (e:Int×Int) (he:uQ im e):pD.a im e.1 e.2 i=if(fo im i im.2.2[i] e).1=0 then pD.a im (fo im i im.2.2[i] e).2.1 (fo im i im.2.2[i] e).2.2 ((i+1:Nat):Int)else some ((i:Int),(fo im i im.2.2[i] e).1):=by
 obtain⟨hn,hc,hd⟩:=hz
 rw[pD.a_eq,aj,ai,ab hi,aV (τ:=bE) im.2.2 i hi,(eE _).2]
 simp only[ae,af]
 have hd':=Jm im e.1 e.2 i im.2.2[i] (by omega) hn i 0 (by omega)
 rw[show((0:Nat):Int)=0 by rfl,List.drop_zero]at hd'
 rw[hd',pD.b_eq,show decide ((i:Int)< (i:Int))=false by simp,an i im.2.2.length hi (by omega)]
 obtain⟨s,hs⟩:∃s:ns,im.2.2[i]=s:=⟨_,rfl⟩
 rw[hs]
 obtain⟨nm,kd,at_,sz,fr⟩:=s
 obtain⟨ec,ed⟩:=e
 obtain⟨⟨hc1,hc2⟩,⟨hd1,hd2⟩⟩:=he
 dsimp only at*
 unfold fo
 dsimp only
 simp only[ac]
 cases cM nm with
 |false=>rfl
 |true=>
  simp only[aH,ac]
  by_cases hdup:mE (im.2.2.take i) nm=true
  ·simp[hdup]
  ·simp only[hdup,if_false,Bool.false_eq_true]
   by_cases k1:kd=1
   ·simp only[k1,decide_true,ae,if_true]
    by_cases h1:at_=ec
    ·rw[←h1,bf (n:=(im.1.size:Int)-at_) (by omega) (by omega)]
     by_cases h2:1≤sz
     ·by_cases h3:sz≤(im.1.size:Int)-at_
      ·rw[bf (n:=at_+sz) (by omega) (by omega)]
       simp[h2,h3,show¬sz<1 by omega,show¬(im.1.size:Int)-at_<sz by omega]
      ·simp[h3,show¬sz<1 by omega,show(im.1.size:Int)-at_<sz by omega]
     ·simp[h2,show sz<1 by omega]
    ·simp[h1]
   ·simp only[k1,decide_false,ac,if_false]
    by_cases k2:kd=2
    ·simp only[k2,decide_true,ae,if_true,Jn]
     by_cases h1:ed≤at_
     ·by_cases h1':at_≤(im.2.1.size:Int)
      ·rw[bf (n:=(im.2.1.size:Int)-at_) (by omega) (by omega),show decide (at_<ed)=false by simp;omega,show decide (at_>(im.2.1.size:Int))=false by simp;omega]
       simp only[ac]
       by_cases h4:1≤sz
       ·by_cases h5:sz≤(im.2.1.size:Int)-at_
        ·rw[show decide (sz<1)=false by simp;omega,show decide (sz>(im.2.1.size:Int)-at_)=false by simp;omega,bf (n:=at_+sz) (by omega) (by omega)]
         by_cases h2:at_%8=0
         ·by_cases h3:sz%8=0
          ·by_cases h6:fr=0<;>simp[h1,h1',h2,h3,h4,h5,h6]
          ·simp[h2,h3]
         ·simp[h2]
        ·simp[h5,show¬sz<1 by omega,show(im.2.1.size:Int)-at_<sz by omega]
       ·simp[h4,show sz<1 by omega]
      ·simp[h1',show¬at_<ed by omega,show(im.2.1.size:Int)<at_ by omega]
     ·simp[h1,show at_<ed by omega]
    ·simp[k2]
theorem Bg {im:gE} {i:Nat} {s:ns} {e:Int×Int} (he:uQ im e) (h:(fo im i s e).1=0):uQ im (fo im i s e).2:=by
 obtain⟨nm,kd,at_,sz,fr⟩:=s
 obtain⟨ec,ed⟩:=e
 obtain⟨⟨c1,c2⟩,⟨d1,d2⟩⟩:=he
 dsimp only at*
 unfold fo at h⊢
 dsimp only at*
 split at h<;>(try (cases h;done))
 split at h<;>(try (cases h;done))
 rename_i n1 n2
 rw[ap n1,ap n2]
 split at h
 ·rename_i k1
  rw[av k1]
  split at h<;>(try (cases h;done))
  rename_i hh
  rw[av hh]
  exact⟨⟨by dsimp only;omega,by dsimp only;omega⟩,⟨d1,d2⟩⟩
 ·rename_i k1
  rw[ap k1]
  split at h
  ·rename_i k2
   rw[av k2]
   split at h<;>(try (cases h;done))
   rename_i hh
   rw[av hh]
   split at h<;>(try (cases h;done))
   rename_i h3
   rw[av h3]
   exact⟨⟨c1,c2⟩,⟨by dsimp only;omega,by dsimp only;omega⟩⟩
  ·cases h
def jR (im:gE) (n:Nat) (E:Nat→Int×Int):Prop:=E 0=(0,0)∧(∀i,i≤n→uQ im (E i))∧∀(i:Nat) (h:i<im.2.2.length),i<n→fo im i im.2.2[i] (E i)=(0,E (i+1))
def R0 (im:gE) (e:Int×Int):Int:=if im.2.2.length=0 then 23 else if(rd (τ:=bE) im.2.2 0).2.1≠1 then 23 else if e.1≠(im.1.size:Int)then 22 else 0
theorem E9 (im:gE) (hz:l6 im):∀(k i:Nat) (E:Nat→Int×Int),i+k=im.2.2.length→jR im i E→
  (∃n c:Int,c≠0∧p9.a im (E i) (im.2.2.length:Int) i=some (n,0,c)∧pD.a im (E i).1 (E i).2 i=some (n,c))∨
  (∃E',jR im im.2.2.length E'∧p9.a im (E i) (im.2.2.length:Int) i=p9.a im (E' im.2.2.length) (im.2.2.length:Int) (im.2.2.length:Int)∧pD.a im (E i).1 (E i).2 i=some (0,R0 im (E' im.2.2.length))):=by
 intro k
 induction k with
 |zero=>
  intro i E hk hE
  have:i=im.2.2.length:=by omega
  subst this
  refine Or.inr ⟨E,hE,rfl, ?_⟩
  rw[pD.a_eq,ai]
  simp only[aB,decide_false,ac,R0]
  by_cases h0:im.2.2.length=0
  ·simp[h0]
  ·rw[inL_true (i:=0) (by omega) (by omega),show decide ((im.2.2.length:Int)=0)=false from ak (by omega),ap h0]
   simp only[ac,ae]
   by_cases h1:(rd (τ:=bE) im.2.2 0).2.1=1
   ·simp only[h1,decide_true,aH,ac,ne_eq,not_true_eq_false,↓reduceIte]
    by_cases h2:(E im.2.2.length).1=(im.1.size:Int)
    ·simp[h2]
    ·simp[h2]
   ·simp[h1]
 |succ k ih=>
  intro i E hk hE
  have hi:i<im.2.2.length:=by omega
  have he:=hE.2.1 i (Nat.le_refl _)
  rw[p9.a_eq,ai,ab hi,Be im hz i hi (E i) he,Bf im hz i hi (E i) he,an i im.2.2.length hi (by have:=hz.n;omega)]
  simp only[ae,af]
  by_cases h0:(fo im i im.2.2[i] (E i)).1=0
  ·rw[ab h0,av h0]
   simp only[aH,ac]
   have hends:=Bg he h0
   have hch:jR im (i+1) (fun j=>if j=i+1 then(fo im i im.2.2[i] (E i)).2 else E j):=by
    have ev:∀(j:Nat),(fun j=>if j=i+1 then(fo im i im.2.2[i] (E i)).2 else E j) j=if j=i+1 then(fo im i im.2.2[i] (E i)).2 else E j:=fun _=>rfl
    refine⟨by rw[ev,ap (by omega)];exact hE.1,fun j hj=> ?_,fun j hj hj'=> ?_⟩<;>simp only
    ·by_cases hji:j=i+1
     ·rw[av hji];exact hends
     ·rw[ap hji];exact hE.2.1 j (by omega)
    ·rw[ap (by omega)]
     by_cases hji:j=i
     ·subst hji
      rw[av rfl,←h0]
     ·rw[ap (by omega)];exact hE.2.2 j hj (by omega)
   have:=ih (i+1) _ (by omega) hch
   simp only[↓reduceIte]at this
   exact this
  ·rw[ak h0,ap h0]
   exact Or.inl ⟨_,_,h0,rfl,rfl⟩
theorem sA (s:ns):∃v,QR s=some v∧Ot s=some v:=by
 rw[AV,IB]
 cases decide (s.2.1=1)<;>exact⟨_,rfl,rfl⟩
theorem sB (im:gE) (hz:l6 im):∃l,GA im=some l∧F4 im.2.2=some l∧l.length≤16:=by
 have key:∀(k i:Nat) (l:List Int),i+k=im.2.2.length→l.length≤i→∃l',GA.a l im.2.2 (im.2.2.length:Int) i=some l'∧F4.a im.2.2 l i=some l'∧l'.length≤im.2.2.length:=by
  intro k
  induction k with
  |zero=>
   intro i l hk hl
   rw[GA.a_eq,F4.a_eq,ai,ak (show¬i<im.2.2.length by omega)]
   exact⟨l,rfl,rfl,by omega⟩
  |succ k ih=>
   intro i l hk hl
   have hi:i<im.2.2.length:=by omega
   have hn:=hz.n
   rw[GA.a_eq,F4.a_eq,ai,aj,ab hi,an i _ hi (by omega)]
   simp only[ae]
   obtain⟨v,v1,v2⟩:=sA (rd (τ:=bE) im.2.2 i)
   obtain⟨l1,a1,a2,a3⟩:=ih (i+1) l (by omega) (by omega)
   obtain⟨l2,b1,b2,b3⟩:=ih (i+1) (l++[v]) (by omega) (by simp;omega)
   rw[v1,v2]
   simp only[af]
   rw[bj (by simp;omega) (by simp;omega),a1,a2,b1,b2]
   cases decide ((rd (τ:=bE) im.2.2 i).2.1=1)
   ·exact⟨l1,rfl,rfl,a3⟩
   ·exact⟨l2,rfl,rfl,b3⟩
 obtain⟨l,h1,h2,h3⟩:=key im.2.2.length 0 [] (by omega) (by simp)
 exact⟨l,(QS im).trans h1,(Ou im.2.2).trans h2,by have:=hz.n;omega⟩
structure sC (im:gE) (s:ns):Prop where
 name:cM s.1=true
 kind:s.2.1=1∨s.2.1=2
 at0:0≤s.2.2.1
 size:1≤s.2.2.2.1
 func:s.2.1=1→s.2.2.1+s.2.2.2.1≤(im.1.size:Int)
 data:s.2.1=2→s.2.2.1+s.2.2.2.1≤(im.2.1.size:Int)∧s.2.2.1%8=0∧s.2.2.2.1%8=0∧s.2.2.2.2=0
theorem Jo {im:gE} {i:Nat} {s:ns} {e:Int×Int} (he:uQ im e) (h:(fo im i s e).1=0):sC im s∧mE (im.2.2.take i) s.1=false:=by
 obtain⟨nm,kd,at_,sz,fr⟩:=s
 obtain⟨ec,ed⟩:=e
 obtain⟨⟨c1,c2⟩,⟨d1,d2⟩⟩:=he
 dsimp only at*
 unfold fo at h
 dsimp only at*
 split at h<;>(try (cases h;done))
 split at h<;>(try (cases h;done))
 rename_i n1 n2
 refine⟨?_,by simpa using n2⟩
 have n1:cM nm=true:=by simpa using n1
 split at h
 ·rename_i k1
  split at h<;>(try (cases h;done))
  rename_i hh
  exact⟨n1,Or.inl k1,by dsimp only;omega,by dsimp only;omega,fun _=>by dsimp only;omega,fun h=>by dsimp only at h;omega⟩
 ·rename_i k1
  split at h
  ·rename_i k2
   split at h<;>(try (cases h;done))
   rename_i hh
   split at h<;>(try (cases h;done))
   rename_i h3
   exact⟨n1,Or.inr k2,by dsimp only;omega,by dsimp only;omega,fun h=>absurd h k1,fun _=>by dsimp only;omega⟩
  ·cases h
theorem ox {im:gE} {E:Nat→Int×Int} (h:jR im im.2.2.length E) (i:Nat) (hi:i<im.2.2.length):sC im im.2.2[i]∧mE (im.2.2.take i) im.2.2[i].1=false:=
 Jo (h.2.1 i (by omega)) (by rw[h.2.2 i hi hi])
def Jp (s:ns):Prop:=s.2.1=1→cf (4096+s.2.2.1)=true∧dT s.2.2.2.2=true∧bx s.2.2.2.1.toNat=true
theorem Cy {code:ByteArray} {at_ f:Int} {calls:List Int} {v:Int×Int} (h:kn code at_ f calls=some v) (hv:v.2=0):cf at_=true∧dT f=true∧bx code.size=true:=by
 rw[AX,jQ,(eZ f).1,gD]at h
 simp only[af]at h
 cases h1:cf at_ with
 |false=>
  rw[h1]at h
  have e:(0,4)=v:=Option.some.inj h
  rw[←e]at hv;cases hv
 |true=>
  rw[h1]at h
  cases h2:dT f with
  |false=>
   rw[h2]at h
   have e:(0,17)=v:=Option.some.inj h
   rw[←e]at hv;cases hv
  |true=>
   rw[h2]at h
   cases h3:bx code.size with
   |false=>
    rw[h3]at h
    have e:(0,8)=v:=Option.some.inj h
    rw[←e]at hv;cases hv
   |true=>exact⟨rfl,rfl,rfl⟩
def Bh (w:Int):Prop:=∃x,km w=some (x,true)
def ly (code:ByteArray):Prop:=∀j:Nat,4*j+4≤code.size→Bh ((ej code (4*j) 4:Nat):Int)
theorem Bi (code:ByteArray) (hz:code.size≤1048576):∀(k i:Nat) (l:List ig) (r:List ig×Int),4*(i+k)=code.size→y6.a code l ((4*i:Nat):Int)=some (r.1,r.2,true)→∀j:Nat,i≤j→4*j+4≤code.size→Bh ((ej code (4*j) 4:Nat):Int):=by
 intro k
 induction k with
 |zero=>intro i l r h _ j h1 h2;omega
 |succ k ih=>
  intro i l r h e j h1 h2
  have t1:tz (code.extract (4*i) (4*i+4))=some ((ej code (4*i) 4:Nat):Int):=by
   have hsz:(code.extract (4*i) (4*i+4)).size=4:=by rw[ByteArray.size_extract];omega
   have hw:=UV code (4*i)
   rw[c7 _ (by omega),hsz,eY code (4*i) (4*i+4) (by omega) 4 0 (by omega),Nat.add_zero,bf (by omega) (by omega)]
  rw[y6.a_eq,bf (n:=((4*i:Nat):Int)+4) (by omega) (by omega),aP,show(((4*i:Nat):Int)+4).toNat=4*i+4 by omega,t1]at e
  rw[show decide (((4*i:Nat):Int)< (code.size:Int))=true by simp;omega,show decide ((0:Int)≤((4*i:Nat):Int))=true by simp;omega,show decide (((4*i:Nat):Int)≤((4*i:Nat):Int)+4)=true by simp;omega,show decide (((4*i:Nat):Int)+4≤(code.size:Int))=true by simp;omega]at e
  simp only[ae,Bool.and_self,af]at e
  cases hd:km ((ej code (4*i) 4:Nat):Int)with
  |none=>rw[hd]at e;cases e
  |some v=>
   rw[hd]at e
   simp only[af]at e
   cases hv:v.2 with
   |false=>rw[hv]at e;simp at e
   |true=>
    rw[hv]at e
    simp only[aH,ac]at e
    rcases Nat.lt_or_ge i j with hj|hj
    ·cases hr:aw (l.length+[v.1].length) 40 with
     |false=>rw[hr]at e;cases e
     |true=>
      rw[hr,ae,show((4*i:Nat):Int)+4=((4*(i+1):Nat):Int) by omega]at e
      exact ih (i+1) _ r (by omega) e j hj h2
    ·obtain rfl:j=i:=by omega
     exact⟨v.1,by rw[hd,←hv]⟩
theorem yE {code:ByteArray} {at_ f:Int} {calls:List Int} {v:Int×Int} (h:kn code at_ f calls=some v) (hv:v.2=0):ly code:=by
 obtain⟨h1,h2,h3⟩:=Cy h hv
 have hs:code.size%4=0∧code.size≤256:=by
  unfold bx at h3
  cases h4:ca code.size with
  |false=>rw[h4]at h3;cases h3
  |true=>exact dw h4
 rw[AX,jQ,(eZ f).1,gD,h1,h2,h3]at h
 simp only[af,aH,ac]at h
 cases hi:y6 code with
 |none=>rw[hi]at h;cases h
 |some r=>
  rw[hi]at h
  simp only[af]at h
  cases hr:r.2.2 with
  |false=>
   rw[hr]at h
   have e:(r.2.1,(10:Int))=v:=Option.some.inj h
   rw[←e]at hv;cases hv
  |true=>
   intro j hj
   rw[AW]at hi
   refine Bi code (by omega) (code.size/4) 0 [] (r.1,r.2.1) (by omega) ?_ j (Nat.zero_le _) hj
   rw[show((4*0:Nat):Int)=0 from rfl,hi]
   obtain⟨a,b,c⟩:=r
   simp only at hr
   rw[hr]
def K7 (im:gE) (s:ns):Prop:=s.2.1=1→ly (im.1.extract s.2.2.1.toNat (s.2.2.1+s.2.2.2.1).toNat)
theorem Bj (im:gE) (hz:l6 im) (hs:∀s∈im.2.2,sC im s) (calls:List Int) (hc:calls.length≤16):∀(k i:Nat),i+k=im.2.2.length→∃v,p9.b im calls im.2.2 (im.2.2.length:Int) i=some v∧F5.a im calls i=some v∧(v.2.2=0→∀j (hj:j<im.2.2.length),i≤j→Jp im.2.2[j]∧K7 im im.2.2[j]):=by
 intro k
 induction k with
 |zero=>
  intro i hk
  rw[p9.b_eq,F5.a_eq,ai,ak (show¬i<im.2.2.length by omega)]
  exact⟨_,rfl,rfl,fun _ j hj h=>by omega⟩
 |succ k ih=>
  intro i hk
  have hi:i<im.2.2.length:=by omega
  obtain⟨v,v1,v2,v3⟩:=ih (i+1) (by omega)
  obtain⟨hn,hcz,hdz⟩:=hz
  rw[p9.b_eq,F5.a_eq,ai,aj,ab hi,an i _ hi (by omega),aV (τ:=bE) im.2.2 i hi,v1,v2]
  simp only[ae]
  have hS:=hs _ (List.getElem_mem hi)
  have next:Jp im.2.2[i]∧K7 im im.2.2[i]→(v.2.2=0→∀j (hj:j<im.2.2.length),i≤j→Jp im.2.2[j]∧K7 im im.2.2[j]):=fun hg hv j hj hij=>by
   by_cases e:j=i
   ·subst e;exact hg
   ·exact v3 hv j hj (by omega)
  obtain⟨s,hse⟩:∃s:ns,im.2.2[i]=s:=⟨_,rfl⟩
  rw[hse]at hS next⊢
  obtain⟨p,p1,p2⟩:=sA s
  rw[p1,p2]
  by_cases k1:s.2.1=1
  ·have hf:=hS.func k1
   have h0:=hS.at0
   have h1:=hS.size
   rw[bf (n:=s.2.2.1+s.2.2.2.1) (by omega) (by omega),ab k1,ab h0,ab hf,ab (show s.2.2.1≤s.2.2.1+s.2.2.2.1 by omega)]
   obtain⟨b,b1,b2⟩:=uP (im.1.extract s.2.2.1.toNat (s.2.2.1+s.2.2.2.1).toNat) p s.2.2.2.2 calls (by rw[ByteArray.size_extract];omega) (by omega)
   simp only[Bool.and_self,aH,ae,ac,af,b1,b2]
   have hp:p=4096+s.2.2.1:=by
    rw[AV,ab k1,ae,bf (n:=4096+s.2.2.1) (by omega) (by omega)]at p1
    exact(Option.some.inj p1).symm
   by_cases hb:b.2=0
   ·rw[ab hb]
    refine⟨_,rfl,rfl,next ⟨fun _=> ?_,fun _=>yE b1 hb⟩⟩
    have hl:=Cy b1 hb
    rw[hp,ByteArray.size_extract]at hl
    rw[show min (s.2.2.1+s.2.2.2.1).toNat im.1.size-s.2.2.1.toNat=s.2.2.2.1.toNat by omega]at hl
    exact hl
   ·rw[ak hb];exact⟨_,rfl,rfl,fun h=>absurd h hb⟩
  ·rw[ak k1];exact⟨_,rfl,rfl,next ⟨fun h=>absurd h k1,fun h=>absurd h k1⟩⟩
structure sD (im:gE):Prop where
 sz:l6 im
 chain:∃E,jR im im.2.2.length E∧(E im.2.2.length).1=(im.1.size:Int)
 pos:1≤im.2.2.length
 first:(rd (τ:=bE) im.2.2 0).2.1=1
 funs:∀j (hj:j<im.2.2.length),Jp im.2.2[j]
 lin:∀j (hj:j<im.2.2.length),K7 im im.2.2[j]
theorem Bl (im:gE):∃v,p9 im=some v∧F5 im=some v∧(v.2.2=0→sD im):=by
 rw[Rg,OS]
 simp only[aA]
 by_cases h1:(im.2.2.length:Int)>16
 ·rw[ab h1];exact⟨_,rfl,rfl,fun h=>by cases h⟩
 ·rw[ak h1]
  by_cases h2:(im.1.size:Int)>1024
  ·rw[ab h2];exact⟨_,rfl,rfl,fun h=>by cases h⟩
  ·rw[ak h2]
   by_cases h3:(im.2.1.size:Int)>256
   ·rw[ab h3];exact⟨_,rfl,rfl,fun h=>by cases h⟩
   ·rw[ak h3]
    simp only[ac]
    have hz:l6 im:=⟨by omega,by omega,by omega⟩
    rw[Oq]
    have hE0:jR im 0 (fun _=>(0,0)):=⟨rfl,fun i _=>⟨⟨by simp,by simp⟩,⟨by simp,by simp⟩⟩,fun i _ h=>by omega⟩
    rcases E9 im hz im.2.2.length 0 _ (by omega) hE0 with⟨n,c,hc,a1,a2⟩|⟨E,hE,a1,a2⟩
    ·have a1':p9.a im (0,0) (im.2.2.length:Int) 0=some (n,0,c):=a1
     have a2':pD.a im 0 0 0=some (n,c):=a2
     rw[a1',a2']
     simp only[af]
     rw[ak hc]
     exact⟨_,rfl,rfl,fun h=>absurd h hc⟩
    ·have a1':p9.a im (0,0) (im.2.2.length:Int) 0=_:=a1
     have a2':pD.a im 0 0 0=_:=a2
     rw[a1',a2',p9.a_eq,ai]
     simp only[aB,decide_false,ac,af,R0]
     by_cases h0:im.2.2.length=0
     ·rw[av h0,show decide ((im.2.2.length:Int)=0)=true by simp[h0]]
      exact⟨_,rfl,rfl,fun h=>by cases h⟩
     ·rw[ap h0,show decide ((im.2.2.length:Int)=0)=false from ak (by omega),inL_true (i:=0) (by omega) (by omega)]
      simp only[ac,ae]
      by_cases k1:(rd (τ:=bE) im.2.2 0).2.1=1
      ·rw[ab k1]
       by_cases k2:(E im.2.2.length).1=(im.1.size:Int)
       ·rw[ab k2]
        obtain⟨fs,f1,f2,f3⟩:=sB im hz
        have hs:∀s∈im.2.2,sC im s:=fun s hs=>by
         obtain⟨i,hi,rfl⟩:=List.getElem_of_mem hs
         exact(ox hE i hi).1
        obtain⟨v,v1,v2,v3⟩:=Bj im hz hs fs f3 im.2.2.length 0 (by omega)
        rw[f1,f2]
        simp only[k1,k2,ne_eq,not_true_eq_false,↓reduceIte,aH,ac,decide_true,af]
        exact⟨v,v1,v2,fun h=>⟨hz,⟨E,hE,k2⟩,by omega,k1,fun j hj=>(v3 h j hj (Nat.zero_le _)).1,fun j hj=>(v3 h j hj (Nat.zero_le _)).2⟩⟩
       ·simp only[k1,k2,ne_eq,not_true_eq_false,not_false_eq_true,↓reduceIte,aH,Bool.not_false,ac,ae,decide_false]
        exact⟨_,rfl,rfl,fun h=>by cases h⟩
      ·simp only[k1,ne_eq,not_false_eq_true,↓reduceIte,Bool.not_false,ae,decide_false]
       exact⟨_,rfl,rfl,fun h=>by cases h⟩
def Fa (im:gE):Bool:=(TA im).getD false
theorem pj (im:gE):TA im=some (Fa im)∧Vs im=some (Fa im)∧(Fa im=true→sD im):=by
 obtain⟨v,v1,v2,v3⟩:=Bl im
 have e:TA im=some (decide (v.2.2=0)):=by rw[Rh,v1];rfl
 unfold Fa
 rw[e,OT,v2]
 exact⟨rfl,rfl,fun h=>v3 (by simpa using h)⟩
def iW (v:Int):Nat→List Int
 |0=>[]
 |n+1=>v%256::iW (v/256) n
theorem fL (n:Nat):∀v,(iW v n).length=n:=by
 induction n with
 |zero=>intro v;rfl
 |succ n ih=>intro v;simp[iW,ih]
theorem Cz (n:Int):IntKind.wrap .u8 n=n%256:=by simp[IntKind.wrap,IntKind.bits,IntKind.signed]
theorem pE (n:Nat):∀(v:Int) (xs:List Int),n≤1000→xs.length+n≤1000→ym.a v n xs=some (aT (xs++iW v n)):=by
 induction n with
 |zero=>intro v xs _ _;rw[ym.a_eq];simp[iW]
 |succ n ih=>
  intro v xs hn hx
  rw[ym.a_eq,show decide (((n+1:Nat):Int)>0)=true from ab (by omega),bj (by simp;omega) (by simp;omega),bf (n:=((n+1:Nat):Int)-1) (by omega) (by omega),qb (by decide) (by decide),Cz,show((n+1:Nat):Int)-1=(n:Int) by omega]
  simp only[ae]
  rw[ih _ _ (by omega) (by simp;omega),iW,bl]
  rfl
theorem jS (v:Int) (n:Nat) (h:n≤1000):ym v n=some (aT (iW v n)):=by
 rw[RK,pE n v [] h (by simpa using h)];rfl
theorem cX (xs:List Int):(aT xs).size=xs.length:=by simp[aT,ByteArray.size]
theorem nt (xs:List Int) (i:Nat) (h:∀x∈xs,0≤x∧x≤255) (hi:i<xs.length):(((aT xs).data.getD i 0).toNat:Int)=xs[i]:=by
 have hx:=h _ (List.getElem_mem hi)
 unfold aT
 simp[Array.getD,hi]
 omega
theorem Fb (n:Nat):∀v:Int,∀x∈iW v n,0≤x∧x≤255:=by
 induction n with
 |zero=>intro v x hx;cases hx
 |succ n ih=>
  intro v x hx
  rw[iW]at hx
  rcases List.mem_cons.mp hx with h|h
  ·omega
  ·exact ih _ x h
theorem CA (n:Nat):∀(v:Int) (pre:List Int),0≤v→(∀x∈pre,0≤x∧x≤255)→((ej (aT (pre++iW v n)) pre.length n:Nat):Int)=v%256^n:=by
 induction n with
 |zero=>intro v pre _ _;simp[ej,Int.emod_one]
 |succ n ih=>
  intro v pre hv hp
  have h1:=ih (v/256) (pre++[v%256]) (by omega) (by
   intro x hx
   rcases List.mem_append.mp hx with h|h
   ·exact hp x h
   ·rw[List.mem_singleton.mp h];omega)
  rw[bl,List.singleton_append,List.length_append,List.length_singleton]at h1
  rw[iW,ej]
  have hr:∀x∈pre++v%256::iW (v/256) n,0≤x∧x≤255:=by
   intro x hx
   rcases List.mem_append.mp hx with h|h
   ·exact hp x h
   ·rcases List.mem_cons.mp h with h|h
    ·rw[h];omega
    ·exact Fb n _ x h
  have h2:=nt (pre++v%256::iW (v/256) n) pre.length hr (by simp)
  rw[Int.natCast_add,Int.natCast_mul,h1,h2]
  simp
  rw[Int.pow_succ,Int.mul_comm (256^n) 256]
  have hp0:(0:Int)≤256:=by decide
  rw[Int.emod_def v (256*256^n),Int.emod_def (v/256) (256^n),←Int.ediv_ediv_of_nonneg hp0,Int.mul_sub,Int.mul_assoc]
  omega
theorem nu {a b:ByteArray} (hs:a.size=b.size) (h:∀i,i<a.size→a.data.getD i 0=b.data.getD i 0):a=b:=by
 cases a with|mk x=>cases b with|mk y=>
 congr 1
 have hs:x.size=y.size:=hs
 apply Array.ext hs
 intro i h1 h2
 have:=h i h1
 simpa[Array.getD,h1,h2]using this
theorem K8 (t:ByteArray):∀(n a:Nat),a+n≤t.size→aT (iW (ej t a n) n)=t.extract a (a+n):=by
 intro n
 induction n with
 |zero=>
   intro a h;apply nu; · simp[aT,iW,ByteArray.size]
   ·intro i hi;simp[aT,iW,ByteArray.size]at hi
 |succ n ih=>
  intro a h
  have h1:=ih (a+1) (by omega)
  have hb:=(t.data.getD a 0).toNat_lt
  have e1:((ej t a (n+1):Nat):Int)%256=((t.data.getD a 0).toNat:Int):=by rw[ej];omega
  have e2:((ej t a (n+1):Nat):Int)/256=((ej t (a+1) n:Nat):Int):=by rw[ej];omega
  rw[iW,e1,e2]
  apply nu
  ·rw[cX,ByteArray.size_extract];simp[fL];omega
  ·intro i hi
   rw[cX]at hi
   simp[fL]at hi
   have hts:t.size=t.data.size:=rfl
   cases i with
   |zero=>
    simp[aT,ByteArray.data_extract,Array.getD]
    rw[dif_pos (by omega),dif_pos (by omega)]
   |succ i=>
    have h3:(aT (iW (ej t (a+1) n) n)).data.getD i 0=(t.extract (a+1) (a+1+n)).data.getD i 0:=by rw[h1]
    have h4:(aT (((t.data.getD a 0).toNat:Int)::iW (ej t (a+1) n) n)).data.getD (i+1) 0=(aT (iW (ej t (a+1) n) n)).data.getD i 0:=by
     simp[aT,Array.getD]
    rw[h4,h3,ByteArray.data_extract,ByteArray.data_extract]
    simp[Array.getD]
    rw[dif_pos (by omega),dif_pos (by omega)]
    congr 1
    omega
theorem Jq (t:ByteArray) (ht:t.size≤1048576):∀(k i:Nat) (x:Int),i+k=t.size→0≤x→x<65521→∃v,yk.a t x i=some v∧0≤v∧v<65521:=by
 intro k
 induction k with
 |zero=>
  intro i x hi h0 h1
  rw[yk.a_eq,ai,ak (by omega)]
  exact⟨x,rfl,h0,h1⟩
 |succ k ih=>
  intro i x hi h0 h1
  have hb:=nf t (i:Int)
  rw[yk.a_eq,ai,aj,ab (show i<t.size by omega),bf (n:=bt t (i:Int)) (by omega) (by omega),bf (n:=31*x) (by omega) (by omega),bf (n:=31*x+bt t (i:Int)) (by omega) (by omega),an i t.size (by omega) (by omega),Int.tmod_eq_emod_of_nonneg (by omega)]
  simp only[ae]
  exact ih (i+1) _ (by omega) (by omega) (by omega)
theorem Jr (t:ByteArray) (ht:t.size≤1048576):∃v,FF t=some v∧yk t=some v∧0≤v∧v<65521:=by
 obtain⟨v,h1,h2⟩:=Jq t ht t.size 0 1 (by omega) (by omega) (by omega)
 have e:yk t=some v:=(IJ t).trans h1
 exact⟨v,(TC t ht).trans e,e,h2⟩
theorem yF (t:ByteArray) (ht:t.size≤1048576):∃v,yk t=some v∧0≤v∧v<65521∧U8 t=some (t++aT (iW v 4)):=by
 obtain⟨v,h1,h2,h3,h4⟩:=Jr t ht
 have hp:=jS v 4 (by omega)
 rw[show((4:Nat):Int)=4 by rfl]at hp
 refine⟨v,h2,h3,h4, ?_⟩
 rw[Mn,h1]
 simp only[af,hp]
 rw[ab (by rw[cX,fL];omega)];rfl
theorem sF (t:ByteArray) (n:Nat) (h:n≤t.size):t.extract 0 n++t.extract n t.size=t:=by
 rw[ByteArray.extract_append_extract,Nat.min_eq_left (Nat.zero_le _),Nat.max_eq_right h,ByteArray.extract_zero_size]
theorem R1 (t:ByteArray) (n:Nat) (hn:n+4=t.size) (v:Int) (h0:0≤v) (h1:v<65521):(t.extract 0 n++aT (iW v 4)=t)↔((ej t n 4:Nat):Int)=v:=by
 have ht:=sF t n (by omega)
 constructor
 ·intro h
  have e:aT (iW v 4)=t.extract n t.size:=by
   have:t.extract 0 n++aT (iW v 4)=t.extract 0 n++t.extract n t.size:=h.trans ht.symm
   exact(ByteArray.append_right_inj _).mp this
  have e2:=CA 4 v [] h0 (by simp)
  rw[List.nil_append,e,List.length_nil,eY t n t.size (by omega) 4 0 (by omega)]at e2
  rw[Nat.add_zero]at e2
  rw[e2]
  have:(256:Int)^4=4294967296:=by decide
  rw[this];omega
 ·intro h
  rw[←h,K8 t 4 n (by omega),hn,ht]
theorem Fc (t hd:ByteArray) (hh:hd.size=4) (ht:t.size≤65536):
  (∃(c:Int) (q:ByteArray×Int×Bool),c≠0∧TJ t hd=some (none,c)∧Uq t hd=some (some q,c))∨
  (8≤t.size∧TJ t hd=some (some (t.extract 4 (t.size-4),false),0)∧Uq t hd=some (some (t.extract 4 (t.size-4),0,false),0)):=by
 rw[Mo,PR]
 by_cases h8:(t.size:Int)<8
 ·rw[ab h8]
  exact Or.inl ⟨8,_,by decide,rfl,rfl⟩
 ·rw[ak h8,Ml,Mk,hh,ab (show(t.size:Int)≥((4:Nat):Int) by omega),ab (show(0:Int)≤((4:Nat):Int) by omega),ab (show(4:Int)≤(t.size:Int) by omega),bf (n:=(t.size:Int)-4) (by omega) (by omega),ab (show(0:Int)≤(t.size:Int)-4 by omega),ab (show(t.size:Int)-4≤(t.size:Int) by omega),ab (show(4:Int)≤(t.size:Int)-4 by omega)]
  simp only[Nat.le_refl,Nat.zero_le,decide_true,Bool.and_self,ae,ac,af,aP]
  rw[show(Int.toNat 0)=0 by rfl,show(Int.toNat 4)=4 by rfl,show((t.size:Int)-4).toNat=t.size-4 by omega]
  cases hp:bM (t.extract 0 4) hd with
  |false=>exact Or.inl ⟨3,_,by decide,rfl,rfl⟩
  |true=>
   simp only[aH,ac]
   obtain⟨v,v1,v2,v3,v4⟩:=yF (t.extract 0 (t.size-4)) (by rw[ByteArray.size_extract];omega)
   have hl:=UV t (t.size-4)
   have htk:pZ t ((t.size:Int)-4) 4=some ((ej t (t.size-4) 4:Nat):Int):=by
    rw[show(t.size:Int)-4=((t.size-4:Nat):Int) by omega,show(4:Int)=((4:Nat):Int) by rfl,dC t _ _ (by omega) (by omega),bf (by omega) (by omega)]
   rw[v4,v1,htk]
   simp only[af]
   have hse:=R1 t (t.size-4) (by omega) v v2 v3
   rw[a9]
   by_cases hv:((ej t (t.size-4) 4:Nat):Int)=v
   ·rw[ab hv,ab (hse.mpr hv)]
    exact Or.inr ⟨by omega,rfl,rfl⟩
   ·rw[ak hv,ak (fun h=>hv (hse.mp h))]
    exact Or.inl ⟨9,_,by decide,rfl,rfl⟩
theorem kZ {p:ByteArray×Bool} {q:ByteArray×Int×Bool} (n:Nat) (h:mB p q) (hn:n≤4):
  ∃(x:Int) (p':ByteArray×Bool) (q':ByteArray×Int×Bool),wh p n=some (x,p')∧tx q n=some (x,q')∧mB p' q'∧0≤x∧x<256^n∧(q.2.2=true→q'.2.2=true):=by
 obtain⟨o,p',q',h1,h2,h3,h4,h5⟩:=se (n:=(n:Int)) h (by omega) (by omega)
 have hst:q.2.2=true→q'.2.2=true:=by
  intro hq
  rw[AT,hq]at h2
  simp only[aA,ae,aa,ay]at h2
  rw[←h2.2]
 have hp1:(1:Int)≤256^n:=by have:(0:Int)<256^n:=Int.pow_pos (by decide);omega
 rw[Mq,PT,h1,h2]
 simp only[af]
 cases hs:q'.2.2 with
 |true=>
  have ho:=h5 hs
  subst ho
  have hl:tz (⟨#[]⟩:ByteArray)=some 0:=(c7 _ (by decide)).trans rfl
  rw[hl]
  exact⟨0,p',q',rfl,rfl,h3,by omega,by omega,fun _=>hs⟩
 |false=>
  have hz:=h4 hs
  have hz':o.size=n:=by omega
  have e256:((256^n:Nat):Int)=(256:Int)^n:=by simp
  have hlt:=A8 o n 0
  have hle:256^n≤256^4:=Nat.pow_le_pow_right (by decide) hn
  have e4:256^4=4294967296:=by decide
  rw[c7 o (by omega),hz',show(0:Int)=((0:Nat):Int) by rfl,dC o 0 n (by omega) (by omega),bf (by omega) (by omega)]
  exact⟨_,p',q',rfl,rfl,h3,by omega,by omega,fun hq=>by rw[hst hq]at hs;cases hs⟩
theorem sG {p:ByteArray×Bool} {q:ByteArray×Int×Bool} {n:Int} (h:mB p q) (hn:0≤n) (hn':n≤4294967296):
  ∃o p' q',Sa p n=some (o,p')∧PS q n=some (o,q')∧mB p' q'∧(q.2.2=true→q'.2.2=true)∧(o.size:Int)≤n:=by
 obtain⟨o,p',q',h1,h2,h3,h4,h5⟩:=se h hn hn'
 refine⟨o,p',q',h1,h2,h3, ?_, ?_⟩
 ·intro hq
  rw[AT,hq]at h2
  simp only[aA,ae,aa,ay]at h2
  rw[←h2.2]
 ·cases hs:q'.2.2 with
  |true=>rw[h5 hs];exact hn
  |false=>rw[h4 hs];exact Int.le_refl _
theorem Fd {p:ByteArray×Bool} {q:ByteArray×Int×Bool} (n:Nat) (h:mB p q) (hn:n≤4):
  ∃(x:Int) (q1:ByteArray×Int×Bool) (o:ByteArray) (p':ByteArray×Bool) (q':ByteArray×Int×Bool),Lw p n=some (o,p')∧tx q n=some (x,q1)∧PS q1 x=some (o,q')∧mB p' q'∧(q.2.2=true→q'.2.2=true)∧(o.size:Int)<256^n:=by
 obtain⟨x,p1,q1,a1,a2,a3,a4,a5,a6⟩:=kZ n h hn
 have e256:(256:Int)^n≤4294967296:=by
  have hle:256^n≤256^4:=Nat.pow_le_pow_right (by decide) hn
  have e4:256^4=4294967296:=by decide
  have e256:((256^n:Nat):Int)=(256:Int)^n:=by simp
  omega
 obtain⟨o,p',q',b1,b2,b3,b4,b5⟩:=sG a3 a4 (by omega)
 refine⟨x,q1,o,p',q', ?_,a2,b2,b3,fun hq=>b4 (a6 hq),by omega⟩
 rw[Ms,a1]
 simp only[af]
 rw[b1];rfl
theorem eg {p:ByteArray×Bool} {q:ByteArray×Int×Bool} (h:mB p q):
  ∃(o:ByteArray) (p':ByteArray×Bool) (q':ByteArray×Int×Bool),Lw p 1=some (o,p')∧PU q=some (o,q')∧mB p' q'∧(q.2.2=true→q'.2.2=true)∧(o.size:Int)<256:=by
 obtain⟨x,q1,o,p',q',h1,h2,h3,h4,h5,h6⟩:=Fd 1 h (by omega)
 refine⟨o,p',q',h1, ?_,h4,h5,h6⟩
 rw[PW,show(1:Int)=((1:Nat):Int) by rfl,h2]
 simp only[af]
 rw[h3];rfl
theorem yG {p:ByteArray×Bool} {q:ByteArray×Int×Bool} (h:mB p q):U9 p=some (if q.2.2=true then 22 else if q.2.1< (q.1.size:Int)then 8 else 0):=by
 obtain⟨t,a,s⟩:=q
 obtain⟨h0,h1,h2,rfl⟩:=h
 dsimp only at*
 rw[Mt,a9]
 cases s with
 |true=>rfl
 |false=>
  have hs:(t.extract a.toNat t.size).size=t.size-a.toNat:=by rw[ByteArray.size_extract];omega
  by_cases hb:a< (t.size:Int)
  ·rw[ak (fun e=>by have e:t.extract a.toNat t.size=⟨#[]⟩:=e;rw[e]at hs;have:(⟨#[]⟩:ByteArray).size=0:=rfl;omega)]
   simp[hb]
  ·rw[ab (by
    apply nu; · rw[hs];have:(⟨#[]⟩:ByteArray).size=0:=rfl;omega
    ·intro i hi;rw[hs]at hi;omega)]
   simp[hb]
theorem iB {p:ByteArray×Bool} {q:ByteArray×Int×Bool} (h:mB p q):p.2=q.2.2:=by
 obtain⟨h0,h1,h2,rfl⟩:=h;rfl
def iR (p:Nat→Bool):Nat→Nat→Bool
 |_,0=>true
 |i,k+1=>bif p i then iR p (i+1) k else false
theorem eF (p:Nat→Bool):∀k i,iR p i k=true↔∀j,i≤j→j<i+k→p j=true
 |0,i=>by simp[iR];omega
 |k+1,i=>by
  rw[iR,eB]
  by_cases h:p i=true
  ·rw[av h,eF p k (i+1)]
   refine⟨fun H j h1 h2=> ?_,fun H j h1 h2=>H j (by omega) (by omega)⟩
   by_cases e:j=i
   ·rw[e];exact h
   ·exact H j (by omega) (by omega)
  ·rw[ap h]
   refine⟨fun H=>(by cases H),fun H=>absurd (H i (Nat.le_refl _) (by omega)) h⟩
theorem Js (L:Int→Option Bool) (p:Nat→Bool) (n:Nat) (hend:L (n:Int)=some true) (hstep:∀i:Nat,i<n→L (i:Int)=bif p i then L ((i+1:Nat):Int)else some false):
  ∀k i:Nat,i+k=n→L (i:Int)=some (iR p i k):=by
 intro k
 induction k with
 |zero=>
   intro i h;have:i=n:=by omega
   subst this;exact hend
 |succ k ih=>
  intro i h
  rw[hstep i (by omega),ih (i+1) (by omega),iR]
  cases p i<;>rfl
theorem dD {L:Int→Option Bool} (p:Nat→Bool) (n:Nat) (hend:L (n:Int)=some true) (hstep:∀i:Nat,i<n→L (i:Int)=bif p i then L ((i+1:Nat):Int)else some false):L 0=some (iR p 0 n):=
 Js L p n hend hstep n 0 (by omega)
def eo (p:Nat→Bool):Nat→Nat→Int
 |_,0=> -1
 |i,k+1=>bif p i then(i:Int)else eo p (i+1) k
theorem Fe (L:Int→Option Int) (p:Nat→Bool) (n:Nat) (hend:L (n:Int)=some (-1)) (hstep:∀i:Nat,i<n→L (i:Int)=bif p i then some (i:Int)else L ((i+1:Nat):Int)):
  ∀k i:Nat,i+k=n→L (i:Int)=some (eo p i k):=by
 intro k
 induction k with
 |zero=>
   intro i h;have:i=n:=by omega
   subst this;exact hend
 |succ k ih=>
  intro i h
  rw[hstep i (by omega),ih (i+1) (by omega),eo]
  cases p i<;>rfl
theorem cq {L:Int→Option Int} (p:Nat→Bool) (n:Nat) (hend:L (n:Int)=some (-1)) (hstep:∀i:Nat,i<n→L (i:Int)=bif p i then some (i:Int)else L ((i+1:Nat):Int)):L 0=some (eo p 0 n):=
 Fe L p n hend hstep n 0 (by omega)
theorem cr (p:Nat→Bool):∀k i,(eo p i k= -1∧∀j,i≤j→j<i+k→p j=false)∨∃j:Nat,eo p i k=(j:Int)∧i≤j∧j<i+k∧p j=true∧∀q,i≤q→q<j→p q=false
 |0,i=> .inl ⟨rfl,fun j h1 h2=>by omega⟩
 |k+1,i=>by
  rw[eo]
  cases h:p i with
  |true=>exact .inr ⟨i,rfl,Nat.le_refl _,by omega,h,fun q h1 h2=>by omega⟩
  |false=>
   rw[ac]
   rcases cr p k (i+1)with⟨h1,h2⟩|⟨j,h1,h2,h3,h4,h5⟩
   ·refine .inl ⟨h1,fun j h3 h4=> ?_⟩
    by_cases e:j=i
    ·rw[e];exact h
    ·exact h2 j (by omega) (by omega)
   ·refine .inr ⟨j,h1,by omega,by omega,h4,fun q h6 h7=> ?_⟩
    by_cases e:q=i
    ·rw[e];exact h
    ·exact h5 q (by omega) (by omega)
theorem gh (i:Nat) (h:0<i) (h':i≤1048576):IntKind.wrap .i64 ((i:Int)-1)=((i-1:Nat):Int):=by
 rw[bf (by omega) (by omega)];omega
theorem lz (a b:Int):decide (a<b)= !decide (a≥b):=by
 rw[←decide_not];congr 1;apply propext;omega
abbrev aL:Ty:= .pair (.int .i64) (.pair (.int .i64) .str)
abbrev eh:Type:=Int×Int×ByteArray
def dp (n a b:Int):Bool:=decide (a≤n)&&decide (n≤b)
theorem Ff (n a b:Int):ic n a b=some (dp n a b):=cL n a b
theorem bW (n a b:Int):ic n a b=some (dp n a b)∧o9 n a b=some (dp n a b):=⟨cL n a b,gf n a b⟩
theorem bI {n a b:Int}:dp n a b=true↔a≤n∧n≤b:=by simp[dp]
def jn (b:Int):Bool:=bif dp b 0 1048575 then decide (b.tmod 128=0)else false
theorem R2 (b:Int):Zl b=some (jn b):=by
 rw[Lt,Ff]
 unfold jn
 simp only[af]
 cases dp b 0 1048575<;>rfl
theorem R3 (p:Int):Zm p=some (dp p 0 15):=by rw[Lu,Ff];rfl
theorem Jt (b:Int):Zl b=some (jn b)∧Vt b=some (jn b):=by
 rw[Lt,OU,(bW _ _ _).1,(bW _ _ _).2]
 unfold jn
 simp only[af]
 cases dp b 0 1048575<;>exact⟨rfl,rfl⟩
theorem Ju (p:Int):Zm p=some (dp p 0 15)∧Vu p=some (dp p 0 15):=by
 rw[Lu,OV,(bW _ _ _).1,(bW _ _ _).2];exact⟨rfl,rfl⟩
def Bm (m:List eh) (i:Nat):Bool:=
 bif jn (rd (τ:=aL) m i).1 then bif dp (rd (τ:=aL) m i).2.1 0 15 then bif decide (((rd (τ:=aL) m i).2.2.size:Int)=128)then
  (decide (i=0)||decide ((rd (τ:=aL) m ((i-1:Nat):Int)).1< (rd (τ:=aL) m i).1))else false else false else false
def gj (m:List eh):Bool:=decide (m.length≤64)&&iR (Bm m) 0 m.length
theorem Jv (m:List eh):Zn m=some (gj m):=by
 rw[SS]
 unfold gj
 rcases Nat.lt_or_ge 64 m.length with h|h
 ·rw[show decide ((m.length:Int)>64)=true by simp;omega,ak (by omega)];rfl
 rw[show decide ((m.length:Int)>64)=false by simp;omega,ab h,ac,Bool.true_and]
 refine dD (L:=Zn.a m m (m.length:Int)) (Bm m) m.length ?_ fun i hi=> ?_
 ·rw[Zn.a_eq,ai];simp
 ·rw[Zn.a_eq,ai,aj,ab hi,an i m.length hi (by omega),R2,R3]
  unfold Bm
  simp only[ae,af]
  by_cases h0:i=0
  ·rw[show decide ((i:Int)>0)=false by simp[h0],ab h0]
   cases jn (rd (τ:=aL) m i).1<;>cases dp (rd (τ:=aL) m i).2.1 0 15<;>cases decide (((rd (τ:=aL) m i).2.2.size:Int)=128)<;>rfl
  ·rw[show decide ((i:Int)>0)=true by simp;omega,ak h0,gh i (by omega) (by omega),aj,ab (show i-1<m.length by omega)]
   rw[show decide ((rd (τ:=aL) m ((i-1:Nat):Int)).1< (rd (τ:=aL) m i).1)= !decide ((rd (τ:=aL) m ((i-1:Nat):Int)).1≥(rd (τ:=aL) m i).1) from lz _ _]
   cases jn (rd (τ:=aL) m i).1<;>cases dp (rd (τ:=aL) m i).2.1 0 15<;>cases decide (((rd (τ:=aL) m i).2.2.size:Int)=128)<;>cases decide ((rd (τ:=aL) m ((i-1:Nat):Int)).1≥(rd (τ:=aL) m i).1)<;>rfl
theorem sH (m:List eh):Zn m=some (gj m)∧F6 m=some (gj m):=by
 refine⟨Jv m, ?_⟩
 rw[OW]
 unfold gj
 rcases Nat.lt_or_ge 64 m.length with h|h
 ·rw[show decide ((m.length:Int)>64)=true by simp;omega,ak (by omega)];rfl
 rw[show decide ((m.length:Int)>64)=false by simp;omega,ab h,ac,Bool.true_and]
 refine dD (L:=F6.a m) (Bm m) m.length ?_ fun i hi=> ?_
 ·rw[F6.a_eq,ai];simp
 ·rw[F6.a_eq,ai,aj,ab hi,an i m.length hi (by omega),(Jt _).2,(Ju _).2]
  unfold Bm
  simp only[ae,af]
  by_cases h0:i=0
  ·rw[show decide ((i:Int)>0)=false by simp[h0],ab h0]
   cases jn (rd (τ:=aL) m i).1<;>cases dp (rd (τ:=aL) m i).2.1 0 15<;>cases decide (((rd (τ:=aL) m i).2.2.size:Int)=128)<;>rfl
  ·rw[show decide ((i:Int)>0)=true by simp;omega,ak h0,gh i (by omega) (by omega),aj,ab (show i-1<m.length by omega)]
   rw[show decide ((rd (τ:=aL) m ((i-1:Nat):Int)).1< (rd (τ:=aL) m i).1)= !decide ((rd (τ:=aL) m i).1≤(rd (τ:=aL) m ((i-1:Nat):Int)).1) from lz _ _]
   cases jn (rd (τ:=aL) m i).1<;>cases dp (rd (τ:=aL) m i).2.1 0 15<;>cases decide (((rd (τ:=aL) m i).2.2.size:Int)=128)<;>cases decide ((rd (τ:=aL) m i).1≤(rd (τ:=aL) m ((i-1:Nat):Int)).1)<;>rfl
abbrev bb:Ty:= .pair .str (.pair (.int .i64) (.pair (.int .i64) (.pair (.int .i64) (.pair (.int .i64) (.int .i64)))))
abbrev dg:Type:=ByteArray×Int×Int×Int×Int×Int
def cD (l:List dg) (name:ByteArray):Int:=eo (fun i=>decide ((rd (τ:=bb) l (i:Int)).1=name)) 0 l.length
theorem dJ (l:List dg) (name:ByteArray) (hl:l.length≤1048576):KS l name=some (cD l name)∧yi l name=some (cD l name):=by
 rw[RI,RH,OX]
 unfold cD
 constructor
 ·rw[cq (L:=JS.a name l (l.length:Int)) (fun i=>decide ((rd (τ:=bb) l (i:Int)).1=name)) l.length ?_ fun i hi=> ?_]
  ·rfl
  ·rw[JS.a_eq,ai];simp
  ·rw[JS.a_eq,ai,aj,ab hi,an i l.length hi (by omega),RG,a9]
   simp only[ae,af]
 ·refine cq (L:=yi.a l name) (fun i=>decide ((rd (τ:=bb) l (i:Int)).1=name)) l.length ?_ fun i hi=> ?_
  ·rw[yi.a_eq,ai];simp
  ·rw[yi.a_eq,ai,aj,ab hi,an i l.length hi (by omega),a9]
   simp only[ae]
def yH (k f:Int):Bool:=bif decide (k=1)then(bif dT f then true else bif decide (k=2)then decide (f=0)else false)else bif decide (k=2)then decide (f=0)else false
def dU (e:dg):Bool:=
 bif cM e.1 then bif cf e.2.2.1 then bif dp e.2.2.2.1 1 1024 then bif dp e.2.2.2.2.2 0 6 then yH e.2.1 e.2.2.2.2.1 else false else false else false else false
theorem uR (e:dg):V6 e=some (dU e)∧Vv e=some (dU e):=by
 rw[RL,OY]
 unfold dU
 rw[(eE _).1,(eE _).2,jQ,(bW _ _ _).1,(bW _ _ _).1,(bW _ _ _).2,(bW _ _ _).2,(bW _ _ _).2,(eZ _).1,(eZ _).2]
 unfold cf yH aA
 simp only[af]
 rw[show(decide ((0:Int)≤e.2.2.1)&&decide (e.2.2.1≤1048575))=dp e.2.2.1 0 1048575 from rfl]
 cases cM e.1<;>cases dp e.2.2.1 0 1048575<;>cases decide (e.2.2.1.tmod 4=0)<;>cases dp e.2.2.2.1 1 1024<;>cases dp e.2.2.2.2.2 0 6<;>cases decide (e.2.1=1)<;>cases dT e.2.2.2.2.1<;>cases decide (e.2.1=2)<;>exact⟨rfl,rfl⟩
def yJ (l:List dg) (i:Nat):Bool:=bif dU (rd (τ:=bb) l i)then decide (cD (l.take i) (rd (τ:=bb) l i).1<0)else false
def pF (l:List dg):Bool:=decide (l.length≤64)&&iR (yJ l) 0 l.length
theorem jT {α:Type} (l:List α) (i:Nat):(l.take (Int.toNat (i:Int))).drop (Int.toNat 0)=l.take i:=by
 rw[aP,show(Int.toNat 0)=0 from rfl,List.drop_zero]
theorem jU (i n:Nat) (h:i≤n):(decide (0≤0)&&decide (0≤(i:Int))&&decide ((i:Int)≤(n:Int)))=true:=by simp;omega
theorem jo (l:List dg):Cs l=some (pF l)∧ID l=some (pF l):=by
 rw[RM,OZ]
 unfold pF
 rcases Nat.lt_or_ge 64 l.length with h|h
 ·rw[show decide ((l.length:Int)>64)=true by simp;omega,ak (show¬l.length≤64 by omega)]
  cases decide ((l.length:Int)>4096)<;>exact⟨rfl,rfl⟩
 rw[show decide ((l.length:Int)>64)=false by simp;omega,show decide ((l.length:Int)>4096)=false by simp;omega,ab h,ac,ac,ac,Bool.true_and]
 constructor
 ·refine dD (L:=Cs.a l l (l.length:Int)) (yJ l) l.length ?_ fun i hi=> ?_
  ·rw[Cs.a_eq,ai];simp
  ·rw[Cs.a_eq,ai,aj,ab hi,an i l.length hi (by omega),(uR _).1,jT,jU i _ (by omega),(dJ _ _ (by simp;omega)).1]
   unfold yJ
   rw[lz]
   simp only[ae,af]
   cases dU (rd (τ:=bb) l i)<;>cases decide (cD (l.take i) (rd (τ:=bb) l i).1≥0)<;>rfl
 ·refine dD (L:=ID.a l) (yJ l) l.length ?_ fun i hi=> ?_
  ·rw[ID.a_eq,ai];simp
  ·rw[ID.a_eq,ai,aj,ab hi,an i l.length hi (by omega),(uR _).2,jT,jU i _ (by omega),(dJ _ _ (by simp;omega)).2]
   unfold yJ
   rw[lz]
   simp only[ae,af]
   cases dU (rd (τ:=bb) l i)<;>cases decide (cD (l.take i) (rd (τ:=bb) l i).1≥0)<;>rfl
abbrev bH:Type:=Int×Int×Int
def CB (a:bH):Bool:=
 dp a.1 0 1048575&&dp a.2.1 0 (IntKind.wrap .i64 (1048576-a.1))&&dp a.2.2 a.1 (IntKind.wrap .i64 (a.1+a.2.1))&&decide (a.1.tmod 8=0)&&decide (a.2.1.tmod 8=0)&&decide (a.2.2.tmod 8=0)
theorem uS (a:bH):UU a=some (CB a):=by
 rw[RN,(bW _ _ _).1,(bW _ _ _).1,(bW _ _ _).1]
 unfold CB
 simp only[af]
 cases dp a.1 0 1048575<;>cases dp a.2.1 0 (IntKind.wrap .i64 (1048576-a.1))<;>cases dp a.2.2 a.1 (IntKind.wrap .i64 (a.1+a.2.1))<;>cases decide (a.1.tmod 8=0)<;>cases decide (a.2.1.tmod 8=0)<;>cases decide (a.2.2.tmod 8=0)<;>rfl
abbrev sS:Ty:= .pair (.int .i64) (.pair (.int .i64) (.int .i64))
abbrev Sh:Type:=Int×Int×Int
def Fg (a b:Int):Int:=bif decide (a<b)then-1 else bif decide (a>b)then 1 else 0
def Fh (a b:Sh):Int:=if Fg a.1 b.1=0 then Fg a.2.1 b.2.1 else Fg a.1 b.1
theorem CC (a b:Int):Zq a b=some (Fg a b):=by
 rw[SU,Lv,Lv]
 unfold Fg
 simp only[af,decide_true,aH,ac]
 cases decide (a<b)<;>cases decide (a>b)<;>rfl
theorem K9 (x y:Int):Zo [x,y]=some (if x=0 then y else x):=by
 rw[ST,show(([x,y]:List Int).length:Int)=2 from rfl,Zo.a_eq,Zo.a_eq,Zo.a_eq]
 show(bif !decide (x=0)then some x else bif !decide (y=0)then some y else some 0)=_
 by_cases hx:x=0
 ·by_cases hy:y=0
  ·simp[hx,hy]
  ·simp[hx,hy]
 ·simp[hx]
theorem Fk (a b:Sh):Zr a b=some (Fh a b):=by
 rw[SW,CC,CC]
 simp only[af]
 rw[K9];rfl
theorem uT (a b c d:Int):F7 [a,b] [c,d]=some (if a=c then decide (b<d)else decide (a<c)):=by
 rw[O1,F7.a_eq,F7.a_eq,F7.a_eq]
 show(bif !decide (a=c)then some (decide (a<c))else bif !decide (b=d)then some (decide (b<d))else some false)=_
 by_cases h:a=c
 ·by_cases h2:b=d
  ·simp[h,h2]
  ·simp[h,h2]
 ·simp[h]
theorem Jw (a b:Sh):(if a.1=b.1 then decide (a.2.1<b.2.1)else decide (a.1<b.1))= !decide (Fh a b≥0):=by
 obtain⟨a1,a2,a3⟩:=a
 obtain⟨b1,b2,b3⟩:=b
 simp only[Fh,Fg,eB,aW]
 rcases Int.lt_trichotomy a1 b1 with h|h|h
 ·rw[ap (by omega),av h];simp[h]
 ·subst h
  rw[av rfl]
  rcases Int.lt_trichotomy a2 b2 with h2|h2|h2
  ·simp[h2]
  ·simp[h2]
  ·simp[show¬a2<b2 by omega,h2]
 ·rw[ap (by omega),ap (by omega),av h];simp[show¬a1<b1 by omega]
theorem R4 (n:Int):Vw n=some (dp n 0 255):=by rw[O0,(bW _ _ _).2];rfl
def TG (l:List Sh) (i:Nat):Bool:=
 bif dp (rd (τ:=sS) l i).2.1 0 255 then(decide (i=0)|| !decide (Fh (rd (τ:=sS) l ((i-1:Nat):Int)) (rd (τ:=sS) l i)≥0))else false
def Sm (l:List Sh):Bool:=decide (l.length≤16)&&iR (TG l) 0 l.length
theorem pm (l:List Sh):Zs l=some (Sm l)∧F8 l=some (Sm l):=by
 rw[SX,O2]
 unfold Sm
 rcases Nat.lt_or_ge 16 l.length with h|h
 ·rw[show decide ((l.length:Int)>16)=true by simp;omega,ak (show¬l.length≤16 by omega)]
  cases decide ((l.length:Int)>4096)<;>exact⟨rfl,rfl⟩
 rw[show decide ((l.length:Int)>16)=false by simp;omega,show decide ((l.length:Int)>4096)=false by simp;omega,ab h,ac,ac,ac,Bool.true_and]
 constructor
 ·refine dD (L:=Zs.a l l (l.length:Int)) (TG l) l.length ?_ fun i hi=> ?_
  ·rw[Zs.a_eq,ai];simp
  ·rw[Zs.a_eq,ai,aj,ab hi,an i l.length hi (by omega),(bW _ _ _).1]
   unfold TG
   simp only[ae,af]
   by_cases h0:i=0
   ·rw[show decide ((i:Int)>0)=false by simp[h0],ab h0]
    cases dp (rd (τ:=sS) l i).2.1 0 255<;>rfl
   ·rw[show decide ((i:Int)>0)=true by simp;omega,ak h0,gh i (by omega) (by omega),aj,ab (show i-1<l.length by omega),Fk]
    simp only[af]
    cases dp (rd (τ:=sS) l i).2.1 0 255<;>cases decide (Fh (rd (τ:=sS) l ((i-1:Nat):Int)) (rd (τ:=sS) l i)≥0)<;>rfl
 ·refine dD (L:=F8.a l) (TG l) l.length ?_ fun i hi=> ?_
  ·rw[F8.a_eq,ai];simp
  ·rw[F8.a_eq,ai,aj,ab hi,an i l.length hi (by omega),R4]
   unfold TG
   simp only[ae,af]
   by_cases h0:i=0
   ·rw[show decide ((i:Int)>0)=false by simp[h0],ab h0]
    cases dp (rd (τ:=sS) l i).2.1 0 255<;>rfl
   ·rw[show decide ((i:Int)>0)=true by simp;omega,ak h0,gh i (by omega) (by omega),aj,ab (show i-1<l.length by omega),uT,Jw]
    simp only[af]
    cases dp (rd (τ:=sS) l i).2.1 0 255<;>cases decide (Fh (rd (τ:=sS) l ((i-1:Nat):Int)) (rd (τ:=sS) l i)≥0)<;>rfl
abbrev Jx:Ty:= .pair (.arr (.int .i64) 32) (.int .i64)
abbrev ei:Ty:= .pair (.int .i64) (.pair Jx (.pair (.list (.int .i64)) (.int .i64)))
abbrev La:Type:=Int×(List Int×Int)×List Int×Int
abbrev Fm:Type:=List eh×List La×List dg×List Sh
def CD (h:List Int×Int):Bool:=decide ((rd (τ:= .int .i64) h.1 0)=(0:Int))
theorem yK (h:List Int×Int):Zt h=some (CD h)∧Vx h=some (CD h):=by
 rw[SY,O3];exact⟨rfl,rfl⟩
def Bn (t:La):Bool:=
 bif dp t.1 1 3 then bif CD t.2.1 then bif decide ((t.2.2.1.length:Int)≤32)then(bif decide (t.1=3)then dp t.2.2.2 1 31 else decide (t.2.2.2=0))else false else false else false
theorem CE (t:La):Zu t=some (Bn t)∧Vy t=some (Bn t):=by
 rw[SZ,O4,(bW _ _ _).1,(bW _ _ _).1,(bW _ _ _).2,(bW _ _ _).2,(yK _).1,(yK _).2]
 unfold Bn aA
 rw[show decide ((t.2.2.1.length:Int)>32)= !decide ((t.2.2.1.length:Int)≤32) by rw[←decide_not];congr 1;apply propext;omega]
 simp only[af]
 cases dp t.1 1 3<;>cases CD t.2.1<;>cases decide ((t.2.2.1.length:Int)≤32)<;>cases decide (t.1=3)<;>exact⟨rfl,rfl⟩
def yL (l:List La):Bool:=dp l.length 1 4&&iR (fun i=>Bn (rd (τ:=ei) l (i:Int))) 0 l.length
theorem Jy (p:Nat→Bool) (n:Nat):decide (eo (fun i=> !p i) 0 n≥0)= !iR p 0 n:=by
 rcases cr (fun i=> !p i) n 0 with⟨h1,h2⟩|⟨j,h1,h2,h3,h4,h5⟩
 ·rw[h1,(eF p n 0).2 fun j h3 h4=>by simpa using h2 j h3 h4];rfl
 ·rw[h1]
  have:iR p 0 n=false:=by
   cases h:iR p 0 n with
   |false=>rfl
   |true=>have:=(eF p n 0).1 h j h2 h3;rw[this]at h4;cases h4
  rw[this];simp
theorem yM (l:List La):Zy l=some (yL l):=by
 rw[S4,(bW _ _ _).1]
 unfold yL
 simp only[af]
 cases h:dp (l.length:Int) 1 4 with
 |false=>rfl
 |true=>
  have hl:l.length≤4:=by rw[bI]at h;omega
  rw[S3,S2,cq (L:=Zw.a l (l.length:Int)) (fun i=> !Bn (rd (τ:=ei) l (i:Int))) l.length ?_ fun i hi=> ?_]
  ·simp only[af,ae,Bool.true_and]
   rw[Jy];simp
  ·rw[Zw.a_eq,ai];simp
  ·rw[Zw.a_eq,ai,aj,ab hi,an i l.length hi (by omega),S0,(CE _).1]
   simp only[ae,af]
def tF (m:Fm):Bool:=gj m.1&&(pF m.2.2.1&&(Sm m.2.2.2&&yL m.2.1))
theorem yN (m:Fm):Zz m=some (tF m)∧IE m=some (tF m):=by
 rw[S5,O5,(sH _).1,(sH _).2,(jo _).1,(jo _).2,(pm _).1,(pm _).2,yM]
 unfold tF
 simp only[af]
 constructor
 ·cases gj m.1<;>cases pF m.2.2.1<;>cases Sm m.2.2.2<;>rfl
 ·unfold yL
  by_cases h1:(m.2.1.length:Int)<1
  ·rw[ab h1,show dp (m.2.1.length:Int) 1 4=false by simp[dp];omega]
   cases gj m.1<;>simp
  rw[ak h1]
  by_cases h2:(m.2.1.length:Int)>4
  ·rw[ab h2,show dp (m.2.1.length:Int) 1 4=false by simp[dp];omega]
   cases gj m.1<;>simp
  rw[ak h2,show dp (m.2.1.length:Int) 1 4=true by simp[dp];omega]
  rw[dD (L:=IE.a m) (fun i=>Bn (rd (τ:=ei) m.2.1 (i:Int))) m.2.1.length ?_ fun i hi=> ?_]
  ·cases gj m.1<;>cases pF m.2.2.1<;>cases Sm m.2.2.2<;>rfl
  ·rw[IE.a_eq,ai];simp
  ·rw[IE.a_eq,ai,aj,ab hi,an i m.2.1.length hi (by omega),(CE _).2]
   simp only[ae,af]
   cases Bn (rd (τ:=ei) m.2.1 (i:Int))<;>rfl
def gk (p:Nat→Bool):Nat→Nat→Bool
 |_,0=>false
 |i,k+1=>bif p i then true else gk p (i+1) k
theorem fp (p:Nat→Bool):∀k i,gk p i k=true↔∃j,i≤j∧j<i+k∧p j=true
 |0,i=>by simp[gk];omega
 |k+1,i=>by
  rw[gk,eB]
  by_cases h:p i=true
  ·rw[av h];simp only[true_iff];exact⟨i,Nat.le_refl _,by omega,h⟩
  ·rw[ap h,fp p k (i+1)]
   refine⟨fun⟨j,h1,h2,h3⟩=>⟨j,by omega,by omega,h3⟩,fun⟨j,h1,h2,h3⟩=>⟨j, ?_,by omega,h3⟩⟩
   rcases Nat.lt_or_ge i j with h4|h4
   ·exact h4
   ·have:j=i:=by omega
    subst this;exact absurd h3 h
theorem Jz {β:Type} (L:Int→Option β) (p:Nat→Bool) (n:Nat) (r:Option β) (hstep:∀i:Nat,i<n→L (i:Int)=bif p i then r else L ((i+1:Nat):Int)):
  ∀k i:Nat,i+k=n→L (i:Int)=bif gk p i k then r else L (n:Int):=by
 intro k
 induction k with
 |zero=>
   intro i h;have:i=n:=by omega
   subst this;rfl
 |succ k ih=>
  intro i h
  rw[hstep i (by omega),ih (i+1) (by omega),gk]
  cases p i<;>rfl
theorem de {β:Type} {L:Int→Option β} (p:Nat→Bool) (n:Nat) (r:Option β) (hstep:∀i:Nat,i<n→L (i:Int)=bif p i then r else L ((i+1:Nat):Int)):L 0=bif gk p 0 n then r else L (n:Int):=
 Jz L p n r hstep n 0 (by omega)
theorem nv (p:Nat→Bool) (n:Nat):decide (eo p 0 n≥0)=gk p 0 n:=by
 rcases cr p n 0 with⟨h1,h2⟩|⟨j,h1,h2,h3,h4,h5⟩
 ·rw[h1]
  cases h:gk p 0 n with
  |false=>rfl
  |true=>obtain⟨j,h3,h4,h5⟩:=(fp p n 0).1 h;rw[h2 j h3 h4]at h5;cases h5
 ·rw[h1,(fp p n 0).2 ⟨j,h2,h3,h4⟩];simp
def bu {α:Type} (f:Nat→α):Nat→Nat→List α
 |_,0=>[]
 |i,k+1=>f i::bu f (i+1) k
theorem aQ {α:Type} (f:Nat→α):∀k i,(bu f i k).length=k
 |0,_=>rfl
 |k+1,i=>by rw[bu,List.length_cons,aQ f k]
theorem JA {α β:Type} (L:List α→Int→Option β) (f:Nat→α) (n A:Nat) (hstep:∀acc (i:Nat),i<n→acc.length=A+i→L acc (i:Int)=L (acc++[f i]) ((i+1:Nat):Int)):
  ∀(k i:Nat) (acc:List α),i+k=n→acc.length=A+i→L acc (i:Int)=L (acc++bu f i k) (n:Int):=by
 intro k
 induction k with
 |zero=>
   intro i acc h _;have:i=n:=by omega
   subst this;rw[bu,List.append_nil]
 |succ k ih=>
  intro i acc h ha
  rw[hstep acc i (by omega) ha,ih (i+1) _ (by omega) (by simp;omega),bu,bl];rfl
theorem cS {α β:Type} {L:List α→Int→Option β} (f:Nat→α) (n:Nat) (acc:List α) (hstep:∀acc' (i:Nat),i<n→acc'.length=acc.length+i→L acc' (i:Int)=L (acc'++[f i]) ((i+1:Nat):Int)):L acc 0=L (acc++bu f 0 n) (n:Int):=
 JA L f n acc.length hstep n 0 acc (by omega) (by omega)
def bB (c:Nat→Int):Nat→Nat→Int×Int
 |_,0=>(0,0)
 |i,k+1=>if c i=0 then bB c (i+1) k else((i:Int),c i)
theorem Fo (L:Int→Option (Int×Int)) (c:Nat→Int) (n:Nat) (hstep:∀i:Nat,i<n→L (i:Int)=if c i=0 then L ((i+1:Nat):Int)else some ((i:Int),c i)):
  ∀k i:Nat,i+k=n→L (i:Int)=if(bB c i k).2=0 then L (n:Int)else some (bB c i k):=by
 intro k
 induction k with
 |zero=>
   intro i h;have:i=n:=by omega
   subst this;rfl
 |succ k ih=>
  intro i h
  rw[hstep i (by omega),ih (i+1) (by omega),bB]
  by_cases h:c i=0
  ·rw[av h,av h]
  ·rw[ap h,ap h,ap h]
theorem dV {L:Int→Option (Int×Int)} (c:Nat→Int) (n:Nat) (hstep:∀i:Nat,i<n→L (i:Int)=if c i=0 then L ((i+1:Nat):Int)else some ((i:Int),c i)):L 0=if(bB c 0 n).2=0 then L (n:Int)else some (bB c 0 n):=
 Fo L c n hstep n 0 (by omega)
theorem dW (c:Nat→Int):∀k i,(bB c i k).2=0↔∀j,i≤j→j<i+k→c j=0
 |0,i=>by simp[bB];omega
 |k+1,i=>by
  rw[bB]
  by_cases h:c i=0
  ·rw[av h,dW c k (i+1)]
   refine⟨fun H j h1 h2=> ?_,fun H j h1 h2=>H j (by omega) (by omega)⟩
   by_cases e:j=i
   ·rw[e];exact h
   ·exact H j (by omega) (by omega)
  ·rw[ap h]
   exact⟨fun H=>absurd H h,fun H=>absurd (H i (Nat.le_refl _) (by omega)) h⟩
abbrev aS:Ty:= .pair .str (.pair .bool (.pair (.int .i64) .str))
abbrev Xb:Type:=ByteArray×Bool×Int×ByteArray
abbrev bF:Ty:= .pair .str .str
abbrev Xc:Type:=ByteArray×ByteArray
abbrev cH:Ty:= .pair (.int .i64) (.pair (.int .i64) (.pair (.int .i64) (.pair .str (.int .i64))))
abbrev LL:Type:=Int×Int×Int×ByteArray×Int
abbrev et:Ty:= .pair (.int .i64) .bool
abbrev Xd:Type:=Int×Bool
abbrev bq:Type:=ByteArray×Int×List Xb×List Xc×List LL×List Xd
structure ObjSz (o:bq):Prop where
 f:o.2.2.1.length≤4
 d:o.2.2.2.1.length≤4
 r:o.2.2.2.2.1.length≤32
 s:o.2.2.2.2.2.length≤4
def df (o:bq):List ByteArray:=bu (fun i=>(rd (τ:=aS) o.2.2.1 (i:Int)).1) 0 o.2.2.1.length++bu (fun i=>(rd (τ:=bF) o.2.2.2.1 (i:Int)).1) 0 o.2.2.2.1.length
def gv (o:bq):List Int:=bu (fun i=>IntKind.wrap .i64 (((rd (τ:=aS) o.2.2.1 (i:Int)).2.2.2.size:Int).tdiv 4)) 0 o.2.2.1.length++bu (fun i=>IntKind.wrap .i64 (((rd (τ:=bF) o.2.2.2.1 (i:Int)).2.size:Int).tdiv 8)) 0 o.2.2.2.1.length
theorem k6 (n:Nat) (h:n≤4096):aw n 16=true:=by simp[aw];omega
theorem l7 (n:Nat) (h:n≤4096):aw n 8=true:=by simp[aw];omega
theorem Fp (o:bq) (hz:ObjSz o) (u:Nat) (hu:u≤(df o).length):sQ o (u:Int)=some ((df o).take u):=by
 obtain⟨hf,hd,_,_⟩:=hz
 rw[Rs]
 rw[cS (L:=fun acc i=>sQ.a (u:Int) o acc o.2.2.1 (o.2.2.1.length:Int) i) (fun i=>(rd (τ:=aS) o.2.2.1 (i:Int)).1) o.2.2.1.length [] fun acc i hi ha=> ?_]
 ·rw[sQ.a_eq,ai,ak (aB _),ac,List.nil_append]
  rw[cS (L:=fun acc i=>sQ.b (u:Int) acc o.2.2.2.1 (o.2.2.2.1.length:Int) i) (fun i=>(rd (τ:=bF) o.2.2.2.1 (i:Int)).1) o.2.2.2.1.length (bu (fun i=>(rd (τ:=aS) o.2.2.1 (i:Int)).1) 0 o.2.2.1.length) fun acc i hi ha=> ?_]
  ·show sQ.b (u:Int) (df o) o.2.2.2.1 (o.2.2.2.1.length:Int) (o.2.2.2.1.length:Int)=_
   rw[sQ.b_eq,ai,ak (aB _),ac,jU u _ hu,ae,jT]
  ·rw[aQ]at ha
   show sQ.b (u:Int) acc o.2.2.2.1 (o.2.2.2.1.length:Int) (i:Int)=_
   rw[sQ.b_eq,ai,aj,ab hi,an i _ hi (by omega),k6 _ (by simp;omega)];rfl
 ·show sQ.a (u:Int) o acc o.2.2.1 (o.2.2.1.length:Int) (i:Int)=_
  rw[sQ.a_eq,ai,aj,ab hi,an i _ hi (by omega),k6 _ (by simp at ha⊢;omega)];rfl
theorem Fq (o:bq) (hz:ObjSz o):tA o=some (gv o):=by
 obtain⟨hf,hd,_,_⟩:=hz
 rw[Ru]
 rw[cS (L:=fun acc i=>tA.a o acc o.2.2.1 (o.2.2.1.length:Int) i) (fun i=>IntKind.wrap .i64 (((rd (τ:=aS) o.2.2.1 (i:Int)).2.2.2.size:Int).tdiv 4)) o.2.2.1.length [] fun acc i hi ha=> ?_]
 ·rw[tA.a_eq,ai,ak (aB _),ac,List.nil_append]
  rw[cS (L:=fun acc i=>tA.b acc o.2.2.2.1 (o.2.2.2.1.length:Int) i) (fun i=>IntKind.wrap .i64 (((rd (τ:=bF) o.2.2.2.1 (i:Int)).2.size:Int).tdiv 8)) o.2.2.2.1.length (bu (fun i=>IntKind.wrap .i64 (((rd (τ:=aS) o.2.2.1 (i:Int)).2.2.2.size:Int).tdiv 4)) 0 o.2.2.1.length) fun acc i hi ha=> ?_]
  ·rw[tA.b_eq,ai,ak (aB _),ac];rfl
  ·rw[aQ]at ha
   show tA.b acc o.2.2.2.1 (o.2.2.2.1.length:Int) (i:Int)=_
   rw[tA.b_eq,ai,aj,ab hi,an i _ hi (by omega),l7 _ (by simp;omega)];rfl
 ·show tA.a o acc o.2.2.1 (o.2.2.1.length:Int) (i:Int)=_
  rw[tA.a_eq,ai,aj,ab hi,an i _ hi (by omega),l7 _ (by simp at ha⊢;omega)];rfl
def iS (l:List ByteArray) (n:ByteArray):Bool:=l.any fun y=>decide (y=n)
theorem k7 {l:List ByteArray} {n:ByteArray}:iS l n=true↔n∈l:=by simp[iS]
theorem Bo (l:List ByteArray) (n:ByteArray) (hl:l.length≤4096):V3 l n=some (iS l n):=by
 rw[Rr,Rq,cq (L:=JP.a l n (l.length:Int)) (fun i=>decide (n=rd (τ:= .str) l (i:Int))) l.length ?_ fun i hi=> ?_]
 ·simp only[af]
  rw[nv]
  congr 1
  rw[Bool.eq_iff_iff,fp,k7,List.mem_iff_getElem]
  refine⟨fun⟨j,h1,h2,h3⟩=>⟨j,by omega, ?_⟩,fun⟨j,h1,h2⟩=>⟨j,by omega,by omega, ?_⟩⟩
  ·rw[decide_eq_true_iff,aV (τ:= .str) l j (by omega)]at h3;exact h3.symm
  ·rw[decide_eq_true_iff,aV (τ:= .str) l j h1];exact h2.symm
 ·rw[JP.a_eq,ai];simp
 ·rw[JP.a_eq,ai,aj,ab hi,an i _ hi (by omega),a9];rfl
theorem cg {α:Type} (f:Nat→α) (x:α):∀k i,x∈bu f i k↔∃j,i≤j∧j<i+k∧f j=x
 |0,i=>by simp[bu];omega
 |k+1,i=>by
  rw[bu,List.mem_cons,cg f x k (i+1)]
  constructor
  ·rintro(h|⟨j,h1,h2,h3⟩)
   ·exact⟨i,Nat.le_refl _,by omega,h.symm⟩
   ·exact⟨j,by omega,by omega,h3⟩
  ·rintro⟨j,h1,h2,h3⟩
   by_cases e:j=i
   ·subst e;exact .inl h3.symm
   ·exact .inr ⟨j,by omega,by omega,h3⟩
theorem oy {α:Type} (f:Nat→α):∀k i n,(bu f i k).take n=bu f i (min n k)
 |0,i,n=>by simp[bu]
 |k+1,i,0=>by simp[bu]
 |k+1,i,n+1=>by rw[bu,List.take_succ_cons,oy f k (i+1) n,Nat.add_min_add_right,bu]
theorem ny (o:bq) (i:Nat) (hi:i≤o.2.2.1.length):(df o).take i=bu (fun i=>(rd (τ:=aS) o.2.2.1 (i:Int)).1) 0 i:=by
 unfold df
 rw[List.take_append_of_le_length (by rw[aQ];exact hi),oy,Nat.min_eq_left hi]
theorem jV (o:bq) (i:Nat) (hi:i≤o.2.2.2.1.length):(df o).take (o.2.2.1.length+i)=bu (fun i=>(rd (τ:=aS) o.2.2.1 (i:Int)).1) 0 o.2.2.1.length++bu (fun i=>(rd (τ:=bF) o.2.2.2.1 (i:Int)).1) 0 i:=by
 unfold df
 rw[List.take_append,aQ,List.take_of_length_le (by rw[aQ];omega),oy,show o.2.2.1.length+i-o.2.2.1.length=i by omega,Nat.min_eq_left hi]
theorem oz (o:bq):(df o).length=o.2.2.1.length+o.2.2.2.1.length:=by unfold df;rw[List.length_append,aQ,aQ]
theorem oA (f:Nat→ByteArray) (n:ByteArray) (k:Nat):iS (bu f 0 k) n=gk (fun j=>decide (f j=n)) 0 k:=by
 rw[Bool.eq_iff_iff,k7,cg,fp];simp
theorem sI (a b:List ByteArray) (n:ByteArray):iS (a++b) n=(iS a n||iS b n):=by simp[iS]
theorem sJ (c:Nat→Int):∀k i,(bB c i k).2=0→bB c i k=(0,0)
 |0,_,_=>rfl
 |k+1,i,h=>by
  rw[bB]at h⊢
  by_cases e:c i=0
  ·rw[av e]at h⊢;exact sJ c k (i+1) h
  ·rw[ap e]at h;exact absurd h e
theorem k8 (c:Nat→Int) (i k:Nat):(if(bB c i k).2=0 then some ((0,0):Int×Int)else some (bB c i k))=some (bB c i k):=by
 by_cases h:(bB c i k).2=0
 ·rw[av h,sJ c k i h]
 ·rw[ap h]
def nz (o:bq) (i:Nat):Int:=
 if cM (rd (τ:=aS) o.2.2.1 (i:Int)).1=false then 3 else if iS ((df o).take i) (rd (τ:=aS) o.2.2.1 (i:Int)).1=true then 24
 else if dT (rd (τ:=aS) o.2.2.1 (i:Int)).2.2.1=false then 17 else if bx (rd (τ:=aS) o.2.2.1 (i:Int)).2.2.2.size=false then 8 else 0
def sK (n:Nat):Bool:=dp (n:Int) 8 64&&decide ((n:Int).tmod 8=0)
def nA (o:bq) (i:Nat):Int:=
 if cM (rd (τ:=bF) o.2.2.2.1 (i:Int)).1=false then 3 else if iS ((df o).take (o.2.2.1.length+i)) (rd (τ:=bF) o.2.2.2.1 (i:Int)).1=true then 24
 else if sK (rd (τ:=bF) o.2.2.2.1 (i:Int)).2.size=false then 8 else 0
theorem nB (o:bq) (hz:ObjSz o) (n:ByteArray) (u:Nat) (hu:u≤(df o).length):US o n (u:Int)=some (if cM n=false then 3 else if iS ((df o).take u) n=true then 24 else 0):=by
 have:=hz.f;have:=hz.d;have:=oz o
 rw[Rt,(eE _).1,Fp o hz u hu]
 simp only[af]
 rw[Bo _ _ (by simp;omega)]
 cases cM n<;>cases iS ((df o).take u) n<;>rfl
theorem JB (t:ByteArray):VD t=some (bx t.size):=by
 rw[Ph]
 unfold bx ca
 cases decide ((t.size:Int).tmod 4=0)<;>cases decide ((t.size:Int)≥20)<;>cases decide ((t.size:Int)≤256)<;>rfl
theorem Ft (o:bq) (hz:ObjSz o):iO.a o o.2.2.1 (o.2.2.1.length:Int) 0=if(bB (nz o) 0 o.2.2.1.length).2=0 then iO.b o o.2.2.2.1 (o.2.2.2.1.length:Int) 0 else some (bB (nz o) 0 o.2.2.1.length):=by
 have:=hz.f
 rw[dV (L:=iO.a o o.2.2.1 (o.2.2.1.length:Int)) (nz o) o.2.2.1.length fun i hi=> ?_]
 ·rw[iO.a_eq,ai,ak (aB _),ac]
 ·rw[iO.a_eq,ai,aj,ab hi,an i _ hi (by omega),nB o hz _ i (by rw[oz];omega),(eZ _).1,gD]
  unfold nz
  simp only[ae,af]
  cases cM (rd (τ:=aS) o.2.2.1 (i:Int)).1 with
  |false=>rfl
  |true=>
   cases iS ((df o).take i) (rd (τ:=aS) o.2.2.1 (i:Int)).1 with
   |true=>rfl
   |false=>cases dT (rd (τ:=aS) o.2.2.1 (i:Int)).2.2.1<;>cases bx (rd (τ:=aS) o.2.2.1 (i:Int)).2.2.2.size<;>rfl
theorem Fu (o:bq) (hz:ObjSz o):iO.b o o.2.2.2.1 (o.2.2.2.1.length:Int) 0=if(bB (nA o) 0 o.2.2.2.1.length).2=0 then iO.c o (o.2.2.2.2.1.length:Int) 0 else some (bB (nA o) 0 o.2.2.2.1.length):=by
 have h1:=hz.f
 have h2:=hz.d
 rw[dV (L:=iO.b o o.2.2.2.1 (o.2.2.2.1.length:Int)) (nA o) o.2.2.2.1.length fun i hi=> ?_]
 ·rw[iO.b_eq,ai,ak (aB _),ac]
 ·rw[iO.b_eq,ai,aj,ab hi,an i _ hi (by omega),bf (n:=(o.2.2.1.length:Int)+(i:Int)) (by omega) (by omega),←Int.natCast_add,nB o hz _ (o.2.2.1.length+i) (by rw[oz];omega),(bW _ _ _).1]
  unfold nA sK
  simp only[ae,af]
  cases cM (rd (τ:=bF) o.2.2.2.1 (i:Int)).1 with
  |false=>rfl
  |true=>
   cases iS ((df o).take (o.2.2.1.length+i)) (rd (τ:=bF) o.2.2.2.1 (i:Int)).1 with
   |true=>rfl
   |false=>cases dp ((rd (τ:=bF) o.2.2.2.1 (i:Int)).2.size:Int) 8 64<;>cases decide (((rd (τ:=bF) o.2.2.2.1 (i:Int)).2.size:Int).tmod 8=0)<;>rfl
theorem Fv (o:bq) (hz:ObjSz o):v8 o=some (bB (nz o) 0 o.2.2.1.length):=by
 have h1:=hz.f
 rw[Pi,dV (L:=v8.a o) (nz o) o.2.2.1.length fun i hi=> ?_]
 ·rw[v8.a_eq,ai,ak (aB _),ac]
  exact k8 _ _ _
 ·rw[v8.a_eq,ai,aj,ab hi,(eE _).2]
  unfold nz
  simp only[ae,af]
  cases cM (rd (τ:=aS) o.2.2.1 (i:Int)).1 with
  |false=>rfl
  |true=>
   rw[show(!true)=false from rfl,ac,de (L:=v8.b o (i:Int) (rd (τ:=aS) o.2.2.1 (i:Int))) (fun j=>decide ((rd (τ:=aS) o.2.2.1 (j:Int)).1=(rd (τ:=aS) o.2.2.1 (i:Int)).1)) i (some ((i:Int),24)) fun j hj=> ?_]
   ·rw[ny o i (by omega),oA]
    cases gk (fun j=>decide ((rd (τ:=aS) o.2.2.1 (j:Int)).1=(rd (τ:=aS) o.2.2.1 (i:Int)).1)) 0 i with
    |true=>rfl
    |false=>
     rw[v8.b_eq,ai,ak (aB _),ac,ac,(eZ _).2,JB,an i _ hi (by omega)]
     simp only[af]
     cases dT (rd (τ:=aS) o.2.2.1 (i:Int)).2.2.1<;>cases bx (rd (τ:=aS) o.2.2.1 (i:Int)).2.2.2.size<;>rfl
   ·rw[v8.b_eq,ai,aj,ab hj,ab (show j<o.2.2.1.length by omega),an j _ hj (by omega),a9];rfl
theorem Fw (o:bq) (hz:ObjSz o):ot o=some (bB (nA o) 0 o.2.2.2.1.length):=by
 have h1:=hz.f
 have h2:=hz.d
 rw[Pj,dV (L:=ot.a o) (nA o) o.2.2.2.1.length fun i hi=> ?_]
 ·rw[ot.a_eq,ai,ak (aB _),ac]
  exact k8 _ _ _
 ·rw[ot.a_eq,ai,aj,ab hi,(eE _).2]
  unfold nA sK
  simp only[ae,af]
  cases cM (rd (τ:=bF) o.2.2.2.1 (i:Int)).1 with
  |false=>rfl
  |true=>
   rw[show(!true)=false from rfl,ac,de (L:=ot.b o (i:Int) (rd (τ:=bF) o.2.2.2.1 (i:Int))) (fun j=>decide ((rd (τ:=aS) o.2.2.1 (j:Int)).1=(rd (τ:=bF) o.2.2.2.1 (i:Int)).1)) o.2.2.1.length (some ((i:Int),24)) fun j hj=> ?_]
   ·rw[jV o i (by omega),sI,oA,oA]
    cases gk (fun j=>decide ((rd (τ:=aS) o.2.2.1 (j:Int)).1=(rd (τ:=bF) o.2.2.2.1 (i:Int)).1)) 0 o.2.2.1.length with
    |true=>rfl
    |false=>
     rw[ot.b_eq,ai,ak (aB _),ac,ac,de (L:=ot.c o (i:Int) (rd (τ:=bF) o.2.2.2.1 (i:Int))) (fun j=>decide ((rd (τ:=bF) o.2.2.2.1 (j:Int)).1=(rd (τ:=bF) o.2.2.2.1 (i:Int)).1)) i (some ((i:Int),24)) fun j hj=> ?_]
     ·cases gk (fun j=>decide ((rd (τ:=bF) o.2.2.2.1 (j:Int)).1=(rd (τ:=bF) o.2.2.2.1 (i:Int)).1)) 0 i with
      |true=>rfl
      |false=>
       rw[ot.c_eq,ai,ak (aB _),ac,ac,an i _ hi (by omega)]
       unfold dp
       generalize (rd (τ:=bF) o.2.2.2.1 (i:Int)).2.size=n
       rw[show decide ((n:Int)<8)= !decide (8≤(n:Int)) by rw[←decide_not];congr 1;apply propext;omega,show decide ((n:Int)>64)= !decide ((n:Int)≤64) by rw[←decide_not];congr 1;apply propext;omega]
       cases decide ((n:Int).tmod 8=0)<;>cases decide (8≤(n:Int))<;>cases decide ((n:Int)≤64)<;>rfl
     ·rw[ot.c_eq,ai,aj,ab hj,ab (show j<o.2.2.2.1.length by omega),an j _ hj (by omega),a9];rfl
   ·rw[ot.b_eq,ai,aj,ab hj,an j _ hj (by omega),a9];rfl
def nC (a b c d:Int):Bool:=if a=c then decide (b<d)else decide (a<c)
def fB (o:bq) (u:Int):Int:=
 if 0≤u∧u< (o.2.2.1.length:Int)then((rd (τ:=aS) o.2.2.1 u).2.2.2.size:Int).tdiv 4
 else if(o.2.2.1.length:Int)≤u∧u< (o.2.2.1.length:Int)+(o.2.2.2.1.length:Int)then((rd (τ:=bF) o.2.2.2.1 (u-(o.2.2.1.length:Int))).2.size:Int).tdiv 8 else-1
structure UnitSz (o:bq):Prop extends ObjSz o where
 fs:∀i,i<o.2.2.1.length→(rd (τ:=aS) o.2.2.1 (i:Int)).2.2.2.size≤256
 ds:∀i,i<o.2.2.2.1.length→(rd (τ:=bF) o.2.2.2.1 (i:Int)).2.size≤64
theorem hJ {α:Type} (f:Nat→α):∀k i j (h:j< (bu f i k).length),(bu f i k)[j]=f (i+j)
 |0,_,_,h=>by simp[bu]at h
 |k+1,i,0,_=>by simp[bu]
 |k+1,i,j+1,h=>by
  have:=hJ f k (i+1) j (by rw[aQ]at h⊢;omega)
  simp only[bu,List.getElem_cons_succ]
  rw[this];congr 1;omega
theorem Lb (n k:Nat) (h:n≤4096):IntKind.wrap .i64 ((n:Int).tdiv (k:Int))=(n:Int).tdiv (k:Int):=by
 rw[Int.tdiv_eq_ediv_of_nonneg (by omega)]
 have h1:0≤(n:Int)/(k:Int):=Int.ediv_nonneg (by omega) (by omega)
 have h2:(n:Int)/(k:Int)≤(n:Int):=Int.ediv_le_self _ (by omega)
 exact bf (by omega) (by omega)
theorem uU (o:bq):(gv o).length=o.2.2.1.length+o.2.2.2.1.length:=by unfold gv;rw[List.length_append,aQ,aQ]
theorem JC (o:bq) (hz:UnitSz o) (u:Nat) (hu:u<o.2.2.1.length+o.2.2.2.1.length):rd (τ:= .int .i64) (gv o) (u:Int)=fB o (u:Int):=by
 unfold fB
 have hl:=uU o
 rw[aV (τ:= .int .i64) (gv o) u (by omega)]
 by_cases h:u<o.2.2.1.length
 ·rw[av ⟨by omega,by omega⟩]
  have:(gv o)[u]'(by omega)=IntKind.wrap .i64 (((rd (τ:=aS) o.2.2.1 ((0+u:Nat):Int)).2.2.2.size:Int).tdiv 4):=by
   unfold gv
   rw[List.getElem_append_left (by rw[aQ];exact h),hJ]
  rw[this,Nat.zero_add]
  exact Lb _ 4 (by have:=hz.fs u h;omega)
 ·rw[ap (by omega),av ⟨by omega,by omega⟩]
  have:(gv o)[u]'(by omega)=IntKind.wrap .i64 (((rd (τ:=bF) o.2.2.2.1 ((0+(u-(bu (fun i=>IntKind.wrap .i64 (((rd (τ:=aS) o.2.2.1 (i:Int)).2.2.2.size:Int).tdiv 4)) 0 o.2.2.1.length).length):Nat):Int)).2.size:Int).tdiv 8):=by
   unfold gv
   rw[List.getElem_append_right (by rw[aQ];omega),hJ]
  rw[aQ]at this
  rw[this,Nat.zero_add,show(u:Int)-(o.2.2.1.length:Int)=((u-o.2.2.1.length:Nat):Int) by omega]
  exact Lb _ 8 (by have:=hz.ds (u-o.2.2.1.length) (by omega);omega)
theorem yO (o:bq) (hz:UnitSz o) (u:Int): -1≤fB o u∧fB o u≤256:=by
 unfold fB
 split
 ·rename_i h
  have:=hz.fs u.toNat (by omega)
  rw[show((u.toNat:Nat):Int)=u by omega]at this
  rw[Int.tdiv_eq_ediv_of_nonneg (by omega)]
  omega
 ·split
  ·rename_i h
   have:=hz.ds (u-(o.2.2.1.length:Int)).toNat (by omega)
   rw[show(((u-(o.2.2.1.length:Int)).toNat:Nat):Int)=u-(o.2.2.1.length:Int) by omega]at this
   rw[Int.tdiv_eq_ediv_of_nonneg (by omega)]
   omega
  ·omega
theorem Fx (o:bq) (hz:UnitSz o) (u:Int) (hu: -9223372036854775808≤u∧u≤9223372036854775807):Um o u=some (fB o u):=by
 rw[Pk]
 have h1:=hz.f
 have h2:=hz.d
 unfold fB
 by_cases h:0≤u∧u< (o.2.2.1.length:Int)
 ·have e1:decide (u≥0)=true:=ab h.1
  have e2:decide (u< (o.2.2.1.length:Int))=true:=ab h.2
  simp only[aA,e1,e2,ae,inL_true h.1 h.2,av h]
  have:=hz.fs u.toNat (by omega)
  rw[show((u.toNat:Nat):Int)=u by omega]at this
  rw[show(4:Int)=((4:Nat):Int) from rfl,Lb _ 4 (by omega)]
 ·have e0:(decide (u≥0)&&decide (u< (o.2.2.1.length:Int)))=false:=by simp;omega
  simp only[aA,ap h]
  generalize decide (u≥0)=b0 at*
  generalize decide (u< (o.2.2.1.length:Int))=b1 at*
  by_cases h3:(o.2.2.1.length:Int)≤u
  ·rw[ab (show u≥(o.2.2.1.length:Int) from h3),bf (n:=u-(o.2.2.1.length:Int)) (by omega) (by omega)]
   by_cases h4:u< (o.2.2.1.length:Int)+(o.2.2.2.1.length:Int)
   ·rw[av ⟨h3,h4⟩,ab (show u-(o.2.2.1.length:Int)< (o.2.2.2.1.length:Int) by omega),inL_true (i:=u-(o.2.2.1.length:Int)) (n:=o.2.2.2.1.length) (by omega) (by omega)]
    have:=hz.ds (u-(o.2.2.1.length:Int)).toNat (by omega)
    rw[show(((u-(o.2.2.1.length:Int)).toNat:Nat):Int)=u-(o.2.2.1.length:Int) by omega]at this
    rw[show(8:Int)=((8:Nat):Int) from rfl,Lb _ 8 (by omega)]
    cases b0<;>cases b1<;>first|rfl|(exact absurd e0 (by decide))
   ·rw[ap (by omega),ak (show¬u-(o.2.2.1.length:Int)< (o.2.2.2.1.length:Int) by omega)]
    cases b0<;>cases b1<;>first|rfl|(exact absurd e0 (by decide))
  ·rw[ak (show¬u≥(o.2.2.1.length:Int) from h3),ap (by omega)]
   cases b0<;>cases b1<;>first|rfl|(exact absurd e0 (by decide))
def qf (n:Int):Prop:= -9223372036854775808≤n∧n≤9223372036854775807
def pn (o:bq):Prop:=∀k,k<o.2.2.2.2.1.length→qf (rd (τ:=cH) o.2.2.2.2.1 (k:Int)).1
def jp (o:bq) (r:LL):Bool:=dp r.1 0 ((o.2.2.1.length:Int)+(o.2.2.2.1.length:Int)-1)&&dp r.2.1 0 (fB o r.1-1)
def mF (o:bq) (k:Nat):Int:=
 if jp o (rd (τ:=cH) o.2.2.2.2.1 (k:Int))=false then 4
 else if(dp (rd (τ:=cH) o.2.2.2.2.1 (k:Int)).2.2.1 1 9&&(decide ((rd (τ:=cH) o.2.2.2.2.1 (k:Int)).2.2.1=9)==decide ((rd (τ:=cH) o.2.2.2.2.1 (k:Int)).1≥(o.2.2.1.length:Int))))=false then 26
 else if cM (rd (τ:=cH) o.2.2.2.2.1 (k:Int)).2.2.2.1=false then 3
 else if dp (rd (τ:=cH) o.2.2.2.2.1 (k:Int)).2.2.2.2 (-2147483648) 2147483647=false then 4
 else if k=0 then 0
 else if nC (rd (τ:=cH) o.2.2.2.2.1 ((k-1:Nat):Int)).1 (rd (τ:=cH) o.2.2.2.2.1 ((k-1:Nat):Int)).2.1 (rd (τ:=cH) o.2.2.2.2.1 (k:Int)).1 (rd (τ:=cH) o.2.2.2.2.1 (k:Int)).2.1=false then 24 else 0
theorem Bp (pu pa u a:Int):(bif decide (u<pu)then some (24:Int)else bif decide (u=pu)then bif decide (a≤pa)then some 24 else some 0 else some 0)=some (if nC pu pa u a=false then 24 else 0):=by
 rcases Int.lt_trichotomy u pu with h|h|h
 ·rw[ab h,show nC pu pa u a=false by unfold nC;rw[ap (show¬pu=u by omega)];exact ak (by omega)];rfl
 ·subst h
  rw[ak (by omega),ab rfl,ac,ae]
  have:nC u pa u a=decide (pa<a):=by unfold nC;rw[av rfl]
  rw[this]
  by_cases h:a≤pa
  ·rw[ab h,ak (show¬pa<a by omega)];rfl
  ·rw[ak h,ab (show pa<a by omega)];rfl
 ·rw[ak (by omega),ak (by omega),show nC pu pa u a=true by unfold nC;rw[ap (show¬pu=u by omega)];exact ab (by omega)];rfl
theorem Br (o:bq) (hz:UnitSz o) (r:LL) {β:Type} (K:Bool→Option β):
  ((ic r.1 0 (IntKind.wrap .i64 (((gv o).length:Int)-1))).bind fun r2=>bif (!r2)then K true else(bif (aG r.1 (gv o).length)then((ic r.2.1 0 (IntKind.wrap .i64 ((rd (τ:= .int .i64) (gv o) r.1)-1))).bind fun r3=>K (!r3))else none))=K (!jp o r):=by
 have h1:=hz.f
 have h2:=hz.d
 rw[uU,bf (n:=((o.2.2.1.length+o.2.2.2.1.length:Nat):Int)-1) (by omega) (by omega),(bW _ _ _).1,(bW _ _ _).1]
 simp only[af]
 unfold jp
 rw[Int.natCast_add]
 by_cases h:0≤r.1∧r.1≤(o.2.2.1.length:Int)+(o.2.2.2.1.length:Int)-1
 ·rw[bI.2 h,inL_true (by omega) (by omega)]
  have hu:=JC o hz r.1.toNat (by omega)
  rw[show((r.1.toNat:Nat):Int)=r.1 by omega]at hu
  have hr:=yO o hz r.1
  simp only[aH,ac,ae,Bool.true_and]
  rw[hu,bf (n:=fB o r.1-1) (by omega) (by omega)]
 ·rw[show dp r.1 0 ((o.2.2.1.length:Int)+(o.2.2.2.1.length:Int)-1)=false by cases h5:dp r.1 0 ((o.2.2.1.length:Int)+(o.2.2.2.1.length:Int)-1);rfl;exact absurd (bI.1 h5) h];rfl
theorem Bs (o:bq) (hz:UnitSz o) (r:LL) (hr:qf r.1) {β:Type} (K:Bool→Option β):
  (bif decide (r.2.1<0)then K true else((Um o r.1).bind fun r1=>K (decide (r.2.1≥r1))))=K (!jp o r):=by
 rw[Fx o hz _ hr]
 simp only[af]
 have h1:=hz.f
 have h2:=hz.d
 have e:(decide (r.2.1<0)||decide (r.2.1≥fB o r.1))= !jp o r:=by
  unfold jp
  rw[Bool.eq_iff_iff]
  simp only[Bool.or_eq_true,aW,Bool.not_eq_true',Bool.and_eq_false_imp,bI]
  constructor
  ·intro h h3
   cases h4:dp r.2.1 0 (fB o r.1-1)with
   |false=>rfl
   |true=>rw[bI]at h4;omega
  ·intro h
   by_cases h3:0≤r.1∧r.1≤(o.2.2.1.length:Int)+(o.2.2.2.1.length:Int)-1
   ·have:=h h3
    by_cases h4:0≤r.2.1∧r.2.1≤fB o r.1-1
    ·rw[bI.2 h4]at this;cases this
    ·omega
   ·have:fB o r.1= -1:=by unfold fB;rw[ap (by omega),ap (by omega)]
    omega
 rw[←e]
 cases decide (r.2.1<0)<;>rfl
theorem Fy (o:bq) (hz:UnitSz o):iO.c o (o.2.2.2.2.1.length:Int) 0=if(bB (mF o) 0 o.2.2.2.2.1.length).2=0 then iO.d o o.2.2.2.2.2 (o.2.2.2.2.2.length:Int) 0 else some (bB (mF o) 0 o.2.2.2.2.1.length):=by
 have h3:=hz.r
 rw[dV (L:=iO.c o (o.2.2.2.2.1.length:Int)) (mF o) o.2.2.2.2.1.length fun i hi=> ?_]
 ·rw[iO.c_eq,ai,ak (aB _),ac]
 ·have e:V4 o (i:Int)=some (mF o i):=by
   rw[Rv,aj,ab hi,ae,Fq o hz.toObjSz]
   simp only[af,aA]
   rw[Br o hz (rd (τ:=cH) o.2.2.2.2.1 (i:Int)) (fun r5=>bif r5 then some 4 else _)]
   unfold mF
   generalize hrel:jp o (rd (τ:=cH) o.2.2.2.2.1 (i:Int))=ra
   rw[(bW _ _ _).1,(bW _ _ _).1,(eE _).1]
   simp only[af]
   cases ra with
   |false=>rfl
   |true=>
    generalize dp (rd (τ:=cH) o.2.2.2.2.1 (i:Int)).2.2.1 1 9=b1
    generalize (decide ((rd (τ:=cH) o.2.2.2.2.1 (i:Int)).2.2.1=9)==decide ((rd (τ:=cH) o.2.2.2.2.1 (i:Int)).1≥(o.2.2.1.length:Int)))=b2
    cases b1 with
    |false=>rfl
    |true=>
     cases b2 with
     |false=>rfl
     |true=>
      generalize cM (rd (τ:=cH) o.2.2.2.2.1 (i:Int)).2.2.2.1=b3
      generalize dp (rd (τ:=cH) o.2.2.2.2.1 (i:Int)).2.2.2.2 (-2147483648) 2147483647=b4
      cases b3 with
      |false=>rfl
      |true=>
       cases b4 with
       |false=>rfl
       |true=>
        by_cases h0:i=0
        ·rw[show decide ((i:Int)>0)=false by simp[h0],av h0];rfl
        ·rw[show decide ((i:Int)>0)=true by simp;omega,ap h0,gh i (by omega) (by omega),aj,ab (show i-1<o.2.2.2.2.1.length by omega),Bp];rfl
  rw[iO.c_eq,ai,ab hi,an i _ hi (by omega),e]
  simp only[af,ae]
  by_cases h:mF o i=0
  ·rw[av h,ab h];rfl
  ·rw[ap h,ak h];rfl
theorem Fz (o:bq) (hz:UnitSz o) (hr:pn o):Gb o=some (bB (mF o) 0 o.2.2.2.2.1.length):=by
 have h3:=hz.r
 rw[Pm,dV (L:=Gb.a o) (mF o) o.2.2.2.2.1.length fun i hi=> ?_]
 ·rw[Gb.a_eq,ai,ak (aB _),ac]
  exact k8 _ _ _
 ·rw[Gb.a_eq,ai,aj,ab hi,ae,ae]
  simp only[aA]
  rw[Bs o hz (rd (τ:=cH) o.2.2.2.2.1 (i:Int)) (hr i hi) (fun r5=>bif r5 then some ((i:Int),4)else _)]
  unfold mF
  generalize hrel:jp o (rd (τ:=cH) o.2.2.2.2.1 (i:Int))=ra
  rw[(bW _ _ _).2,(bW _ _ _).2,(eE _).2,an i _ hi (by omega)]
  simp only[af]
  cases ra with
  |false=>rfl
  |true=>
   generalize dp (rd (τ:=cH) o.2.2.2.2.1 (i:Int)).2.2.1 1 9=b1
   generalize (decide ((rd (τ:=cH) o.2.2.2.2.1 (i:Int)).2.2.1=9)==decide ((rd (τ:=cH) o.2.2.2.2.1 (i:Int)).1≥(o.2.2.1.length:Int)))=b2
   cases b1 with
   |false=>rfl
   |true=>
    cases b2 with
    |false=>rfl
    |true=>
     generalize cM (rd (τ:=cH) o.2.2.2.2.1 (i:Int)).2.2.2.1=b3
     generalize dp (rd (τ:=cH) o.2.2.2.2.1 (i:Int)).2.2.2.2 (-2147483648) 2147483647=b4
     cases b3 with
     |false=>rfl
     |true=>
      cases b4 with
      |false=>rfl
      |true=>
       by_cases h0:i=0
       ·rw[show decide ((i:Int)>0)=false by simp[h0],av h0];rfl
       ·rw[show decide ((i:Int)>0)=true by simp;omega,ap h0,gh i (by omega) (by omega),aj,ab (show i-1<o.2.2.2.2.1.length by omega),uT]
        unfold nC
        simp only[af,ae,aH,ac,Bool.and_self]
        generalize (if(rd (τ:=cH) o.2.2.2.2.1 ((i-1:Nat):Int)).1=(rd (τ:=cH) o.2.2.2.2.1 (i:Int)).1 then decide ((rd (τ:=cH) o.2.2.2.2.1 ((i-1:Nat):Int)).2.1< (rd (τ:=cH) o.2.2.2.2.1 (i:Int)).2.1)else decide ((rd (τ:=cH) o.2.2.2.2.1 ((i-1:Nat):Int)).1< (rd (τ:=cH) o.2.2.2.2.1 (i:Int)).1))=b5
        cases b5<;>rfl
def Bt (o:bq) (k:Nat):Int:=
 if dp (rd (τ:=et) o.2.2.2.2.2 (k:Int)).1 0 255=false then 4 else if k=0 then 0
 else if decide ((rd (τ:=et) o.2.2.2.2.2 (k:Int)).1≤(rd (τ:=et) o.2.2.2.2.2 ((k-1:Nat):Int)).1)=true then 24 else 0
theorem FA (o:bq) (hz:ObjSz o):iO.d o o.2.2.2.2.2 (o.2.2.2.2.2.length:Int) 0=some (bB (Bt o) 0 o.2.2.2.2.2.length):=by
 have h3:=hz.s
 rw[dV (L:=iO.d o o.2.2.2.2.2 (o.2.2.2.2.2.length:Int)) (Bt o) o.2.2.2.2.2.length fun i hi=> ?_]
 ·rw[iO.d_eq,ai,ak (aB _),ac]
  exact k8 _ _ _
 ·rw[iO.d_eq,ai,aj,ab hi,an i _ hi (by omega),(bW _ _ _).1]
  unfold Bt
  simp only[af,ae]
  by_cases h0:i=0
  ·rw[show decide ((i:Int)>0)=false by simp[h0],av h0]
   cases dp (rd (τ:=et) o.2.2.2.2.2 (i:Int)).1 0 255<;>rfl
  ·rw[show decide ((i:Int)>0)=true by simp;omega,ap h0,gh i (by omega) (by omega),aj,ab (show i-1<o.2.2.2.2.2.length by omega)]
   cases dp (rd (τ:=et) o.2.2.2.2.2 (i:Int)).1 0 255<;>cases decide ((rd (τ:=et) o.2.2.2.2.2 (i:Int)).1≤(rd (τ:=et) o.2.2.2.2.2 ((i-1:Nat):Int)).1)<;>rfl
theorem FB (o:bq) (hz:ObjSz o):Gd o=some (bB (Bt o) 0 o.2.2.2.2.2.length):=by
 have h3:=hz.s
 rw[Pn,dV (L:=Gd.a o) (Bt o) o.2.2.2.2.2.length fun i hi=> ?_]
 ·rw[Gd.a_eq,ai,ak (aB _),ac]
  exact k8 _ _ _
 ·rw[Gd.a_eq,ai,aj,ab hi,an i _ hi (by omega),(bW _ _ _).2]
  unfold Bt
  simp only[af,ae]
  by_cases h0:i=0
  ·rw[show decide ((i:Int)>0)=false by simp[h0],av h0]
   cases dp (rd (τ:=et) o.2.2.2.2.2 (i:Int)).1 0 255<;>rfl
  ·rw[show decide ((i:Int)>0)=true by simp;omega,ap h0,gh i (by omega) (by omega),aj,ab (show i-1<o.2.2.2.2.2.length by omega)]
   cases dp (rd (τ:=et) o.2.2.2.2.2 (i:Int)).1 0 255<;>cases decide ((rd (τ:=et) o.2.2.2.2.2 (i:Int)).1≤(rd (τ:=et) o.2.2.2.2.2 ((i-1:Nat):Int)).1)<;>rfl
def yP (o:bq):Int×Int:=
 if cM o.1=false then(0,3)else if dp o.2.1 0 5=false then(0,27)else if o.2.2.1.length=0 then(0,5)
 else if¬(o.2.2.1.length≤4∧o.2.2.2.1.length≤4∧o.2.2.2.2.1.length≤32∧o.2.2.2.2.2.length≤4)then(0,6)
 else if(bB (nz o) 0 o.2.2.1.length).2≠0 then bB (nz o) 0 o.2.2.1.length
 else if(bB (nA o) 0 o.2.2.2.1.length).2≠0 then bB (nA o) 0 o.2.2.2.1.length
 else if(bB (mF o) 0 o.2.2.2.2.1.length).2≠0 then bB (mF o) 0 o.2.2.2.2.1.length
 else bB (Bt o) 0 o.2.2.2.2.2.length
theorem yQ {n:Nat} (h:bx n=true):n≤256:=by
 unfold bx at h
 cases h1:ca n with
 |false=>rw[h1]at h;cases h
 |true=>exact(dw h1).2
theorem jq {o:bq} {i:Nat} (h:nz o i=0):cM (rd (τ:=aS) o.2.2.1 (i:Int)).1=true∧iS ((df o).take i) (rd (τ:=aS) o.2.2.1 (i:Int)).1=false∧dT (rd (τ:=aS) o.2.2.1 (i:Int)).2.2.1=true∧bx (rd (τ:=aS) o.2.2.1 (i:Int)).2.2.2.size=true:=by
 unfold nz at h
 cases h1:cM (rd (τ:=aS) o.2.2.1 (i:Int)).1<;>cases h2:iS ((df o).take i) (rd (τ:=aS) o.2.2.1 (i:Int)).1<;>cases h3:dT (rd (τ:=aS) o.2.2.1 (i:Int)).2.2.1<;>cases h4:bx (rd (τ:=aS) o.2.2.1 (i:Int)).2.2.2.size<;>simp[h1,h2,h3,h4]at h⊢
theorem jr {o:bq} {i:Nat} (h:nA o i=0):cM (rd (τ:=bF) o.2.2.2.1 (i:Int)).1=true∧iS ((df o).take (o.2.2.1.length+i)) (rd (τ:=bF) o.2.2.2.1 (i:Int)).1=false∧sK (rd (τ:=bF) o.2.2.2.1 (i:Int)).2.size=true:=by
 unfold nA at h
 cases h1:cM (rd (τ:=bF) o.2.2.2.1 (i:Int)).1<;>cases h2:iS ((df o).take (o.2.2.1.length+i)) (rd (τ:=bF) o.2.2.2.1 (i:Int)).1<;>cases h4:sK (rd (τ:=bF) o.2.2.2.1 (i:Int)).2.size<;>simp[h1,h2,h4]at h⊢
theorem po {n:Nat} (h:sK n=true):8≤n∧n≤64∧n%8=0:=by
 unfold sK at h
 rw[az,bI,aW,Int.tmod_eq_emod_of_nonneg (by omega)]at h
 omega
theorem uV {o:bq} (hz:ObjSz o) (h1:(bB (nz o) 0 o.2.2.1.length).2=0) (h2:(bB (nA o) 0 o.2.2.2.1.length).2=0):UnitSz o:=
 ⟨hz,fun i hi=>yQ (jq ((dW _ _ _).1 h1 i (Nat.zero_le _) (by omega))).2.2.2,fun i hi=>(po (jr ((dW _ _ _).1 h2 i (Nat.zero_le _) (by omega))).2.2).2.1⟩
theorem uW (o:bq) (hr:pn o):iO o=some (yP o)∧VE o=some (yP o):=by
 rw[Rw,Po,(eE _).1,(eE _).2,(bW _ _ _).1,(bW _ _ _).2]
 unfold yP
 simp only[af,aA]
 cases cM o.1 with
 |false=>exact⟨rfl,rfl⟩
 |true=>
  cases dp o.2.1 0 5 with
  |false=>exact⟨rfl,rfl⟩
  |true=>
   by_cases h0:o.2.2.1.length=0
   ·rw[av h0,ab (show(o.2.2.1.length:Int)=0 by omega)];exact⟨rfl,rfl⟩
   rw[ap h0,ak (show¬(o.2.2.1.length:Int)=0 by omega)]
   rcases Classical.em (o.2.2.1.length≤4∧o.2.2.2.1.length≤4∧o.2.2.2.2.1.length≤32∧o.2.2.2.2.2.length≤4)with hz|hz
   ·rw[ap (not_not_intro hz),ak (show¬(o.2.2.1.length:Int)>4 by omega),ak (show¬(o.2.2.2.1.length:Int)>4 by omega),ak (show¬(o.2.2.2.2.1.length:Int)>32 by omega),ak (show¬(o.2.2.2.2.2.length:Int)>4 by omega)]
    have hz':ObjSz o:=⟨hz.1,hz.2.1,hz.2.2.1,hz.2.2.2⟩
    simp only[aH,ac]
    rw[Ft o hz',Fv o hz']
    simp only[af]
    by_cases h1:(bB (nz o) 0 o.2.2.1.length).2=0
    ·rw[av h1,ap (not_not_intro h1),ab h1,Fu o hz',Fw o hz']
     simp only[af,aH,ac]
     by_cases h2:(bB (nA o) 0 o.2.2.2.1.length).2=0
     ·have hu:=uV hz' h1 h2
      rw[av h2,ap (not_not_intro h2),ab h2,Fy o hu,Fz o hu hr]
      simp only[af,aH,ac]
      by_cases h3:(bB (mF o) 0 o.2.2.2.2.1.length).2=0
      ·rw[av h3,ap (not_not_intro h3),ab h3,FA o hz',FB o hz'];exact⟨rfl,rfl⟩
      ·rw[ap h3,av h3,ak h3];exact⟨rfl,rfl⟩
     ·rw[ap h2,av h2,ak h2];exact⟨rfl,rfl⟩
    ·rw[ap h1,av h1,ak h1];exact⟨rfl,rfl⟩
   ·rw[av hz]
    have e:(decide ((o.2.2.1.length:Int)>4)||decide ((o.2.2.2.1.length:Int)>4)||decide ((o.2.2.2.2.1.length:Int)>32)||decide ((o.2.2.2.2.2.length:Int)>4))=true:=by simp;omega
    generalize decide ((o.2.2.1.length:Int)>4)=b1 at*
    generalize decide ((o.2.2.2.1.length:Int)>4)=b2 at*
    generalize decide ((o.2.2.2.2.1.length:Int)>32)=b3 at*
    generalize decide ((o.2.2.2.2.2.length:Int)>4)=b4 at*
    cases b1<;>cases b2<;>cases b3<;>cases b4<;>first|exact⟨rfl,rfl⟩|(exact absurd e (by decide))
def lD (o:bq):Bool:=decide ((yP o).2=0)
theorem hY (o:bq) (hr:pn o):Sl o=some (lD o)∧Ts o=some (lD o):=by
 rw[Rx,Pp,(uW o hr).1,(uW o hr).2];exact⟨rfl,rfl⟩
structure eG (o:bq):Prop extends UnitSz o where
 depth:0≤o.2.1∧o.2.1≤5
 pos:0<o.2.2.1.length
 fun_:∀i,i<o.2.2.1.length→nz o i=0
 dat:∀i,i<o.2.2.2.1.length→nA o i=0
 rel:∀i,i<o.2.2.2.2.1.length→mF o i=0
theorem hZ {o:bq} (h:lD o=true):eG o:=by
 unfold lD at h
 rw[aW]at h
 unfold yP at h
 split at h
 ·cases h
 split at h
 ·cases h
 rename_i hn hd
 split at h
 ·cases h
 split at h
 ·cases h
 rename_i h0 hz
 have hz:=Classical.not_not.1 hz
 split at h
 ·rename_i h1;exact absurd h h1
 split at h
 ·rename_i h2;exact absurd h h2
 split at h
 ·rename_i h3;exact absurd h h3
 rename_i h1 h2 h3
 have h1:=Classical.not_not.1 h1
 have h2:=Classical.not_not.1 h2
 have h3:=Classical.not_not.1 h3
 have hz':ObjSz o:=⟨hz.1,hz.2.1,hz.2.2.1,hz.2.2.2⟩
 have hd:dp o.2.1 0 5=true:=by cases h4:dp o.2.1 0 5;exact absurd h4 hd;rfl
 exact⟨uV hz' h1 h2,bI.1 hd,by omega,fun i hi=>(dW _ _ _).1 h1 i (Nat.zero_le _) (by omega),fun i hi=>(dW _ _ _).1 h2 i (Nat.zero_le _) (by omega),fun i hi=>(dW _ _ _).1 h3 i (Nat.zero_le _) (by omega)⟩
theorem JD (X:Nat) (h:X<2^64):X&&&(2^64-1-4095)=X/4096*4096:=by
 have e:(2^64-1-4095:Nat)=(2^52-1)*2^12:=by decide
 have e2:X/4096*4096=(X/2^12)*2^12:=by rfl
 rw[e,e2]
 apply Nat.eq_of_testBit_eq
 intro i
 rw[Nat.testBit_and,Nat.testBit_mul_two_pow,Nat.testBit_mul_two_pow,Nat.testBit_two_pow_sub_one,Nat.testBit_div_two_pow]
 by_cases h1:12≤i
 ·rw[show i-12+12=i by omega]
  by_cases h2:i<64
  ·simp[h1];omega
  ·have:X.testBit i=false:=Nat.testBit_lt_two_pow (Nat.lt_of_lt_of_le h (Nat.pow_le_pow_right (by decide) (by omega)))
   rw[this];simp
 ·simp[h1]
def wi (v:Int):Int:=(v+2048)-(v+2048)%4096
def Lc (v:Int):Prop:= -1152921504606846976≤v∧v≤1152921504606846976
theorem oB (v:Int) (h:Lc v):Z3 v=some (wi v):=by
 obtain⟨h1,h2⟩:=h
 rw[SB,bf (n:=v+2048) (by omega) (by omega)]
 congr 1
 unfold vu
 have e1:(BitVec.ofInt IntKind.i64.bits (v+2048)&&& ~~~BitVec.ofInt IntKind.i64.bits 4095).toNat=(BitVec.ofInt IntKind.i64.bits (v+2048)).toNat/4096*4096:=by
  rw[BitVec.toNat_and,BitVec.toNat_not]
  have:(BitVec.ofInt IntKind.i64.bits (4095:Int)).toNat=4095:=by decide
  rw[this]
  exact JD _ (BitVec.isLt _)
 rw[e1]
 have e2:=A0 (v+2048)
 generalize (BitVec.ofInt IntKind.i64.bits (v+2048)).toNat=X at*
 unfold wi
 have:(((X/4096*4096:Nat)):Int)=(v+2048)%18446744073709551616/4096*4096:=by omega
 rw[this]
 refine kV (if v+2048<0 then 1 else 0) ?_ (by omega) (by omega)
 split<;>omega
theorem R5 (v:Int):cz v 12=v-wi v:=by
 unfold cz wi
 have e1:(2:Int)^12=4096:=by decide
 have e2:(2:Int)^(12-1)=2048:=by decide
 rw[e1,e2]
 split<;>omega
theorem uX (v:Int) (h:Lc v):Z4 v=some (v-wi v):=by
 rw[SC,oB v h]
 simp only[af]
 rw[bf (by have:=h.1;unfold wi;omega) (by unfold wi;omega)]
theorem wg (v:Int) (h:Lc v):Si v=some (v-wi v):=by
 obtain⟨h1,h2⟩:=h
 rw[Py,fZ v 12 (by decide) (by decide) (by omega) (by omega)]
 simp only[af]
 rw[show(12:Int).toNat=12 from rfl,R5]
theorem yR (v:Int) (h:Lc v):Un v=some (wi v):=by
 rw[Pz,wg v h]
 simp only[af]
 have:v-(v-wi v)=wi v:=by omega
 rw[this,bf (by have:=h.1;unfold wi;omega) (by have:=h.2;unfold wi;omega)]
theorem FC (f i:Int) (hf:1≤f∧f≤9):Z7 f i=some (jP f i):=by
 rw[SF]
 have t1:decide (i.tmod 4096=0)=decide (i%4096=0):=by
  congr 1;exact propext ⟨fun h=>by rw[←Int.dvd_iff_tmod_eq_zero]at h;omega,fun h=>by rw[←Int.dvd_iff_tmod_eq_zero];omega⟩
 have t2:decide (i.tmod 2=0)=decide (i%2=0):=by
  congr 1;exact propext ⟨fun h=>by rw[←Int.dvd_iff_tmod_eq_zero]at h;omega,fun h=>by rw[←Int.dvd_iff_tmod_eq_zero];omega⟩
 rw[t1,t2]
 simp only[cL,af,aA]
 rcases ga hf with rfl|rfl|rfl|rfl|rfl|rfl|rfl|rfl|rfl
 all_goals simp[jP,eB]
 all_goals (try (split<;>simp_all))
 all_goals (try (intro q1 q2;omega))
def yS (x:ig) (k:Int):Bool:=
 if k=1 then decide (x.1=1)else if k=2∨k=5 then decide ((bN x.1).1=3)&& !decide (x.1=4)else if k=3∨k=6 then decide ((bN x.1).1=5)
 else if k=4 then decide (x.1=2)else if k=7 then decide (x.1=3)else decide ((bN x.1).1=4)
def iT (k v p:Int):Int:=
 if k=1 then wi v else if k=2∨k=3 then v-wi v else if k=4 then wi (v-p)else if k=5∨k=6 then v-p+4-wi (v-p+4)else v-p
theorem Bu (n:Int) (h:1≤n) (h':n≤64):decide ((bN n).1=5)=(decide (18≤n)&&decide (n≤21)):=by
 obtain⟨k,rfl⟩:=nj (n:=n) (by omega) h'
 revert k;decide
theorem JE (x:ig) (h:1≤x.1) (h':x.1≤64):Z5 x=some (decide ((bN x.1).1=3)&& !decide (x.1=4)):=by
 rw[SD,mC _ (by omega) h']
 simp only[af]
 cases decide ((bN x.1).1=3)<;>rfl
theorem Bv {k:Int} (h:1≤k∧k≤8):k=1∨k=2∨k=3∨k=4∨k=5∨k=6∨k=7∨k=8:=by omega
def LM (v:Int):Prop:= -1099511627776≤v∧v≤1099511627776
theorem yT (x:ig) (h:1≤x.1) (h':x.1≤64) (k v p:Int) (hk:1≤k∧k≤8) (hv:LM v) (hp:LM p):Z6 x k v p=some (iT k v p,yS x k):=by
 have hb:=pi x.1 h h'
 have hs:=Bu x.1 h h'
 rw[SE,JE x h h',ow,sw,←hb,←hs]
 obtain⟨v1,v2⟩:=hv
 obtain⟨p1,p2⟩:=hp
 rw[bf (n:=v-p) (by omega) (by omega),bf (n:=p-4) (by omega) (by omega),bf (n:=v-(p-4)) (by omega) (by omega),show v-(p-4)=v-p+4 by omega,
  oB v ⟨by omega,by omega⟩,uX v ⟨by omega,by omega⟩,oB (v-p) ⟨by omega,by omega⟩,uX (v-p+4) ⟨by omega,by omega⟩]
 unfold iT yS
 rcases Bv hk with rfl|rfl|rfl|rfl|rfl|rfl|rfl|rfl<;>rfl
theorem JF (x:ig) (h:1≤x.1) (h':x.1≤64) (k:Int) (hk:1≤k∧k≤8):VF x k=some (yS x k):=by
 rw[Px,fJ _ (by omega) h']
 unfold yS
 simp only[af,aA]
 generalize (bN x.1).1=f
 rcases Bv hk with rfl|rfl|rfl|rfl|rfl|rfl|rfl|rfl<;>first|rfl|(simp only[];cases decide (f=3)<;>rfl)
theorem Ld (k v p:Int) (hk:1≤k∧k≤8) (hv:LM v) (hp:LM p):VG k v p=some (iT k v p):=by
 obtain⟨v1,v2⟩:=hv
 obtain⟨p1,p2⟩:=hp
 rw[PA,bf (n:=v-p) (by omega) (by omega),bf (n:=v-p+4) (by omega) (by omega),yR v ⟨by omega,by omega⟩,wg v ⟨by omega,by omega⟩,yR (v-p) ⟨by omega,by omega⟩,wg (v-p+4) ⟨by omega,by omega⟩]
 unfold iT
 rcases Bv hk with rfl|rfl|rfl|rfl|rfl|rfl|rfl|rfl<;>rfl
theorem yU (k v p:Int) (hv:LM v) (hp:LM p):qf (iT k v p):=by
 obtain⟨v1,v2⟩:=hv
 obtain⟨p1,p2⟩:=hp
 unfold iT qf wi
 repeat' split
 all_goals omega
theorem FD {x:ig} {i:Int} (h:dF x=true):dF (x.1,x.2.1,x.2.2.1,x.2.2.2.1,i)=jP (bN x.1).1 i:=by
 unfold dF at h⊢
 simp only[az]at h
 simp only[h.1,Bool.and_self,Bool.true_and]
theorem Lf {i:Int} (h:jP 1 i=true):i%4096=0:=by
 unfold jP at h
 rw[av rfl]at h
 simp only[az,aW]at h
 exact h.2
theorem tG (w k v p:Int) (hw:0≤w∧w<4294967296) (hk:1≤k∧k≤8) (hv:LM v) (hp:LM p):∃r,Z8 w k v p=some r∧VH w k v p=some r:=by
 obtain⟨d,h1,h2,hd⟩:=kX w hw.1 hw.2
 rw[SG,PB,h1,h2]
 simp only[af]
 cases hb:d.2 with
 |false=>exact⟨(0,10),rfl,rfl⟩
 |true=>
  obtain⟨n1,n2,hr,hri⟩:=hd.ins hw.1 hw.2 hb
  rw[yT _ n1 n2 k v p hk hv hp,JF _ n1 n2 k hk,Ld k v p hk hv hp,mC _ (by omega) n2]
  simp only[af,aH,ac]
  cases yS d.1 k with
  |false=>exact⟨(0,26),rfl,rfl⟩
  |true=>
   rw[FC _ _ (gg n1 n2),kW,FD hri]
   simp only[af,aH,ac]
   cases hi:jP (bN d.1.1).1 (iT k v p)with
   |false=>exact⟨(0,25),rfl,rfl⟩
   |true=>
    have hR:gt (d.1.1,d.1.2.1,d.1.2.2.1,d.1.2.2.2.1,iT k v p):=⟨hr.d,hr.a,hr.b,yU k v p hv hp⟩
    rw[eL (d.1.1,d.1.2.1,d.1.2.2.1,d.1.2.2.2.1,iT k v p) n1 n2 hR,gu (d.1.1,d.1.2.1,d.1.2.2.1,d.1.2.2.2.1,iT k v p) n1 n2 hR fun h=>by
     rw[show(bN d.1.1).1=1 from h]at hi;exact Lf hi]
    exact⟨_,rfl,rfl⟩
theorem FE (L:Int→Option Int) (c:Nat→Int) (n:Nat) (hstep:∀i:Nat,i<n→L (i:Int)=if c i=0 then L ((i+1:Nat):Int)else some (c i)):
  ∀k i:Nat,i+k=n→L (i:Int)=if(bB c i k).2=0 then L (n:Int)else some (bB c i k).2:=by
 intro k
 induction k with
 |zero=>
   intro i h;have:i=n:=by omega
   subst this;rfl
 |succ k ih=>
  intro i h
  rw[hstep i (by omega),ih (i+1) (by omega),bB]
  by_cases h:c i=0
  ·rw[av h,av h]
  ·rw[ap h,ap h,ap h]
theorem jW {L:Int→Option Int} (c:Nat→Int) (n:Nat) (hstep:∀i:Nat,i<n→L (i:Int)=if c i=0 then L ((i+1:Nat):Int)else some (c i)):L 0=if(bB c 0 n).2=0 then L (n:Int)else some (bB c 0 n).2:=
 FE L c n hstep n 0 (by omega)
abbrev e7:Type:=List Int×List ByteArray×List Int×List ByteArray
abbrev WU:Type:=e7×List dg×bq
theorem dX (t:List dg) (n:ByteArray):cD t n= -1∨(0≤cD t n∧cD t n< (t.length:Int)):=by
 unfold cD
 rcases cr (fun i=>decide ((rd (τ:=bb) t (i:Int)).1=n)) t.length 0 with⟨h,_⟩|⟨j,h1,_,h3,_⟩
 ·exact .inl h
 ·rw[h1];exact .inr ⟨by omega,by omega⟩
def GE (t:List dg) (o:bq) (i:Nat):Int:=
 if(rd (τ:=aS) o.2.2.1 (i:Int)).2.1=true then(if cD t (rd (τ:=aS) o.2.2.1 (i:Int)).1<0 then 23 else if(rd (τ:=bb) t (cD t (rd (τ:=aS) o.2.2.1 (i:Int)).1)).2.1=1 then 0 else 26)
 else if cD t (rd (τ:=aS) o.2.2.1 (i:Int)).1≥0 then 24 else 0
def LN (t:List dg) (o:bq) (i:Nat):Int:=if cD t (rd (τ:=bF) o.2.2.2.1 (i:Int)).1≥0 then 24 else 0
def ia (t:List dg) (o:bq):Int:=
 if(bB (GE t o) 0 o.2.2.1.length).2=0 then(bB (LN t o) 0 o.2.2.2.1.length).2 else(bB (GE t o) 0 o.2.2.1.length).2
theorem yV (c:Nat→Int) (i k:Nat):(if(bB c i k).2=0 then some (0:Int)else some (bB c i k).2)=some (bB c i k).2:=by
 by_cases h:(bB c i k).2=0
 ·rw[av h,h]
 ·rw[ap h]
theorem Bw (l:e7) (t:List dg) (o:bq) (ht:t.length≤64) (hz:ObjSz o):sR (l,t,o)=some (ia t o):=by
 have h1:=hz.f
 have h2:=hz.d
 rw[RO]
 show sR.a (l,t,o) o.2.2.1 (o.2.2.1.length:Int) 0=_
 rw[jW (L:=sR.a (l,t,o) o.2.2.1 (o.2.2.1.length:Int)) (GE t o) o.2.2.1.length fun i hi=> ?_]
 ·rw[sR.a_eq,ai,ak (aB _),ac]
  show(if _ then sR.b (l,t,o) o.2.2.2.1 (o.2.2.2.1.length:Int) 0 else _)=_
  rw[jW (L:=sR.b (l,t,o) o.2.2.2.1 (o.2.2.2.1.length:Int)) (LN t o) o.2.2.2.1.length fun i hi=> ?_]
  ·rw[sR.b_eq,ai,ak (aB _),ac,yV]
   unfold ia
   split<;>rfl
  ·rw[sR.b_eq,ai,aj,ab hi,an i _ hi (by omega),(dJ t _ (by omega)).1]
   unfold LN
   simp only[ae,af]
   by_cases h:cD t (rd (τ:=bF) o.2.2.2.1 (i:Int)).1≥0
   ·rw[av h,ab h];rfl
   ·rw[ap h,ak h];rfl
 ·rw[sR.a_eq,ai,aj,ab hi,an i _ hi (by omega),(dJ t _ (by omega)).1]
  unfold GE
  simp only[ae,af,aA]
  have hr:=dX t (rd (τ:=aS) o.2.2.1 (i:Int)).1
  generalize cD t (rd (τ:=aS) o.2.2.1 (i:Int)).1=e at*
  cases (rd (τ:=aS) o.2.2.1 (i:Int)).2.1 with
  |false=>
   by_cases h:e≥0
   ·simp only[Bool.false_eq_true,if_false,av h,ab h];rfl
   ·simp only[Bool.false_eq_true,if_false,ap h,ak h];rfl
  |true=>
   rcases hr with h|h
   ·simp only[if_true,av (show e<0 by omega),ab (show e<0 by omega)];rfl
   ·simp only[if_true,ap (show¬e<0 by omega),ak (show¬e<0 by omega),inL_true h.1 h.2]
    by_cases h3:(rd (τ:=bb) t e).2.1=1
    ·simp only[av h3,ab h3];rfl
    ·simp only[ap h3,ak h3];rfl
end
end Go.Proofs.YtpnefldgohbepaaGreat.S
