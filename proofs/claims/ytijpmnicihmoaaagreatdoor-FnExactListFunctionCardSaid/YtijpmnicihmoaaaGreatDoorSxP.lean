import Derived.Test.YtijpmnicihmoaaaGreatDoorSxI
import Derived.IntWalk
import Derived.Lib.AtoiAllCases
import Derived.Lib.IndexBytes
import Derived.Lib.IndexLaws
import Derived.Lib.SplitLaws
namespace Go.Proofs.YtijpmnicihmoaaaGreatDoor.S
open Go.Ps
set_option linter.unusedVariables false
set_option maxRecDepth 100000
theorem aU {n:Int} (h: -9223372036854775808≤n) (h':n≤9223372036854775807):IntKind.wrap .i64 n=n:=IntWalk.i64_in n ⟨h,h'⟩
theorem mz (n:Int):Ra n=Zw n:=by rw[Gs,Q4]
theorem xe (n:Int):RQ n=Zx n:=by rw[Gt,Q5]
theorem CC (t:ByteArray) (ht:t.size≤20):∀(k:Nat) (i:Int),0≤i→t.size≤i.toNat+k→o9.a t i=Zy.a t i:=by
 intro k
 induction k with
 |zero=>
  intro i h0 hk
  have:decide (i< (t.size:Int))=false:=by simp;omega
  rw[o9.a_eq,Zy.a_eq,this];rfl
 |succ k ih=>
  intro i h0 hk
  rw[o9.a_eq,Zy.a_eq,mz,xe]
  by_cases hi:i< (t.size:Int)
  ·rw[aU (n:=i+1) (by omega) (by omega),ih (i+1) (by omega) (by omega)]
  ·rw[show decide (i< (t.size:Int))=false by simp;omega];rfl
theorem Og (t:ByteArray):o9 t=Zy t:=by
 rw[Gu,Q6,zb]
 by_cases h1:(t.size:Int)<1
 ·rw[show decide ((1:Int)≤(t.size:Int))=false by simp;omega,show decide ((t.size:Int)<1)=true by simp;omega];rfl
 ·rw[show decide ((1:Int)≤(t.size:Int))=true by simp;omega,show decide ((t.size:Int)<1)=false by simp;omega]
  by_cases h2:(t.size:Int)>20
  ·rw[show decide ((t.size:Int)>20)=true by simp;omega,show decide ((t.size:Int)≤20)=false by simp;omega];rfl
  ·rw[show decide ((t.size:Int)>20)=false by simp;omega,show decide ((t.size:Int)≤20)=true by simp;omega]
   simp only[ae,ac,af,aM]
   rw[mz,CC t (by omega) t.size 1 (by omega) (by omega)]
theorem xf (t:ByteArray) (i:Int):0≤bt t i∧bt t i≤255:=by
 unfold bt
 have:=(t.data.getD i.toNat 0).toNat_lt
 omega
theorem Gz {n:Int} (h:0≤n) (h':n≤18446744073709551615):IntKind.wrap .u64 n=n:=by
 have:IntKind.wrap .u64 n=n%18446744073709551616:=by simp[IntKind.wrap,IntKind.bits,IntKind.signed]
 rw[this];omega
def sx {α:Type} (x y:Option α):Prop:=∃v,x=some v∧y=some v
theorem sx.mk {α:Type} (v:α):sx (some v) (some v):=⟨v,rfl,rfl⟩
theorem sx.bind {α β:Type} {x y:Option α} {f g:α→Option β} (h:sx x y) (k:∀v,x=some v→sx (f v) (g v)):sx (x.bind f) (y.bind g):=by
 obtain⟨v,h1,h2⟩:=h
 rw[h1,h2];exact k v h1
theorem sx.some {α:Type} {x y:Option α} (e:x=y) (h:∃v,x=some v):sx x y:=by obtain⟨v,h⟩:=h;exact⟨v,h,e▸h⟩
theorem oo (n:Int):∃v,Ra n=some v:=by
 rw[Gs]
 cases decide (n≥97)<;>cases decide (n≤122)<;>cases decide (n≥65)<;>cases decide (n≤90)<;>exact⟨_,rfl⟩
theorem zk (n:Int):∃v,RQ n=some v:=by
 rw[Gt];cases decide (n≥48)<;>exact⟨_,rfl⟩
theorem qD (t:ByteArray) (ht:t.size≤20):∀(k:Nat) (i:Int),0≤i→t.size≤i.toNat+k→∃v,o9.a t i=some v:=by
 intro k
 induction k with
 |zero=>
  intro i h0 hk
  have:decide (i< (t.size:Int))=false:=by simp;omega
  rw[o9.a_eq,this];exact⟨_,rfl⟩
 |succ k ih=>
  intro i h0 hk
  rw[o9.a_eq]
  by_cases hi:i< (t.size:Int)
  ·have e:aA i t.size=true:=by simp[aA];omega
   obtain⟨v1,h1⟩:=oo (bt t i)
   obtain⟨v2,h2⟩:=zk (bt t i)
   obtain⟨v3,h3⟩:=ih (i+1) (by omega) (by omega)
   rw[aU (n:=i+1) (by omega) (by omega),e,h1,h2,h3]
   simp only[ab hi,ae,af]
   cases v1<;>cases v2<;>exact⟨_,rfl⟩
  ·rw[show decide (i< (t.size:Int))=false by simp;omega];exact⟨_,rfl⟩
theorem tF (t:ByteArray):∃v,o9 t=some v:=by
 rw[Gu,zb]
 by_cases h1:(1:Int)≤(t.size:Int)
 ·by_cases h2:(t.size:Int)≤20
  ·obtain⟨v1,e1⟩:=oo (bt t 0)
   obtain⟨v2,e2⟩:=qD t (by omega) t.size 1 (by omega) (by omega)
   have e:aA 0 t.size=true:=by simp[aA];omega
   simp only[ab h1,ab h2,ae,af,aM,ac,e,e1,e2]
   cases v1<;>exact⟨_,rfl⟩
  ·simp only[ab h1,ae,af,am h2,Bool.not_false];exact⟨_,rfl⟩
 ·simp only[am h1,ac,af,Bool.not_false,ae];exact⟨_,rfl⟩
theorem CD (t:ByteArray):sx (o9 t) (Zy t):=sx.some (Og t) (tF t)
theorem d5 {α:Type} (c:Bool) (a b:α):cond c a b=if c=true then a else b:=by cases c<;>rfl
theorem zl (n:Int):∃q:Int,IntKind.wrap .i64 n=n-18446744073709551616*q:=by
 rw[IntKind.wrap_i64];exact⟨(n+9223372036854775808)/18446744073709551616,by omega⟩
theorem zm (x:Int):((BitVec.ofInt IntKind.i64.bits x).toNat:Int)=x%18446744073709551616:=by
 rw[BitVec.toNat_ofInt]
 have hb:((2^IntKind.i64.bits:Nat):Int)=18446744073709551616:=rfl
 rw[hb];omega
theorem xg (x:Int) (c:Nat) (hc:c≤62):x%18446744073709551616%2^c=x%2^c:=by
 apply Int.emod_emod_of_dvd
 exact⟨2^(64-c),by rw[←Int.pow_add,show c+(64-c)=64 by omega];rfl⟩
theorem iS (c:Nat) (hc:c≤62):(1:Int)≤2^c∧(2:Int)^c≤4611686018427387904:=by
 have h1:2^c≤2^62:=Nat.pow_le_pow_right (by decide) hc
 have h2:1≤2^c:=Nat.one_le_two_pow
 have e:((2^c:Nat):Int)=(2:Int)^c:=by simp
 omega
theorem GA (x:Int) (c:Nat) (hc:c≤62):andI .i64 x (2^c-1)=x%2^c:=by
 have hp:=iS c hc
 have e:((2^c:Nat):Int)=(2:Int)^c:=by simp
 unfold andI
 have h1:(BitVec.ofInt IntKind.i64.bits x&&&BitVec.ofInt IntKind.i64.bits ((2:Int)^c-1)).toNat=(BitVec.ofInt IntKind.i64.bits x).toNat%2^c:=by
  rw[BitVec.toNat_and]
  have:(BitVec.ofInt IntKind.i64.bits ((2:Int)^c-1)).toNat=2^c-1:=by
   have:=zm ((2:Int)^c-1);omega
  rw[this,Nat.and_two_pow_sub_one_eq_mod]
 rw[h1]
 have h2:(((BitVec.ofInt IntKind.i64.bits x).toNat%2^c:Nat):Int)=x%2^c:=by
  rw[Int.natCast_emod,zm,e,xg x c hc]
 rw[h2]
 have h3:0≤x%2^c:=Int.emod_nonneg _ (by omega)
 have h4:x%2^c<2^c:=Int.emod_lt_of_pos _ (by omega)
 exact aU (by omega) (by omega)
theorem pf {x:Int} {k:Int} (h:0≤k) (h':k≤64):mq .i64 x k=x/2^k.toNat:=by
 unfold mq
 have hb:IntKind.i64.bits=64:=rfl
 rw[show min k.toNat IntKind.i64.bits=k.toNat by omega,Int.fdiv_eq_ediv_of_nonneg]
 have:=iS
 exact Int.le_of_lt (Int.pow_pos (by decide))
theorem tG {x:Int} {k:Int} (h:0≤k) (h':k≤64):mq .u64 x k=x/2^k.toNat:=by
 unfold mq
 have hb:IntKind.u64.bits=64:=rfl
 rw[show min k.toNat IntKind.u64.bits=k.toNat by omega,Int.fdiv_eq_ediv_of_nonneg]
 exact Int.le_of_lt (Int.pow_pos (by decide))
theorem mA {x:Int} {k:Int} (h:0≤k) (h':k≤64):dc .i64 x k=IntKind.wrap .i64 (x*2^k.toNat):=by
 unfold dc
 have hb:IntKind.i64.bits=64:=rfl
 rw[show min k.toNat IntKind.i64.bits=k.toNat by omega]
theorem fp (v low count:Int) (h:0≤low) (h':low≤64) (hc:0≤count) (hc':count≤62):Gw v low count=some (v/2^low.toNat%2^count.toNat):=by
 rw[M6]
 have hp:=iS count.toNat (by omega)
 rw[show decide (low<0)=false by simp;omega,show decide (count<0)=false by simp;omega,mA hc (by omega),pf h h',Int.one_mul,aU (n:=2^count.toNat) (by omega) (by omega),aU (n:=2^count.toNat-1) (by omega) (by omega),GA _ _ (by omega)]
 rfl
theorem mB (x y k c:Nat) (hy:y<2^c) (h:x/2^k%2^c=0):x|||y*2^k=x+y*2^k:=by
 have hk:0<2^k:=Nat.two_pow_pos k
 have hkc:0<2^(k+c):=Nat.two_pow_pos _
 have e1:x%2^(k+c)<2^k:=by
  rw[Nat.pow_add]
  have:x% (2^k*2^c)=x%2^k+2^k*(x/2^k%2^c):=Nat.mod_mul
  rw[this,h]
  have:=Nat.mod_lt x hk
  omega
 have e2:y*2^k+x%2^(k+c)<2^(k+c):=by
  have:(y+1)*2^k≤2^c*2^k:=Nat.mul_le_mul_right _ (by omega)
  rw[Nat.pow_add,Nat.mul_comm (2^k) (2^c)]
  rw[Nat.pow_add,Nat.mul_comm (2^k) (2^c)]at e1
  rw[Nat.add_mul]at this
  omega
 have hx:x=(x/2^(k+c))<<< (k+c)|||x%2^(k+c):=by
  rw[←Nat.shiftLeft_add_eq_or_of_lt (Nat.mod_lt x hkc),Nat.shiftLeft_eq]
  have:=Nat.div_add_mod x (2^(k+c))
  rw[Nat.mul_comm]at this;exact this.symm
 have h3:x%2^(k+c)|||y*2^k=y*2^k+x%2^(k+c):=by
  rw[Nat.or_comm,←Nat.shiftLeft_eq y k,←Nat.shiftLeft_add_eq_or_of_lt e1,Nat.shiftLeft_eq]
 calc
  x|||y*2^k=(x/2^(k+c))<<< (k+c)||| (x%2^(k+c)|||y*2^k):=by
    conv=>lhs;rw[hx]
    rw[Nat.or_assoc]
  _=(x/2^(k+c))<<< (k+c)+(y*2^k+x%2^(k+c)):=by rw[h3,Nat.shiftLeft_add_eq_or_of_lt e2]
  _=x+y*2^k:=by
    rw[Nat.shiftLeft_eq]
    have:=Nat.div_add_mod x (2^(k+c))
    rw[Nat.mul_comm]at this;omega
theorem bD {x y P Q:Int} (k c:Nat) (hP:P=2^k) (hQ:Q=2^c) (hkc:k+c≤62) (hx:0≤x) (hx':x<4611686018427387904) (hy:0≤y) (hy':y<Q) (h:x/P%Q=0):iC .i64 x (y*P)=x+y*P:=by
 subst hP hQ
 obtain⟨a,rfl⟩:=Int.eq_ofNat_of_zero_le hx
 obtain⟨b,rfl⟩:=Int.eq_ofNat_of_zero_le hy
 have hp:=iS k (by omega)
 have ek:((2^k:Nat):Int)=(2:Int)^k:=by simp
 have ec:((2^c:Nat):Int)=(2:Int)^c:=by simp
 have hb:b<2^c:=by omega
 have hlt:b*2^k<4611686018427387904:=by
  have h1:b*2^k<2^c*2^k:=Nat.mul_lt_mul_of_pos_right hb (Nat.two_pow_pos k)
  rw[←Nat.pow_add]at h1
  have h2:2^(c+k)≤2^62:=Nat.pow_le_pow_right (by decide) (by omega)
  omega
 have h0:a/2^k%2^c=0:=by
  have:((a/2^k%2^c:Nat):Int)=(a:Int)/2^k%2^c:=by
   rw[Int.natCast_emod,Int.natCast_ediv,ek,ec]
  omega
 have em:((b*2^k:Nat):Int)=(b:Int)*2^k:=by rw[Int.natCast_mul,ek]
 unfold iC
 rw[BitVec.toNat_or]
 have f1:(BitVec.ofInt IntKind.i64.bits (a:Int)).toNat=a:=by have:=zm (a:Int);omega
 have f2:(BitVec.ofInt IntKind.i64.bits ((b:Int)*2^k)).toNat=b*2^k:=by have:=zm ((b:Int)*2^k);omega
 rw[f1,f2,mB a b k c hb h0,Int.natCast_add,em]
 exact aU (by omega) (by omega)
theorem hJ (v i:Int) (hv: -9223372036854775808≤v) (hv':v≤9223372036854775807) (h:0≤i) (h':i≤63):ye v i=some (v/2^i.toNat%2):=by
 rw[KO,Gz (n:=i) (by omega) (by omega),show decide (i<0)=false by simp;omega,tG h (by omega)]
 have hu:IntKind.wrap .u64 v=v%18446744073709551616:=by simp[IntKind.wrap,IntKind.bits,IntKind.signed]
 have h0:0≤v%18446744073709551616:=by omega
 have hp:(0:Int)<2^i.toNat:=Int.pow_pos (by decide)
 have hd:0≤v%18446744073709551616/2^i.toNat:=Int.ediv_nonneg h0 (by omega)
 rw[hu,Int.tmod_eq_emod_of_nonneg hd]
 have e:v%18446744073709551616/2^i.toNat%2=v/2^i.toNat%2:=by
  have hpe:(18446744073709551616:Int)=2^i.toNat*(2^(63-i.toNat)*2):=by
   rw[←Int.pow_succ,←Int.pow_add,show i.toNat+(63-i.toNat+1)=64 by omega];rfl
  have h1:v%18446744073709551616=v-2^i.toNat*(2^(63-i.toNat)*2*(v/18446744073709551616)):=by
   rw[Int.emod_def,←Int.mul_assoc,←hpe]
  rw[h1,Int.sub_eq_add_neg,←Int.mul_neg,Int.add_mul_ediv_left _ _ (by omega)]
  rw[Int.mul_comm (2^(63-i.toNat)) 2,Int.mul_assoc,←Int.mul_neg,Int.add_mul_emod_self_left]
 rw[e]
 have:v/2^i.toNat%2=0∨v/2^i.toNat%2=1:=by omega
 rcases this with h|h<;>rw[h]<;>rfl
theorem zn (w low:Int) (hw: -9223372036854775808≤w) (hw':w≤9223372036854775807) (h:0≤low):∀(k:Nat) (x:Int),low+k≤63→k≤62→0≤x→(x+1)*2^k≤4611686018427387904→rR.a w low x ((k:Int)-1)=some (x*2^k+w/2^low.toNat%2^k):=by
 intro k
 induction k with
 |zero=>
  intro x _ _ _ _
  rw[rR.a_eq,show decide (((0:Nat):Int)-1≥0)=false by rfl]
  simp only[ac,Int.pow_zero,Int.emod_one,Int.mul_one,Int.add_zero]
 |succ k ih=>
  intro x h1 h2 h3 h4
  have hpk:=iS k (by omega)
  have hx:2*x+2≤4611686018427387904:=by
   rw[Int.pow_succ]at h4
   have:(x+1)*2≤(x+1)*(2^k*2):=Int.mul_le_mul_of_nonneg_left (by omega) (by omega)
   omega
  have hs:(((k+1:Nat):Int)-1)=(k:Int):=by omega
  rw[hs,rR.a_eq,show decide ((k:Int)≥0)=true by simp,aU (n:=low+k) (by omega) (by omega),hJ w (low+k) hw hw' (by omega) (by omega)]
  have hb:0≤w/2^(low+k).toNat%2∧w/2^(low+k).toNat%2≤1:=by omega
  simp only[ae,af]
  rw[aU (n:=2*x) (by omega) (by omega),aU (n:=2*x+_) (by omega) (by omega),aU (n:=(k:Int)-1) (by omega) (by omega)]
  rw[ih _ (by omega) (by omega) (by omega) (by
   rw[Int.pow_succ,Int.mul_comm (2^k) 2,←Int.mul_assoc]at h4
   exact Int.le_trans (Int.mul_le_mul_of_nonneg_right (by omega) (by omega)) h4)]
  congr 1
  have e1:(low+k).toNat=low.toNat+k:=by omega
  have e2:w/2^low.toNat%2^(k+1)=w/2^low.toNat%2^k+2^k*(w/2^(low.toNat+k)%2):=by
   rw[Int.pow_succ,Int.pow_add,←Int.ediv_ediv_of_nonneg (Int.le_of_lt (Int.pow_pos (by decide)))]
   generalize w/2^low.toNat=z
   have hk:(0:Int)≤2^k:=by omega
   rw[Int.emod_def z (2^k*2),←Int.ediv_ediv_of_nonneg hk,Int.emod_def (z/2^k) 2,Int.emod_def z (2^k),Int.mul_sub]
   rw[Int.mul_assoc (2^k) 2];omega
  rw[e1,e2,Int.add_mul,Int.pow_succ,Int.mul_comm (2^k) 2,←Int.mul_assoc,Int.mul_comm x 2,Int.mul_comm (2^k) (w/2^(low.toNat+k)%2)]
  omega
theorem CE (w low count:Int) (hw: -9223372036854775808≤w) (hw':w≤9223372036854775807) (h:0≤low) (hc:0≤count) (hlc:low+count≤62):rR w low count=some (w/2^low.toNat%2^count.toNat):=by
 have hp:=iS count.toNat (by omega)
 rw[KP,aU (n:=count-1) (by omega) (by omega),show count-1=(count.toNat:Int)-1 by omega,zn w low hw hw' h count.toNat 0 (by omega) (by omega) (by omega) (by omega)]
 rw[Int.zero_mul,Int.zero_add]
theorem kV (a z:Int) (n i:Nat) (h:i<n):(a+2^n*z)/2^i%2=a/2^i%2:=by
 have e:(2:Int)^n=2^i*(2*2^(n-i-1)):=by
  rw[←Int.mul_assoc,←Int.pow_succ,←Int.pow_add,show i+1+(n-i-1)=n by omega]
 have hp:(0:Int)<2^i:=Int.pow_pos (by decide)
 rw[e,Int.mul_assoc,Int.add_mul_ediv_left _ _ (by omega),Int.mul_assoc,Int.add_mul_emod_self_left]
theorem mC (t:Int) (i:Nat):2*(t/2^(i+1))+t/2^i%2=t/2^i:=by
 have hp:(0:Int)≤2^i:=Int.le_of_lt (Int.pow_pos (by decide))
 rw[Int.pow_succ,←Int.ediv_ediv_of_nonneg hp];omega
def dj (w low count v:Int):Int:=w%2^low.toNat+2^low.toNat*(v%2^count.toNat+2^count.toNat*(w/2^(low.toNat+count.toNat)))
theorem ks (w low count v:Int) (h:0≤low) (hc:0≤count) (i:Nat):dj w low count v/2^i%2=if low≤i∧(i:Int)<low+count then v/2^(i-low.toNat)%2 else w/2^i%2:=by
 obtain⟨l,rfl⟩:=Int.eq_ofNat_of_zero_le h
 obtain⟨c,rfl⟩:=Int.eq_ofNat_of_zero_le hc
 have hl:(0:Int)<2^l:=Int.pow_pos (by decide)
 have hcc:(0:Int)<2^c:=Int.pow_pos (by decide)
 simp only[dj,aB]
 by_cases h1:i<l
 ·rw[kV _ _ _ _ h1,ap (by omega)]
  conv=>rhs;rw[←Int.emod_add_mul_ediv w (2^l)]
  rw[kV _ _ _ _ h1]
 ·have e:(2:Int)^i=2^l*2^(i-l):=by rw[←Int.pow_add,show l+(i-l)=i by omega]
  rw[e,←Int.ediv_ediv_of_nonneg (by omega:(0:Int)≤2^l),Int.add_mul_ediv_left _ _ (by omega),Int.ediv_eq_zero_of_lt (Int.emod_nonneg _ (by omega)) (Int.emod_lt_of_pos _ hl),Int.zero_add]
  by_cases h2:i<l+c
  ·rw[au (by omega),kV _ _ _ _ (show i-l<c by omega)]
   conv=>rhs;rw[←Int.emod_add_mul_ediv v (2^c)]
   rw[kV _ _ _ _ (show i-l<c by omega)]
  ·have e2:(2:Int)^(i-l)=2^c*2^(i-l-c):=by rw[←Int.pow_add,show c+(i-l-c)=i-l by omega]
   rw[ap (by omega),e2,←Int.ediv_ediv_of_nonneg (by omega:(0:Int)≤2^c),Int.add_mul_ediv_left _ _ (by omega),Int.ediv_eq_zero_of_lt (Int.emod_nonneg _ (by omega)) (Int.emod_lt_of_pos _ hcc),Int.zero_add,Int.pow_add,←Int.ediv_ediv_of_nonneg (by omega:(0:Int)≤2^l),Int.ediv_ediv_of_nonneg (by omega:(0:Int)≤2^c),←e2,Int.ediv_ediv_of_nonneg (by omega:(0:Int)≤2^l)]
theorem cc (w low count v:Int) (h:0≤low) (hc:0≤count) (hlc:low+count≤32) (hw:0≤w) (hw':w<4294967296):0≤dj w low count v∧dj w low count v<4294967296:=by
 obtain⟨l,rfl⟩:=Int.eq_ofNat_of_zero_le h
 obtain⟨c,rfl⟩:=Int.eq_ofNat_of_zero_le hc
 have hl:(0:Int)<2^l:=Int.pow_pos (by decide)
 have hcc:(0:Int)<2^c:=Int.pow_pos (by decide)
 simp only[dj,aB]
 have a1:=Int.emod_nonneg w (show(2:Int)^l≠0 by omega)
 have a2:=Int.emod_lt_of_pos w hl
 have b1:=Int.emod_nonneg v (show(2:Int)^c≠0 by omega)
 have b2:=Int.emod_lt_of_pos v hcc
 have hlcp:(0:Int)<2^(l+c):=Int.pow_pos (by decide)
 have c1:0≤w/2^(l+c):=Int.ediv_nonneg hw (by omega)
 have c2:w/2^(l+c)+1≤2^(32-l-c):=by
  have:w/2^(l+c)<2^(32-l-c):=by
   apply Int.ediv_lt_of_lt_mul hlcp
   rw[←Int.pow_add,show 32-l-c+(l+c)=32 by omega];exact hw'
  omega
 generalize w/2^(l+c)=z at*
 generalize w%2^l=x at*
 generalize v%2^c=y at*
 have d1:0≤2^c*z:=Int.mul_nonneg (by omega) c1
 have d2:2^c*z+2^c≤2^c*2^(32-l-c):=by
  have:=Int.mul_le_mul_of_nonneg_left c2 (show(0:Int)≤2^c by omega)
  rw[Int.mul_add,Int.mul_one]at this;exact this
 rw[←Int.pow_add,show c+(32-l-c)=32-l by omega]at d2
 have d3:0≤2^l*(y+2^c*z):=Int.mul_nonneg (by omega) (by omega)
 have d4:2^l*(y+2^c*z)+2^l≤2^l*2^(32-l):=by
  have:=Int.mul_le_mul_of_nonneg_left (show y+2^c*z+1≤2^(32-l) by omega) (show(0:Int)≤2^l by omega)
  rw[Int.mul_add (2^l) _ 1,Int.mul_one]at this;exact this
 rw[←Int.pow_add,show l+(32-l)=32 by omega,show(2:Int)^32=4294967296 by rfl]at d4
 omega
theorem GB (w low count v:Int) (h:0≤low) (hc:0≤count) (hlc:low+count≤32) (hw:0≤w) (hw':w<4294967296) (hv: -9223372036854775808≤v) (hv':v≤9223372036854775807):
  ∀(k:Nat),k≤32→gH.a w low count v (dj w low count v/2^k) ((k:Int)-1)=some (dj w low count v):=by
 have hr:=cc w low count v h hc hlc hw hw'
 intro k
 induction k with
 |zero=>
  intro _
  rw[gH.a_eq,show decide (((0:Nat):Int)-1≥0)=false by rfl]
  simp only[ac,Int.pow_zero,Int.ediv_one]
 |succ k ih=>
  intro hk
  have ih:=ih (by omega)
  have hb:=ks w low count v h hc k
  have hst:=mC (dj w low count v) k
  generalize ht:dj w low count v=T at*
  have hp:(0:Int)<2^(k+1):=Int.pow_pos (by decide)
  have q0:0≤T/2^(k+1):=Int.ediv_nonneg hr.1 (by omega)
  have q1:T/2^(k+1)≤T:=Int.ediv_le_self _ hr.1
  have hs:(((k+1:Nat):Int)-1)=(k:Int):=by omega
  rw[hs,gH.a_eq,show decide ((k:Int)≥0)=true by simp,hJ w k (by omega) (by omega) (by omega) (by omega),aU (n:=low+count) (by omega) (by omega),aU (n:=2*(T/2^(k+1))) (by omega) (by omega),aU (n:=(k:Int)-1) (by omega) (by omega)]
  simp only[ae,af,aB]
  by_cases h1:low≤(k:Int)
  ·by_cases h2:(k:Int)<low+count
   ·rw[show decide ((k:Int)≥low)=true by simp;omega,show decide ((k:Int)<low+count)=true by simp;omega,aU (n:=(k:Int)-low) (by omega) (by omega),hJ v _ hv hv' (by omega) (by omega)]
    rw[au ⟨h1,h2⟩]at hb
    simp only[ae,af]
    rw[show((k:Int)-low).toNat=k-low.toNat by omega,←hb,aU (by omega) (by omega),hst,ih]
   ·rw[show decide ((k:Int)≥low)=true by simp;omega,show decide ((k:Int)<low+count)=false by simp;omega]
    rw[ap (by omega)]at hb
    simp only[ae,ac]
    rw[←hb,aU (by omega) (by omega),hst,ih]
  ·rw[show decide ((k:Int)≥low)=false by simp;omega]
   rw[ap (by omega)]at hb
   simp only[ac]
   rw[←hb,aU (by omega) (by omega),hst,ih]
theorem cP (w low count v:Int) (h:0≤low) (hc:0≤count) (hlc:low+count≤32) (hw:0≤w) (hw':w<4294967296) (hv: -9223372036854775808≤v) (hv':v≤9223372036854775807):
  gH w low count v=some (dj w low count v):=by
 have hr:=cc w low count v h hc hlc hw hw'
 have:=GB w low count v h hc hlc hw hw' hv hv' 32 (by omega)
 rw[KV]
 rw[Int.ediv_eq_zero_of_lt hr.1 (by rw[show(2:Int)^32=4294967296 by rfl];exact hr.2)]at this
 exact this
def cE (v:Int) (c:Nat):Int:=if v%2^c<2^(c-1)then v%2^c else v%2^c-2^c
theorem xh (c:Nat) (h:1≤c):(2:Int)^c=2*2^(c-1):=by
 obtain⟨d,rfl⟩:=Nat.exists_eq_add_of_le h
 rw[Nat.add_comm,Int.pow_succ,Int.mul_comm];rfl
theorem tH (v:Int) (c:Nat):∃q,cE v c=v+2^c*q:=by
 unfold cE
 rw[Int.emod_def]
 split
 ·exact⟨-(v/2^c),by rw[Int.mul_neg];omega⟩
 ·exact⟨-(v/2^c)-1,by rw[Int.mul_sub,Int.mul_neg];omega⟩
theorem kt (v:Int) (c:Nat) (h:1≤c): -2^(c-1)≤cE v c∧cE v c<2^(c-1):=by
 have hp:=xh c h
 have hp1:(0:Int)<2^(c-1):=Int.pow_pos (by decide)
 have a1:=Int.emod_nonneg v (show(2:Int)^c≠0 by omega)
 have a2:=Int.emod_lt_of_pos v (show(0:Int)<2^c by omega)
 unfold cE
 split<;>omega
theorem Km (c:Nat) (h:c≤63):(2:Int)^c≤9223372036854775808:=by
 have h1:2^c≤2^63:=Nat.pow_le_pow_right (by decide) h
 have e:((2^c:Nat):Int)=(2:Int)^c:=by simp
 omega
theorem ku {n s:Int} (q:Int) (h:n=s+18446744073709551616*q) (h1: -9223372036854775808≤s) (h2:s≤9223372036854775807):IntKind.wrap .i64 n=s:=by
 rw[IntKind.wrap_i64];omega
theorem zo (v count:Int) (h:1≤count) (h':count≤64):RU v count=some (cE v count.toNat):=by
 rw[M9,aU (n:=64-count) (by omega) (by omega),show decide (64-count<0)=false by simp;omega,mA (by omega) (by omega),pf (by omega) (by omega)]
 simp only[ac]
 congr 1
 obtain⟨c,rfl⟩:=Int.eq_ofNat_of_zero_le (show 0≤count by omega)
 rw[show((64:Int)-(c:Int)).toNat=64-c by omega,aB]
 have hp1:(0:Int)<2^(c-1):=Int.pow_pos (by decide)
 have hk:(0:Int)<2^(64-c):=Int.pow_pos (by decide)
 obtain⟨q,hq⟩:=tH v c
 have hr:=kt v c (by omega)
 have e64:(2:Int)^c*2^(64-c)=18446744073709551616:=by rw[←Int.pow_add,show c+(64-c)=64 by omega];rfl
 have e63:(2:Int)^(c-1)*2^(64-c)=9223372036854775808:=by rw[←Int.pow_add,show c-1+(64-c)=63 by omega];rfl
 have hv:v*2^(64-c)=cE v c*2^(64-c)+18446744073709551616*(-q):=by
  rw[hq,←e64,Int.add_mul,Int.mul_neg,Int.mul_assoc,Int.mul_comm q,←Int.mul_assoc];omega
 have l1: -9223372036854775808≤cE v c*2^(64-c):=by
  have:=Int.mul_le_mul_of_nonneg_right hr.1 (show(0:Int)≤2^(64-c) by omega)
  rw[Int.neg_mul,e63]at this;exact this
 have l2:cE v c*2^(64-c)≤9223372036854775807:=by
  have:=Int.mul_lt_mul_of_pos_right hr.2 hk
  rw[e63]at this;omega
 rw[ku (-q) hv l1 l2,Int.mul_ediv_cancel _ (by omega)]
theorem GC (v:Int) (c i:Nat) (h:1≤c):cE v c/2^i%2=v/2^(min i (c-1))%2:=by
 obtain⟨q,hq⟩:=tH v c
 by_cases h1:i<c
 ·rw[show min i (c-1)=i by omega,hq,kV _ _ _ _ h1]
 ·have hr:=kt v c h
  rw[show min i (c-1)=c-1 by omega]
  have e:v/2^(c-1)%2=cE v c/2^(c-1)%2:=by rw[hq,kV _ _ _ _ (by omega)]
  rw[e]
  have hp1:(0:Int)<2^(c-1):=Int.pow_pos (by decide)
  have hm:(2:Int)^(c-1)≤2^i:=by
   have h9:2^(c-1)≤2^i:=Nat.pow_le_pow_right (by decide) (show c-1≤i by omega)
   have e1:((2^(c-1):Nat):Int)=(2:Int)^(c-1):=by simp
   have e2:((2^i:Nat):Int)=(2:Int)^i:=by simp
   omega
  by_cases hs:0≤cE v c
  ·rw[Int.ediv_eq_zero_of_lt hs (by omega),Int.ediv_eq_zero_of_lt hs hr.2]
  ·have f:∀P:Int,0<P→ -P≤cE v c→cE v c/P= -1:=by
    intro P hP hle
    have:cE v c/P<0:=Int.ediv_neg_of_neg_of_pos (by omega) hP
    have h2: -1≤cE v c/P:=Int.le_ediv_of_mul_le hP (by omega)
    omega
   rw[f _ (by omega) (by omega),f _ hp1 hr.1]
theorem CF (v:Int) (c:Nat) (h:1≤c) (h':c≤64) (hv: -9223372036854775808≤v) (hv':v≤9223372036854775807):
  ∀k:Nat,k≤64→yf.a v c (cE v c/2^k%2^(64-k)) ((k:Int)-1)=some (cE v c):=by
 have hr:=kt v c h
 have hp:=Km (c-1) (by omega)
 intro k
 induction k with
 |zero=>
  intro _
  rw[yf.a_eq,show decide (((0:Nat):Int)-1≥0)=false by rfl]
  simp only[ac,Int.pow_zero,Int.ediv_one]
  congr 1
  rw[show(2:Int)^(64-0)=18446744073709551616 by rfl,Int.emod_def]
  exact ku (-(cE v c/18446744073709551616)) (by omega) (by omega) (by omega)
 |succ k ih=>
  intro hk
  have ih:=ih (by omega)
  have hs:(((k+1:Nat):Int)-1)=(k:Int):=by omega
  have hmin:(if IntKind.wrap .i64 ((c:Int)-1)< (k:Int)then IntKind.wrap .i64 ((c:Int)-1)else(k:Int))=((min k (c-1):Nat):Int):=by
   rw[aU (n:=(c:Int)-1) (by omega) (by omega)];split<;>omega
  rw[hs,yf.a_eq,show decide ((k:Int)≥0)=true by simp,hmin,hJ v _ hv hv' (by omega) (by omega),aU (n:=(k:Int)-1) (by omega) (by omega)]
  simp only[ae,af,aB]
  rw[←GC v c k h]
  have hst:=mC (cE v c) k
  have e:(2:Int)^(64-k)=2*2^(64-(k+1)):=by
   have:=xh (64-k) (by omega);rw[this,show 64-k-1=64-(k+1) by omega]
  have hq:(0:Int)<2^(64-(k+1)):=Int.pow_pos (by decide)
  have hq':=Km (64-(k+1)) (by omega)
  generalize cE v c/2^(k+1)=z at*
  generalize cE v c/2^k=y at*
  rw[e]at ih
  have z1:=Int.emod_nonneg z (show(2:Int)^(64-(k+1))≠0 by omega)
  have z2:=Int.emod_lt_of_pos z hq
  have ey:2*(z%2^(64-(k+1)))+y%2=y% (2*2^(64-(k+1))):=by
   rw[Int.emod_def z,Int.emod_def y (2*_),←Int.ediv_ediv_of_nonneg (by decide),show y/2=z by omega,Int.mul_assoc];omega
  rw[Gz (n:=2*_) (by omega) (by omega),Gz (n:=y%2) (by omega) (by omega),Gz (n:=2*_+y%2) (by omega) (by omega),ey,ih]
theorem iT (v count:Int) (h:1≤count) (h':count≤64) (hv: -9223372036854775808≤v) (hv':v≤9223372036854775807):yf v count=some (cE v count.toNat):=by
 obtain⟨c,rfl⟩:=Int.eq_ofNat_of_zero_le (show 0≤count by omega)
 have:=CF v c (by omega) (by omega) hv hv' 64 (by omega)
 rw[show(64-64:Nat)=0 by rfl,Int.pow_zero,Int.emod_one]at this
 rw[KQ,aB]
 exact this
def Tv:List (Int×Int×Int×Int):=[(0,0,0,0),(1,55,0,0),(1,23,0,0),(2,111,0,0),(3,103,0,0),(4,99,0,0),(4,99,1,0),(4,99,4,0),(4,99,5,0),(4,99,6,0),(4,99,7,0),(3,3,0,0),(3,3,1,0),(3,3,2,0),(3,3,3,0),(3,3,4,0),(3,3,5,0),(3,3,6,0),(5,35,0,0),(5,35,1,0),(5,35,2,0),(5,35,3,0),(3,19,0,0),(3,19,2,0),(3,19,3,0),(3,19,4,0),(3,19,6,0),(3,19,7,0),(6,19,1,0),(6,19,5,0),(6,19,5,32),(8,51,0,0),(8,51,0,32),(8,51,1,0),(8,51,2,0),(8,51,3,0),(8,51,4,0),(8,51,5,0),(8,51,5,32),(8,51,6,0),(8,51,7,0),(3,27,0,0),(7,27,1,0),(7,27,5,0),(7,27,5,32),(8,59,0,0),(8,59,0,32),(8,59,1,0),(8,59,5,0),(8,59,5,32),(8,51,0,1),(8,51,1,1),(8,51,2,1),(8,51,3,1),(8,51,4,1),(8,51,5,1),(8,51,6,1),(8,51,7,1),(8,59,0,1),(8,59,4,1),(8,59,5,1),(8,59,6,1),(8,59,7,1),(9,115,0,0),(9,115,0,1)]
def bE (n:Int):Int×Int×Int×Int:=Tv.getD n.toNat (0,0,0,0)
theorem mD {n:Int} (h:0≤n) (h':n≤64):∃k:Fin 65,n=(k.val:Int):=⟨⟨n.toNat,by omega⟩,by simp;omega⟩
theorem jp (n:Int) (h:0≤n) (h':n≤64):Qg n=some (bE n):=by
 rw[Nb,zd]
 simp only[af]
 obtain⟨k,rfl⟩:=mD h h'
 clear h h';revert k
 decide+kernel
theorem ez (n:Int) (h:0≤n) (h':n≤64):I9 n=some (bE n):=by
 rw[KN]
 obtain⟨k,rfl⟩:=mD h h'
 clear h h';revert k
 decide+kernel
def tI (s:Int×Int×Int×Int):Bool:=decide (1≤s.1)&&decide (s.1≤9)&&decide (0≤s.2.1)&&decide (s.2.1<128)&&decide (0≤s.2.2.1)&&decide (s.2.2.1<8)&&decide (0≤s.2.2.2)&&decide (s.2.2.2<64)&&(!decide (s.1=6)||decide (s.2.2.2%2=0))&&(!decide (s.1=9)|| (decide (s.2.2.2<2)&&decide (s.2.2.1=0)))
theorem ip (n:Int) (h:1≤n) (h':n≤64):tI (bE n)=true:=by
 obtain⟨k,rfl⟩:=mD (show 0≤n by omega) h'
 clear h';revert k
 decide+kernel
theorem Oh {x y:Int} (hx:0≤x) (hx':x<4611686018427387904) (hy:0≤y) (hy':y<2) (h:x/128%2=0):iC .i64 x (y*128)=x+y*128:=bD 7 1 rfl rfl (by decide) hx hx' hy hy' h
theorem lV {x y:Int} (hx:0≤x) (hx':x<4611686018427387904) (hy:0≤y) (hy':y<32) (h:x/128%32=0):iC .i64 x (y*128)=x+y*128:=bD 7 5 rfl rfl (by decide) hx hx' hy hy' h
theorem Oi {x y:Int} (hx:0≤x) (hx':x<4611686018427387904) (hy:0≤y) (hy':y<16) (h:x/256%16=0):iC .i64 x (y*256)=x+y*256:=bD 8 4 rfl rfl (by decide) hx hx' hy hy' h
theorem kW {x y:Int} (hx:0≤x) (hx':x<4611686018427387904) (hy:0≤y) (hy':y<8) (h:x/4096%8=0):iC .i64 x (y*4096)=x+y*4096:=bD 12 3 rfl rfl (by decide) hx hx' hy hy' h
theorem Be {x y:Int} (hx:0≤x) (hx':x<4611686018427387904) (hy:0≤y) (hy':y<256) (h:x/4096%256=0):iC .i64 x (y*4096)=x+y*4096:=bD 12 8 rfl rfl (by decide) hx hx' hy hy' h
theorem xi {x y:Int} (hx:0≤x) (hx':x<4611686018427387904) (hy:0≤y) (hy':y<1048576) (h:x/4096%1048576=0):iC .i64 x (y*4096)=x+y*4096:=bD 12 20 rfl rfl (by decide) hx hx' hy hy' h
theorem uX {x y:Int} (hx:0≤x) (hx':x<4611686018427387904) (hy:0≤y) (hy':y<2) (h:x/1048576%2=0):iC .i64 x (y*1048576)=x+y*1048576:=bD 20 1 rfl rfl (by decide) hx hx' hy hy' h
theorem ph {x y:Int} (hx:0≤x) (hx':x<4611686018427387904) (hy:0≤y) (hy':y<32) (h:x/1048576%32=0):iC .i64 x (y*1048576)=x+y*1048576:=bD 20 5 rfl rfl (by decide) hx hx' hy hy' h
theorem Jd {x y:Int} (hx:0≤x) (hx':x<4611686018427387904) (hy:0≤y) (hy':y<64) (h:x/1048576%64=0):iC .i64 x (y*1048576)=x+y*1048576:=bD 20 6 rfl rfl (by decide) hx hx' hy hy' h
theorem GD {x y:Int} (hx:0≤x) (hx':x<4611686018427387904) (hy:0≤y) (hy':y<4096) (h:x/1048576%4096=0):iC .i64 x (y*1048576)=x+y*1048576:=bD 20 12 rfl rfl (by decide) hx hx' hy hy' h
theorem GE {x y:Int} (hx:0≤x) (hx':x<4611686018427387904) (hy:0≤y) (hy':y<1024) (h:x/2097152%1024=0):iC .i64 x (y*2097152)=x+y*2097152:=bD 21 10 rfl rfl (by decide) hx hx' hy hy' h
theorem Je {x y:Int} (hx:0≤x) (hx':x<4611686018427387904) (hy:0≤y) (hy':y<64) (h:x/33554432%64=0):iC .i64 x (y*33554432)=x+y*33554432:=bD 25 6 rfl rfl (by decide) hx hx' hy hy' h
theorem uY {x y:Int} (hx:0≤x) (hx':x<4611686018427387904) (hy:0≤y) (hy':y<128) (h:x/33554432%128=0):iC .i64 x (y*33554432)=x+y*33554432:=bD 25 7 rfl rfl (by decide) hx hx' hy hy' h
theorem Jf {x y:Int} (hx:0≤x) (hx':x<4611686018427387904) (hy:0≤y) (hy':y<64) (h:x/67108864%64=0):iC .i64 x (y*67108864)=x+y*67108864:=bD 26 6 rfl rfl (by decide) hx hx' hy hy' h
theorem Bf {x y:Int} (hx:0≤x) (hx':x<4611686018427387904) (hy:0≤y) (hy':y<2) (h:x/2147483648%2=0):iC .i64 x (y*2147483648)=x+y*2147483648:=bD 31 1 rfl rfl (by decide) hx hx' hy hy' h
theorem Oj {x y:Int} (hx:0≤x) (hx':x<4611686018427387904) (hy:0≤y) (hy':y<16) (h:x/2%16=0):iC .i64 x (y*2)=x+y*2:=bD 1 4 rfl rfl (by decide) hx hx' hy hy' h
theorem Jg {x y:Int} (hx:0≤x) (hx':x<4611686018427387904) (hy:0≤y) (hy':y<1024) (h:x/2%1024=0):iC .i64 x (y*2)=x+y*2:=bD 1 10 rfl rfl (by decide) hx hx' hy hy' h
theorem Ok {x y:Int} (hx:0≤x) (hx':x<4611686018427387904) (hy:0≤y) (hy':y<64) (h:x/32%64=0):iC .i64 x (y*32)=x+y*32:=bD 5 6 rfl rfl (by decide) hx hx' hy hy' h
theorem Ol {x y:Int} (hx:0≤x) (hx':x<4611686018427387904) (hy:0≤y) (hy':y<128) (h:x/32%128=0):iC .i64 x (y*32)=x+y*32:=bD 5 7 rfl rfl (by decide) hx hx' hy hy' h
theorem Bg {x y:Int} (hx:0≤x) (hx':x<4611686018427387904) (hy:0≤y) (hy':y<2) (h:x/2048%2=0):iC .i64 x (y*2048)=x+y*2048:=bD 11 1 rfl rfl (by decide) hx hx' hy hy' h
theorem Jh {x y:Int} (hx:0≤x) (hx':x<4611686018427387904) (hy:0≤y) (hy':y<2) (h:x/4096%2=0):iC .i64 x (y*4096)=x+y*4096:=bD 12 1 rfl rfl (by decide) hx hx' hy hy' h
theorem tJ {w a b:Int} (hw:0≤w) (hw':w<4611686018427387904) (ha:0≤a) (ha':a<32) (hb:0≤b) (hb':b<8) (h:w/4096%256=0):iC .i64 w (a*32768+b*4096)=w+(a*32768+b*4096):=by
 have:=bD (x:=w) (y:=a*8+b) (P:=4096) (Q:=256) 12 8 rfl rfl (by decide) hw hw' (by omega) (by omega) h
 rw[show a*32768+b*4096=(a*8+b)*4096 by omega];exact this
def bK (s:Int×Int×Int×Int) (x:Int×Int×Int×Int×Int):Int:=
 if s.1=1 then s.2.1+x.2.1*128+x.2.2.2.2/4096%1048576*4096
 else if s.1=2 then s.2.1+x.2.1*128+x.2.2.2.2/4096%256*4096+x.2.2.2.2/2048%2*1048576+x.2.2.2.2/2%1024*2097152+x.2.2.2.2/1048576%2*2147483648
 else if s.1=3 then s.2.1+x.2.1*128+s.2.2.1*4096+x.2.2.1*32768+x.2.2.2.2%4096*1048576
 else if s.1=4 then s.2.1+x.2.2.2.2/2048%2*128+x.2.2.2.2/2%16*256+s.2.2.1*4096+x.2.2.1*32768+x.2.2.2.1*1048576+x.2.2.2.2/32%64*33554432+x.2.2.2.2/4096%2*2147483648
 else if s.1=5 then s.2.1+x.2.2.2.2%32*128+s.2.2.1*4096+x.2.2.1*32768+x.2.2.2.1*1048576+x.2.2.2.2/32%128*33554432
 else if s.1=6 then s.2.1+x.2.1*128+s.2.2.1*4096+x.2.2.1*32768+x.2.2.2.2%64*1048576+s.2.2.2/2*67108864
 else if s.1=7 then s.2.1+x.2.1*128+s.2.2.1*4096+x.2.2.1*32768+x.2.2.2.2%32*1048576+s.2.2.2*33554432
 else if s.1=8 then s.2.1+x.2.1*128+s.2.2.1*4096+x.2.2.1*32768+x.2.2.2.1*1048576+s.2.2.2*33554432
 else s.2.1+s.2.2.2*1048576
structure ga (x:Int×Int×Int×Int×Int):Prop where
 d:0≤x.2.1∧x.2.1≤31
 a:0≤x.2.2.1∧x.2.2.1≤31
 b:0≤x.2.2.2.1∧x.2.2.2.1≤31
 i: -9223372036854775808≤x.2.2.2.2∧x.2.2.2.2≤9223372036854775807
theorem dp {f c f3 f7:Int} (h:tI (f,c,f3,f7)=true):(1≤f∧f≤9)∧(0≤c∧c<128)∧(0≤f3∧f3<8)∧(0≤f7∧f7<64)∧(f=6→f7%2=0)∧(f=9→f7<2∧f3=0):=by
 simp only[tI,ay,Bool.or_eq_true,Bool.not_eq_true',aT,decide_eq_false_iff_not]at h
 omega
theorem fO {f:Int} (h:1≤f∧f≤9):f=1∨f=2∨f=3∨f=4∨f=5∨f=6∨f=7∨f=8∨f=9:=by omega
theorem aj (j n:Nat):aA (j:Int) n=decide (j<n):=by
 unfold aA;rw[show decide (0≤(j:Int))=true by simp,Bool.true_and];congr 1;simp
theorem aY {τ:Ty} (xs:List τ.den) (j:Nat) (h:j<xs.length):rd (τ:=τ) xs (j:Int)=xs[j]:=by
 unfold rd;rw[aB,List.getD_eq_getElem?_getD,List.getElem?_eq_getElem h];rfl
theorem an (j n:Nat) (h:j<n) (h':n≤9223372036854775807):IntKind.wrap .i64 ((j:Int)+1)=((j+1:Nat):Int):=by
 rw[aU (by omega) (by omega)];omega
theorem ai (j n:Nat):decide ((j:Int)< (n:Int))=decide (j<n):=by congr 1;simp
def xj (imm:Int) (w:Int) (p:Int×Int×Int):Int:=iC .i64 w (dc .i64 (imm/2^p.1.toNat%2^p.2.1.toNat) p.2.2)
def mE (ps:List (Int×Int×Int)):Prop:=ps.length≤4∧∀p∈ps,0≤p.1∧p.1≤62∧0≤p.2.1∧p.2.1≤62∧0≤p.2.2∧p.2.2≤62
theorem GF (x:Int×Int×Int×Int×Int) (s:Int×Int×Int×Int) (ps:List (Int×Int×Int)) (hp:mE ps):
  ∀(k j:Nat) (w:Int),j+k=ps.length→xa.a x s w ps (ps.length:Int) (j:Int)=xa.a x s ((ps.drop j).foldl (xj x.2.2.2.2) w) ps (ps.length:Int) (ps.length:Int):=by
 intro k
 induction k with
 |zero=>
   intro j w h;have:j=ps.length:=by omega
   subst this;simp
 |succ k ih=>
  intro j w h
  have hj:j<ps.length:=by omega
  obtain⟨p1,p2,p3,p4,p5,p6⟩:=hp.2 ps[j] (List.getElem_mem hj)
  have e:=aY (τ:= .pair (.int .i64) (.pair (.int .i64) (.int .i64))) ps j hj
  rw[xa.a_eq,ai,aj,e,an j ps.length hj (by have:=hp.1;omega)]
  simp only[ab hj,ae]
  rw[fp _ _ _ (by omega) (by omega) (by omega) (by omega)]
  simp only[af]
  rw[show decide (ps[j].2.2<0)=false by simp;omega]
  simp only[ac]
  rw[ih (j+1) _ (by omega),List.drop_eq_getElem_cons hj,List.foldl_cons]
  rfl
def ci (f:Int):List (Int×Int×Int):=
 if f=1 then[(12,20,12)]else if f=2 then[(12,8,12),(11,1,20),(1,10,21),(20,1,31)]else if f=3 then[(0,12,20)]else if f=4 then[(11,1,7),(1,4,8),(5,6,25),(12,1,31)]
 else if f=5 then[(0,5,7),(5,7,25)]else if f=6 then[(0,6,20)]else if f=7 then[(0,5,20)]else[]
theorem qE {f:Int} (h:1≤f∧f≤9):RT f=some (ci f)∧mE (ci f):=by
 rw[M7]
 rcases fO h with rfl|rfl|rfl|rfl|rfl|rfl|rfl|rfl|rfl<;>exact⟨rfl,by unfold mE;decide⟩
theorem ej {y:Int} (k:Nat) (P:Int) (hP:P=2^k) (hk:k≤62) (h0:0≤y) (h:y*P≤9223372036854775807):dc .i64 y (k:Int)=y*P:=by
 rw[mA (by omega) (by omega),aB,←hP]
 have:0≤y*P:=Int.mul_nonneg h0 (by rw[hP];exact Int.le_of_lt (Int.pow_pos (by decide)))
 exact aU (by omega) (by omega)
theorem oq {y:Int} (h0:0≤y) (h:y≤2147483647):dc .i64 y 7=y*128:=ej 7 128 rfl (by decide) h0 (by omega)
theorem Rg {y:Int} (h0:0≤y) (h:y≤2147483647):dc .i64 y 8=y*256:=ej 8 256 rfl (by decide) h0 (by omega)
theorem gI {y:Int} (h0:0≤y) (h:y≤2147483647):dc .i64 y 12=y*4096:=ej 12 4096 rfl (by decide) h0 (by omega)
theorem nE {y:Int} (h0:0≤y) (h:y≤2147483647):dc .i64 y 15=y*32768:=ej 15 32768 rfl (by decide) h0 (by omega)
theorem jq {y:Int} (h0:0≤y) (h:y≤2147483647):dc .i64 y 20=y*1048576:=ej 20 1048576 rfl (by decide) h0 (by omega)
theorem Om {y:Int} (h0:0≤y) (h:y≤2147483647):dc .i64 y 21=y*2097152:=ej 21 2097152 rfl (by decide) h0 (by omega)
theorem uZ {y:Int} (h0:0≤y) (h:y≤2147483647):dc .i64 y 25=y*33554432:=ej 25 33554432 rfl (by decide) h0 (by omega)
theorem On {y:Int} (h0:0≤y) (h:y≤2147483647):dc .i64 y 26=y*67108864:=ej 26 67108864 rfl (by decide) h0 (by omega)
theorem GG {y:Int} (h0:0≤y) (h:y≤2147483647):dc .i64 y 31=y*2147483648:=ej 31 2147483648 rfl (by decide) h0 (by omega)
theorem Ji {x:Int}:mq .i64 x 1=x/2:=by rw[pf (by decide) (by decide)];rfl
def bd (f:Int):Bool×Bool×Bool:=
 if f=1∨f=2 then(true,false,false)else if f=3∨f=6∨f=7 then(true,true,false)else if f=4∨f=5 then(false,true,true)else if f=8 then(true,true,true)else(false,false,false)
theorem qF {f:Int} (h:1≤f∧f≤9):RV f=some (bd f):=by
 rw[Na]
 rcases fO h with rfl|rfl|rfl|rfl|rfl|rfl|rfl|rfl|rfl<;>rfl
theorem eo (x:Int×Int×Int×Int×Int) (h:1≤x.1) (h':x.1≤64) (hr:ga x):xa x=some (bK (bE x.1) x):=by
 rw[Nc,jp _ (by omega) h']
 have hs:=ip x.1 h h'
 generalize bE x.1=s at*
 obtain⟨n,rd',rs1,rs2,imm⟩:=x
 obtain⟨f,c,f3,f7⟩:=s
 obtain⟨⟨d1,d2⟩,⟨a1,a2⟩,⟨b1,b2⟩,⟨i1,i2⟩⟩:=hr
 obtain⟨s1,⟨s2,s2'⟩,⟨s3,s3'⟩,⟨s4,s4'⟩,s5,s6⟩:=dp hs
 clear hs
 dsimp only at*
 obtain⟨hp,hpo⟩:=qE s1
 have hf:=qF s1
 simp only[af,hp]
 rw[show(0:Int)=((0:Nat):Int) by rfl,GF _ _ _ hpo (ci f).length 0 _ (by omega),xa.a_eq,ai]
 simp only[az,decide_false,ac,hf,List.drop_zero,af,aJ]
 clear hp hpo hf
 rcases fO s1 with rfl|rfl|rfl|rfl|rfl|rfl|rfl|rfl|rfl
 ·simp[ci,bd,xj,bK]
  have hb0:0≤imm/4096%1048576∧imm/4096%1048576<1048576:=by omega
  generalize imm/4096%1048576=y0 at*
  simp(disch:=omega) only[gI,oq,xi,lV]
  try omega
 ·simp[ci,bd,xj,bK]
  have hb0:0≤imm/4096%256∧imm/4096%256<256:=by omega
  generalize imm/4096%256=y0 at*
  have hb1:0≤imm/2048%2∧imm/2048%2<2:=by omega
  generalize imm/2048%2=y1 at*
  have hb2:0≤imm/2%1024∧imm/2%1024<1024:=by omega
  generalize imm/2%1024=y2 at*
  have hb3:0≤imm/1048576%2∧imm/1048576%2<2:=by omega
  generalize imm/1048576%2=y3 at*
  simp(disch:=omega) only[gI,jq,Om,GG,oq,Be,uX,GE,Bf,lV]
  try omega
 ·simp[ci,bd,xj,bK]
  have hb0:0≤imm%4096∧imm%4096<4096:=by omega
  generalize imm%4096=y0 at*
  simp(disch:=omega) only[jq,oq,nE,gI,GD,lV,kW,tJ]
  try omega
 ·simp[ci,bd,xj,bK]
  have hb0:0≤imm/2048%2∧imm/2048%2<2:=by omega
  generalize imm/2048%2=y0 at*
  have hb1:0≤imm/2%16∧imm/2%16<16:=by omega
  generalize imm/2%16=y1 at*
  have hb2:0≤imm/32%64∧imm/32%64<64:=by omega
  generalize imm/32%64=y2 at*
  have hb3:0≤imm/4096%2∧imm/4096%2<2:=by omega
  generalize imm/4096%2=y3 at*
  simp(disch:=omega) only[oq,Rg,uZ,GG,nE,gI,jq,Oh,Oi,Je,Bf,kW,tJ,ph]
  try omega
 ·simp[ci,bd,xj,bK]
  have hb0:0≤imm%32∧imm%32<32:=by omega
  generalize imm%32=y0 at*
  have hb1:0≤imm/32%128∧imm/32%128<128:=by omega
  generalize imm/32%128=y1 at*
  simp(disch:=omega) only[oq,uZ,nE,gI,jq,lV,uY,kW,tJ,ph]
  try omega
 ·simp[ci,bd,xj,bK,Ji]
  have hb0:0≤imm%64∧imm%64<64:=by omega
  generalize imm%64=y0 at*
  have hs:0≤f7/2∧f7/2<64:=by omega
  generalize f7/2=z at*
  simp(disch:=omega) only[jq,oq,nE,gI,On,Jd,lV,kW,tJ,Jf]
  try omega
 ·simp[ci,bd,xj,bK]
  have hb0:0≤imm%32∧imm%32<32:=by omega
  generalize imm%32=y0 at*
  simp(disch:=omega) only[jq,oq,nE,gI,uZ,ph,lV,kW,tJ,uY]
  try omega
 ·simp[ci,bd,bK]
  simp(disch:=omega) only[oq,nE,gI,jq,uZ,lV,kW,tJ,ph,uY]
  try omega
 ·simp[ci,bd,bK]
  simp(disch:=omega) only[jq,uX]
  try omega
theorem xk {a b:Int} (ha:0≤a∧a<4294967296) (hb:0≤b∧b<4294967296) (h:∀i:Nat,i<32→a/2^i%2=b/2^i%2):a=b:=by
 have:∀k:Nat,k≤32→a/2^(32-k)=b/2^(32-k):=by
  intro k
  induction k with
  |zero=>intro _;rw[show(2:Int)^(32-0)=4294967296 by rfl];omega
  |succ k ih=>
   intro hk
   have ih:=ih (by omega)
   have h1:=h (32-(k+1)) (by omega)
   have e:32-k=32-(k+1)+1:=by omega
   rw[e]at ih
   have ea:=mC a (32-(k+1))
   have eb:=mC b (32-(k+1))
   omega
 have:=this 32 (by omega)
 simpa using this
theorem CG (w low v:Int) (c:Nat) (h:0≤low) (hlc:low+c+1≤32) (hw:0≤w) (hw':w<4294967296):dj (dj w low c v) (low+c) 1 (v/2^c%2)=dj w low ((c+1:Nat):Int) v:=by
 have r1:=cc w low c v h (by omega) (by omega) hw hw'
 apply xk (cc _ _ _ _ (by omega) (by omega) (by omega) r1.1 r1.2) (cc _ _ _ _ h (by omega) (by omega) hw hw')
 intro i hi
 rw[ks _ _ _ _ (by omega) (by omega),ks _ _ _ _ h (by omega),ks _ _ _ _ h (by omega)]
 by_cases h1:low+c≤(i:Int)∧(i:Int)<low+c+1
 ·rw[au h1,au (by omega),show i-(low+(c:Int)).toNat=0 by omega,show i-low.toNat=c by omega,Int.pow_zero,Int.ediv_one];omega
 ·rw[ap h1]
  by_cases h2:low≤(i:Int)∧(i:Int)<low+c
  ·rw[au h2,au (by omega)]
  ·rw[ap h2,ap (by omega)]
theorem CH (w low v:Int) (h:0≤low) (hl:low≤31) (hw:0≤w) (hw':w<4294967296):dj w low 0 v=w:=by
 apply xk (cc _ _ _ _ h (by omega) (by omega) hw hw') ⟨hw,hw'⟩
 intro i hi
 rw[ks _ _ _ _ h (by omega),ap (by omega)]
theorem bI {w v:Int} (k c:Nat) (P Q:Int) (hP:P=2^k) (hQ:Q=2^c) (h:w/P%Q=0):dj w (k:Int) (c:Int) v=w+v%Q*P:=by
 subst hP hQ
 simp only[dj,aB]
 have hk:(0:Int)<2^k:=Int.pow_pos (by decide)
 have hc:(0:Int)<2^c:=Int.pow_pos (by decide)
 have e1:=Int.emod_add_mul_ediv w (2^k)
 have e2:=Int.emod_add_mul_ediv (w/2^k) (2^c)
 rw[h,Int.zero_add,Int.ediv_ediv_of_nonneg (by omega),←Int.pow_add]at e2
 rw[e2,Int.mul_add]
 rw[Int.mul_comm (v%2^c)]
 omega
theorem CI (x:Int×Int×Int×Int×Int) (hx: -9223372036854775808≤x.2.2.2.2) (hx':x.2.2.2.2≤9223372036854775807) (w:Int) (hw:0≤w) (hw':w<4294967296) (i:Nat) (h:1≤i) (h':i≤20):
  iD.a x w (i:Int)=iD.a x (dj w (if i=20 then 31 else if 11<i then i else if 10<i then 9+i else 20+i:Nat) 1 (x.2.2.2.2/2^i%2)) ((i+1:Nat):Int):=by
 rw[iD.a_eq,show decide ((i:Int)<21)=true by simp;omega,hJ _ _ hx hx' (by omega) (by omega),aU (n:=9+(i:Int)) (by omega) (by omega),aU (n:=20+(i:Int)) (by omega) (by omega),aU (n:=(i:Int)+1) (by omega) (by omega)]
 simp only[aJ,ae,aB,af]
 have e0:((i+1:Nat):Int)=(i:Int)+1:=by omega
 rw[e0]
 by_cases h1:i=20
 ·subst h1;rw[show decide (((20:Nat):Int)=20)=true by rfl,cP _ _ _ _ (by omega) (by omega) (by omega) hw hw' (by omega) (by omega)];rfl
 ·by_cases h2:11<i
  ·rw[show decide ((i:Int)=20)=false by simp;omega,show decide ((i:Int)>11)=true by simp;omega,show decide ((i:Int)>10)=true by simp;omega,ap h1,au h2]
   simp only[ae,ac]
   rw[cP _ _ _ _ (by omega) (by omega) (by omega) hw hw' (by omega) (by omega)];rfl
  ·by_cases h3:10<i
   ·rw[show decide ((i:Int)=20)=false by simp;omega,show decide ((i:Int)>11)=false by simp;omega,show decide ((i:Int)>10)=true by simp;omega,ap h1,ap h2,au h3]
    simp only[ae,ac]
    rw[cP _ _ _ _ (by omega) (by omega) (by omega) hw hw' (by omega) (by omega),show((9+i:Nat):Int)=9+(i:Int) by omega];rfl
   ·rw[show decide ((i:Int)=20)=false by simp;omega,show decide ((i:Int)>11)=false by simp;omega,show decide ((i:Int)>10)=false by simp;omega,ap h1,ap h2,ap h3]
    simp only[ac]
    rw[cP _ _ _ _ (by omega) (by omega) (by omega) hw hw' (by omega) (by omega),show((20+i:Nat):Int)=20+(i:Int) by omega];rfl
theorem qG (L:Int→Nat→Option Int) (v:Int) (pl:Nat→Nat) (lo hi:Nat) (step:∀(w:Int) (i:Nat),0≤w→w<4294967296→lo≤i→i<hi→L w i=L (dj w (pl i:Nat) 1 (v/2^i%2)) (i+1))
  (a p:Nat) (ha:lo≤a) (w:Int) (hw:0≤w) (hw':w<4294967296) (n:Nat) (hn:a+n≤hi) (hp1:p≤31) (hpn:p+n≤32) (hp:∀c:Nat,c<n→pl (a+c)=p+c):
  ∀c:Nat,c≤n→L w a=L (dj w (p:Int) (c:Int) (v/2^a)) (a+c):=by
 intro c
 induction c with
 |zero=>intro _;rw[show((0:Nat):Int)=0 by rfl,CH _ _ _ (by omega) (by omega) hw hw',Nat.add_zero]
 |succ c ih=>
  intro hc
  have r:=cc w p c (v/2^a) (by omega) (by omega) (by omega) hw hw'
  rw[ih (by omega),step _ (a+c) r.1 r.2 (by omega) (by omega),hp c (by omega)]
  have e:v/2^(a+c)=v/2^a/2^c:=by rw[Int.pow_add,Int.ediv_ediv_of_nonneg (Int.le_of_lt (Int.pow_pos (by decide)))]
  rw[e,show((p+c:Nat):Int)=(p:Int)+(c:Int) by omega,CG _ _ _ _ (by omega) (by omega) hw hw']
  rfl
def Oo (i:Nat):Nat:=if i=20 then 31 else if 11<i then i else if 10<i then 9+i else 20+i
def qH (i:Nat):Nat:=if i=12 then 31 else if i=11 then 7 else if 4<i then 20+i else 7+i
theorem GH (x:Int×Int×Int×Int×Int) (hx: -9223372036854775808≤x.2.2.2.2) (hx':x.2.2.2.2≤9223372036854775807) (w:Int) (hw:0≤w) (hw':w<4294967296):
  iD.a x w 1=some (dj (dj (dj (dj w 21 10 (x.2.2.2.2/2)) 20 1 (x.2.2.2.2/2048)) 12 8 (x.2.2.2.2/4096)) 31 1 (x.2.2.2.2/1048576)):=by
 have st:=qG (fun w i=>iD.a x w (i:Int)) x.2.2.2.2 Oo 1 21 (fun w i h1 h2 h3 h4=>CI x hx hx' w h1 h2 i h3 (by omega))
 have r1:=cc w 21 10 (x.2.2.2.2/2) (by decide) (by decide) (by decide) hw hw'
 have r2:=cc _ 20 1 (x.2.2.2.2/2048) (by decide) (by decide) (by decide) r1.1 r1.2
 have r3:=cc _ 12 8 (x.2.2.2.2/4096) (by decide) (by decide) (by decide) r2.1 r2.2
 refine(st 1 21 (by decide) w hw hw' 10 (by decide) (by decide) (by decide) (by decide) 10 (by decide)).trans ?_
 refine(st 11 20 (by decide) _ r1.1 r1.2 1 (by decide) (by decide) (by decide) (by decide) 1 (by decide)).trans ?_
 refine(st 12 12 (by decide) _ r2.1 r2.2 8 (by decide) (by decide) (by decide) (by decide) 8 (by decide)).trans ?_
 refine(st 20 31 (by decide) _ r3.1 r3.2 1 (by decide) (by decide) (by decide) (by decide) 1 (by decide)).trans ?_
 exact iD.a_eq _ _ _
theorem xl (x:Int×Int×Int×Int×Int) (hx: -9223372036854775808≤x.2.2.2.2) (hx':x.2.2.2.2≤9223372036854775807) (w:Int) (hw:0≤w) (hw':w<4294967296) (i:Nat) (h:1≤i) (h':i≤12):
  iD.b x w (i:Int)=iD.b x (dj w (qH i:Nat) 1 (x.2.2.2.2/2^i%2)) ((i+1:Nat):Int):=by
 rw[iD.b_eq,show decide ((i:Int)<13)=true by simp;omega,hJ _ _ hx hx' (by omega) (by omega),aU (n:=7+(i:Int)) (by omega) (by omega),aU (n:=20+(i:Int)) (by omega) (by omega),aU (n:=(i:Int)+1) (by omega) (by omega)]
 simp only[aJ,ae,aB,af,qH]
 have e0:((i+1:Nat):Int)=(i:Int)+1:=by omega
 rw[e0]
 by_cases h1:i=12
 ·subst h1;rw[show decide (((12:Nat):Int)=12)=true by rfl,cP _ _ _ _ (by omega) (by omega) (by omega) hw hw' (by omega) (by omega)];rfl
 ·by_cases h2:i=11
  ·subst h2
   rw[show decide (((11:Nat):Int)=12)=false by rfl,show decide (((11:Nat):Int)>4)=true by rfl,show decide (((11:Nat):Int)=11)=true by rfl]
   simp only[ae,ac]
   rw[cP _ _ _ _ (by omega) (by omega) (by omega) hw hw' (by omega) (by omega)];rfl
  ·by_cases h3:4<i
   ·rw[show decide ((i:Int)=12)=false by simp;omega,show decide ((i:Int)=11)=false by simp;omega,show decide ((i:Int)>4)=true by simp;omega,ap h1,ap h2,au h3]
    simp only[ae,ac]
    rw[cP _ _ _ _ (by omega) (by omega) (by omega) hw hw' (by omega) (by omega),show((20+i:Nat):Int)=20+(i:Int) by omega];rfl
   ·rw[show decide ((i:Int)=12)=false by simp;omega,show decide ((i:Int)=11)=false by simp;omega,show decide ((i:Int)>4)=false by simp;omega,ap h1,ap h2,ap h3]
    simp only[ac]
    rw[cP _ _ _ _ (by omega) (by omega) (by omega) hw hw' (by omega) (by omega),show((7+i:Nat):Int)=7+(i:Int) by omega];rfl
theorem zp (x:Int×Int×Int×Int×Int) (hx: -9223372036854775808≤x.2.2.2.2) (hx':x.2.2.2.2≤9223372036854775807) (w:Int) (hw:0≤w) (hw':w<4294967296):
  iD.b x w 1=some (dj (dj (dj (dj w 8 4 (x.2.2.2.2/2)) 25 6 (x.2.2.2.2/32)) 7 1 (x.2.2.2.2/2048)) 31 1 (x.2.2.2.2/4096)):=by
 have st:=qG (fun w i=>iD.b x w (i:Int)) x.2.2.2.2 qH 1 13 (fun w i h1 h2 h3 h4=>xl x hx hx' w h1 h2 i h3 (by omega))
 have r1:=cc w 8 4 (x.2.2.2.2/2) (by decide) (by decide) (by decide) hw hw'
 have r2:=cc _ 25 6 (x.2.2.2.2/32) (by decide) (by decide) (by decide) r1.1 r1.2
 have r3:=cc _ 7 1 (x.2.2.2.2/2048) (by decide) (by decide) (by decide) r2.1 r2.2
 refine(st 1 8 (by decide) w hw hw' 4 (by decide) (by decide) (by decide) (by decide) 4 (by decide)).trans ?_
 refine(st 5 25 (by decide) _ r1.1 r1.2 6 (by decide) (by decide) (by decide) (by decide) 6 (by decide)).trans ?_
 refine(st 11 7 (by decide) _ r2.1 r2.2 1 (by decide) (by decide) (by decide) (by decide) 1 (by decide)).trans ?_
 refine(st 12 31 (by decide) _ r3.1 r3.2 1 (by decide) (by decide) (by decide) (by decide) 1 (by decide)).trans ?_
 exact iD.b_eq _ _ _
theorem zq (x:Int×Int×Int×Int×Int) (hx: -9223372036854775808≤x.2.2.2.2) (hx':x.2.2.2.2≤9223372036854775807) (w:Int) (hw:0≤w) (hw':w<4294967296) (i:Nat) (h:5≤i) (h':i≤11):
  iD.c x w (i:Int)=iD.c x (dj w (20+i:Nat) 1 (x.2.2.2.2/2^i%2)) ((i+1:Nat):Int):=by
 rw[iD.c_eq,show decide ((i:Int)<12)=true by simp;omega,hJ _ _ hx hx' (by omega) (by omega),aU (n:=20+(i:Int)) (by omega) (by omega),aU (n:=(i:Int)+1) (by omega) (by omega)]
 simp only[ae,aB,af]
 rw[cP _ _ _ _ (by omega) (by omega) (by omega) hw hw' (by omega) (by omega),show((20+i:Nat):Int)=20+(i:Int) by omega];rfl
theorem CJ (x:Int×Int×Int×Int×Int) (hx: -9223372036854775808≤x.2.2.2.2) (hx':x.2.2.2.2≤9223372036854775807) (w:Int) (hw:0≤w) (hw':w<4294967296):
  iD.c x w 5=some (dj w 25 7 (x.2.2.2.2/32)):=by
 have st:=qG (fun w i=>iD.c x w (i:Int)) x.2.2.2.2 (fun i=>20+i) 5 12 (fun w i h1 h2 h3 h4=>zq x hx hx' w h1 h2 i h3 (by omega))
 refine(st 5 25 (by decide) w hw hw' 7 (by decide) (by decide) (by decide) (by decide) 7 (by decide)).trans ?_
 exact iD.c_eq _ _ _
theorem jr {w v:Int} (hw:0≤w) (hw':w<4294967296) (h:w/128%32=0) (hv: -9223372036854775808≤v) (hv':v≤9223372036854775807):gH w 7 5 v=some (w+v%32*128):=
 (cP w 7 5 v (by decide) (by decide) (by decide) hw hw' hv hv').trans (congrArg some (bI 7 5 128 32 rfl rfl h))
theorem CK {w v:Int} (hw:0≤w) (hw':w<4294967296) (h:w/4096%1048576=0) (hv: -9223372036854775808≤v) (hv':v≤9223372036854775807):gH w 12 20 v=some (w+v%1048576*4096):=
 (cP w 12 20 v (by decide) (by decide) (by decide) hw hw' hv hv').trans (congrArg some (bI 12 20 4096 1048576 rfl rfl h))
theorem iU {w v:Int} (hw:0≤w) (hw':w<4294967296) (h:w/4096%8=0) (hv: -9223372036854775808≤v) (hv':v≤9223372036854775807):gH w 12 3 v=some (w+v%8*4096):=
 (cP w 12 3 v (by decide) (by decide) (by decide) hw hw' hv hv').trans (congrArg some (bI 12 3 4096 8 rfl rfl h))
theorem iV {w v:Int} (hw:0≤w) (hw':w<4294967296) (h:w/32768%32=0) (hv: -9223372036854775808≤v) (hv':v≤9223372036854775807):gH w 15 5 v=some (w+v%32*32768):=
 (cP w 15 5 v (by decide) (by decide) (by decide) hw hw' hv hv').trans (congrArg some (bI 15 5 32768 32 rfl rfl h))
theorem tK {w v:Int} (hw:0≤w) (hw':w<4294967296) (h:w/1048576%4096=0) (hv: -9223372036854775808≤v) (hv':v≤9223372036854775807):gH w 20 12 v=some (w+v%4096*1048576):=
 (cP w 20 12 v (by decide) (by decide) (by decide) hw hw' hv hv').trans (congrArg some (bI 20 12 1048576 4096 rfl rfl h))
theorem mF {w v:Int} (hw:0≤w) (hw':w<4294967296) (h:w/1048576%32=0) (hv: -9223372036854775808≤v) (hv':v≤9223372036854775807):gH w 20 5 v=some (w+v%32*1048576):=
 (cP w 20 5 v (by decide) (by decide) (by decide) hw hw' hv hv').trans (congrArg some (bI 20 5 1048576 32 rfl rfl h))
theorem GI {w v:Int} (hw:0≤w) (hw':w<4294967296) (h:w/1048576%64=0) (hv: -9223372036854775808≤v) (hv':v≤9223372036854775807):gH w 20 6 v=some (w+v%64*1048576):=
 (cP w 20 6 v (by decide) (by decide) (by decide) hw hw' hv hv').trans (congrArg some (bI 20 6 1048576 64 rfl rfl h))
theorem qI {w v:Int} (hw:0≤w) (hw':w<4294967296) (h:w/33554432%128=0) (hv: -9223372036854775808≤v) (hv':v≤9223372036854775807):gH w 25 7 v=some (w+v%128*33554432):=
 (cP w 25 7 v (by decide) (by decide) (by decide) hw hw' hv hv').trans (congrArg some (bI 25 7 33554432 128 rfl rfl h))
theorem zr {w v:Int} (h:w/2097152%1024=0):dj w 21 10 v=w+v%1024*2097152:=bI 21 10 2097152 1024 rfl rfl h
theorem CL {w v:Int} (h:w/1048576%2=0):dj w 20 1 v=w+v%2*1048576:=bI 20 1 1048576 2 rfl rfl h
theorem CM {w v:Int} (h:w/4096%256=0):dj w 12 8 v=w+v%256*4096:=bI 12 8 4096 256 rfl rfl h
theorem tL {w v:Int} (h:w/2147483648%2=0):dj w 31 1 v=w+v%2*2147483648:=bI 31 1 2147483648 2 rfl rfl h
theorem GJ {w v:Int} (h:w/256%16=0):dj w 8 4 v=w+v%16*256:=bI 8 4 256 16 rfl rfl h
theorem CN {w v:Int} (h:w/33554432%64=0):dj w 25 6 v=w+v%64*33554432:=bI 25 6 33554432 64 rfl rfl h
theorem GK {w v:Int} (h:w/128%2=0):dj w 7 1 v=w+v%2*128:=bI 7 1 128 2 rfl rfl h
theorem CO {w v:Int} (h:w/33554432%128=0):dj w 25 7 v=w+v%128*33554432:=bI 25 7 33554432 128 rfl rfl h
theorem gb (x:Int×Int×Int×Int×Int) (h:1≤x.1) (h':x.1≤64) (hr:ga x) (hu:(bE x.1).1=1→x.2.2.2.2%4096=0):iD x=some (bK (bE x.1) x):=by
 rw[KW,ez _ (by omega) h']
 have hs:=ip x.1 h h'
 generalize bE x.1=s at*
 obtain⟨n,rd',rs1,rs2,imm⟩:=x
 obtain⟨f,c,f3,f7⟩:=s
 obtain⟨⟨d1,d2⟩,⟨a1,a2⟩,⟨b1,b2⟩,⟨i1,i2⟩⟩:=hr
 obtain⟨s1,⟨s2,s2'⟩,⟨s3,s3'⟩,⟨s4,s4'⟩,s5,s6⟩:=dp hs
 clear hs
 dsimp only at*
 simp only[af,aJ]
 rcases fO s1 with rfl|rfl|rfl|rfl|rfl|rfl|rfl|rfl|rfl
 ·have hu:=hu rfl
  have ht:imm.tdiv 4096=imm/4096:=by
   rw[Int.tdiv_eq_ediv_of_dvd];exact Int.dvd_of_emod_eq_zero hu
  simp only[d5,↓reduceIte,decide_true,ht]
  rw[aU (n:=imm/4096) (by omega) (by omega),jr (by omega) (by omega) (by omega) (by omega) (by omega)]
  simp only[af]
  rw[CK (by omega) (by omega) (by omega) (by omega) (by omega)]
  simp[bK];omega
 ·simp(disch:=omega) [jr,GH,bK]
  rw[zr (by omega)]
  have hb0:0≤imm/2%1024∧imm/2%1024<1024:=by omega
  generalize imm/2%1024=y0 at*
  rw[CL (by omega)]
  have hb1:0≤imm/2048%2∧imm/2048%2<2:=by omega
  generalize imm/2048%2=y1 at*
  rw[CM (by omega)]
  have hb2:0≤imm/4096%256∧imm/4096%256<256:=by omega
  generalize imm/4096%256=y2 at*
  rw[tL (by omega)]
  have hb3:0≤imm/1048576%2∧imm/1048576%2<2:=by omega
  generalize imm/1048576%2=y3 at*
  omega
 ·simp(disch:=omega) [jr,iU,iV,tK,bK]
  omega
 ·simp(disch:=omega) [iU,iV,mF,zp,bK]
  rw[GJ (by omega)]
  have hb0:0≤imm/2%16∧imm/2%16<16:=by omega
  generalize imm/2%16=y0 at*
  rw[CN (by omega)]
  have hb1:0≤imm/32%64∧imm/32%64<64:=by omega
  generalize imm/32%64=y1 at*
  rw[GK (by omega)]
  have hb2:0≤imm/2048%2∧imm/2048%2<2:=by omega
  generalize imm/2048%2=y2 at*
  rw[tL (by omega)]
  have hb3:0≤imm/4096%2∧imm/4096%2<2:=by omega
  generalize imm/4096%2=y3 at*
  omega
 ·simp(disch:=omega) [jr,iU,iV,mF,CJ,bK]
  have hb0:0≤imm%32∧imm%32<32:=by omega
  generalize imm%32=y0 at*
  rw[CO (by omega)]
  have hb1:0≤imm/32%128∧imm/32%128<128:=by omega
  generalize imm/32%128=y1 at*
  omega
 ·have hf:=s5 rfl
  simp(disch:=omega) [jr,iU,iV,qI,GI,bK]
  omega
 ·simp(disch:=omega) [jr,iU,iV,qI,mF,bK]
  omega
 ·simp(disch:=omega) [jr,iU,iV,qI,mF,bK]
  omega
 ·simp(disch:=omega) [tK,bK]
  omega
def fP (f w:Int):Int:=
 if f=1 then w/4096%1048576*4096
 else if f=2 then w/4096%256*4096+w/1048576%2*2048+w/2097152%1024*2+w/2147483648%2*1048576
 else if f=3 then w/1048576%4096
 else if f=4 then w/128%2*2048+w/256%16*2+w/33554432%64*32+w/2147483648%2*4096
 else if f=5 then w/128%32+w/33554432%128*32
 else if f=6 then w/1048576%64
 else if f=7 then w/1048576%32
 else 0
def eI (f:Int):Nat:=if f=1 then 32 else if f=2 then 21 else if f=3∨f=5 then 12 else if f=4 then 13 else 0
def nF (f w:Int):Int:=if 0<eI f then cE (fP f w) (eI f)else fP f w
def dP (n f w:Int):Int×Int×Int×Int×Int:=
 (n,(if(bd f).1 then w/128%32 else 0),(if(bd f).2.1 then w/32768%32 else 0),(if(bd f).2.2 then w/1048576%32 else 0),nF f w)
theorem xm {f:Int} (h:1≤f∧f≤9):Td f=some ((eI f:Nat):Int):=by
 rw[M8]
 rcases fO h with rfl|rfl|rfl|rfl|rfl|rfl|rfl|rfl|rfl<;>rfl
theorem zt {f w:Int} (hf:1≤f∧f≤9) (h:0≤w) (h':w<4294967296): -2147483648≤nF f w∧nF f w≤2147483647:=by
 rcases fO hf with rfl|rfl|rfl|rfl|rfl|rfl|rfl|rfl|rfl<;>simp[nF,eI,fP,cE]<;>omega
theorem fQ {n f w:Int} (hf:1≤f∧f≤9) (h:0≤w) (h':w<4294967296):ga (dP n f w):=by
 have hi:=zt hf h h'
 refine⟨?_, ?_, ?_, ?_⟩
 ·simp only[dP];split<;>omega
 ·simp only[dP];split<;>omega
 ·simp only[dP];split<;>omega
 ·simp only[dP];omega
def mG (w:Int) (i:Int) (p:Int×Int×Int):Int:=iC .i64 i (dc .i64 (w/2^p.2.2.toNat%2^p.2.1.toNat) p.1)
theorem GL (w:Int) (z:Int×Int×Int×Int×Int) (s:Int×Int×Int×Int) (os:List (ByteArray×Int×Int×Int×Int)) (ln n:Int) (op rd' r1 r2:Int) (ps:List (Int×Int×Int)) (hp:mE ps):
  ∀(k j:Nat) (i:Int),j+k=ps.length→jN.b w z s (op,rd',r1,r2,i) os ln n ps (ps.length:Int) (j:Int)=jN.b w z s (op,rd',r1,r2,(ps.drop j).foldl (mG w) i) os ln n ps (ps.length:Int) (ps.length:Int):=by
 intro k
 induction k with
 |zero=>
   intro j i h;have:j=ps.length:=by omega
   subst this;simp
 |succ k ih=>
  intro j i h
  have hj:j<ps.length:=by omega
  obtain⟨p1,p2,p3,p4,p5,p6⟩:=hp.2 ps[j] (List.getElem_mem hj)
  have e:=aY (τ:= .pair (.int .i64) (.pair (.int .i64) (.int .i64))) ps j hj
  rw[jN.b_eq,ai,aj,e,an j ps.length hj (by have:=hp.1;omega)]
  simp only[ab hj,ae]
  rw[fp _ _ _ (by omega) (by omega) (by omega) (by omega)]
  simp only[af]
  rw[show decide (ps[j].1<0)=false by simp;omega]
  simp only[ac]
  rw[ih (j+1) _ (by omega),List.drop_eq_getElem_cons hj,List.foldl_cons]
  rfl
theorem GM {y:Int} (h0:0≤y) (h:y≤2147483647):dc .i64 y 11=y*2048:=ej 11 2048 rfl (by decide) h0 (by omega)
theorem Kn {y:Int} (h0:0≤y) (h:y≤2147483647):dc .i64 y 1=y*2:=ej 1 2 rfl (by decide) h0 (by omega)
theorem Ko {y:Int} (h0:0≤y) (h:y≤2147483647):dc .i64 y 5=y*32:=ej 5 32 rfl (by decide) h0 (by omega)
theorem Bh {y:Int} (h0:0≤y) (h:y≤2147483647):dc .i64 y 0=y:=by
 rw[mA (by decide) (by decide)];simp;exact aU (by omega) (by omega)
theorem pi {y:Int} (h0:0≤y) (h:y≤2147483647):iC .i64 0 y=y:=by
 have:=bD (x:=0) (y:=y) (P:=1) (Q:=2147483648) 0 31 rfl rfl (by decide) (by decide) (by decide) h0 (by omega) (by omega)
 simpa using this
theorem xn {f w:Int} (hf:1≤f∧f≤9) (h:0≤w) (h':w<4294967296):(ci f).foldl (mG w) 0=fP f w:=by
 rcases fO hf with rfl|rfl|rfl|rfl|rfl|rfl|rfl|rfl|rfl
 ·simp[ci,mG,fP]
  have hb0:0≤w/4096%1048576∧w/4096%1048576<1048576:=by omega
  generalize w/4096%1048576=y0 at*
  simp(disch:=omega) only[gI,xi]
  omega
 ·simp[ci,mG,fP]
  have hb0:0≤w/4096%256∧w/4096%256<256:=by omega
  generalize w/4096%256=y0 at*
  have hb1:0≤w/1048576%2∧w/1048576%2<2:=by omega
  generalize w/1048576%2=y1 at*
  have hb2:0≤w/2097152%1024∧w/2097152%1024<1024:=by omega
  generalize w/2097152%1024=y2 at*
  have hb3:0≤w/2147483648%2∧w/2147483648%2<2:=by omega
  generalize w/2147483648%2=y3 at*
  simp(disch:=omega) only[gI,GM,Kn,jq,Be,Bg,Jg,uX]
  omega
 ·simp[ci,mG,fP]
  have hb0:0≤w/1048576%4096∧w/1048576%4096<4096:=by omega
  generalize w/1048576%4096=y0 at*
  simp(disch:=omega) only[Bh,pi]
 ·simp[ci,mG,fP]
  have hb0:0≤w/128%2∧w/128%2<2:=by omega
  generalize w/128%2=y0 at*
  have hb1:0≤w/256%16∧w/256%16<16:=by omega
  generalize w/256%16=y1 at*
  have hb2:0≤w/33554432%64∧w/33554432%64<64:=by omega
  generalize w/33554432%64=y2 at*
  have hb3:0≤w/2147483648%2∧w/2147483648%2<2:=by omega
  generalize w/2147483648%2=y3 at*
  simp(disch:=omega) only[GM,Kn,Ko,gI,Bg,Oj,Ok,Jh]
  omega
 ·simp[ci,mG,fP]
  have hb0:0≤w/128%32∧w/128%32<32:=by omega
  generalize w/128%32=y0 at*
  have hb1:0≤w/33554432%128∧w/33554432%128<128:=by omega
  generalize w/33554432%128=y1 at*
  simp(disch:=omega) only[Bh,Ko,pi,Ol]
 ·simp[ci,mG,fP]
  have hb0:0≤w/1048576%64∧w/1048576%64<64:=by omega
  generalize w/1048576%64=y0 at*
  simp(disch:=omega) only[Bh,pi]
 ·simp[ci,mG,fP]
  have hb0:0≤w/1048576%32∧w/1048576%32<32:=by omega
  generalize w/1048576%32=y0 at*
  simp(disch:=omega) only[Bh,pi]
 ·rfl
 ·rfl
theorem Jj {f w:Int} (hf:1≤f∧f≤9):(if 0<eI f then RU (fP f w) ((eI f:Nat):Int)else some (fP f w))=some (nF f w):=by
 unfold nF
 rcases fO hf with rfl|rfl|rfl|rfl|rfl|rfl|rfl|rfl|rfl<;>simp[eI]<;>rw[zo _ _ (by decide) (by decide)]<;>rfl
theorem GN (n:Int) (h:0≤n) (h':n≤64):∃os:List (ByteArray×Int×Int×Int×Int),Qf=some os∧os.length=65∧∀m:Nat,m≤64→((rd (τ:=(.pair .str (.pair (.int .i64) (.pair (.int .i64) (.pair (.int .i64) (.int .i64)))))) os m).2)=bE m:=by
 refine⟨_,zd,rfl,fun m hm=> ?_⟩
 obtain⟨k,rfl⟩:∃k:Fin 65,m=k.val:=⟨⟨m,by omega⟩,rfl⟩
 clear hm;revert k
 decide+kernel
theorem iq (w:Int) (h:0≤w) (h':w<4294967296) (z:Int×Int×Int×Int×Int) (os:List (ByteArray×Int×Int×Int×Int)) (ho:os.length=65) (hs:∀m:Nat,m≤64→((rd (τ:=(.pair .str (.pair (.int .i64) (.pair (.int .i64) (.pair (.int .i64) (.int .i64)))))) os m).2)=bE m) (n:Nat) (h1:1≤n) (hn:n≤64):
  jN.a w z os 65 n=if(bE n).2.1=w%128∧bK (bE n) (dP n (bE n).1 w)=w then some (dP n (bE n).1 w,true)else jN.a w z os 65 ((n+1:Nat):Int):=by
 have hsf:=ip n (by omega) (by omega)
 rw[jN.a_eq,show decide ((n:Int)<65)=true by simp;omega,ho,show aA (n:Int) 65=true by rw[aj];simp;omega,hs n hn,show decide ((n:Int)=0)=false by simp;omega,fp w 0 7 (by decide) (by decide) (by decide) (by decide),aU (n:=(n:Int)+1) (by omega) (by omega)]
 have e0:((n+1:Nat):Int)=(n:Int)+1:=by omega
 rw[e0]
 simp only[ae,ac,aJ,af]
 rw[show w/2^(0:Int).toNat%2^(7:Int).toNat=w%128 by simp]
 by_cases hc:(bE n).2.1=w%128
 ·have henc:∀x:Int×Int×Int×Int×Int,x.1=(n:Int)→ga x→xa x=some (bK (bE n) x):=fun x hx hr=>by rw[←hx];exact eo x (by omega) (by omega) hr
  generalize hS:bE n=s at*
  obtain⟨f,c,f3,f7⟩:=s
  obtain⟨s1,⟨s2,s2'⟩,⟨s3,s3'⟩,⟨s4,s4'⟩,s5,s6⟩:=dp hsf
  obtain⟨hp,hpo⟩:=qE s1
  dsimp only at*
  rw[ab hc,hp]
  simp only[eq_true hc,true_and,aM,ac,af]
  clear hc
  rw[show(0:Int)=((0:Nat):Int) by rfl,GL _ _ _ _ _ _ _ _ _ _ _ hpo (ci f).length 0 _ (by omega),List.drop_zero,show(((0:Nat):Int))=0 by rfl,xn s1 h h',jN.b_eq,ai]
  simp only[az,decide_false,ac,xm s1,qF s1,af,aJ]
  have hi:=Jj (w:=w) s1
  have he:=henc (dP n f w) rfl (fQ s1 h h')
  have b1:Gw w 7 5=some (w/128%32):=fp w 7 5 (by decide) (by decide) (by decide) (by decide)
  have b2:Gw w 15 5=some (w/32768%32):=fp w 15 5 (by decide) (by decide) (by decide) (by decide)
  have b3:Gw w 20 5=some (w/1048576%32):=fp w 20 5 (by decide) (by decide) (by decide) (by decide)
  rw[aU (n:=(n:Int)+1) (by omega) (by omega)]
  clear henc hS hs ho hp hpo s5 s6 hsf
  unfold dP at he⊢
  generalize jN.a w z os 65 (↑n+1)=nx
  generalize fP f w=iu at*
  generalize nF f w=im at*
  simp only[b1,b2,b3,af]
  rcases fO s1 with rfl|rfl|rfl|rfl|rfl|rfl|rfl|rfl|rfl<;>simp[eI,bd]at hi he⊢ <;>first|(rw[hi,af,he];simp[d5])|(rw[hi,he];simp[d5])
 ·rw[ap (fun hh=>hc hh.1),show decide ((bE n).2.1=w%128)=false by simpa using hc]
  rfl
theorem xp (n:Int):SI n=some (decide (1≤n)&&decide (n≤64)):=by
 rw[KS,za]
 by_cases h:n≥1<;>simp[h]
theorem u0 (n:Int):Q9 n=some (decide (0≤n)&&decide (n≤31)):=by
 rw[KT,za]
 by_cases h:n≥0<;>simp[h]
theorem fR (n a b:Int):oh n a b=some (decide (a≤n)&&decide (n≤b)):=by
 rw[za]
 by_cases h:n≥a<;>simp[h]
theorem cF (n a b:Int):gT n a b=some (decide (a≤n)&&decide (n≤b)):=by
 rw[zb]
 by_cases h:a≤n<;>simp[h]
def js (f i:Int):Bool:=
 if f=1 then decide (-2147483648≤i)&&decide (i≤2147479552)&&decide (i%4096=0)
 else if f=2 then decide (-1048576≤i)&&decide (i≤1048574)&&decide (i%2=0)
 else if f=3∨f=5 then decide (-2048≤i)&&decide (i≤2047)
 else if f=4 then decide (-4096≤i)&&decide (i≤4094)&&decide (i%2=0)
 else if f=6 then decide (0≤i)&&decide (i≤63)
 else if f=7 then decide (0≤i)&&decide (i≤31)
 else decide (i=0)
def dv (x:Int×Int×Int×Int×Int):Bool:=
 decide (1≤x.1)&&decide (x.1≤64)&&decide (0≤x.2.1)&&decide (x.2.1≤31)&&decide (0≤x.2.2.1)&&decide (x.2.2.1≤31)&&decide (0≤x.2.2.2.1)&&decide (x.2.2.2.1≤31)
  &&((bd (bE x.1).1).1||decide (x.2.1=0))&&((bd (bE x.1).1).2.1||decide (x.2.2.1=0))&&((bd (bE x.1).1).2.2||decide (x.2.2.2.1=0))&&js (bE x.1).1 x.2.2.2.2
theorem kv (x:Int×Int×Int×Int×Int):Ru x=some (dv x):=by
 rw[KU]
 obtain⟨n,d,a,b,i⟩:=x
 simp only[aJ,xp,u0,fR,af,dv]
 by_cases hn:1≤n∧n≤64
 ·by_cases hd:0≤d∧d≤31
  ·by_cases ha:0≤a∧a≤31
   ·by_cases hb:0≤b∧b≤31
    ·have hs:=ip n hn.1 hn.2
     rw[ez n (by omega) hn.2]
     generalize bE n=s at*
     obtain⟨f,c,f3,f7⟩:=s
     have s1:=(dp hs).1
     simp only[hn,hd,ha,hb,decide_true,Bool.and_self,aM,ac,af,Bool.true_and]
     clear hs
     have t1:decide (i.tmod 4096=0)=decide (i%4096=0):=by
      congr 1;exact propext ⟨fun h=>by rw[←Int.dvd_iff_tmod_eq_zero]at h;omega,fun h=>by rw[←Int.dvd_iff_tmod_eq_zero];omega⟩
     have t2:decide (i.tmod 2=0)=decide (i%2=0):=by
      congr 1;exact propext ⟨fun h=>by rw[←Int.dvd_iff_tmod_eq_zero]at h;omega,fun h=>by rw[←Int.dvd_iff_tmod_eq_zero];omega⟩
     rw[t1,t2]
     rcases fO s1 with rfl|rfl|rfl|rfl|rfl|rfl|rfl|rfl|rfl<;>simp[bd,js]<;>by_cases e1:d=0<;>by_cases e2:a=0<;>by_cases e3:b=0<;>simp[e1,e2,e3,d5]<;>(first|done|(split<;>first|(simp_all;done)|(simp;intro q1 q2;omega)))
    ·have:(decide (0≤b)&&decide (b≤31))=false:=by simpa using hb
     have h2:¬(0≤b∧b≤31):=hb
     rw[this]
     simp[hn,hd,ha]
     by_cases q:0≤b<;>simp[q]<;>intros<;>omega
   ·have:(decide (0≤a)&&decide (a≤31))=false:=by simpa using ha
    rw[this]
    simp[hn,hd]
    by_cases q:0≤a<;>simp[q]<;>intros<;>omega
  ·have:(decide (0≤d)&&decide (d≤31))=false:=by simpa using hd
   rw[this]
   simp[hn]
   by_cases q:0≤d<;>simp[q]<;>intros<;>omega
 ·have:(decide (1≤n)&&decide (n≤64))=false:=by simpa using hn
  rw[this]
  simp
theorem fT {n:Int} (h:1≤n) (h':n≤64):1≤(bE n).1∧(bE n).1≤9:=by
 have:=ip n h h'
 generalize bE n=s at*
 exact(dp this).1
theorem tM {n f w:Int} (hn:1≤n) (hn':n≤64) (hf:f=(bE n).1) (h:0≤w) (h':w<4294967296):dv (dP n f w)=true:=by
 have s1:=fT hn hn'
 obtain⟨⟨d1,d2⟩,⟨a1,a2⟩,⟨b1,b2⟩,⟨i1,i2⟩⟩:=fQ (n:=n) (hf▸s1) h h'
 have hi:js f (nF f w)=true:=by
  subst hf
  rcases fO s1 with e|e|e|e|e|e|e|e|e<;>rw[e]<;>simp[js,nF,eI,fP,cE]<;>omega
 subst hf
 unfold dv
 simp only[ay,Bool.or_eq_true,aT]
 simp only[dP]at d1 d2 a1 a2 b1 b2⊢
 refine⟨⟨⟨⟨⟨⟨⟨⟨⟨⟨⟨hn,hn'⟩,d1⟩,d2⟩,a1⟩,a2⟩,b1⟩,b2⟩, ?_⟩, ?_⟩, ?_⟩,hi⟩
 ·cases (bd (bE n).1).1<;>simp
 ·cases (bd (bE n).1).2.1<;>simp
 ·cases (bd (bE n).1).2.2<;>simp
theorem qJ (w:Int) (h:0≤w) (h':w<4294967296) (n:Int) (h1:1≤n) (hn:n≤64):SH n w=some (dP n (bE n).1 w):=by
 have s1:=fT h1 hn
 have fv:∀l c:Int,0≤l→0≤c→l+c≤62→rR w l c=some (w/2^l.toNat%2^c.toNat):=fun l c a b d=>CE w l c (by omega) (by omega) a b d
 have bv:∀l:Int,0≤l→l≤63→ye w l=some (w/2^l.toNat%2):=fun l a b=>hJ w l (by omega) (by omega) a b
 rw[KR,fv 7 5 (by decide) (by decide) (by decide),fv 15 5 (by decide) (by decide) (by decide),fv 20 5 (by decide) (by decide) (by decide),fv 12 20 (by decide) (by decide) (by decide),fv 21 10 (by decide) (by decide) (by decide),fv 12 8 (by decide) (by decide) (by decide),fv 20 12 (by decide) (by decide) (by decide),fv 8 4 (by decide) (by decide) (by decide),fv 25 6 (by decide) (by decide) (by decide),fv 25 7 (by decide) (by decide) (by decide),fv 20 6 (by decide) (by decide) (by decide),bv 20 (by decide) (by decide),bv 31 (by decide) (by decide),bv 7 (by decide) (by decide),ez n (by omega) hn]
 generalize bE n=s at*
 obtain⟨f,c,f3,f7⟩:=s
 dsimp only at*
 simp only[af,dP,nF]
 rcases fO s1 with rfl|rfl|rfl|rfl|rfl|rfl|rfl|rfl|rfl
 ·simp[bd,eI,fP]
  rw[iT _ 20 (by decide) (by decide) (by omega) (by omega)]
  simp[cE]
  rw[aU (by omega) (by omega)]
  omega
 ·simp[bd,eI,fP]
  rw[aU (n:=w/2097152%1024*2) (by omega) (by omega),aU (n:=w/1048576%2*2048) (by omega) (by omega),aU (n:=w/4096%256*4096) (by omega) (by omega),aU (n:=w/2147483648%2*1048576) (by omega) (by omega),aU (n:=w/2097152%1024*2+w/1048576%2*2048) (by omega) (by omega),aU (n:=w/2097152%1024*2+w/1048576%2*2048+w/4096%256*4096) (by omega) (by omega),aU (by omega) (by omega),iT _ 21 (by decide) (by decide) (by omega) (by omega)]
  simp
  congr 1;omega
 ·simp[bd,eI,fP]
  rw[iT _ 12 (by decide) (by decide) (by omega) (by omega)]
  simp
 ·simp[bd,eI,fP]
  rw[aU (n:=w/256%16*2) (by omega) (by omega),aU (n:=w/33554432%64*32) (by omega) (by omega),aU (n:=w/128%2*2048) (by omega) (by omega),aU (n:=w/2147483648%2*4096) (by omega) (by omega),aU (n:=w/256%16*2+w/33554432%64*32) (by omega) (by omega),aU (n:=w/256%16*2+w/33554432%64*32+w/128%2*2048) (by omega) (by omega),aU (by omega) (by omega),iT _ 13 (by decide) (by decide) (by omega) (by omega)]
  simp
  congr 1;omega
 ·simp[bd,eI,fP]
  rw[aU (n:=w/33554432%128*32) (by omega) (by omega),aU (by omega) (by omega),iT _ 12 (by decide) (by decide) (by omega) (by omega)]
  simp
 ·simp[bd,eI,fP]
 ·simp[bd,eI,fP]
 ·simp[bd,eI,fP]
 ·simp[bd,eI,fP]
theorem Oq {n f c f3 f7 w:Int} (hs:tI (f,c,f3,f7)=true) (h:0≤w) (h':w<4294967296) (hc:c=w%128) (h3:3≤f) (h8:f≤8) (he:bK (f,c,f3,f7) (dP n f w)=w):f3=w/4096%8:=by
 obtain⟨s1,⟨s2,s2'⟩,⟨s3,s3'⟩,⟨s4,s4'⟩,s5,s6⟩:=dp hs
 clear hs
 have hd:=(fQ (n:=n) s1 h h').d
 have ha:=(fQ (n:=n) s1 h h').a
 have hb:=(fQ (n:=n) s1 h h').b
 have:f=3∨f=4∨f=5∨f=6∨f=7∨f=8:=by omega
 generalize dP n f w=x at*
 obtain⟨n',d,a,b,i⟩:=x
 dsimp only at*
 rcases this with rfl|rfl|rfl|rfl|rfl|rfl<;>simp only[bK,Int.reduceEq,↓reduceIte]at he
 ·have hb0:0≤i%4096∧i%4096<4096:=by omega
  generalize i%4096=y0 at*;omega
 ·have hb0:0≤i/2048%2∧i/2048%2<2:=by omega
  generalize i/2048%2=y0 at*
  have hb1:0≤i/2%16∧i/2%16<16:=by omega
  generalize i/2%16=y1 at*
  have hb2:0≤i/32%64∧i/32%64<64:=by omega
  generalize i/32%64=y2 at*
  have hb3:0≤i/4096%2∧i/4096%2<2:=by omega
  generalize i/4096%2=y3 at*;omega
 ·have hb0:0≤i%32∧i%32<32:=by omega
  generalize i%32=y0 at*
  have hb1:0≤i/32%128∧i/32%128<128:=by omega
  generalize i/32%128=y1 at*;omega
 ·have hb0:0≤i%64∧i%64<64:=by omega
  generalize i%64=y0 at*;omega
 ·have hb0:0≤i%32∧i%32<32:=by omega
  generalize i%32=y0 at*;omega
 ·omega
theorem sA (w:Int) (h:0≤w) (h':w<4294967296) (z:Int×Int×Int×Int×Int) (n:Nat) (h1:1≤n) (hn:n≤64):
  w8.a w z n=if(bE n).2.1=w%128∧bK (bE n) (dP n (bE n).1 w)=w then some (dP n (bE n).1 w,true)else w8.a w z ((n+1:Nat):Int):=by
 have hsf:=ip n (by omega) (by omega)
 have s1:=fT (n:=n) (by omega) (by omega)
 have hr:=tM (n:=n) (by omega) (by omega) rfl h h'
 have he:iD (dP n (bE n).1 w)=some (bK (bE n) (dP n (bE n).1 w)):=gb (dP n (bE n).1 w) (by simp only[dP];omega) (by simp only[dP];omega) (fQ s1 h h') (fun hf=>by
  have hf:(bE n).1=1:=hf
  show nF (bE n).1 w%4096=0
  rw[hf];simp[nF,eI,fP,cE];omega)
 have e0:((n+1:Nat):Int)=(n:Int)+1:=by omega
 rw[w8.a_eq,show decide ((n:Int)≤64)=true by simp;omega,ez n (by omega) (by omega),aU (n:=(n:Int)+1) (by omega) (by omega),e0]
 simp only[ae,aJ,af,fR,qJ w h h' n (by omega) (by omega),kv,hr,he]
 have t1:w.tmod 128=w%128:=Int.tmod_eq_emod_of_nonneg h
 have t2:(w.tdiv 4096).tmod 8=w/4096%8:=by rw[Int.tdiv_eq_ediv_of_nonneg h,Int.tmod_eq_emod_of_nonneg (by omega)]
 have w1:IntKind.wrap .i64 (w.tdiv 4096)=w.tdiv 4096:=by rw[Int.tdiv_eq_ediv_of_nonneg h];exact aU (by omega) (by omega)
 rw[w1,t1,t2]
 have h3:=fun(hc:(bE n).2.1=w%128) (h3:3≤(bE n).1) (h8:(bE n).1≤8) (he:bK (bE n) (dP n (bE n).1 w)=w)=>Oq (n:=n) (f:=(bE n).1) (c:=(bE n).2.1) (f3:=(bE n).2.2.1) (f7:=(bE n).2.2.2) hsf h h' hc h3 h8 he
 clear hsf hr he
 generalize bE n=s at*
 by_cases hc:s.2.1=w%128
 ·by_cases hf:3≤s.1∧s.1≤8
  ·by_cases hg:s.2.2.1=w/4096%8
   ·simp[hc,hf,hg,d5]
   ·have:¬bK s (dP n s.1 w)=w:=fun he=>hg (h3 hc hf.1 hf.2 he)
    simp[hc,hf,hg,this]
  ·have:(decide (3≤s.1)&&decide (s.1≤8))=false:=by simpa using hf
   simp[hc,this,d5]
 ·simp[hc]
def CP (w:Int) (v:(Int×Int×Int×Int×Int)×Bool):Prop:=(v.2=true→1≤v.1.1∧v.1.1≤64∧v.1=dP v.1.1 (bE v.1.1).1 w∧bK (bE v.1.1) v.1=w)∧(v.2=false→v.1=(0,0,0,0,0))
theorem kw (w:Int) (h:0≤w) (h':w<4294967296):∃v,jN w=some v∧w8 w=some v∧CP w v:=by
 obtain⟨os,ho,hl,hs⟩:=GN 0 (by decide) (by decide)
 rw[Gx,KX,ho]
 simp only[af,hl]
 have hz:jN.a w (0,0,0,0,0) os 65 0=jN.a w (0,0,0,0,0) os 65 1:=by
  rw[jN.a_eq,hl];rfl
 have key:∀(k n:Nat),n+k=65→1≤n→∃v,jN.a w (0,0,0,0,0) os 65 (n:Int)=some v∧w8.a w (0,0,0,0,0) (n:Int)=some v∧CP w v:=by
  intro k
  induction k with
  |zero=>
   intro n hn h1
   have:n=65:=by omega
   subst this
   rw[jN.a_eq,w8.a_eq]
   exact⟨_,rfl,rfl,(fun hh=>by cases hh),fun _=>rfl⟩
  |succ k ih=>
   intro n hn h1
   obtain⟨v,e1,e2,e3⟩:=ih (n+1) (by omega) (by omega)
   rw[iq w h h' _ os hl hs n h1 (by omega),sA w h h' _ n h1 (by omega),e1,e2]
   by_cases hc:(bE n).2.1=w%128∧bK (bE n) (dP n (bE n).1 w)=w
   ·rw[au hc]
    exact⟨_,rfl,rfl,fun _=>⟨by simp only[dP];omega,by simp only[dP];omega,rfl,hc.2⟩,(fun hh=>by cases hh)⟩
   ·rw[ap hc]
    exact⟨v,rfl,rfl,e3⟩
 rw[show(((65:Nat)):Int)=65 by rfl,hz]
 exact key 64 1 (by omega) (by omega)
abbrev d6:Ty:= .pair (.int .i64) (.pair (.int .i64) (.pair (.int .i64) (.pair (.int .i64) (.int .i64))))
abbrev gJ:Type:=Int×Int×Int×Int×Int
theorem CQ (a b:ByteArray):(bM a b=true)=(a=b):=by
 unfold bM
 rw[beq_iff_eq]
 refine propext ⟨fun h=> ?_,fun h=>by rw[h]⟩
 have e:∀x:ByteArray,x.toList=x.data.toList:=by
  intro x
  have:∀(n i:Nat) (r:List UInt8),n=x.size-i→ByteArray.toList.loop x i r=r.reverse++x.data.toList.drop i:=by
   intro n
   induction n with
   |zero=>
     intro i r hn
     rw[ByteArray.toList.loop,ap (by omega),List.drop_eq_nil_of_le (by have:x.size=x.data.size:=rfl;simp;omega),List.append_nil]
   |succ n ih=>
    intro i r hn
    have hi:i<x.data.toList.length:=by have:x.size=x.data.size:=rfl;simp;omega
    rw[ByteArray.toList.loop,au (by omega),ih (i+1) _ (by omega),List.drop_eq_getElem_cons hi]
    have:x.get! i=x.data.toList[i]:=by
     have h2:i<x.data.size:=by simpa using hi
     rw[ByteArray.get!,getElem!_pos x.data i h2];simp
    rw[this];simp
  have:=this (x.size-0) 0 [] rfl
  rw[ByteArray.toList,this];simp
 rw[e,e]at h
 have:a.data=b.data:=Array.toList_inj.mp h
 cases a;cases b;simp_all
theorem bf (a b:ByteArray):bM a b=decide (a=b):=by
 have:=CQ a b
 by_cases h:a=b
 ·rw[ab h,this.mpr h]
 ·rw[am h]
  cases e:bM a b
  ·rfl
  ·exact absurd (this.mp e) h
theorem pj (a b:gJ):kR d6 a b=decide (a=b):=by
 obtain⟨a1,a2,a3,a4,a5⟩:=a
 obtain⟨b1,b2,b3,b4,b5⟩:=b
 simp[kR]
def eV (t:ByteArray) (a:Nat):Nat→Nat
 |0=>0
 |n+1=>(t.data.getD a 0).toNat+256*eV t (a+1) n
theorem GO (t:ByteArray):∀(n a:Nat),eV t a n<256^n:=by
 intro n
 induction n with
 |zero=>intro a;simp[eV]
 |succ n ih=>
  intro a
  have h1:=ih (a+1)
  have h2:=(t.data.getD a 0).toNat_lt
  rw[eV,Nat.pow_succ];omega
theorem fU (t:ByteArray) (a b:Nat) (hb:b≤t.size):∀(n i:Nat),i+n≤b-a→eV (t.extract a b) i n=eV t (a+i) n:=by
 intro n
 induction n with
 |zero=>intro i _;rfl
 |succ n ih=>
  intro i h
  rw[eV,eV,ih (i+1) (by omega)]
  congr 2
  rw[ByteArray.data_extract]
  have hs:t.size=t.data.size:=rfl
  simp[Array.getD]
  rw[dif_pos (by omega),dif_pos (by omega)]
theorem Jk (V b:Int) (hV:0≤V) (hb:0≤b) (hb':b≤255):iC .i64 (dc .i64 (IntKind.wrap .i64 V) 8) b=IntKind.wrap .i64 (256*V+b):=by
 have h1:dc .i64 (IntKind.wrap .i64 V) 8=IntKind.wrap .i64 (V*256):=by
  rw[mA (by decide) (by decide)]
  obtain⟨q,hq⟩:=zl V
  have e8:(2:Int)^(8:Int).toNat=256:=by decide
  rw[hq,e8,IntKind.wrap_i64,IntKind.wrap_i64];omega
 rw[h1]
 obtain⟨y,rfl⟩:=Int.eq_ofNat_of_zero_le hb
 unfold iC
 rw[BitVec.toNat_or]
 have f1:=zm (IntKind.wrap .i64 (V*256))
 have f2:(BitVec.ofInt IntKind.i64.bits (y:Int)).toNat=y:=by have:=zm (y:Int);omega
 have f3:IntKind.wrap .i64 (V*256)%18446744073709551616=V*256%18446744073709551616:=by
  rw[IntKind.wrap_i64];omega
 rw[f3]at f1
 rw[f2]
 generalize (BitVec.ofInt IntKind.i64.bits (IntKind.wrap .i64 (V*256))).toNat=x at*
 have h0:=mB x y 0 8 (by omega) (by omega)
 simp only[Nat.pow_zero,Nat.mul_one]at h0
 rw[h0,IntKind.wrap_i64,IntKind.wrap_i64]
 omega
theorem mH (n:Int):IntKind.wrap .u64 n=n%18446744073709551616:=by simp[IntKind.wrap,IntKind.bits,IntKind.signed]
theorem eQ (t:ByteArray) (i:Nat):bt t (i:Int)=((t.data.getD i 0).toNat:Int):=by unfold bt;rw[aB]
theorem qK (t:ByteArray) (hz:t.size≤9223372036854775807):∀(k:Nat),k≤t.size→vJ.a t (IntKind.wrap .i64 (eV t k (t.size-k))) ((k:Int)-1)=some (IntKind.wrap .i64 (eV t 0 t.size)):=by
 intro k
 induction k with
 |zero=>
  intro _
  rw[vJ.a_eq];rfl
 |succ k ih=>
  intro hk
  have hs:(((k+1:Nat):Int)-1)=(k:Int):=by omega
  have hb:=xf t (k:Int)
  rw[hs,vJ.a_eq,show decide ((k:Int)≥0)=true by simp,aj,ab (show k<t.size by omega),aU (n:=bt t (k:Int)) (by omega) (by omega),Jk _ _ (by omega) hb.1 hb.2,aU (n:=(k:Int)-1) (by omega) (by omega)]
  simp only[ae]
  have e:eV t k (t.size-k)=(t.data.getD k 0).toNat+256*eV t (k+1) (t.size-(k+1)):=by
   rw[show t.size-k=(t.size-(k+1))+1 by omega,eV]
  have ih:=ih (by omega)
  rw[e]at ih
  rw[eQ,show(256:Int)*(eV t (k+1) (t.size-(k+1)):Nat)+((t.data.getD k 0).toNat:Nat)=(((t.data.getD k 0).toNat+256*eV t (k+1) (t.size-(k+1)):Nat):Int) by omega]
  exact ih
theorem d7 (t:ByteArray) (hz:t.size≤9223372036854775807):vJ t=some (IntKind.wrap .i64 (eV t 0 t.size)):=by
 have:=qK t hz t.size (by omega)
 rw[Nat.sub_self,show IntKind.wrap .i64 (eV t t.size 0:Nat)=0 by rfl]at this
 rw[Nd,aU (n:=(t.size:Int)-1) (by omega) (by omega)]
 exact this
theorem qL (t:ByteArray) (a n:Nat) (hz:t.size≤4611686018427387904) (han:a+n≤t.size):∀(k:Nat),k≤n→uP.a t (a:Int) (((eV t (a+k) (n-k):Nat):Int)%18446744073709551616) ((k:Int)-1)=some (IntKind.wrap .i64 (eV t a n)):=by
 intro k
 induction k with
 |zero=>
  intro _
  rw[uP.a_eq,show decide (((0:Nat):Int)-1≥0)=false by rfl]
  simp only[ac,Nat.add_zero,Nat.sub_zero]
  congr 1
  rw[IntKind.wrap_i64,IntKind.wrap_i64];omega
 |succ k ih=>
  intro hk
  have hs:(((k+1:Nat):Int)-1)=(k:Int):=by omega
  have hi:((a:Int)+(k:Int))=((a+k:Nat):Int):=by omega
  rw[hs,uP.a_eq,show decide ((k:Int)≥0)=true by simp,hi,aU (n:=((a+k:Nat):Int)) (by omega) (by omega),aj,ab (show a+k<t.size by omega),aU (n:=(k:Int)-1) (by omega) (by omega)]
  simp only[ae]
  have e:eV t (a+k) (n-k)=(t.data.getD (a+k) 0).toNat+256*eV t (a+(k+1)) (n-(k+1)):=by
   rw[show n-k=(n-(k+1))+1 by omega,eV];rfl
  have ih:=ih (by omega)
  rw[e]at ih
  rw[eQ]
  have hb:=(t.data.getD (a+k) 0).toNat_lt
  refine Eq.trans ?_ ih
  congr 1
  rw[mH,mH,mH]
  generalize (t.data.getD (a+k) 0).toNat=b at*
  generalize eV t (a+(k+1)) (n-(k+1))=L at*
  omega
theorem fH (t:ByteArray) (a n:Nat) (hz:t.size≤4611686018427387904) (han:a+n≤t.size):uP t (a:Int) (n:Int)=some (IntKind.wrap .i64 (eV t a n)):=by
 have:=qL t a n hz han n (by omega)
 rw[Nat.sub_self,show((eV t (a+n) 0:Nat):Int)%18446744073709551616=0 by rfl]at this
 rw[KY,aU (n:=(n:Int)-1) (by omega) (by omega)]
 exact this
theorem Tw (t:ByteArray) (a:Nat):0≤((eV t a 4:Nat):Int)∧((eV t a 4:Nat):Int)<4294967296:=by
 have:=GO t 4 a
 have e:256^4=4294967296:=by decide
 omega
def oK (x:gJ):Prop:=1≤x.1∧x.1≤64∧ga x∧dv x=true
theorem CP.ins {w:Int} (h:0≤w) (h':w<4294967296) {v:gJ×Bool} (hv:CP w v) (hb:v.2=true):oK v.1:=by
 obtain⟨h1,h2,h3,h4⟩:=hv.1 hb
 refine⟨h1,h2, ?_, ?_⟩
 ·rw[h3];exact fQ (fT h1 h2) h h'
 ·rw[h3];exact tM h1 h2 rfl h h'
theorem pm {n b:Nat} (h:n*b≤140737488355328) (h':n≤140737488355328):aH n b=true:=by
 simp only[aH,ay,aT];omega
inductive Rh (code:ByteArray):Prop where
 |ok (l:List gJ) (hi:yi code=some (l,0,true)) (hs:Cu code=some (l,-1)) (hl:4*l.length=code.size) (hr:∀x∈l,oK x)
 |bad (k:Int) (hi:yi code=some ([],k,false)) (hs:Cu code=some ([],k)) (h0:0≤k)
theorem xq (code:ByteArray) (h4:code.size%4=0) (hz:code.size≤1048576):Rh code:=by
 have key:∀(k i:Nat) (l:List gJ),4*(i+k)=code.size→l.length=i→(∀x∈l,oK x)→
   (∃l',yi.a code l (4*i:Nat)=some (l',0,true)∧Cu.a code l (i:Int)=some (l',-1)∧4*l'.length=code.size∧∀x∈l',oK x)∨
   (∃b:Int,yi.a code l (4*i:Nat)=some ([],b,false)∧Cu.a code l (i:Int)=some ([],b)∧0≤b):=by
  intro k
  induction k with
  |zero=>
   intro i l hk hl hr
   rw[yi.a_eq,Cu.a_eq,aU (n:=4*(i:Int)) (by omega) (by omega),show decide (((4*i:Nat):Int)< (code.size:Int))=false by simp;omega,show decide (4*(i:Int)< (code.size:Int))=false by simp;omega]
   exact Or.inl ⟨l,rfl,rfl,by omega,hr⟩
  |succ k ih=>
   intro i l hk hl hr
   have hw:=Tw code (4*i)
   obtain⟨v,e1,e2,e3⟩:=kw _ hw.1 hw.2
   have t1:vJ (code.extract (4*i) (4*i+4))=some ((eV code (4*i) 4:Nat):Int):=by
    have hsz:(code.extract (4*i) (4*i+4)).size=4:=by rw[ByteArray.size_extract];omega
    rw[d7 _ (by omega),hsz,fU code (4*i) (4*i+4) (by omega) 4 0 (by omega),Nat.add_zero,aU (by omega) (by omega)]
   have t2:uP code ((4*i:Nat):Int) 4=some ((eV code (4*i) 4:Nat):Int):=by
    rw[show(4:Int)=((4:Nat):Int) by rfl,fH _ _ _ (by omega) (by omega),aU (by omega) (by omega)]
   rw[yi.a_eq,Cu.a_eq,aU (n:=4*(i:Int)) (by omega) (by omega),aU (n:=(i:Int)+1) (by omega) (by omega),aU (n:=((4*i:Nat):Int)+4) (by omega) (by omega),show 4*(i:Int)=((4*i:Nat):Int) by omega,aB,show(((4*i:Nat):Int)+4).toNat=4*i+4 by omega,t1,t2]
   rw[show decide (((4*i:Nat):Int)< (code.size:Int))=true by simp;omega,show decide ((0:Int)≤((4*i:Nat):Int))=true by simp;omega,show decide (((4*i:Nat):Int)≤((4*i:Nat):Int)+4)=true by simp;omega,show decide (((4*i:Nat):Int)+4≤(code.size:Int))=true by simp;omega]
   simp only[ae,Bool.and_self,af,e1,e2]
   cases hb:v.2 with
   |false=>
    refine Or.inr ⟨(i:Int), ?_,rfl,by omega⟩
    rw[show(((4*i:Nat):Int)).tdiv 4=(i:Int) by rw[Int.tdiv_eq_ediv_of_nonneg (by omega)];omega,aU (by omega) (by omega)];rfl
   |true=>
    have hx:=CP.ins hw.1 hw.2 e3 hb
    rw[pm (by simp;omega) (by simp;omega)]
    simp only[aM,ac,ae]
    have ih:=ih (i+1) (l++[v.1]) (by omega) (by simp;omega) (by
     intro x hx'
     rcases List.mem_append.mp hx' with h|h
     ·exact hr x h
     ·rw[List.mem_singleton.mp h];exact hx)
    rw[show((4*(i+1):Nat):Int)=((4*i:Nat):Int)+4 by omega,show((i+1:Nat):Int)=(i:Int)+1 by omega]at ih
    exact ih
 rcases key (code.size/4) 0 [] (by omega) rfl (by simp)with⟨l,a1,a2,a3,a4⟩|⟨b,a1,a2,a3⟩
 ·exact .ok l ((ze code).trans a1) ((Gi code).trans a2) a3 a4
 ·exact .bad b ((ze code).trans a1) ((Gi code).trans a2) a3
theorem ep {α:Type} {c d:Prop} [Decidable c] [Decidable d] {a b b':α} (h:c↔d) (hb:b=b'):(if c then a else b)=(if d then a else b'):=by
 subst hb
 by_cases hc:c
 ·rw[au hc,au (h.mp hc)]
 ·rw[ap hc,ap (fun hd=>hc (h.mpr hd))]
theorem GP (f:Int) (h:16≤f∧f≤128):Te f=some [(14,1,2,0,f-8),(22,2,2,0,f),(4,0,1,0,0)]∧SK f=some [(14,1,2,0,f-8),(22,2,2,0,f),(4,0,1,0,0)]:=by
 rw[Nh,K3,aU (n:=f-8) (by omega) (by omega)];exact⟨rfl,rfl⟩
def bV (l:List gJ) (f k:Int):Bool:=
 decide (2≤k)&&decide (k+2< (l.length:Int))&&decide (rd (τ:=d6) l k=((14,1,2,0,f-8):gJ))&&decide (rd (τ:=d6) l (k+1)=((22,2,2,0,f):gJ))&&decide (rd (τ:=d6) l (k+2)=((4,0,1,0,0):gJ))
theorem Jl (i:Int) (n:Nat):(aA i n=true)=(0≤i∧i< (n:Int)):=by simp[aA]
theorem inL_true {i:Int} {n:Nat} (h:0≤i) (h':i< (n:Int)):aA i n=true:=by rw[Jl];exact⟨h,h'⟩
theorem d8 (l:List gJ) (f k:Int) (hf:16≤f∧f≤128) (hl:l.length≤1048576) (hk: -4611686018427387904≤k) (hk':k≤4611686018427387904):Ja l k f=some (bV l f k):=by
 rw[K4,(GP f hf).2,aU (n:=k+1) (by omega) (by omega),aU (n:=k+2) (by omega) (by omega)]
 simp only[af]
 unfold bV
 by_cases h1:2≤k
 ·by_cases h2:k+2< (l.length:Int)
  ·rw[inL_true (i:=k) (by omega) (by omega),inL_true (i:=k+1) (by omega) (by omega),inL_true (i:=k+2) (by omega) (by omega),pj,pj,pj]
   simp only[h1,h2,decide_true,ae,Bool.true_and]
   have e0:∀a b c:gJ,rd (τ:=d6) [a,b,c] 0=a:=fun _ _ _=>rfl
   have e1:∀a b c:gJ,rd (τ:=d6) [a,b,c] 1=b:=fun _ _ _=>rfl
   have e2:∀a b c:gJ,rd (τ:=d6) [a,b,c] 2=c:=fun _ _ _=>rfl
   rw[e0,e1,e2]
   show(bif true then bif decide _ then(bif true then bif decide _ then(bif true then some (decide _)else none)else some false else none)else some false else none)=_
   cases decide (rd (τ:=d6) l k=((14,1,2,0,f-8):gJ))<;>cases decide (rd (τ:=d6) l (k+1)=((22,2,2,0,f):gJ))<;>rfl
  ·simp[h1,h2]
 ·simp[h1]
theorem Jm (l:List gJ) (f k:Int):(bV l f k=true→bV l f (k-1)=false)∧(bV l f k=true→bV l f (k-2)=false)∧(bV l f (k-1)=true→bV l f (k-2)=false):=by
 have e1:k-1+1=k:=by omega
 have e2:k-2+2=k:=by omega
 have e3:k-2+1=k-1:=by omega
 have e4:k-1+2=k+1:=by omega
 unfold bV
 rw[e1,e2,e3,e4]
 simp only[ay,aT]
 refine⟨?_, ?_, ?_⟩
 ·rintro⟨⟨⟨_,h⟩,_⟩,_⟩
  rw[h];simp
 ·rintro⟨⟨⟨_,h⟩,_⟩,_⟩
  rw[h];simp
 ·rintro⟨⟨⟨_,h⟩,h2⟩,_⟩
  rw[h2];simp
def sB (l:List gJ) (f:Int) (n j:Int):Int:=
 if j<n∧bV l f j=true then 1 else if j-1<n∧bV l f (j-1)=true then 2 else if j-2<n∧bV l f (j-2)=true then 3 else 0
def hY (l:List gJ) (f:Int) (n:Int) (E:List Int):Prop:=E.length=l.length∧∀j:Nat,j<l.length→E[j]? =some (sB l f n (j:Int))
theorem zu (a b:List gJ) (hl:a.length=b.length) (hz:a.length≤1048576):∀(k j:Nat),j+k=a.length→Gy.a a b (a.length:Int) (j:Int)=some (decide (a.drop j=b.drop j)):=by
 intro k
 induction k with
 |zero=>
  intro j hj
  rw[Gy.a_eq,ai,show decide (j<a.length)=false by simp;omega,List.drop_eq_nil_of_le (by omega),List.drop_eq_nil_of_le (by omega)];rfl
 |succ k ih=>
  intro j hj
  have h1:j<a.length:=by omega
  have h2:j<b.length:=by omega
  rw[Gy.a_eq,ai,aj,aj,ab h1,ab h2,an j a.length h1 (by omega),ih (j+1) (by omega)]
  simp only[ae]
  rw[aY (τ:=d6) a j h1,aY (τ:=d6) b j h2,pj,List.drop_eq_getElem_cons h1,List.drop_eq_getElem_cons h2]
  simp only[aD]
  by_cases h:a[j]=b[j]<;>simp[h]
theorem CR (a b:List gJ) (hz:a.length≤1048576):Gy a b=some (decide (a=b)):=by
 rw[Ng]
 by_cases h:a.length=b.length
 ·rw[show decide ((a.length:Int)=(b.length:Int))=true by simp[h]]
  have:=zu a b h hz a.length 0 (by omega)
  rw[show((0:Nat):Int)=0 by rfl]at this
  simp only[aM,ac,this,List.drop_zero]
 ·rw[show decide ((a.length:Int)=(b.length:Int))=false by simp;omega]
  simp only[Bool.not_false,ae]
  rw[am];rintro rfl;exact h rfl
theorem GQ (l:List gJ) (k:Nat) (hk:k+3≤l.length) (a b c:gJ):decide ((l.take (k+3)).drop k=[a,b,c])=(decide (rd (τ:=d6) l k=a)&&decide (rd (τ:=d6) l ((k:Int)+1)=b)&&decide (rd (τ:=d6) l ((k:Int)+2)=c)):=by
 rw[show(k:Int)+1=((k+1:Nat):Int) by omega,show(k:Int)+2=((k+2:Nat):Int) by omega,aY (τ:=d6) l k (by omega),aY (τ:=d6) l (k+1) (by omega),aY (τ:=d6) l (k+2) (by omega)]
 rw[List.drop_take,show k+3-k=3 by omega,List.drop_eq_getElem_cons (show k<l.length by omega),List.drop_eq_getElem_cons (show k+1<l.length by omega),List.drop_eq_getElem_cons (show k+1+1<l.length by omega)]
 simp[List.take]
 rw[Bool.and_assoc]
theorem CS (at_:Int) (calls:List Int) (l:List gJ) (f:Int) (hf:16≤f∧f≤128) (hl:l.length≤1048576) (h2:2≤l.length):
  ∀(k i:Nat) (E:List Int),2≤i→i+k+2=l.length→hY l f i E→∃E',hY l f l.length E'∧jQ.b f l (l,f,at_,calls,E) i=jQ.c l (l,f,at_,calls,E') 2:=by
 intro k
 induction k with
 |zero=>
  intro i E h2i hk hE
  refine⟨E,⟨hE.1,fun j hj=> ?_⟩, ?_⟩
  ·rw[hE.2 j hj]
   congr 1
   have out:∀m:Int,(i:Int)≤m→bV l f m=false:=by
    intro m hm
    unfold bV
    rw[show decide (m+2< (l.length:Int))=false by simp;omega];simp
   have r:∀m:Int,m< (l.length:Int)→((m< (i:Int)∧bV l f m=true)↔(m< (l.length:Int)∧bV l f m=true)):=by
    intro m hm
    constructor
    ·rintro⟨_,h⟩;exact⟨hm,h⟩
    ·rintro⟨_,h⟩
     refine⟨?_,h⟩
     by_cases hmi:m< (i:Int)
     ·exact hmi
     ·rw[out m (by omega)]at h;cases h
   unfold sB
   exact ep (r j (by omega)) (ep (r (j-1) (by omega)) (ep (r (j-2) (by omega)) rfl))
  ·rw[jQ.b_eq,aU (n:=(i:Int)+3) (by omega) (by omega),show decide ((i:Int)+3≤(l.length:Int))=false by simp;omega]
   rfl
 |succ k ih=>
  intro i E h2i hk hE
  have hstep:∀E':List Int,E'.length=l.length→(∀j:Nat,j<l.length→E'[j]? =some (sB l f ((i:Int)+1) j))→∃E'',hY l f l.length E''∧jQ.b f l (l,f,at_,calls,E') (((i+1:Nat)):Int)=jQ.c l (l,f,at_,calls,E'') 2:=by
   intro E' h1 h2'
   exact ih (i+1) E' (by omega) (by omega) ⟨h1,fun j hj=>by rw[h2' j hj];rfl⟩
  have hEl:=hE.1
  rw[jQ.b_eq,aU (n:=(i:Int)+3) (by omega) (by omega),aU (n:=(i:Int)+1) (by omega) (by omega),aU (n:=(i:Int)+2) (by omega) (by omega),(GP f hf).1,show decide ((i:Int)+3≤(l.length:Int))=true by simp;omega,show decide ((0:Int)≤(i:Int))=true by simp,show decide ((i:Int)≤(i:Int)+3)=true by simp;omega,show((i:Int)+3).toNat=i+3 by omega,aB,show((i:Int)+1).toNat=i+1 by omega,show((i:Int)+2).toNat=i+2 by omega]
  simp only[ae,Bool.and_self,af]
  rw[CR _ _ (by simp;omega),GQ l i (by omega)]
  have hB:bV l f i=(decide (rd (τ:=d6) l i=((14,1,2,0,f-8):gJ))&&decide (rd (τ:=d6) l ((i:Int)+1)=((22,2,2,0,f):gJ))&&decide (rd (τ:=d6) l ((i:Int)+2)=((4,0,1,0,0):gJ))):=by
   unfold bV
   rw[show decide (2≤(i:Int))=true by simp;omega,show decide ((i:Int)+2< (l.length:Int))=true by simp;omega];simp
  rw[←hB]
  simp only[af]
  cases hb:bV l f i with
  |true=>
   simp only[ae,letB]
   rw[inL_true (by omega) (by rw[hEl];omega),inL_true (by omega) (by rw[List.length_set,hEl];omega),inL_true (by omega) (by rw[List.length_set,List.length_set,hEl];omega)]
   simp only[ae]
   rw[show(i:Int)+1=((i+1:Nat):Int) by omega]
   refine hstep _ (by simp[hEl]) (fun j hj=> ?_)
   have hj':=hE.2 j hj
   rw[List.getElem?_set,List.getElem?_set,List.getElem?_set]
   simp only[List.length_set,hEl]
   unfold sB
   by_cases c2:i+2=j
   ·rw[au c2,au (by omega),ap (by omega),ap (by omega),au ⟨by omega,by rw[show(j:Int)-2=(i:Int) by omega];exact hb⟩]
   ·rw[ap c2]
    by_cases c1:i+1=j
    ·rw[au c1,au (by omega),ap (by omega),au ⟨by omega,by rw[show(j:Int)-1=(i:Int) by omega];exact hb⟩]
    ·rw[ap c1]
     by_cases c0:i=j
     ·rw[au c0,au (by omega),au ⟨by omega,by rw[show(j:Int)=(i:Int) by omega];exact hb⟩]
     ·rw[ap c0,hj']
      unfold sB
      congr 1
      have r:∀m:Int,m≠(i:Int)→((m< (i:Int)∧bV l f m=true)↔(m< (i:Int)+1∧bV l f m=true)):=by
       intro m hm
       constructor
       ·rintro⟨_,h⟩;exact⟨by omega,h⟩
       ·rintro⟨_,h⟩;exact⟨by omega,h⟩
      exact ep (r j (by omega)) (ep (r (j-1) (by omega)) (ep (r (j-2) (by omega)) rfl))
  |false=>
   simp only[ac]
   rw[show(i:Int)+1=((i+1:Nat):Int) by omega]
   refine hstep _ hEl (fun j hj=> ?_)
   rw[hE.2 j hj]
   unfold sB
   congr 1
   have r:∀m:Int,((m< (i:Int)∧bV l f m=true)↔(m< (i:Int)+1∧bV l f m=true)):=by
    intro m
    constructor
    ·rintro⟨_,h⟩;exact⟨by omega,h⟩
    ·rintro⟨_,h⟩
     refine⟨?_,h⟩
     by_cases hmi:m=(i:Int)
     ·rw[hmi,hb]at h;cases h
     ·omega
   exact ep (r j) (ep (r (j-1)) (ep (r (j-2)) rfl))
theorem zw (l:List Int) (n:Int) (hz:l.length≤1048576):∀(k j:Nat),j+k=l.length→∃r:Int,IG.a l n (l.length:Int) (j:Int)=some r∧decide (r≥0)=decide (n∈l.drop j)∧Gj.a l n (j:Int)=some (decide (n∈l.drop j)):=by
 intro k
 induction k with
 |zero=>
  intro j hj
  rw[IG.a_eq,Gj.a_eq,ai,show decide (j<l.length)=false by simp;omega,List.drop_eq_nil_of_le (by omega)]
  exact⟨-1,rfl,by simp,by simp⟩
 |succ k ih=>
  intro j hj
  have h1:j<l.length:=by omega
  obtain⟨r,i1,i2,i3⟩:=ih (j+1) (by omega)
  rw[IG.a_eq,Gj.a_eq,ai,aj,ab h1,an j l.length h1 (by omega),aY (τ:= .int .i64) l j h1,List.drop_eq_getElem_cons h1]
  simp only[ae]
  by_cases h:n=l[j]
  ·rw[ab h,ab h.symm,ab (show n∈l[j]::l.drop (j+1) by rw[h];exact List.mem_cons_self)]
   exact⟨(j:Int),rfl,by simp,rfl⟩
  ·have e:decide (n∈l[j]::l.drop (j+1))=decide (n∈l.drop (j+1)):=by simp only[List.mem_cons,h,false_or]
   rw[e,am h,am (fun q:l[j]=n=>h q.symm)]
   exact⟨r,i1,i2,i3⟩
theorem Bi (l:List Int) (n:Int) (hz:l.length≤1048576):Tf l n=some (decide (n∈l))∧Gj l n=some (decide (n∈l)):=by
 obtain⟨r,i1,i2,i3⟩:=zw l n hz l.length 0 (by omega)
 rw[show((0:Nat):Int)=0 by rfl]at i1 i3
 rw[Nj,Ni,i1,K5,i3]
 rw[af,i2,List.drop_zero]
 exact⟨rfl,rfl⟩
theorem qM (n:Int):RX n=some (decide (5≤n)&&decide (n≤10)):=by rw[Nl,cF];rfl
theorem GR (n:Int):Tg n=some (decide (11≤n)&&decide (n≤17)):=by rw[Nm,cF];rfl
theorem nG (n:Int):Qh n=some (decide (18≤n)&&decide (n≤21)):=by rw[Nn,cF];rfl
def kx (n:Int):Int×Bool:=
 if n=11 then(1,true)else if n=12 then(2,true)else if n=13 then(4,true)else if n=14 then(8,true)else if n=15 then(1,false)else if n=16 then(2,false)else if n=17 then(4,false)
 else if n=18 then(1,false)else if n=19 then(2,false)else if n=20 then(4,false)else if n=21 then(8,false)else(0,false)
theorem GS (n:Int) (h:1≤n) (h':n≤64):SJ n=some (kx n):=by
 rw[K0]
 obtain⟨k,rfl⟩:=mD (show 0≤n by omega) h'
 clear h h';revert k
 decide+kernel
theorem GT (n:Int) (h:11≤n) (h':n≤21):Th n=some (kx n):=by
 rw[No,nG]
 have:n=11∨n=12∨n=13∨n=14∨n=15∨n=16∨n=17∨n=18∨n=19∨n=20∨n=21:=by omega
 rcases this with rfl|rfl|rfl|rfl|rfl|rfl|rfl|rfl|rfl|rfl|rfl<;>decide+kernel
theorem Jn (n:Int) (h:11≤n) (h':n≤21):1≤(kx n).1∧(kx n).1≤8:=by
 have:n=11∨n=12∨n=13∨n=14∨n=15∨n=16∨n=17∨n=18∨n=19∨n=20∨n=21:=by omega
 rcases this with rfl|rfl|rfl|rfl|rfl|rfl|rfl|rfl|rfl|rfl|rfl<;>decide
theorem GU (n:Int) (h:¬(11≤n∧n≤21)):(kx n).1=0:=by
 unfold kx
 repeat rw[ap (by omega)]
theorem ot (n:Int) (h:1≤n) (h':n≤64):decide ((bE n).1=4)=(decide (5≤n)&&decide (n≤10)):=by
 obtain⟨k,rfl⟩:=mD (show 0≤n by omega) h'
 clear h';revert k
 decide+kernel
theorem Jo {l:List gJ} {f:Int} {E:List Int} (hE:hY l f l.length E) (i:Int) (h:0≤i) (h':i< (l.length:Int)):rd (τ:= .int .i64) E i=sB l f l.length i:=by
 obtain⟨j,rfl⟩:=Int.eq_ofNat_of_zero_le h
 have:=hE.2 j (by omega)
 unfold rd
 rw[aB,List.getD_eq_getElem?_getD,this];rfl
theorem CT (l:List gJ) (f i:Int) (h:i< (l.length:Int)):sB l f l.length i=if bV l f i=true then 1 else if bV l f (i-1)=true then 2 else if bV l f (i-2)=true then 3 else 0:=by
 unfold sB
 exact ep ⟨fun h=>h.2,fun hh=>⟨h,hh⟩⟩ (ep ⟨fun h=>h.2,fun hh=>⟨by omega,hh⟩⟩ (ep ⟨fun h=>h.2,fun hh=>⟨by omega,hh⟩⟩ rfl))
theorem tN {l:List gJ} {f:Int} {E:List Int} (hE:hY l f l.length E) (i:Int) (h:0≤i) (h':i< (l.length:Int)):
  decide (rd (τ:= .int .i64) E i=1)=bV l f i∧decide (rd (τ:= .int .i64) E i=2)=bV l f (i-1)∧decide (rd (τ:= .int .i64) E i=3)=bV l f (i-2)∧decide (rd (τ:= .int .i64) E i<2)=(!bV l f (i-1)&& !bV l f (i-2)):=by
 have hx:=Jm l f i
 rw[Jo hE i h h',CT l f i h']
 cases h0:bV l f i<;>cases h1:bV l f (i-1)<;>cases h2:bV l f (i-2)<;>simp_all
theorem CU (n:Int) (h: -9223372036854775808≤n) (h':n≤9223372036854775807):IntKind.wrap .i64 (n.tdiv 4)=n.tdiv 4:=by
 have: -9223372036854775808≤n.tdiv 4∧n.tdiv 4≤9223372036854775807:=by
  rcases Int.le_total 0 n with h0|h0
  ·rw[Int.tdiv_eq_ediv_of_nonneg h0];omega
  ·have:n.tdiv 4= -((-n).tdiv 4):=by rw[Int.neg_tdiv,Int.neg_neg]
   rw[this,Int.tdiv_eq_ediv_of_nonneg (by omega)];omega
 exact aU this.1 this.2
theorem Ri (n:Int) (h:n.tmod 4=0):n.tdiv 4=n/4:=by
 rw[Int.tdiv_eq_ediv_of_dvd];exact Int.dvd_iff_tmod_eq_zero.mpr h
theorem oK.imm {x:gJ} (h:oK x): -2147483648≤x.2.2.2.2∧x.2.2.2.2≤2147483647:=by
 have hrv:=h.2.2.2
 have hsf:=fT h.1 h.2.1
 unfold dv at hrv
 simp only[ay]at hrv
 have hrv:=hrv.2
 generalize (bE x.1).1=ff at*
 unfold js at hrv
 rcases fO hsf with rfl|rfl|rfl|rfl|rfl|rfl|rfl|rfl|rfl<;>simp at hrv<;>omega
theorem CV (l:List gJ) (f at_:Int) (calls E:List Int) (hE:hY l f l.length E) (hf:16≤f∧f≤128) (hl:l.length≤1048576) (i:Int) (h:0≤i) (h':i< (l.length:Int)) (hr:oK (rd (τ:=d6) l i)):
  ∃b,RW (l,f,at_,calls,E) i=some b∧Rv l i (rd (τ:=d6) l i).2.2.2.2 f=some b:=by
 have hi:=hr.imm
 rw[Nk,K6]
 dsimp only
 rw[inL_true h h']
 generalize (rd (τ:=d6) l i).2.2.2.2=m at*
 rw[CU m (by omega) (by omega)]
 by_cases h4:m.tmod 4=0
 ·rw[Ri m h4,aU (n:=i+m/4) (by omega) (by omega),aU (n:=(l.length:Int)-1) (by omega) (by omega),aU (n:=i+m/4-1) (by omega) (by omega),aU (n:=i+m/4-2) (by omega) (by omega),cF,d8 l f _ hf hl (by omega) (by omega),d8 l f _ hf hl (by omega) (by omega)]
  simp only[h4,decide_true,ae,af]
  by_cases ha:2≤i+m/4
  ·by_cases hb:i+m/4< (l.length:Int)
   ·have he:=tN hE (i+m/4) (by omega) hb
    rw[inL_true (by omega) (by rw[hE.1];exact hb),he.2.2.2,ab ha,show decide (i+m/4≤(l.length:Int)-1)=true by simp;omega,ab hb]
    simp only[Bool.and_self,ae]
    cases bV l f (i+m/4-1)<;>exact⟨_,rfl,rfl⟩
   ·rw[show decide (i+m/4≤(l.length:Int)-1)=false by simp;omega,am hb]
    rw[ab ha]
    exact⟨_,rfl,rfl⟩
  ·rw[am ha]
   exact⟨_,rfl,rfl⟩
 ·rw[am h4]
  exact⟨_,rfl,rfl⟩
theorem zx (l:List gJ) (f at_:Int) (calls E:List Int) (hE:hY l f l.length E) (hf:16≤f∧f≤128) (ha:0≤at_∧at_≤1048575) (hl:l.length≤1048576) (hc:calls.length≤1048576) (i:Int) (h:2≤i) (h':i< (l.length:Int)) (hr:oK (rd (τ:=d6) l i)):
  ∃b,Ti (l,f,at_,calls,E) i=some b∧SL l i at_ f calls=some b:=by
 obtain⟨g,g1,g2⟩:=CV l f at_ calls E hE hf hl i (by omega) h' hr
 have he:=tN hE i (by omega) h'
 rw[Np,K7]
 dsimp only
 rw[inL_true (by omega) h',inL_true (by omega) (by rw[hE.1];exact h'),g1,g2,he.1,he.2.1,he.2.2.1,aU (n:=i-2) (by omega) (by omega),aU (n:=i-1) (by omega) (by omega),d8 l f i hf hl (by omega) (by omega),d8 l f (i-1) hf hl (by omega) (by omega),d8 l f (i-2) hf hl (by omega) (by omega),(Bi calls _ hc).1,(Bi calls _ hc).2,GS _ hr.1 hr.2.1,ez _ (by have:=hr.1;omega) hr.2.1,qM,GR,nG]
 have hbf:=ot _ hr.1 hr.2.1
 simp only[af,ae,aJ,hbf,cF]
 clear g1 g2 he hr hE hbf
 generalize bV l f i=B0 at*
 generalize bV l f (i-1)=B1 at*
 generalize bV l f (i-2)=B2 at*
 obtain⟨x,hx⟩:∃x:gJ,rd (τ:=d6) l i=x:=⟨_,rfl⟩
 rw[hx]at*
 clear hx
 obtain⟨n,d,a,b,m⟩:=x
 dsimp only at*
 have hw:=GT n
 have hwp:=Jn n
 have hwz:=GU n
 by_cases h4:n=4
 ·subst h4
  simp only[decide_true,ae]
  cases B2<;>exact⟨_,rfl,rfl⟩
 ·rw[am h4]
  simp only[ac]
  by_cases h3:n=3
  ·subst h3
   simp only[decide_true,ae]
   by_cases hd:d=1
   ·rw[ab hd]
    cases decide (IntKind.wrap .i64 (IntKind.wrap .i64 (at_+IntKind.wrap .i64 (4*i))+m)∈calls)<;>exact⟨_,rfl,rfl⟩
   ·rw[am hd]
    cases decide (d=0)<;>cases g<;>exact⟨_,rfl,rfl⟩
  ·rw[am h3]
   simp only[ac]
   cases hb:(decide (5≤n)&&decide (n≤10))with
   |true=>cases g<;>exact⟨_,rfl,rfl⟩
   |false=>
    simp only[ac]
    have hm:0≤(kx n).1∧(kx n).1≤8:=by
     by_cases q:11≤n∧n≤21
     ·have:=hwp q.1 q.2;omega
     ·rw[hwz q];decide
    rw[aU (n:=f-8) (by omega) (by omega),aU (n:=f-8-(kx n).1) (by omega) (by omega)]
    by_cases q:11≤n∧n≤21
    ·have hwn:=hwp q.1 q.2
     rw[hw q.1 q.2]
     simp only[af]
     rw[aU (n:=f-8-(kx n).1) (by omega) (by omega),show decide ((kx n).1>0)=true by simp;omega,show decide ((kx n).1=0)=false by simp;omega]
     have hls:(bif (decide (11≤n)&&decide (n≤17))then true else(decide (18≤n)&&decide (n≤21)))=true:=by
      by_cases q2:n≤17
      ·simp[q.1,q2]
      ·rw[am q2,show decide (18≤n)=true by simp;omega,ab q.2];simp
     have hm2:(decide (0≤m)&&decide (m≤f-8-(kx n).1))=(!decide (m<0)&& !decide (m>f-8-(kx n).1)):=by
      by_cases z1:m<0<;>by_cases z2:m>f-8-(kx n).1<;>simp[z1,z2]<;>omega
     rw[hm2]
     clear hm hw hwp hwz hwn hm2 hb
     generalize (decide (11≤n)&&decide (n≤17))=L at*
     generalize (decide (18≤n)&&decide (n≤21))=S at*
     generalize decide (m<0)=z1
     generalize decide (m>f-8-(kx n).1)=z2
     generalize decide (m.tmod (kx n).1=0)=z3
     generalize decide (d=1)=z4
     generalize decide (d=2)=z5
     generalize decide (a=2)=z6
     cases L<;>cases S<;>first|(cases hls;done)|(cases z4<;>cases z5<;>cases B0<;>cases B1<;>first|exact⟨_,rfl,rfl⟩|(cases z6<;>first|exact⟨_,rfl,rfl⟩|(cases z1<;>cases z2<;>cases z3<;>exact⟨_,rfl,rfl⟩)))
    ·have hls1:(decide (11≤n)&&decide (n≤17))=false:=by
      by_cases q1:11≤n
      ·rw[show decide (n≤17)=false by simp;omega];simp
      ·simp[q1]
     have hls2:(decide (18≤n)&&decide (n≤21))=false:=by
      by_cases q1:18≤n
      ·rw[show decide (n≤21)=false by simp;omega];simp
      ·simp[q1]
     rw[hls1,hls2,hwz q]
     cases decide (d=1)<;>cases decide (d=2)<;>cases B0<;>cases B1<;>exact⟨_,rfl,rfl⟩
def dG (f:Int):Bool:=bif decide (16≤f)&&decide (f≤128)then decide (f.tmod 16=0)else false
theorem eJ (f:Int):Rb f=some (dG f)∧Q8 f=some (dG f):=by
 rw[M2,KL,cF,fR]
 simp only[af,dG]
 cases (decide (16≤f)&&decide (f≤128))<;>exact⟨rfl,rfl⟩
theorem u6 {f:Int} (h:dG f=true):16≤f∧f≤128:=by
 unfold dG at h
 cases hb:(decide (16≤f)&&decide (f≤128))with
 |true=>simpa using hb
 |false=>rw[hb]at h;cases h
def bS (a:Int):Bool:=bif decide (0≤a)&&decide (a≤1048575)then decide (a.tmod 4=0)else false
theorem jt (a:Int):RS a=some (bS a):=by
 rw[M5,cF]
 simp only[af,bS]
 cases (decide (0≤a)&&decide (a≤1048575))<;>rfl
theorem fI {a:Int} (h:bS a=true):0≤a∧a≤1048575:=by
 unfold bS at h
 cases hb:(decide (0≤a)&&decide (a≤1048575))with
 |true=>simpa using hb
 |false=>rw[hb]at h;cases h
def cq (n:Nat):Bool:=bif decide ((n:Int).tmod 4=0)then decide ((n:Int)≤256)else false
theorem mI (t:ByteArray):Tc t=some (cq t.size)∧SG t=some (cq t.size):=by
 rw[M3,KM]
 unfold cq
 cases decide ((t.size:Int).tmod 4=0)<;>exact⟨rfl,rfl⟩
theorem dk {n:Nat} (h:cq n=true):n%4=0∧n≤256:=by
 unfold cq at h
 cases hb:decide ((n:Int).tmod 4=0)with
 |true=>
  rw[hb]at h
  simp only[ae,aT]at h hb
  rw[Int.tmod_eq_emod_of_nonneg (by omega)]at hb
  omega
 |false=>rw[hb]at h;cases h
def br (n:Nat):Bool:=bif cq n then decide ((n:Int)≥20)else false
theorem gk (t:ByteArray):RR t=some (br t.size):=by
 rw[M4,(mI t).1]
 simp only[af,br]
 cases cq t.size<;>rfl
theorem zy (l:List gJ) (f at_:Int) (calls E:List Int) (hE:hY l f l.length E) (hf:16≤f∧f≤128) (ha:0≤at_∧at_≤1048575) (hl:l.length≤1048576) (hc:calls.length≤1048576) (hr:∀x∈l,oK x):
  ∀(k i:Nat),2≤i→i+k=l.length→∃v,jQ.c l (l,f,at_,calls,E) i=some v∧rT.b at_ f calls l ((l.length:Int)-1) i=some v:=by
 intro k
 induction k with
 |zero=>
  intro i h2 hk
  rw[jQ.c_eq,rT.b_eq,ai,show decide (i<l.length)=false by simp;omega,show decide ((i:Int)≤(l.length:Int)-1)=false by simp;omega]
  exact⟨_,rfl,rfl⟩
 |succ k ih=>
  intro i h2 hk
  obtain⟨v,v1,v2⟩:=ih (i+1) (by omega) (by omega)
  have hi:i<l.length:=by omega
  obtain⟨b,b1,b2⟩:=zx l f at_ calls E hE hf ha hl hc i (by omega) (by omega) (by rw[aY (τ:=d6) l i hi];exact hr _ (List.getElem_mem hi))
  rw[jQ.c_eq,rT.b_eq,ai,ab hi,show decide ((i:Int)≤(l.length:Int)-1)=true by simp;omega,b1,b2,an i l.length hi (by omega),v1,v2]
  simp only[ae,af]
  cases decide (b=0)<;>exact⟨_,rfl,rfl⟩
theorem tO (code:ByteArray) (at_ f:Int) (calls:List Int) (hz:code.size≤1048576) (hc:calls.length≤1048576):∃v,jQ code at_ f calls=some v∧rT code at_ f calls=some v:=by
 rw[zf,K8,jt,fR,(eJ f).1,(eJ f).2,gk,(mI code).2]
 simp only[af,aJ]
 have ec:(bif !(decide (0≤at_)&&decide (at_≤1048575))then true else !decide (at_.tmod 4=0))= !bS at_:=by
  unfold bS;cases (decide (0≤at_)&&decide (at_≤1048575))<;>rfl
 cases hA:bS at_ with
 |false=>
  unfold bS at hA
  cases hq:(decide (0≤at_)&&decide (at_≤1048575))with
  |false=>exact⟨_,rfl,rfl⟩
  |true=>rw[hq]at hA;simp only[ae]at hA;rw[hA];exact⟨_,rfl,rfl⟩
 |true=>
  have ha:=fI hA
  have hq:(decide (0≤at_)&&decide (at_≤1048575))=true:=by simp[ha]
  have h4:decide (at_.tmod 4=0)=true:=by unfold bS at hA;rw[hq]at hA;exact hA
  rw[hq,h4]
  simp only[aM,ac]
  cases hF:dG f with
  |false=>exact⟨_,rfl,rfl⟩
  |true=>
   have hf:=u6 hF
   simp only[aM,ac]
   cases hS:cq code.size with
   |false=>unfold br;rw[hS];exact⟨_,rfl,rfl⟩
   |true=>
    have hs:=dk hS
    unfold br
    rw[hS]
    simp only[aM,ac,ae]
    by_cases h20:(code.size:Int)≥20
    ·rw[ab h20,show decide ((code.size:Int)<20)=false by simp;omega]
     simp only[aM,ac]
     cases xq code hs.1 (by omega)with
     |bad k hi hsp h0=>
      rw[hi,hsp]
      simp only[af,Bool.not_false,ae]
      rw[ab (show k≥0 from h0)]
      exact⟨_,rfl,rfl⟩
     |ok l hi hsp hll hr=>
      rw[hi,hsp,Nf]
      simp only[af,aM,ac]
      rw[show decide ((-1:Int)≥0)=false by rfl]
      simp only[ac]
      have hl5:5≤l.length:=by omega
      have hl64:l.length≤64:=by omega
      have last:∃v,jQ.a at_ f calls l [(22,2,2,0,(IntKind.wrap .i64 (0-f))),(21,0,2,1,(IntKind.wrap .i64 (f-8)))] 2 2=some v∧rT.a at_ f calls l 2=some v:=by
       rw[jQ.a_eq,rT.a_eq]
       rw[show decide ((2:Int)<2)=false by rfl]
       simp only[ac,aJ]
       rw[aU (n:=(l.length:Int)-1) (by omega) (by omega),inL_true (by omega) (by omega),pm (by rw[aB];omega) (by rw[aB];omega),show decide ((0:Int)≤(l.length:Int))=true by simp,aB]
       simp only[ae,Bool.and_self]
       obtain⟨E,hE,e⟩:=CS at_ calls l f hf (by omega) (by omega) (l.length-4) 2 (List.replicate l.length 0) (by omega) (by omega) ⟨by simp,fun j hj=>by
        rw[List.getElem?_replicate,au hj]
        unfold sB
        have z:∀m:Int,m< ((2:Nat):Int)→bV l f m=false:=by
         intro m hm
         unfold bV
         rw[show decide (2≤m)=false by simp;omega];simp
        rw[ap (fun h=>by rw[z _ h.1]at h;cases h.2),ap (fun h=>by rw[z _ h.1]at h;cases h.2),ap (fun h=>by rw[z _ h.1]at h;cases h.2)]⟩
       rw[show((2:Nat):Int)=2 by rfl]at e
       rw[e]
       obtain⟨v,v1,v2⟩:=zy l f at_ calls E hE hf ha (by omega) (by omega) hr (l.length-2) 2 (by omega) (by omega)
       rw[show((2:Nat):Int)=2 by rfl]at v1 v2
       rw[v1,v2]
       cases decide ((rd (τ:=d6) l ((l.length:Int)-1)).1=4)<;>cases decide ((rd (τ:=d6) l ((l.length:Int)-1)).1=3)<;>cases decide ((rd (τ:=d6) l ((l.length:Int)-1)).2.1=0)<;>exact⟨_,rfl,rfl⟩
      have step:∀(j:Nat),j<2→(∃v,jQ.a at_ f calls l [(22,2,2,0,(IntKind.wrap .i64 (0-f))),(21,0,2,1,(IntKind.wrap .i64 (f-8)))] 2 ((j+1:Nat):Int)=some v∧rT.a at_ f calls l ((j+1:Nat):Int)=some v)→
        ∃v,jQ.a at_ f calls l [(22,2,2,0,(IntKind.wrap .i64 (0-f))),(21,0,2,1,(IntKind.wrap .i64 (f-8)))] 2 (j:Int)=some v∧rT.a at_ f calls l (j:Int)=some v:=by
       rintro j hj ⟨v,v1,v2⟩
       rw[jQ.a_eq,rT.a_eq,show decide ((j:Int)<2)=true by simp;omega,inL_true (i:=(j:Int)) (by omega) (by simp;omega),inL_true (i:=(j:Int)) (by omega) (by omega),aU (n:=(j:Int)+1) (by omega) (by omega),show(j:Int)+1=((j+1:Nat):Int) by omega,v1,v2,KZ]
       simp only[ae,af]
       rw[inL_true (i:=(j:Int)) (by omega) (by simp;omega)]
       simp only[ae]
       cases kR d6 (rd (τ:=d6) l (j:Int)) (rd (τ:=d6) [(22,2,2,0,(IntKind.wrap .i64 (0-f))),(21,0,2,1,(IntKind.wrap .i64 (f-8)))] (j:Int))<;>exact⟨_,rfl,rfl⟩
      exact step 0 (by omega) (step 1 (by omega) last)
    ·rw[am h20,show decide ((code.size:Int)<20)=true by simp;omega]
     exact⟨_,rfl,rfl⟩
abbrev bx:Ty:= .pair .str (.pair (.int .i64) (.pair (.int .i64) (.pair (.int .i64) (.int .i64))))
abbrev mJ:Type:=ByteArray×Int×Int×Int×Int
abbrev gm:Type:=ByteArray×ByteArray×List mJ
noncomputable def cz (t:ByteArray):Bool:=(o9 t).getD false
theorem Ot (t:ByteArray):o9 t=some (cz t):=by
 obtain⟨v,h1⟩:=tF t
 unfold cz
 rw[h1];rfl
theorem d9 (t:ByteArray):o9 t=some (cz t)∧Zy t=some (cz t):=by
 obtain⟨v,h1,h2⟩:=CD t
 unfold cz
 rw[h1,h2];exact⟨rfl,rfl⟩
def lW (l:List mJ) (name:ByteArray):Bool:=l.any fun y=>decide (y.1=name)
theorem xr {y:mJ} {l:List mJ} {n:ByteArray} (h:y.1=n):lW (y::l) n=true:=by simp[lW,h]
theorem xt {y:mJ} {l:List mJ} {n:ByteArray} (h:¬y.1=n):lW (y::l) n=lW l n:=by simp[lW,h]
theorem GV (e:Int×Int) (im:gm) (s:mJ) (l:List mJ) (hl:l.length≤16):∀(k j:Nat),j+k=l.length→E2.a e im s l (l.length:Int) (j:Int)=if lW (l.drop j) s.1=true then some (24,e)else E2.a e im s l (l.length:Int) (l.length:Int):=by
 intro k
 induction k with
 |zero=>
   intro j h;have:j=l.length:=by omega
   subst this;simp[lW]
 |succ k ih=>
  intro j h
  have hj:j<l.length:=by omega
  rw[E2.a_eq,ai,aj,ab hj,an j l.length hj (by omega),ih (j+1) (by omega),aY (τ:=bx) l j hj,bf,List.drop_eq_getElem_cons hj]
  by_cases hn:l[j].1=s.1
  ·rw[xr hn,ab hn];rfl
  ·rw[xt hn,am hn];rfl
theorem GW (im:gm) (c d:Int) (i:Nat) (s:mJ) (hi:i≤im.2.2.length) (hl:im.2.2.length≤16):∀(k j:Nat),j+k=i→Zz.b im c d (i:Int) s (j:Int)=if lW ((im.2.2.take i).drop j) s.1=true then some ((i:Int),24)else Zz.b im c d (i:Int) s (i:Int):=by
 intro k
 induction k with
 |zero=>
   intro j h;have:j=i:=by omega
   subst this;simp[lW]
 |succ k ih=>
  intro j h
  have hj:j<i:=by omega
  rw[Zz.b_eq,ai,aj,ab hj,ab (show j<im.2.2.length by omega),an j i hj (by omega),ih (j+1) (by omega),aY (τ:=bx) im.2.2 j (by omega),bf,List.drop_eq_getElem_cons (show j< (im.2.2.take i).length by simp;omega)]
  have hg:(im.2.2.take i)[j]'(by simp;omega)=im.2.2[j]:=List.getElem_take
  rw[hg]
  by_cases hn:im.2.2[j].1=s.1
  ·rw[xr hn,ab hn];rfl
  ·rw[xt hn,am hn];rfl
noncomputable def eR (im:gm) (i:Nat) (s:mJ) (e:Int×Int):Int×Int×Int:=
 if cz s.1=false then(3,e)
 else if lW (im.2.2.take i) s.1=true then(24,e)
 else if s.2.1=1 then
  if s.2.2.1=e.1∧1≤s.2.2.2.1∧s.2.2.2.1≤(im.1.size:Int)-e.1 then(0,s.2.2.1+s.2.2.2.1,e.2)else(4,e)
 else if s.2.1=2 then
  if e.2≤s.2.2.1∧s.2.2.1≤(im.2.1.size:Int)∧s.2.2.1%8=0∧s.2.2.2.1%8=0∧1≤s.2.2.2.1∧s.2.2.2.1≤(im.2.1.size:Int)-s.2.2.1 then
   if s.2.2.2.2=0 then(0,e.1,s.2.2.1+s.2.2.2.1)else(17,e.1,s.2.2.1+s.2.2.2.1)
  else(4,e)
 else(26,e)
structure tP (im:gm) (e:Int×Int):Prop where
 c:0≤e.1∧e.1≤(im.1.size:Int)
 d:0≤e.2∧e.2≤(im.2.1.size:Int)
structure ly (im:gm):Prop where
 n:im.2.2.length≤16
 c:im.1.size≤1024
 d:im.2.1.size≤256
theorem GX {n:Int}:decide (n.tmod 8=0)=decide (n%8=0):=by
 congr 1;exact propext ⟨fun h=>by rw[←Int.dvd_iff_tmod_eq_zero]at h;omega,fun h=>by rw[←Int.dvd_iff_tmod_eq_zero];omega⟩
theorem zz (im:gm) (hz:ly im) (i:Nat) (hi:i<im.2.2.length) (e:Int×Int) (he:tP im e):E2 im i e=some (eR im i im.2.2[i] e):=by
 obtain⟨hn,hc,hd⟩:=hz
 rw[MZ,aj,ab hi,aY (τ:=bx) im.2.2 i hi,Ot _,aB,show(Int.toNat 0)=0 by rfl,List.drop_zero,show decide ((0:Int)≤(i:Int))=true by simp,show decide ((i:Int)≤(im.2.2.length:Int))=true by simp;omega]
 simp only[ae,Bool.and_self,Nat.le_refl,decide_true,af]
 have hlt:(im.2.2.take i).length=i:=by simp;omega
 have hd':=GV e im im.2.2[i] (im.2.2.take i) (by omega) i 0 (by omega)
 rw[hlt,show((0:Nat):Int)=0 by rfl,List.drop_zero]at hd'
 rw[hlt,hd',E2.a_eq,show decide ((i:Int)< (i:Int))=false by simp]
 obtain⟨s,hs⟩:∃s:mJ,im.2.2[i]=s:=⟨_,rfl⟩
 rw[hs]
 obtain⟨nm,kd,at_,sz,fr⟩:=s
 obtain⟨ec,ed⟩:=e
 obtain⟨⟨hc1,hc2⟩,⟨hd1,hd2⟩⟩:=he
 dsimp only at*
 unfold eR
 dsimp only
 simp only[ac,cF,af,aJ]
 cases cz nm with
 |false=>rfl
 |true=>
  simp only[aM,ac,Bool.true_eq_false,↓reduceIte]
  by_cases hdup:lW (im.2.2.take i) nm=true
  ·rw[au hdup,au hdup]
  ·rw[ap hdup,ap hdup]
   by_cases k1:kd=1
   ·rw[ab k1,au k1]
    simp only[ae]
    by_cases h1:at_=ec
    ·subst h1
     rw[aU (n:=(im.1.size:Int)-at_) (by omega) (by omega)]
     simp only[decide_true,aM,ac]
     by_cases h2:1≤sz∧sz≤(im.1.size:Int)-at_
     ·rw[au ⟨trivial,h2⟩,ab h2.1,ab h2.2,aU (n:=at_+sz) (by omega) (by omega)];rfl
     ·rw[ap (fun hh=>h2 hh.2),show(decide (1≤sz)&&decide (sz≤(im.1.size:Int)-at_))=false by simpa using h2];rfl
    ·rw[am h1,ap (fun hh=>h1 hh.1)];rfl
   ·rw[am k1,ap k1]
    simp only[ac]
    by_cases k2:kd=2
    ·rw[ab k2,au k2,GX,GX]
     simp only[ae]
     by_cases h1:ed≤at_∧at_≤(im.2.1.size:Int)
     ·rw[aU (n:=(im.2.1.size:Int)-at_) (by omega) (by omega),ab h1.1,ab h1.2]
      simp only[Bool.and_self,aM,ac]
      by_cases h2:at_%8=0
      ·by_cases h3:sz%8=0
       ·by_cases h4:1≤sz∧sz≤(im.2.1.size:Int)-at_
        ·rw[au ⟨h1.1,h1.2,h2,h3,h4⟩,ab h2,ab h3,ab h4.1,ab h4.2,aU (n:=at_+sz) (by omega) (by omega)]
         by_cases h5:fr=0
         ·rw[ab h5,au h5];rfl
         ·rw[am h5,ap h5];rfl
        ·rw[ap (fun hh=>h4 hh.2.2.2.2),ab h2,ab h3,show(decide (1≤sz)&&decide (sz≤(im.2.1.size:Int)-at_))=false by simpa using h4];rfl
       ·rw[ap (fun hh=>h3 hh.2.2.2.1),ab h2,am h3];rfl
      ·rw[ap (fun hh=>h2 hh.2.2.1),am h2];rfl
     ·rw[ap (fun hh=>h1 ⟨hh.1,hh.2.1⟩),show(decide (ed≤at_)&&decide (at_≤(im.2.1.size:Int)))=false by simpa using h1];rfl
    ·rw[am k2,ap k2];rfl
theorem zA (im:gm) (hz:ly im) (i:Nat) (hi:i<im.2.2.length) (e:Int×Int) (he:tP im e):Zz.a im e.1 e.2 i=if(eR im i im.2.2[i] e).1=0 then Zz.a im (eR im i im.2.2[i] e).2.1 (eR im i im.2.2[i] e).2.2 ((i+1:Nat):Int)else some ((i:Int),(eR im i im.2.2[i] e).1):=by
 obtain⟨hn,hc,hd⟩:=hz
 rw[Zz.a_eq,aj,ai,ab hi,aY (τ:=bx) im.2.2 i hi,(d9 _).2]
 simp only[ae,af]
 have hd':=GW im e.1 e.2 i im.2.2[i] (by omega) hn i 0 (by omega)
 rw[show((0:Nat):Int)=0 by rfl,List.drop_zero]at hd'
 rw[hd',Zz.b_eq,show decide ((i:Int)< (i:Int))=false by simp,an i im.2.2.length hi (by omega)]
 obtain⟨s,hs⟩:∃s:mJ,im.2.2[i]=s:=⟨_,rfl⟩
 rw[hs]
 obtain⟨nm,kd,at_,sz,fr⟩:=s
 obtain⟨ec,ed⟩:=e
 obtain⟨⟨hc1,hc2⟩,⟨hd1,hd2⟩⟩:=he
 dsimp only at*
 unfold eR
 dsimp only
 simp only[ac]
 cases cz nm with
 |false=>rfl
 |true=>
  simp only[aM,ac]
  by_cases hdup:lW (im.2.2.take i) nm=true
  ·simp[hdup]
  ·simp only[hdup,if_false,Bool.false_eq_true]
   by_cases k1:kd=1
   ·simp only[k1,decide_true,ae,if_true]
    by_cases h1:at_=ec
    ·rw[←h1,aU (n:=(im.1.size:Int)-at_) (by omega) (by omega)]
     by_cases h2:1≤sz
     ·by_cases h3:sz≤(im.1.size:Int)-at_
      ·rw[aU (n:=at_+sz) (by omega) (by omega)]
       simp[h2,h3,show¬sz<1 by omega,show¬(im.1.size:Int)-at_<sz by omega]
      ·simp[h3,show¬sz<1 by omega,show(im.1.size:Int)-at_<sz by omega]
     ·simp[h2,show sz<1 by omega]
    ·simp[h1]
   ·simp only[k1,decide_false,ac,if_false]
    by_cases k2:kd=2
    ·simp only[k2,decide_true,ae,if_true,GX]
     by_cases h1:ed≤at_
     ·by_cases h1':at_≤(im.2.1.size:Int)
      ·rw[aU (n:=(im.2.1.size:Int)-at_) (by omega) (by omega),show decide (at_<ed)=false by simp;omega,show decide (at_>(im.2.1.size:Int))=false by simp;omega]
       simp only[ac]
       by_cases h4:1≤sz
       ·by_cases h5:sz≤(im.2.1.size:Int)-at_
        ·rw[show decide (sz<1)=false by simp;omega,show decide (sz>(im.2.1.size:Int)-at_)=false by simp;omega,aU (n:=at_+sz) (by omega) (by omega)]
         by_cases h2:at_%8=0
         ·by_cases h3:sz%8=0
          ·by_cases h6:fr=0<;>simp[h1,h1',h2,h3,h4,h5,h6]
          ·simp[h2,h3]
         ·simp[h2]
        ·simp[h5,show¬sz<1 by omega,show(im.2.1.size:Int)-at_<sz by omega]
       ·simp[h4,show sz<1 by omega]
      ·simp[h1',show¬at_<ed by omega,show(im.2.1.size:Int)<at_ by omega]
     ·simp[h1,show at_<ed by omega]
    ·simp[k2]
theorem zB {im:gm} {i:Nat} {s:mJ} {e:Int×Int} (he:tP im e) (h:(eR im i s e).1=0):tP im (eR im i s e).2:=by
 obtain⟨nm,kd,at_,sz,fr⟩:=s
 obtain⟨ec,ed⟩:=e
 obtain⟨⟨c1,c2⟩,⟨d1,d2⟩⟩:=he
 dsimp only at*
 unfold eR at h⊢
 dsimp only at*
 split at h<;>(try (cases h;done))
 split at h<;>(try (cases h;done))
 rename_i n1 n2
 rw[ap n1,ap n2]
 split at h
 ·rename_i k1
  rw[au k1]
  split at h<;>(try (cases h;done))
  rename_i hh
  rw[au hh]
  exact⟨⟨by dsimp only;omega,by dsimp only;omega⟩,⟨d1,d2⟩⟩
 ·rename_i k1
  rw[ap k1]
  split at h
  ·rename_i k2
   rw[au k2]
   split at h<;>(try (cases h;done))
   rename_i hh
   rw[au hh]
   split at h<;>(try (cases h;done))
   rename_i h3
   rw[au h3]
   exact⟨⟨c1,c2⟩,⟨by dsimp only;omega,by dsimp only;omega⟩⟩
  ·cases h
def ju (im:gm) (n:Nat) (E:Nat→Int×Int):Prop:=E 0=(0,0)∧(∀i,i≤n→tP im (E i))∧∀(i:Nat) (h:i<im.2.2.length),i<n→eR im i im.2.2[i] (E i)=(0,E (i+1))
def Ou (im:gm) (e:Int×Int):Int:=if im.2.2.length=0 then 23 else if(rd (τ:=bx) im.2.2 0).2.1≠1 then 23 else if e.1≠(im.1.size:Int)then 22 else 0
theorem CW (im:gm) (hz:ly im):∀(k i:Nat) (E:Nat→Int×Int),i+k=im.2.2.length→ju im i E→
  (∃n c:Int,c≠0∧pb.a im (E i) (im.2.2.length:Int) i=some (n,0,c)∧Zz.a im (E i).1 (E i).2 i=some (n,c))∨
  (∃E',ju im im.2.2.length E'∧pb.a im (E i) (im.2.2.length:Int) i=pb.a im (E' im.2.2.length) (im.2.2.length:Int) (im.2.2.length:Int)∧Zz.a im (E i).1 (E i).2 i=some (0,Ou im (E' im.2.2.length))):=by
 intro k
 induction k with
 |zero=>
  intro i E hk hE
  have:i=im.2.2.length:=by omega
  subst this
  refine Or.inr ⟨E,hE,rfl, ?_⟩
  rw[Zz.a_eq,ai]
  simp only[az,decide_false,ac,Ou]
  by_cases h0:im.2.2.length=0
  ·simp[h0]
  ·rw[inL_true (i:=0) (by omega) (by omega),show decide ((im.2.2.length:Int)=0)=false from am (by omega),ap h0]
   simp only[ac,ae]
   by_cases h1:(rd (τ:=bx) im.2.2 0).2.1=1
   ·simp only[h1,decide_true,aM,ac,ne_eq,not_true_eq_false,↓reduceIte]
    by_cases h2:(E im.2.2.length).1=(im.1.size:Int)
    ·simp[h2]
    ·simp[h2]
   ·simp[h1]
 |succ k ih=>
  intro i E hk hE
  have hi:i<im.2.2.length:=by omega
  have he:=hE.2.1 i (Nat.le_refl _)
  rw[pb.a_eq,ai,ab hi,zz im hz i hi (E i) he,zA im hz i hi (E i) he,an i im.2.2.length hi (by have:=hz.n;omega)]
  simp only[ae,af]
  by_cases h0:(eR im i im.2.2[i] (E i)).1=0
  ·rw[ab h0,au h0]
   simp only[aM,ac]
   have hends:=zB he h0
   have hch:ju im (i+1) (fun j=>if j=i+1 then(eR im i im.2.2[i] (E i)).2 else E j):=by
    have ev:∀(j:Nat),(fun j=>if j=i+1 then(eR im i im.2.2[i] (E i)).2 else E j) j=if j=i+1 then(eR im i im.2.2[i] (E i)).2 else E j:=fun _=>rfl
    refine⟨by rw[ev,ap (by omega)];exact hE.1,fun j hj=> ?_,fun j hj hj'=> ?_⟩<;>simp only
    ·by_cases hji:j=i+1
     ·rw[au hji];exact hends
     ·rw[ap hji];exact hE.2.1 j (by omega)
    ·rw[ap (by omega)]
     by_cases hji:j=i
     ·subst hji
      rw[au rfl,←h0]
     ·rw[ap (by omega)];exact hE.2.2 j hj (by omega)
   have:=ih (i+1) _ (by omega) hch
   simp only[↓reduceIte]at this
   exact this
  ·rw[am h0,ap h0]
   exact Or.inl ⟨_,_,h0,rfl,rfl⟩
theorem qN (s:mJ):∃v,M0 s=some v∧KJ s=some v:=by
 rw[zc,Gg]
 cases decide (s.2.1=1)<;>exact⟨_,rfl,rfl⟩
theorem qO (im:gm) (hz:ly im):∃l,E3 im=some l∧EC im.2.2=some l∧l.length≤16:=by
 have key:∀(k i:Nat) (l:List Int),i+k=im.2.2.length→l.length≤i→∃l',E3.a l im.2.2 (im.2.2.length:Int) i=some l'∧EC.a im.2.2 l i=some l'∧l'.length≤im.2.2.length:=by
  intro k
  induction k with
  |zero=>
   intro i l hk hl
   rw[E3.a_eq,EC.a_eq,ai,am (show¬i<im.2.2.length by omega)]
   exact⟨l,rfl,rfl,by omega⟩
  |succ k ih=>
   intro i l hk hl
   have hi:i<im.2.2.length:=by omega
   have hn:=hz.n
   rw[E3.a_eq,EC.a_eq,ai,aj,ab hi,an i _ hi (by omega)]
   simp only[ae]
   obtain⟨v,v1,v2⟩:=qN (rd (τ:=bx) im.2.2 i)
   obtain⟨l1,a1,a2,a3⟩:=ih (i+1) l (by omega) (by omega)
   obtain⟨l2,b1,b2,b3⟩:=ih (i+1) (l++[v]) (by omega) (by simp;omega)
   rw[v1,v2]
   simp only[af]
   rw[pm (by simp;omega) (by simp;omega),a1,a2,b1,b2]
   cases decide ((rd (τ:=bx) im.2.2 i).2.1=1)
   ·exact⟨l1,rfl,rfl,a3⟩
   ·exact⟨l2,rfl,rfl,b3⟩
 obtain⟨l,h1,h2,h3⟩:=key im.2.2.length 0 [] (by omega) (by simp)
 exact⟨l,(M1 im).trans h1,(KK im.2.2).trans h2,by have:=hz.n;omega⟩
structure qP (im:gm) (s:mJ):Prop where
 name:cz s.1=true
 kind:s.2.1=1∨s.2.1=2
 at0:0≤s.2.2.1
 size:1≤s.2.2.2.1
 func:s.2.1=1→s.2.2.1+s.2.2.2.1≤(im.1.size:Int)
 data:s.2.1=2→s.2.2.1+s.2.2.2.1≤(im.2.1.size:Int)∧s.2.2.1%8=0∧s.2.2.2.1%8=0∧s.2.2.2.2=0
theorem GY {im:gm} {i:Nat} {s:mJ} {e:Int×Int} (he:tP im e) (h:(eR im i s e).1=0):qP im s∧lW (im.2.2.take i) s.1=false:=by
 obtain⟨nm,kd,at_,sz,fr⟩:=s
 obtain⟨ec,ed⟩:=e
 obtain⟨⟨c1,c2⟩,⟨d1,d2⟩⟩:=he
 dsimp only at*
 unfold eR at h
 dsimp only at*
 split at h<;>(try (cases h;done))
 split at h<;>(try (cases h;done))
 rename_i n1 n2
 refine⟨?_,by simpa using n2⟩
 have n1:cz nm=true:=by simpa using n1
 split at h
 ·rename_i k1
  split at h<;>(try (cases h;done))
  rename_i hh
  exact⟨n1,Or.inl k1,by dsimp only;omega,by dsimp only;omega,fun _=>by dsimp only;omega,fun h=>by dsimp only at h;omega⟩
 ·rename_i k1
  split at h
  ·rename_i k2
   split at h<;>(try (cases h;done))
   rename_i hh
   split at h<;>(try (cases h;done))
   rename_i h3
   exact⟨n1,Or.inr k2,by dsimp only;omega,by dsimp only;omega,fun h=>absurd h k1,fun _=>by dsimp only;omega⟩
  ·cases h
theorem nH {im:gm} {E:Nat→Int×Int} (h:ju im im.2.2.length E) (i:Nat) (hi:i<im.2.2.length):qP im im.2.2[i]∧lW (im.2.2.take i) im.2.2[i].1=false:=
 GY (h.2.1 i (by omega)) (by rw[h.2.2 i hi hi])
def GZ (s:mJ):Prop:=s.2.1=1→bS (4096+s.2.2.1)=true∧dG s.2.2.2.2=true∧br s.2.2.2.1.toNat=true
theorem Bj {code:ByteArray} {at_ f:Int} {calls:List Int} {v:Int×Int} (h:jQ code at_ f calls=some v) (hv:v.2=0):bS at_=true∧dG f=true∧br code.size=true:=by
 rw[zf,jt,(eJ f).1,gk]at h
 simp only[af]at h
 cases h1:bS at_ with
 |false=>
  rw[h1]at h
  have e:(0,4)=v:=Option.some.inj h
  rw[←e]at hv;cases hv
 |true=>
  rw[h1]at h
  cases h2:dG f with
  |false=>
   rw[h2]at h
   have e:(0,17)=v:=Option.some.inj h
   rw[←e]at hv;cases hv
  |true=>
   rw[h2]at h
   cases h3:br code.size with
   |false=>
    rw[h3]at h
    have e:(0,8)=v:=Option.some.inj h
    rw[←e]at hv;cases hv
   |true=>exact⟨rfl,rfl,rfl⟩
def xu (w:Int):Prop:=∃x,jN w=some (x,true)
def kX (code:ByteArray):Prop:=∀j:Nat,4*j+4≤code.size→xu ((eV code (4*j) 4:Nat):Int)
theorem zC (code:ByteArray) (hz:code.size≤1048576):∀(k i:Nat) (l:List gJ) (r:List gJ×Int),4*(i+k)=code.size→yi.a code l ((4*i:Nat):Int)=some (r.1,r.2,true)→∀j:Nat,i≤j→4*j+4≤code.size→xu ((eV code (4*j) 4:Nat):Int):=by
 intro k
 induction k with
 |zero=>intro i l r h _ j h1 h2;omega
 |succ k ih=>
  intro i l r h e j h1 h2
  have t1:vJ (code.extract (4*i) (4*i+4))=some ((eV code (4*i) 4:Nat):Int):=by
   have hsz:(code.extract (4*i) (4*i+4)).size=4:=by rw[ByteArray.size_extract];omega
   have hw:=Tw code (4*i)
   rw[d7 _ (by omega),hsz,fU code (4*i) (4*i+4) (by omega) 4 0 (by omega),Nat.add_zero,aU (by omega) (by omega)]
  rw[yi.a_eq,aU (n:=((4*i:Nat):Int)+4) (by omega) (by omega),aB,show(((4*i:Nat):Int)+4).toNat=4*i+4 by omega,t1]at e
  rw[show decide (((4*i:Nat):Int)< (code.size:Int))=true by simp;omega,show decide ((0:Int)≤((4*i:Nat):Int))=true by simp;omega,show decide (((4*i:Nat):Int)≤((4*i:Nat):Int)+4)=true by simp;omega,show decide (((4*i:Nat):Int)+4≤(code.size:Int))=true by simp;omega]at e
  simp only[ae,Bool.and_self,af]at e
  cases hd:jN ((eV code (4*i) 4:Nat):Int)with
  |none=>rw[hd]at e;cases e
  |some v=>
   rw[hd]at e
   simp only[af]at e
   cases hv:v.2 with
   |false=>rw[hv]at e;simp at e
   |true=>
    rw[hv]at e
    simp only[aM,ac]at e
    rcases Nat.lt_or_ge i j with hj|hj
    ·cases hr:aH (l.length+[v.1].length) 40 with
     |false=>rw[hr]at e;cases e
     |true=>
      rw[hr,ae,show((4*i:Nat):Int)+4=((4*(i+1):Nat):Int) by omega]at e
      exact ih (i+1) _ r (by omega) e j hj h2
    ·obtain rfl:j=i:=by omega
     exact⟨v.1,by rw[hd,←hv]⟩
theorem xw {code:ByteArray} {at_ f:Int} {calls:List Int} {v:Int×Int} (h:jQ code at_ f calls=some v) (hv:v.2=0):kX code:=by
 obtain⟨h1,h2,h3⟩:=Bj h hv
 have hs:code.size%4=0∧code.size≤256:=by
  unfold br at h3
  cases h4:cq code.size with
  |false=>rw[h4]at h3;cases h3
  |true=>exact dk h4
 rw[zf,jt,(eJ f).1,gk,h1,h2,h3]at h
 simp only[af,aM,ac]at h
 cases hi:yi code with
 |none=>rw[hi]at h;cases h
 |some r=>
  rw[hi]at h
  simp only[af]at h
  cases hr:r.2.2 with
  |false=>
   rw[hr]at h
   have e:(r.2.1,(10:Int))=v:=Option.some.inj h
   rw[←e]at hv;cases hv
  |true=>
   intro j hj
   rw[ze]at hi
   refine zC code (by omega) (code.size/4) 0 [] (r.1,r.2.1) (by omega) ?_ j (Nat.zero_le _) hj
   rw[show((4*0:Nat):Int)=0 from rfl,hi]
   obtain⟨a,b,c⟩:=r
   simp only at hr
   rw[hr]
def Jp (im:gm) (s:mJ):Prop:=s.2.1=1→kX (im.1.extract s.2.2.1.toNat (s.2.2.1+s.2.2.2.1).toNat)
theorem zD (im:gm) (hz:ly im) (hs:∀s∈im.2.2,qP im s) (calls:List Int) (hc:calls.length≤16):∀(k i:Nat),i+k=im.2.2.length→∃v,pb.b im calls im.2.2 (im.2.2.length:Int) i=some v∧ED.a im calls i=some v∧(v.2.2=0→∀j (hj:j<im.2.2.length),i≤j→GZ im.2.2[j]∧Jp im im.2.2[j]):=by
 intro k
 induction k with
 |zero=>
  intro i hk
  rw[pb.b_eq,ED.a_eq,ai,am (show¬i<im.2.2.length by omega)]
  exact⟨_,rfl,rfl,fun _ j hj h=>by omega⟩
 |succ k ih=>
  intro i hk
  have hi:i<im.2.2.length:=by omega
  obtain⟨v,v1,v2,v3⟩:=ih (i+1) (by omega)
  obtain⟨hn,hcz,hdz⟩:=hz
  rw[pb.b_eq,ED.a_eq,ai,aj,ab hi,an i _ hi (by omega),aY (τ:=bx) im.2.2 i hi,v1,v2]
  simp only[ae]
  have hS:=hs _ (List.getElem_mem hi)
  have next:GZ im.2.2[i]∧Jp im im.2.2[i]→(v.2.2=0→∀j (hj:j<im.2.2.length),i≤j→GZ im.2.2[j]∧Jp im im.2.2[j]):=fun hg hv j hj hij=>by
   by_cases e:j=i
   ·subst e;exact hg
   ·exact v3 hv j hj (by omega)
  obtain⟨s,hse⟩:∃s:mJ,im.2.2[i]=s:=⟨_,rfl⟩
  rw[hse]at hS next⊢
  obtain⟨p,p1,p2⟩:=qN s
  rw[p1,p2]
  by_cases k1:s.2.1=1
  ·have hf:=hS.func k1
   have h0:=hS.at0
   have h1:=hS.size
   rw[aU (n:=s.2.2.1+s.2.2.2.1) (by omega) (by omega),ab k1,ab h0,ab hf,ab (show s.2.2.1≤s.2.2.1+s.2.2.2.1 by omega)]
   obtain⟨b,b1,b2⟩:=tO (im.1.extract s.2.2.1.toNat (s.2.2.1+s.2.2.2.1).toNat) p s.2.2.2.2 calls (by rw[ByteArray.size_extract];omega) (by omega)
   simp only[Bool.and_self,aM,ae,ac,af,b1,b2]
   have hp:p=4096+s.2.2.1:=by
    rw[zc,ab k1,ae,aU (n:=4096+s.2.2.1) (by omega) (by omega)]at p1
    exact(Option.some.inj p1).symm
   by_cases hb:b.2=0
   ·rw[ab hb]
    refine⟨_,rfl,rfl,next ⟨fun _=> ?_,fun _=>xw b1 hb⟩⟩
    have hl:=Bj b1 hb
    rw[hp,ByteArray.size_extract]at hl
    rw[show min (s.2.2.1+s.2.2.2.1).toNat im.1.size-s.2.2.1.toNat=s.2.2.2.1.toNat by omega]at hl
    exact hl
   ·rw[am hb];exact⟨_,rfl,rfl,fun h=>absurd h hb⟩
  ·rw[am k1];exact⟨_,rfl,rfl,next ⟨fun h=>absurd h k1,fun h=>absurd h k1⟩⟩
structure qQ (im:gm):Prop where
 sz:ly im
 chain:∃E,ju im im.2.2.length E∧(E im.2.2.length).1=(im.1.size:Int)
 pos:1≤im.2.2.length
 first:(rd (τ:=bx) im.2.2 0).2.1=1
 funs:∀j (hj:j<im.2.2.length),GZ im.2.2[j]
 lin:∀j (hj:j<im.2.2.length),Jp im im.2.2[j]
theorem zE (im:gm):∃v,pb im=some v∧ED im=some v∧(v.2.2=0→qQ im):=by
 rw[Nq,K9]
 simp only[aJ]
 by_cases h1:(im.2.2.length:Int)>16
 ·rw[ab h1];exact⟨_,rfl,rfl,fun h=>by cases h⟩
 ·rw[am h1]
  by_cases h2:(im.1.size:Int)>1024
  ·rw[ab h2];exact⟨_,rfl,rfl,fun h=>by cases h⟩
  ·rw[am h2]
   by_cases h3:(im.2.1.size:Int)>256
   ·rw[ab h3];exact⟨_,rfl,rfl,fun h=>by cases h⟩
   ·rw[am h3]
    simp only[ac]
    have hz:ly im:=⟨by omega,by omega,by omega⟩
    rw[Q7]
    have hE0:ju im 0 (fun _=>(0,0)):=⟨rfl,fun i _=>⟨⟨by simp,by simp⟩,⟨by simp,by simp⟩⟩,fun i _ h=>by omega⟩
    rcases CW im hz im.2.2.length 0 _ (by omega) hE0 with⟨n,c,hc,a1,a2⟩|⟨E,hE,a1,a2⟩
    ·have a1':pb.a im (0,0) (im.2.2.length:Int) 0=some (n,0,c):=a1
     have a2':Zz.a im 0 0 0=some (n,c):=a2
     rw[a1',a2']
     simp only[af]
     rw[am hc]
     exact⟨_,rfl,rfl,fun h=>absurd h hc⟩
    ·have a1':pb.a im (0,0) (im.2.2.length:Int) 0=_:=a1
     have a2':Zz.a im 0 0 0=_:=a2
     rw[a1',a2',pb.a_eq,ai]
     simp only[az,decide_false,ac,af,Ou]
     by_cases h0:im.2.2.length=0
     ·rw[au h0,show decide ((im.2.2.length:Int)=0)=true by simp[h0]]
      exact⟨_,rfl,rfl,fun h=>by cases h⟩
     ·rw[ap h0,show decide ((im.2.2.length:Int)=0)=false from am (by omega),inL_true (i:=0) (by omega) (by omega)]
      simp only[ac,ae]
      by_cases k1:(rd (τ:=bx) im.2.2 0).2.1=1
      ·rw[ab k1]
       by_cases k2:(E im.2.2.length).1=(im.1.size:Int)
       ·rw[ab k2]
        obtain⟨fs,f1,f2,f3⟩:=qO im hz
        have hs:∀s∈im.2.2,qP im s:=fun s hs=>by
         obtain⟨i,hi,rfl⟩:=List.getElem_of_mem hs
         exact(nH hE i hi).1
        obtain⟨v,v1,v2,v3⟩:=zD im hz hs fs f3 im.2.2.length 0 (by omega)
        rw[f1,f2]
        simp only[k1,k2,ne_eq,not_true_eq_false,↓reduceIte,aM,ac,decide_true,af]
        exact⟨v,v1,v2,fun h=>⟨hz,⟨E,hE,k2⟩,by omega,k1,fun j hj=>(v3 h j hj (Nat.zero_le _)).1,fun j hj=>(v3 h j hj (Nat.zero_le _)).2⟩⟩
       ·simp only[k1,k2,ne_eq,not_true_eq_false,not_false_eq_true,↓reduceIte,aM,Bool.not_false,ac,ae,decide_false]
        exact⟨_,rfl,rfl,fun h=>by cases h⟩
      ·simp only[k1,ne_eq,not_false_eq_true,↓reduceIte,Bool.not_false,ae,decide_false]
       exact⟨_,rfl,rfl,fun h=>by cases h⟩
noncomputable def CX (im:gm):Bool:=(Rc im).getD false
theorem ou (im:gm):Rc im=some (CX im)∧SM im=some (CX im)∧(CX im=true→qQ im):=by
 obtain⟨v,v1,v2,v3⟩:=zE im
 have e:Rc im=some (decide (v.2.2=0)):=by rw[Nr,v1];rfl
 unfold CX
 rw[e,La,v2]
 exact⟨rfl,rfl,fun h=>v3 (by simpa using h)⟩
def lX (v:Int):Nat→List Int
 |0=>[]
 |n+1=>v%256::lX (v/256) n
theorem lY (n:Nat):∀v,(lX v n).length=n:=by
 induction n with
 |zero=>intro v;rfl
 |succ n ih=>intro v;simp[lX,ih]
theorem pn (n:Int):IntKind.wrap .u8 n=n%256:=by simp[IntKind.wrap,IntKind.bits,IntKind.signed]
theorem oL (n:Nat):∀(v:Int) (xs:List Int),n≤1000→xs.length+n≤1000→yj.a v n xs=some (aS (xs++lX v n)):=by
 induction n with
 |zero=>intro v xs _ _;rw[yj.a_eq];simp[lX]
 |succ n ih=>
  intro v xs hn hx
  rw[yj.a_eq,show decide (((n+1:Nat):Int)>0)=true from ab (by omega),pm (by simp;omega) (by simp;omega),aU (n:=((n+1:Nat):Int)-1) (by omega) (by omega),pf (by decide) (by decide),pn,show((n+1:Nat):Int)-1=(n:Int) by omega]
  simp only[ae]
  rw[ih _ _ (by omega) (by simp;omega),lX,bl]
  rfl
theorem lZ (v:Int) (n:Nat) (h:n≤1000):yj v n=some (aS (lX v n)):=by
 rw[NZ,oL n v [] h (by simpa using h)];rfl
theorem cj (xs:List Int):(aS xs).size=xs.length:=by simp[aS,ByteArray.size]
theorem mK (xs:List Int) (i:Nat) (h:∀x∈xs,0≤x∧x≤255) (hi:i<xs.length):(((aS xs).data.getD i 0).toNat:Int)=xs[i]:=by
 have hx:=h _ (List.getElem_mem hi)
 unfold aS
 simp[Array.getD,hi]
 omega
theorem CY (n:Nat):∀v:Int,∀x∈lX v n,0≤x∧x≤255:=by
 induction n with
 |zero=>intro v x hx;cases hx
 |succ n ih=>
  intro v x hx
  rw[lX]at hx
  rcases List.mem_cons.mp hx with h|h
  ·omega
  ·exact ih _ x h
theorem Jq (n:Nat):∀(v:Int) (pre:List Int),0≤v→(∀x∈pre,0≤x∧x≤255)→((eV (aS (pre++lX v n)) pre.length n:Nat):Int)=v%256^n:=by
 induction n with
 |zero=>intro v pre _ _;simp[eV,Int.emod_one]
 |succ n ih=>
  intro v pre hv hp
  have h1:=ih (v/256) (pre++[v%256]) (by omega) (by
   intro x hx
   rcases List.mem_append.mp hx with h|h
   ·exact hp x h
   ·rw[List.mem_singleton.mp h];omega)
  rw[bl,List.singleton_append,List.length_append,List.length_singleton]at h1
  rw[lX,eV]
  have hr:∀x∈pre++v%256::lX (v/256) n,0≤x∧x≤255:=by
   intro x hx
   rcases List.mem_append.mp hx with h|h
   ·exact hp x h
   ·rcases List.mem_cons.mp h with h|h
    ·rw[h];omega
    ·exact CY n _ x h
  have h2:=mK (pre++v%256::lX (v/256) n) pre.length hr (by simp)
  rw[Int.natCast_add,Int.natCast_mul,h1,h2]
  simp
  rw[Int.pow_succ,Int.mul_comm (256^n) 256]
  have hp0:(0:Int)≤256:=by decide
  rw[Int.emod_def v (256*256^n),Int.emod_def (v/256) (256^n),←Int.ediv_ediv_of_nonneg hp0,Int.mul_sub,Int.mul_assoc]
  omega
theorem G4 {a b:ByteArray} (hs:a.size=b.size) (h:∀i,i<a.size→a.data.getD i 0=b.data.getD i 0):a=b:=by
 cases a with|mk x=>cases b with|mk y=>
 congr 1
 have hs:x.size=y.size:=hs
 apply Array.ext hs
 intro i h1 h2
 have:=h i h1
 simpa[Array.getD,h1,h2]using this
theorem qR (n:Nat):∀(k:Int) (t:ByteArray),0≤k→k<10^n→k≤4611686018427387904→t.size+n≤1000→∃v,rc.a k t=some v:=by
 induction n with
 |zero=>
  intro k t h0 h1 _ hs
  have:k=0:=by simp at h1;omega
  subst this
  rw[rc.a_eq,show decide ((0:Int)>0)=false from rfl]
  simp only[ac]
  rw[ab (by have:(⟨#[109]⟩:ByteArray).size=1:=rfl;omega)]
  exact⟨_,rfl⟩
 |succ n ih=>
  intro k t h0 h1 hk hs
  rw[rc.a_eq]
  by_cases hp:k>0
  ·rw[ab hp,ab (by rw[cj];simp;omega),Int.tdiv_eq_ediv_of_nonneg h0,aU (n:=k/10) (by omega) (by omega)]
   simp only[ae]
   rw[Int.pow_succ]at h1
   exact ih _ _ (by omega) (by omega) (by omega) (by rw[ByteArray.size_append,cj];simp;omega)
  ·rw[am hp]
   simp only[ac]
   rw[ab (by have:(⟨#[109]⟩:ByteArray).size=1:=rfl;omega)]
   exact⟨_,rfl⟩
noncomputable def Qm (k:Int):ByteArray:=(rc k).getD ⟨#[]⟩
theorem cL (k:Int) (h:1≤k) (h':k≤4611686018427387904):rc k=some (Qm k):=by
 obtain⟨v,hv⟩:=qR 30 k ⟨#[]⟩ (by omega) (by omega) h' (by decide)
 have e:rc k=some v:=by rw[PL,am (by omega)];exact hv
 unfold Qm
 rw[e];rfl
def ir {α:Type} (E:Int→α) (c:Nat) (m0:Int) (n:Nat):List α:=(List.range n).map fun i:Nat=>E (m0+c*i)
theorem l5 {α:Type} (E:Int→α) (c:Nat) (m0:Int) (n:Nat):(ir E c m0 n).length=n:=by simp[ir]
theorem qS {α:Type} (E:Int→α) (c:Nat) (m0:Int) (n i:Nat) (h:i<n):(ir E c m0 n)[i]? =some (E (m0+c*i)):=by simp[ir,h]
theorem G5 {α:Type} (L:List α→Int→Int→Option (Int×List α)) (E:Int→α) (c n:Nat) (m0:Int) (M:Int)
  (hm:1≤m0) (hM:m0+c*n≤M)
  (step:∀(l:List α) (m:Int) (i:Nat),l.length=n→i<n→1≤m→m+c≤M→L l m i=L (l.set i (E m)) (m+c) ((i+1:Nat):Int))
  (last:∀(l:List α) (m:Int),l.length=n→L l m n=some (m,l)) (l:List α) (hl:l.length=n):L l m0 0=some (m0+c*n,ir E c m0 n):=by
 have key:∀(k i:Nat) (l:List α),i+k=n→l.length=n→(∀j,j<i→l[j]? =some (E (m0+c*j)))→L l (m0+c*i) i=some (m0+c*n,ir E c m0 n):=by
  intro k
  induction k with
  |zero=>
   intro i l hi hl hj
   have:i=n:=by omega
   subst this
   rw[last l _ hl]
   congr 2
   apply List.ext_getElem?
   intro j
   by_cases h:j<i
   ·rw[hj j h,qS E c m0 i j h]
   ·rw[List.getElem?_eq_none (by omega),List.getElem?_eq_none (by rw[l5];omega)]
  |succ k ih=>
   intro i l hi hl hj
   have hci:(c:Int)*i+c≤c*n:=by
    have:c*i+c≤c*n:=by
     have:=Nat.mul_le_mul_left c (show i+1≤n by omega)
     rw[Nat.mul_add,Nat.mul_one]at this;exact this
    have e1:((c*i:Nat):Int)=(c:Int)*i:=by simp
    have e2:((c*n:Nat):Int)=(c:Int)*n:=by simp
    omega
   have hc0:0≤(c:Int)*i:=Int.mul_nonneg (by omega) (by omega)
   rw[step l _ i hl (by omega) (by omega) (by omega),show m0+(c:Int)*i+c=m0+c*((i+1:Nat):Int) by rw[Int.natCast_add,Int.mul_add];omega]
   apply ih (i+1) _ (by omega) (by simp[hl])
   intro j hji
   rw[List.getElem?_set]
   by_cases h:i=j
   ·subst h
    rw[au rfl,au (by omega)]
   ·rw[ap h];exact hj j (by omega)
 have:=key n 0 l (by omega) hl (fun j h=>by omega)
 simpa using this
theorem G6 {α:Type} (H:List α→Int→Int→Option Int) (E:Int→α) (c n:Nat) (m0:Int) (M:Int)
  (hm:1≤m0) (hM:m0+c*n≤M)
  (step:∀(l:List α) (m:Int) (i:Nat),l.length=n→i<n→1≤m→m+c≤M→l[i]? =some (E m)→H l m i=H l (m+c) ((i+1:Nat):Int))
  (last:∀(l:List α) (m:Int),l.length=n→H l m n=some m):H (ir E c m0 n) m0 0=some (m0+c*n):=by
 have key:∀(k i:Nat),i+k=n→H (ir E c m0 n) (m0+c*i) i=some (m0+c*n):=by
  intro k
  induction k with
  |zero=>
   intro i hi
   have:i=n:=by omega
   subst this
   rw[last _ _ (l5 ..)]
  |succ k ih=>
   intro i hi
   have hci:(c:Int)*i+c≤c*n:=by
    have:c*i+c≤c*n:=by
     have:=Nat.mul_le_mul_left c (show i+1≤n by omega)
     rw[Nat.mul_add,Nat.mul_one]at this;exact this
    have e1:((c*i:Nat):Int)=(c:Int)*i:=by simp
    have e2:((c*n:Nat):Int)=(c:Int)*n:=by simp
    omega
   have hc0:0≤(c:Int)*i:=Int.mul_nonneg (by omega) (by omega)
   rw[step _ _ i (l5 ..) (by omega) (by omega) (by omega) (qS E c m0 n i (by omega)),show m0+(c:Int)*i+c=m0+c*((i+1:Nat):Int) by rw[Int.natCast_add,Int.mul_add];omega]
   exact ih (i+1) (by omega)
 have:=key n 0 (by omega)
 simpa using this
theorem c8 {τ:Ty} (xs:List τ.den) (i:Nat) (v:τ.den) (h:i<xs.length):rd (τ:=τ) (xs.set i v) (i:Int)=v:=by
 rw[aY _ _ (by simpa using h)];simp
theorem Jr {τ:Ty} (xs:List τ.den) (i:Nat) (v:τ.den) (h:xs[i]? =some v):rd (τ:=τ) xs (i:Int)=v:=by
 unfold rd;rw[aB,List.getD_eq_getElem?_getD,h];rfl
theorem qT (a:ByteArray):bM a a=true:=by rw[bf,ab rfl]
def iv (p:Nat→Bool):Nat→Nat→Bool
 |_,0=>true
 |i,k+1=>bif p i then iv p (i+1) k else false
theorem eS (p:Nat→Bool):∀k i,iv p i k=true↔∀j,i≤j→j<i+k→p j=true
 |0,i=>by simp[iv];omega
 |k+1,i=>by
  rw[iv,d5]
  by_cases h:p i=true
  ·rw[au h,eS p k (i+1)]
   refine⟨fun H j h1 h2=> ?_,fun H j h1 h2=>H j (by omega) (by omega)⟩
   by_cases e:j=i
   ·rw[e];exact h
   ·exact H j (by omega) (by omega)
  ·rw[ap h]
   refine⟨fun H=>(by cases H),fun H=>absurd (H i (Nat.le_refl _) (by omega)) h⟩
theorem G7 (L:Int→Option Bool) (p:Nat→Bool) (n:Nat) (hend:L (n:Int)=some true) (hstep:∀i:Nat,i<n→L (i:Int)=bif p i then L ((i+1:Nat):Int)else some false):
  ∀k i:Nat,i+k=n→L (i:Int)=some (iv p i k):=by
 intro k
 induction k with
 |zero=>
   intro i h;have:i=n:=by omega
   subst this;exact hend
 |succ k ih=>
  intro i h
  rw[hstep i (by omega),ih (i+1) (by omega),iv]
  cases p i<;>rfl
theorem dq {L:Int→Option Bool} (p:Nat→Bool) (n:Nat) (hend:L (n:Int)=some true) (hstep:∀i:Nat,i<n→L (i:Int)=bif p i then L ((i+1:Nat):Int)else some false):L 0=some (iv p 0 n):=
 G7 L p n hend hstep n 0 (by omega)
def ef (p:Nat→Bool):Nat→Nat→Int
 |_,0=> -1
 |i,k+1=>bif p i then(i:Int)else ef p (i+1) k
theorem CZ (L:Int→Option Int) (p:Nat→Bool) (n:Nat) (hend:L (n:Int)=some (-1)) (hstep:∀i:Nat,i<n→L (i:Int)=bif p i then some (i:Int)else L ((i+1:Nat):Int)):
  ∀k i:Nat,i+k=n→L (i:Int)=some (ef p i k):=by
 intro k
 induction k with
 |zero=>
   intro i h;have:i=n:=by omega
   subst this;exact hend
 |succ k ih=>
  intro i h
  rw[hstep i (by omega),ih (i+1) (by omega),ef]
  cases p i<;>rfl
theorem cS {L:Int→Option Int} (p:Nat→Bool) (n:Nat) (hend:L (n:Int)=some (-1)) (hstep:∀i:Nat,i<n→L (i:Int)=bif p i then some (i:Int)else L ((i+1:Nat):Int)):L 0=some (ef p 0 n):=
 CZ L p n hend hstep n 0 (by omega)
theorem ce (p:Nat→Bool):∀k i,(ef p i k= -1∧∀j,i≤j→j<i+k→p j=false)∨∃j:Nat,ef p i k=(j:Int)∧i≤j∧j<i+k∧p j=true∧∀q,i≤q→q<j→p q=false
 |0,i=> .inl ⟨rfl,fun j h1 h2=>by omega⟩
 |k+1,i=>by
  rw[ef]
  cases h:p i with
  |true=>exact .inr ⟨i,rfl,Nat.le_refl _,by omega,h,fun q h1 h2=>by omega⟩
  |false=>
   rw[ac]
   rcases ce p k (i+1)with⟨h1,h2⟩|⟨j,h1,h2,h3,h4,h5⟩
   ·refine .inl ⟨h1,fun j h3 h4=> ?_⟩
    by_cases e:j=i
    ·rw[e];exact h
    ·exact h2 j (by omega) (by omega)
   ·refine .inr ⟨j,h1,by omega,by omega,h4,fun q h6 h7=> ?_⟩
    by_cases e:q=i
    ·rw[e];exact h
    ·exact h5 q (by omega) (by omega)
theorem fV (i:Nat) (h:0<i) (h':i≤1048576):IntKind.wrap .i64 ((i:Int)-1)=((i-1:Nat):Int):=by
 rw[aU (by omega) (by omega)];omega
theorem kY (a b:Int):decide (a<b)= !decide (a≥b):=by
 rw[←decide_not];congr 1;apply propext;omega
abbrev aN:Ty:= .pair (.int .i64) (.pair (.int .i64) .str)
abbrev eA:Type:=Int×Int×ByteArray
def dd (n a b:Int):Bool:=decide (a≤n)&&decide (n≤b)
theorem G8 (n a b:Int):gT n a b=some (dd n a b):=cF n a b
theorem bN (n a b:Int):gT n a b=some (dd n a b)∧oh n a b=some (dd n a b):=⟨cF n a b,fR n a b⟩
theorem bF {n a b:Int}:dd n a b=true↔a≤n∧n≤b:=by simp[dd]
def jL (b:Int):Bool:=bif dd b 0 1048575 then decide (b.tmod 128=0)else false
theorem Ov (b:Int):R5 b=some (jL b):=by
 rw[Hr,G8]
 unfold jL
 simp only[af]
 cases dd b 0 1048575<;>rfl
theorem Ow (p:Int):R6 p=some (dd p 0 15):=by rw[Hs,G8];rfl
theorem G9 (b:Int):R5 b=some (jL b)∧SN b=some (jL b):=by
 rw[Hr,Lb,(bN _ _ _).1,(bN _ _ _).2]
 unfold jL
 simp only[af]
 cases dd b 0 1048575<;>exact⟨rfl,rfl⟩
theorem Ha (p:Int):R6 p=some (dd p 0 15)∧SO p=some (dd p 0 15):=by
 rw[Hs,Lc,(bN _ _ _).1,(bN _ _ _).2];exact⟨rfl,rfl⟩
def C0 (m:List eA) (i:Nat):Bool:=
 bif jL (rd (τ:=aN) m i).1 then bif dd (rd (τ:=aN) m i).2.1 0 15 then bif decide (((rd (τ:=aN) m i).2.2.size:Int)=128)then
  (decide (i=0)||decide ((rd (τ:=aN) m ((i-1:Nat):Int)).1< (rd (τ:=aN) m i).1))else false else false else false
def iW (m:List eA):Bool:=decide (m.length≤64)&&iv (C0 m) 0 m.length
theorem Hb (m:List eA):Dm m=some (iW m):=by
 rw[OI]
 unfold iW
 rcases Nat.lt_or_ge 64 m.length with h|h
 ·rw[show decide ((m.length:Int)>64)=true by simp;omega,am (by omega)];rfl
 rw[show decide ((m.length:Int)>64)=false by simp;omega,ab h,ac,Bool.true_and]
 refine dq (L:=Dm.a m m (m.length:Int)) (C0 m) m.length ?_ fun i hi=> ?_
 ·rw[Dm.a_eq,ai];simp
 ·rw[Dm.a_eq,ai,aj,ab hi,an i m.length hi (by omega),Ov,Ow]
  unfold C0
  simp only[ae,af]
  by_cases h0:i=0
  ·rw[show decide ((i:Int)>0)=false by simp[h0],ab h0]
   cases jL (rd (τ:=aN) m i).1<;>cases dd (rd (τ:=aN) m i).2.1 0 15<;>cases decide (((rd (τ:=aN) m i).2.2.size:Int)=128)<;>rfl
  ·rw[show decide ((i:Int)>0)=true by simp;omega,am h0,fV i (by omega) (by omega),aj,ab (show i-1<m.length by omega)]
   rw[show decide ((rd (τ:=aN) m ((i-1:Nat):Int)).1< (rd (τ:=aN) m i).1)= !decide ((rd (τ:=aN) m ((i-1:Nat):Int)).1≥(rd (τ:=aN) m i).1) from kY _ _]
   cases jL (rd (τ:=aN) m i).1<;>cases dd (rd (τ:=aN) m i).2.1 0 15<;>cases decide (((rd (τ:=aN) m i).2.2.size:Int)=128)<;>cases decide ((rd (τ:=aN) m ((i-1:Nat):Int)).1≥(rd (τ:=aN) m i).1)<;>rfl
theorem qU (m:List eA):Dm m=some (iW m)∧EE m=some (iW m):=by
 refine⟨Hb m, ?_⟩
 rw[Ld]
 unfold iW
 rcases Nat.lt_or_ge 64 m.length with h|h
 ·rw[show decide ((m.length:Int)>64)=true by simp;omega,am (by omega)];rfl
 rw[show decide ((m.length:Int)>64)=false by simp;omega,ab h,ac,Bool.true_and]
 refine dq (L:=EE.a m) (C0 m) m.length ?_ fun i hi=> ?_
 ·rw[EE.a_eq,ai];simp
 ·rw[EE.a_eq,ai,aj,ab hi,an i m.length hi (by omega),(G9 _).2,(Ha _).2]
  unfold C0
  simp only[ae,af]
  by_cases h0:i=0
  ·rw[show decide ((i:Int)>0)=false by simp[h0],ab h0]
   cases jL (rd (τ:=aN) m i).1<;>cases dd (rd (τ:=aN) m i).2.1 0 15<;>cases decide (((rd (τ:=aN) m i).2.2.size:Int)=128)<;>rfl
  ·rw[show decide ((i:Int)>0)=true by simp;omega,am h0,fV i (by omega) (by omega),aj,ab (show i-1<m.length by omega)]
   rw[show decide ((rd (τ:=aN) m ((i-1:Nat):Int)).1< (rd (τ:=aN) m i).1)= !decide ((rd (τ:=aN) m i).1≤(rd (τ:=aN) m ((i-1:Nat):Int)).1) from kY _ _]
   cases jL (rd (τ:=aN) m i).1<;>cases dd (rd (τ:=aN) m i).2.1 0 15<;>cases decide (((rd (τ:=aN) m i).2.2.size:Int)=128)<;>cases decide ((rd (τ:=aN) m i).1≤(rd (τ:=aN) m ((i-1:Nat):Int)).1)<;>rfl
abbrev aW:Ty:= .pair .str (.pair (.int .i64) (.pair (.int .i64) (.pair (.int .i64) (.pair (.int .i64) (.int .i64)))))
abbrev dr:Type:=ByteArray×Int×Int×Int×Int×Int
def cp (l:List dr) (name:ByteArray):Int:=ef (fun i=>decide ((rd (τ:=aW) l (i:Int)).1=name)) 0 l.length
theorem dQ (l:List dr) (name:ByteArray) (hl:l.length≤1048576):Jb l name=some (cp l name)∧w9 l name=some (cp l name):=by
 rw[NT,NS,Lf]
 unfold cp
 constructor
 ·rw[cS (L:=IK.a name l (l.length:Int)) (fun i=>decide ((rd (τ:=aW) l (i:Int)).1=name)) l.length ?_ fun i hi=> ?_]
  ·rfl
  ·rw[IK.a_eq,ai];simp
  ·rw[IK.a_eq,ai,aj,ab hi,an i l.length hi (by omega),NR,bf]
   simp only[ae,af]
 ·refine cS (L:=w9.a l name) (fun i=>decide ((rd (τ:=aW) l (i:Int)).1=name)) l.length ?_ fun i hi=> ?_
  ·rw[w9.a_eq,ai];simp
  ·rw[w9.a_eq,ai,aj,ab hi,an i l.length hi (by omega),bf]
   simp only[ae]
def tQ (k f:Int):Bool:=bif decide (k=1)then(bif dG f then true else bif decide (k=2)then decide (f=0)else false)else bif decide (k=2)then decide (f=0)else false
noncomputable def de (e:dr):Bool:=
 bif cz e.1 then bif bS e.2.2.1 then bif dd e.2.2.2.1 1 1024 then bif dd e.2.2.2.2.2 0 6 then tQ e.2.1 e.2.2.2.2.1 else false else false else false else false
theorem tR (e:dr):To e=some (de e)∧SQ e=some (de e):=by
 rw[NU,Lg]
 unfold de
 rw[(d9 _).1,(d9 _).2,jt,(bN _ _ _).1,(bN _ _ _).1,(bN _ _ _).2,(bN _ _ _).2,(bN _ _ _).2,(eJ _).1,(eJ _).2]
 unfold bS tQ aJ
 simp only[af]
 rw[show(decide ((0:Int)≤e.2.2.1)&&decide (e.2.2.1≤1048575))=dd e.2.2.1 0 1048575 from rfl]
 cases cz e.1<;>cases dd e.2.2.1 0 1048575<;>cases decide (e.2.2.1.tmod 4=0)<;>cases dd e.2.2.2.1 1 1024<;>cases dd e.2.2.2.2.2 0 6<;>cases decide (e.2.1=1)<;>cases dG e.2.2.2.2.1<;>cases decide (e.2.1=2)<;>exact⟨rfl,rfl⟩
noncomputable def xx (l:List dr) (i:Nat):Bool:=bif de (rd (τ:=aW) l i)then decide (cp (l.take i) (rd (τ:=aW) l i).1<0)else false
noncomputable def oM (l:List dr):Bool:=decide (l.length≤64)&&iv (xx l) 0 l.length
theorem jv {α:Type} (l:List α) (i:Nat):(l.take (Int.toNat (i:Int))).drop (Int.toNat 0)=l.take i:=by
 rw[aB,show(Int.toNat 0)=0 from rfl,List.drop_zero]
theorem jw (i n:Nat) (h:i≤n):(decide (0≤0)&&decide (0≤(i:Int))&&decide ((i:Int)≤(n:Int)))=true:=by simp;omega
theorem iX (l:List dr):Bd l=some (oM l)∧Gk l=some (oM l):=by
 rw[NV,Lh]
 unfold oM
 rcases Nat.lt_or_ge 64 l.length with h|h
 ·rw[show decide ((l.length:Int)>64)=true by simp;omega,am (show¬l.length≤64 by omega)]
  cases decide ((l.length:Int)>4096)<;>exact⟨rfl,rfl⟩
 rw[show decide ((l.length:Int)>64)=false by simp;omega,show decide ((l.length:Int)>4096)=false by simp;omega,ab h,ac,ac,ac,Bool.true_and]
 constructor
 ·refine dq (L:=Bd.a l l (l.length:Int)) (xx l) l.length ?_ fun i hi=> ?_
  ·rw[Bd.a_eq,ai];simp
  ·rw[Bd.a_eq,ai,aj,ab hi,an i l.length hi (by omega),(tR _).1,jv,jw i _ (by omega),(dQ _ _ (by simp;omega)).1]
   unfold xx
   rw[kY]
   simp only[ae,af]
   cases de (rd (τ:=aW) l i)<;>cases decide (cp (l.take i) (rd (τ:=aW) l i).1≥0)<;>rfl
 ·refine dq (L:=Gk.a l) (xx l) l.length ?_ fun i hi=> ?_
  ·rw[Gk.a_eq,ai];simp
  ·rw[Gk.a_eq,ai,aj,ab hi,an i l.length hi (by omega),(tR _).2,jv,jw i _ (by omega),(dQ _ _ (by simp;omega)).2]
   unfold xx
   rw[kY]
   simp only[ae,af]
   cases de (rd (τ:=aW) l i)<;>cases decide (cp (l.take i) (rd (τ:=aW) l i).1≥0)<;>rfl
abbrev bG:Type:=Int×Int×Int
def Bl (a:bG):Bool:=
 dd a.1 0 1048575&&dd a.2.1 0 (IntKind.wrap .i64 (1048576-a.1))&&dd a.2.2 a.1 (IntKind.wrap .i64 (a.1+a.2.1))&&decide (a.1.tmod 8=0)&&decide (a.2.1.tmod 8=0)&&decide (a.2.2.tmod 8=0)
theorem tS (a:bG):RZ a=some (Bl a):=by
 rw[NW,(bN _ _ _).1,(bN _ _ _).1,(bN _ _ _).1]
 unfold Bl
 simp only[af]
 cases dd a.1 0 1048575<;>cases dd a.2.1 0 (IntKind.wrap .i64 (1048576-a.1))<;>cases dd a.2.2 a.1 (IntKind.wrap .i64 (a.1+a.2.1))<;>cases decide (a.1.tmod 8=0)<;>cases decide (a.2.1.tmod 8=0)<;>cases decide (a.2.2.tmod 8=0)<;>rfl
abbrev po:Ty:= .pair (.int .i64) (.pair (.int .i64) (.int .i64))
abbrev Sh:Type:=Int×Int×Int
def C3 (a b:Int):Int:=bif decide (a<b)then-1 else bif decide (a>b)then 1 else 0
def C4 (a b:Sh):Int:=if C3 a.1 b.1=0 then C3 a.2.1 b.2.1 else C3 a.1 b.1
theorem Bm (a b:Int):R7 a b=some (C3 a b):=by
 rw[OL,Hu,Hu]
 unfold C3
 simp only[af,decide_true,aM,ac]
 cases decide (a<b)<;>cases decide (a>b)<;>rfl
theorem Js (x y:Int):Ht [x,y]=some (if x=0 then y else x):=by
 rw[OJ,show(([x,y]:List Int).length:Int)=2 from rfl,Ht.a_eq,Ht.a_eq,Ht.a_eq]
 show(bif !decide (x=0)then some x else bif !decide (y=0)then some y else some 0)=_
 by_cases hx:x=0
 ·by_cases hy:y=0
  ·simp[hx,hy]
  ·simp[hx,hy]
 ·simp[hx]
theorem C5 (a b:Sh):Tz a b=some (C4 a b):=by
 rw[OM,Bm,Bm]
 simp only[af]
 rw[Js];rfl
theorem tT (a b c d:Int):EF [a,b] [c,d]=some (if a=c then decide (b<d)else decide (a<c)):=by
 rw[Lj,EF.a_eq,EF.a_eq,EF.a_eq]
 show(bif !decide (a=c)then some (decide (a<c))else bif !decide (b=d)then some (decide (b<d))else some false)=_
 by_cases h:a=c
 ·by_cases h2:b=d
  ·simp[h,h2]
  ·simp[h,h2]
 ·simp[h]
theorem Hc (a b:Sh):(if a.1=b.1 then decide (a.2.1<b.2.1)else decide (a.1<b.1))= !decide (C4 a b≥0):=by
 obtain⟨a1,a2,a3⟩:=a
 obtain⟨b1,b2,b3⟩:=b
 simp only[C4,C3,d5,aT]
 rcases Int.lt_trichotomy a1 b1 with h|h|h
 ·rw[ap (by omega),au h];simp[h]
 ·subst h
  rw[au rfl]
  rcases Int.lt_trichotomy a2 b2 with h2|h2|h2
  ·simp[h2]
  ·simp[h2]
  ·simp[show¬a2<b2 by omega,h2]
 ·rw[ap (by omega),ap (by omega),au h];simp[show¬a1<b1 by omega]
theorem Ox (n:Int):SR n=some (dd n 0 255):=by rw[Li,(bN _ _ _).2];rfl
def Rj (l:List Sh) (i:Nat):Bool:=
 bif dd (rd (τ:=po) l i).2.1 0 255 then(decide (i=0)|| !decide (C4 (rd (τ:=po) l ((i-1:Nat):Int)) (rd (τ:=po) l i)≥0))else false
def Qn (l:List Sh):Bool:=decide (l.length≤16)&&iv (Rj l) 0 l.length
theorem ov (l:List Sh):Fc l=some (Qn l)∧EG l=some (Qn l):=by
 rw[ON,Lk]
 unfold Qn
 rcases Nat.lt_or_ge 16 l.length with h|h
 ·rw[show decide ((l.length:Int)>16)=true by simp;omega,am (show¬l.length≤16 by omega)]
  cases decide ((l.length:Int)>4096)<;>exact⟨rfl,rfl⟩
 rw[show decide ((l.length:Int)>16)=false by simp;omega,show decide ((l.length:Int)>4096)=false by simp;omega,ab h,ac,ac,ac,Bool.true_and]
 constructor
 ·refine dq (L:=Fc.a l l (l.length:Int)) (Rj l) l.length ?_ fun i hi=> ?_
  ·rw[Fc.a_eq,ai];simp
  ·rw[Fc.a_eq,ai,aj,ab hi,an i l.length hi (by omega),(bN _ _ _).1]
   unfold Rj
   simp only[ae,af]
   by_cases h0:i=0
   ·rw[show decide ((i:Int)>0)=false by simp[h0],ab h0]
    cases dd (rd (τ:=po) l i).2.1 0 255<;>rfl
   ·rw[show decide ((i:Int)>0)=true by simp;omega,am h0,fV i (by omega) (by omega),aj,ab (show i-1<l.length by omega),C5]
    simp only[af]
    cases dd (rd (τ:=po) l i).2.1 0 255<;>cases decide (C4 (rd (τ:=po) l ((i-1:Nat):Int)) (rd (τ:=po) l i)≥0)<;>rfl
 ·refine dq (L:=EG.a l) (Rj l) l.length ?_ fun i hi=> ?_
  ·rw[EG.a_eq,ai];simp
  ·rw[EG.a_eq,ai,aj,ab hi,an i l.length hi (by omega),Ox]
   unfold Rj
   simp only[ae,af]
   by_cases h0:i=0
   ·rw[show decide ((i:Int)>0)=false by simp[h0],ab h0]
    cases dd (rd (τ:=po) l i).2.1 0 255<;>rfl
   ·rw[show decide ((i:Int)>0)=true by simp;omega,am h0,fV i (by omega) (by omega),aj,ab (show i-1<l.length by omega),tT,Hc]
    simp only[af]
    cases dd (rd (τ:=po) l i).2.1 0 255<;>cases decide (C4 (rd (τ:=po) l ((i-1:Nat):Int)) (rd (τ:=po) l i)≥0)<;>rfl
abbrev Hd:Ty:= .pair (.arr (.int .i64) 32) (.int .i64)
abbrev fq:Ty:= .pair (.int .i64) (.pair Hd (.pair (.list (.int .i64)) (.int .i64)))
abbrev Oy:Type:=Int×(List Int×Int)×List Int×Int
abbrev R3:Type:=List eA×List Oy×List dr×List Sh
def Bn (h:List Int×Int):Bool:=decide ((rd (τ:= .int .i64) h.1 0)=(0:Int))
theorem xy (h:List Int×Int):TA h=some (Bn h)∧SS h=some (Bn h):=by
 rw[OO,Ll];exact⟨rfl,rfl⟩
def zG (t:Oy):Bool:=
 bif dd t.1 1 3 then bif Bn t.2.1 then bif decide ((t.2.2.1.length:Int)≤32)then(bif decide (t.1=3)then dd t.2.2.2 1 31 else decide (t.2.2.2=0))else false else false else false
theorem Bo (t:Oy):TB t=some (zG t)∧ST t=some (zG t):=by
 rw[OP,Lm,(bN _ _ _).1,(bN _ _ _).1,(bN _ _ _).2,(bN _ _ _).2,(xy _).1,(xy _).2]
 unfold zG aJ
 rw[show decide ((t.2.2.1.length:Int)>32)= !decide ((t.2.2.1.length:Int)≤32) by rw[←decide_not];congr 1;apply propext;omega]
 simp only[af]
 cases dd t.1 1 3<;>cases Bn t.2.1<;>cases decide ((t.2.2.1.length:Int)≤32)<;>cases decide (t.1=3)<;>exact⟨rfl,rfl⟩
def Bp (l:List Oy):Bool:=dd l.length 1 4&&iv (fun i=>zG (rd (τ:=fq) l (i:Int))) 0 l.length
theorem He (p:Nat→Bool) (n:Nat):decide (ef (fun i=> !p i) 0 n≥0)= !iv p 0 n:=by
 rcases ce (fun i=> !p i) n 0 with⟨h1,h2⟩|⟨j,h1,h2,h3,h4,h5⟩
 ·rw[h1,(eS p n 0).2 fun j h3 h4=>by simpa using h2 j h3 h4];rfl
 ·rw[h1]
  have:iv p 0 n=false:=by
   cases h:iv p 0 n with
   |false=>rfl
   |true=>have:=(eS p n 0).1 h j h2 h3;rw[this]at h4;cases h4
  rw[this];simp
theorem xz (l:List Oy):TC l=some (Bp l):=by
 rw[OT,(bN _ _ _).1]
 unfold Bp
 simp only[af]
 cases h:dd (l.length:Int) 1 4 with
 |false=>rfl
 |true=>
  have hl:l.length≤4:=by rw[bF]at h;omega
  rw[OS,OR,cS (L:=IM.a l (l.length:Int)) (fun i=> !zG (rd (τ:=fq) l (i:Int))) l.length ?_ fun i hi=> ?_]
  ·simp only[af,ae,Bool.true_and]
   rw[He];simp
  ·rw[IM.a_eq,ai];simp
  ·rw[IM.a_eq,ai,aj,ab hi,an i l.length hi (by omega),OQ,(Bo _).1]
   simp only[ae,af]
noncomputable def xA (m:R3):Bool:=iW m.1&&(oM m.2.2.1&&(Qn m.2.2.2&&Bp m.2.1))
theorem xB (m:R3):TD m=some (xA m)∧Gl m=some (xA m):=by
 rw[OU,Ln,(qU _).1,(qU _).2,(iX _).1,(iX _).2,(ov _).1,(ov _).2,xz]
 unfold xA
 simp only[af]
 constructor
 ·cases iW m.1<;>cases oM m.2.2.1<;>cases Qn m.2.2.2<;>rfl
 ·unfold Bp
  by_cases h1:(m.2.1.length:Int)<1
  ·rw[ab h1,show dd (m.2.1.length:Int) 1 4=false by simp[dd];omega]
   cases iW m.1<;>simp
  rw[am h1]
  by_cases h2:(m.2.1.length:Int)>4
  ·rw[ab h2,show dd (m.2.1.length:Int) 1 4=false by simp[dd];omega]
   cases iW m.1<;>simp
  rw[am h2,show dd (m.2.1.length:Int) 1 4=true by simp[dd];omega]
  rw[dq (L:=Gl.a m) (fun i=>zG (rd (τ:=fq) m.2.1 (i:Int))) m.2.1.length ?_ fun i hi=> ?_]
  ·cases iW m.1<;>cases oM m.2.2.1<;>cases Qn m.2.2.2<;>rfl
  ·rw[Gl.a_eq,ai];simp
  ·rw[Gl.a_eq,ai,aj,ab hi,an i m.2.1.length hi (by omega),(Bo _).2]
   simp only[ae,af]
   cases zG (rd (τ:=fq) m.2.1 (i:Int))<;>rfl
def go (p:Nat→Bool):Nat→Nat→Bool
 |_,0=>false
 |i,k+1=>bif p i then true else go p (i+1) k
theorem ky (p:Nat→Bool):∀k i,go p i k=true↔∃j,i≤j∧j<i+k∧p j=true
 |0,i=>by simp[go];omega
 |k+1,i=>by
  rw[go,d5]
  by_cases h:p i=true
  ·rw[au h];simp only[true_iff];exact⟨i,Nat.le_refl _,by omega,h⟩
  ·rw[ap h,ky p k (i+1)]
   refine⟨fun⟨j,h1,h2,h3⟩=>⟨j,by omega,by omega,h3⟩,fun⟨j,h1,h2,h3⟩=>⟨j, ?_,by omega,h3⟩⟩
   rcases Nat.lt_or_ge i j with h4|h4
   ·exact h4
   ·have:j=i:=by omega
    subst this;exact absurd h3 h
theorem Hf {β:Type} (L:Int→Option β) (p:Nat→Bool) (n:Nat) (r:Option β) (hstep:∀i:Nat,i<n→L (i:Int)=bif p i then r else L ((i+1:Nat):Int)):
  ∀k i:Nat,i+k=n→L (i:Int)=bif go p i k then r else L (n:Int):=by
 intro k
 induction k with
 |zero=>
   intro i h;have:i=n:=by omega
   subst this;rfl
 |succ k ih=>
  intro i h
  rw[hstep i (by omega),ih (i+1) (by omega),go]
  cases p i<;>rfl
theorem eK {β:Type} {L:Int→Option β} (p:Nat→Bool) (n:Nat) (r:Option β) (hstep:∀i:Nat,i<n→L (i:Int)=bif p i then r else L ((i+1:Nat):Int)):L 0=bif go p 0 n then r else L (n:Int):=
 Hf L p n r hstep n 0 (by omega)
theorem qV (p:Nat→Bool) (n:Nat):decide (ef p 0 n≥0)=go p 0 n:=by
 rcases ce p n 0 with⟨h1,h2⟩|⟨j,h1,h2,h3,h4,h5⟩
 ·rw[h1]
  cases h:go p 0 n with
  |false=>rfl
  |true=>obtain⟨j,h3,h4,h5⟩:=(ky p n 0).1 h;rw[h2 j h3 h4]at h5;cases h5
 ·rw[h1,(ky p n 0).2 ⟨j,h2,h3,h4⟩];simp
def bn {α:Type} (f:Nat→α):Nat→Nat→List α
 |_,0=>[]
 |i,k+1=>f i::bn f (i+1) k
theorem aO {α:Type} (f:Nat→α):∀k i,(bn f i k).length=k
 |0,_=>rfl
 |k+1,i=>by rw[bn,List.length_cons,aO f k]
theorem Hg {α β:Type} (L:List α→Int→Option β) (f:Nat→α) (n A:Nat) (hstep:∀acc (i:Nat),i<n→acc.length=A+i→L acc (i:Int)=L (acc++[f i]) ((i+1:Nat):Int)):
  ∀(k i:Nat) (acc:List α),i+k=n→acc.length=A+i→L acc (i:Int)=L (acc++bn f i k) (n:Int):=by
 intro k
 induction k with
 |zero=>
   intro i acc h _;have:i=n:=by omega
   subst this;rw[bn,List.append_nil]
 |succ k ih=>
  intro i acc h ha
  rw[hstep acc i (by omega) ha,ih (i+1) _ (by omega) (by simp;omega),bn,bl];rfl
theorem cM {α β:Type} {L:List α→Int→Option β} (f:Nat→α) (n:Nat) (acc:List α) (hstep:∀acc' (i:Nat),i<n→acc'.length=acc.length+i→L acc' (i:Int)=L (acc'++[f i]) ((i+1:Nat):Int)):L acc 0=L (acc++bn f 0 n) (n:Int):=
 Hg L f n acc.length hstep n 0 acc (by omega) (by omega)
def bw (c:Nat→Int):Nat→Nat→Int×Int
 |_,0=>(0,0)
 |i,k+1=>if c i=0 then bw c (i+1) k else((i:Int),c i)
theorem C6 (L:Int→Option (Int×Int)) (c:Nat→Int) (n:Nat) (hstep:∀i:Nat,i<n→L (i:Int)=if c i=0 then L ((i+1:Nat):Int)else some ((i:Int),c i)):
  ∀k i:Nat,i+k=n→L (i:Int)=if(bw c i k).2=0 then L (n:Int)else some (bw c i k):=by
 intro k
 induction k with
 |zero=>
   intro i h;have:i=n:=by omega
   subst this;rfl
 |succ k ih=>
  intro i h
  rw[hstep i (by omega),ih (i+1) (by omega),bw]
  by_cases h:c i=0
  ·rw[au h,au h]
  ·rw[ap h,ap h,ap h]
theorem dH {L:Int→Option (Int×Int)} (c:Nat→Int) (n:Nat) (hstep:∀i:Nat,i<n→L (i:Int)=if c i=0 then L ((i+1:Nat):Int)else some ((i:Int),c i)):L 0=if(bw c 0 n).2=0 then L (n:Int)else some (bw c 0 n):=
 C6 L c n hstep n 0 (by omega)
theorem dI (c:Nat→Int):∀k i,(bw c i k).2=0↔∀j,i≤j→j<i+k→c j=0
 |0,i=>by simp[bw];omega
 |k+1,i=>by
  rw[bw]
  by_cases h:c i=0
  ·rw[au h,dI c k (i+1)]
   refine⟨fun H j h1 h2=> ?_,fun H j h1 h2=>H j (by omega) (by omega)⟩
   by_cases e:j=i
   ·rw[e];exact h
   ·exact H j (by omega) (by omega)
  ·rw[ap h]
   exact⟨fun H=>absurd H h,fun H=>absurd (H i (Nat.le_refl _) (by omega)) h⟩
abbrev aP:Ty:= .pair .str (.pair .bool (.pair (.int .i64) .str))
abbrev Uu:Type:=ByteArray×Bool×Int×ByteArray
abbrev bB:Ty:= .pair .str .str
abbrev Uv:Type:=ByteArray×ByteArray
abbrev cu:Ty:= .pair (.int .i64) (.pair (.int .i64) (.pair (.int .i64) (.pair .str (.int .i64))))
abbrev Kp:Type:=Int×Int×Int×ByteArray×Int
abbrev dR:Ty:= .pair (.int .i64) .bool
abbrev Uw:Type:=Int×Bool
abbrev bL:Type:=ByteArray×Int×List Uu×List Uv×List Kp×List Uw
structure ObjSz (o:bL):Prop where
 f:o.2.2.1.length≤4
 d:o.2.2.2.1.length≤4
 r:o.2.2.2.2.1.length≤32
 s:o.2.2.2.2.2.length≤4
def cY (o:bL):List ByteArray:=bn (fun i=>(rd (τ:=aP) o.2.2.1 (i:Int)).1) 0 o.2.2.1.length++bn (fun i=>(rd (τ:=bB) o.2.2.2.1 (i:Int)).1) 0 o.2.2.2.1.length
def ge (o:bL):List Int:=bn (fun i=>IntKind.wrap .i64 (((rd (τ:=aP) o.2.2.1 (i:Int)).2.2.2.size:Int).tdiv 4)) 0 o.2.2.1.length++bn (fun i=>IntKind.wrap .i64 (((rd (τ:=bB) o.2.2.2.1 (i:Int)).2.size:Int).tdiv 8)) 0 o.2.2.2.1.length
theorem jx (n:Nat) (h:n≤4096):aH n 16=true:=by simp[aH];omega
theorem lz (n:Nat) (h:n≤4096):aH n 8=true:=by simp[aH];omega
theorem C7 (o:bL) (hz:ObjSz o) (u:Nat) (hu:u≤(cY o).length):rX o (u:Int)=some ((cY o).take u):=by
 obtain⟨hf,hd,_,_⟩:=hz
 rw[ND]
 rw[cM (L:=fun acc i=>rX.a (u:Int) o acc o.2.2.1 (o.2.2.1.length:Int) i) (fun i=>(rd (τ:=aP) o.2.2.1 (i:Int)).1) o.2.2.1.length [] fun acc i hi ha=> ?_]
 ·rw[rX.a_eq,ai,am (az _),ac,List.nil_append]
  rw[cM (L:=fun acc i=>rX.b (u:Int) acc o.2.2.2.1 (o.2.2.2.1.length:Int) i) (fun i=>(rd (τ:=bB) o.2.2.2.1 (i:Int)).1) o.2.2.2.1.length (bn (fun i=>(rd (τ:=aP) o.2.2.1 (i:Int)).1) 0 o.2.2.1.length) fun acc i hi ha=> ?_]
  ·show rX.b (u:Int) (cY o) o.2.2.2.1 (o.2.2.2.1.length:Int) (o.2.2.2.1.length:Int)=_
   rw[rX.b_eq,ai,am (az _),ac,jw u _ hu,ae,jv]
  ·rw[aO]at ha
   show rX.b (u:Int) acc o.2.2.2.1 (o.2.2.2.1.length:Int) (i:Int)=_
   rw[rX.b_eq,ai,aj,ab hi,an i _ hi (by omega),jx _ (by simp;omega)];rfl
 ·show rX.a (u:Int) o acc o.2.2.1 (o.2.2.1.length:Int) (i:Int)=_
  rw[rX.a_eq,ai,aj,ab hi,an i _ hi (by omega),jx _ (by simp at ha⊢;omega)];rfl
theorem C8 (o:bL) (hz:ObjSz o):sw o=some (ge o):=by
 obtain⟨hf,hd,_,_⟩:=hz
 rw[NF]
 rw[cM (L:=fun acc i=>sw.a o acc o.2.2.1 (o.2.2.1.length:Int) i) (fun i=>IntKind.wrap .i64 (((rd (τ:=aP) o.2.2.1 (i:Int)).2.2.2.size:Int).tdiv 4)) o.2.2.1.length [] fun acc i hi ha=> ?_]
 ·rw[sw.a_eq,ai,am (az _),ac,List.nil_append]
  rw[cM (L:=fun acc i=>sw.b acc o.2.2.2.1 (o.2.2.2.1.length:Int) i) (fun i=>IntKind.wrap .i64 (((rd (τ:=bB) o.2.2.2.1 (i:Int)).2.size:Int).tdiv 8)) o.2.2.2.1.length (bn (fun i=>IntKind.wrap .i64 (((rd (τ:=aP) o.2.2.1 (i:Int)).2.2.2.size:Int).tdiv 4)) 0 o.2.2.1.length) fun acc i hi ha=> ?_]
  ·rw[sw.b_eq,ai,am (az _),ac];rfl
  ·rw[aO]at ha
   show sw.b acc o.2.2.2.1 (o.2.2.2.1.length:Int) (i:Int)=_
   rw[sw.b_eq,ai,aj,ab hi,an i _ hi (by omega),lz _ (by simp;omega)];rfl
 ·show sw.a o acc o.2.2.1 (o.2.2.1.length:Int) (i:Int)=_
  rw[sw.a_eq,ai,aj,ab hi,an i _ hi (by omega),lz _ (by simp at ha⊢;omega)];rfl
def iw (l:List ByteArray) (n:ByteArray):Bool:=l.any fun y=>decide (y=n)
theorem kz {l:List ByteArray} {n:ByteArray}:iw l n=true↔n∈l:=by simp[iw]
theorem zH (l:List ByteArray) (n:ByteArray) (hl:l.length≤4096):Tk l n=some (iw l n):=by
 rw[NC,NB,cS (L:=IH.a l n (l.length:Int)) (fun i=>decide (n=rd (τ:= .str) l (i:Int))) l.length ?_ fun i hi=> ?_]
 ·simp only[af]
  rw[qV]
  congr 1
  rw[Bool.eq_iff_iff,ky,kz,List.mem_iff_getElem]
  refine⟨fun⟨j,h1,h2,h3⟩=>⟨j,by omega, ?_⟩,fun⟨j,h1,h2⟩=>⟨j,by omega,by omega, ?_⟩⟩
  ·rw[decide_eq_true_iff,aY (τ:= .str) l j (by omega)]at h3;exact h3.symm
  ·rw[decide_eq_true_iff,aY (τ:= .str) l j h1];exact h2.symm
 ·rw[IH.a_eq,ai];simp
 ·rw[IH.a_eq,ai,aj,ab hi,an i _ hi (by omega),bf];rfl
theorem bY {α:Type} (f:Nat→α) (x:α):∀k i,x∈bn f i k↔∃j,i≤j∧j<i+k∧f j=x
 |0,i=>by simp[bn];omega
 |k+1,i=>by
  rw[bn,List.mem_cons,bY f x k (i+1)]
  constructor
  ·rintro(h|⟨j,h1,h2,h3⟩)
   ·exact⟨i,Nat.le_refl _,by omega,h.symm⟩
   ·exact⟨j,by omega,by omega,h3⟩
  ·rintro⟨j,h1,h2,h3⟩
   by_cases e:j=i
   ·subst e;exact .inl h3.symm
   ·exact .inr ⟨j,by omega,by omega,h3⟩
theorem nI {α:Type} (f:Nat→α):∀k i n,(bn f i k).take n=bn f i (min n k)
 |0,i,n=>by simp[bn]
 |k+1,i,0=>by simp[bn]
 |k+1,i,n+1=>by rw[bn,List.take_succ_cons,nI f k (i+1) n,Nat.add_min_add_right,bn]
theorem mL (o:bL) (i:Nat) (hi:i≤o.2.2.1.length):(cY o).take i=bn (fun i=>(rd (τ:=aP) o.2.2.1 (i:Int)).1) 0 i:=by
 unfold cY
 rw[List.take_append_of_le_length (by rw[aO];exact hi),nI,Nat.min_eq_left hi]
theorem jy (o:bL) (i:Nat) (hi:i≤o.2.2.2.1.length):(cY o).take (o.2.2.1.length+i)=bn (fun i=>(rd (τ:=aP) o.2.2.1 (i:Int)).1) 0 o.2.2.1.length++bn (fun i=>(rd (τ:=bB) o.2.2.2.1 (i:Int)).1) 0 i:=by
 unfold cY
 rw[List.take_append,aO,List.take_of_length_le (by rw[aO];omega),nI,show o.2.2.1.length+i-o.2.2.1.length=i by omega,Nat.min_eq_left hi]
theorem nJ (o:bL):(cY o).length=o.2.2.1.length+o.2.2.2.1.length:=by unfold cY;rw[List.length_append,aO,aO]
theorem nK (f:Nat→ByteArray) (n:ByteArray) (k:Nat):iw (bn f 0 k) n=go (fun j=>decide (f j=n)) 0 k:=by
 rw[Bool.eq_iff_iff,kz,bY,ky];simp
theorem qW (a b:List ByteArray) (n:ByteArray):iw (a++b) n=(iw a n||iw b n):=by simp[iw]
theorem qX (c:Nat→Int):∀k i,(bw c i k).2=0→bw c i k=(0,0)
 |0,_,_=>rfl
 |k+1,i,h=>by
  rw[bw]at h⊢
  by_cases e:c i=0
  ·rw[au e]at h⊢;exact qX c k (i+1) h
  ·rw[ap e]at h;exact absurd h e
theorem kA (c:Nat→Int) (i k:Nat):(if(bw c i k).2=0 then some ((0,0):Int×Int)else some (bw c i k))=some (bw c i k):=by
 by_cases h:(bw c i k).2=0
 ·rw[au h,qX c k i h]
 ·rw[ap h]
noncomputable def mM (o:bL) (i:Nat):Int:=
 if cz (rd (τ:=aP) o.2.2.1 (i:Int)).1=false then 3 else if iw ((cY o).take i) (rd (τ:=aP) o.2.2.1 (i:Int)).1=true then 24
 else if dG (rd (τ:=aP) o.2.2.1 (i:Int)).2.2.1=false then 17 else if br (rd (τ:=aP) o.2.2.1 (i:Int)).2.2.2.size=false then 8 else 0
def qY (n:Nat):Bool:=dd (n:Int) 8 64&&decide ((n:Int).tmod 8=0)
noncomputable def mN (o:bL) (i:Nat):Int:=
 if cz (rd (τ:=bB) o.2.2.2.1 (i:Int)).1=false then 3 else if iw ((cY o).take (o.2.2.1.length+i)) (rd (τ:=bB) o.2.2.2.1 (i:Int)).1=true then 24
 else if qY (rd (τ:=bB) o.2.2.2.1 (i:Int)).2.size=false then 8 else 0
theorem mO (o:bL) (hz:ObjSz o) (n:ByteArray) (u:Nat) (hu:u≤(cY o).length):RY o n (u:Int)=some (if cz n=false then 3 else if iw ((cY o).take u) n=true then 24 else 0):=by
 have:=hz.f;have:=hz.d;have:=nJ o
 rw[NE,(d9 _).1,C7 o hz u hu]
 simp only[af]
 rw[zH _ _ (by simp;omega)]
 cases cz n<;>cases iw ((cY o).take u) n<;>rfl
theorem Hh (t:ByteArray):SZ t=some (br t.size):=by
 rw[Lz]
 unfold br cq
 cases decide ((t.size:Int).tmod 4=0)<;>cases decide ((t.size:Int)≥20)<;>cases decide ((t.size:Int)≤256)<;>rfl
theorem C9 (o:bL) (hz:ObjSz o):io.a o o.2.2.1 (o.2.2.1.length:Int) 0=if(bw (mM o) 0 o.2.2.1.length).2=0 then io.b o o.2.2.2.1 (o.2.2.2.1.length:Int) 0 else some (bw (mM o) 0 o.2.2.1.length):=by
 have:=hz.f
 rw[dH (L:=io.a o o.2.2.1 (o.2.2.1.length:Int)) (mM o) o.2.2.1.length fun i hi=> ?_]
 ·rw[io.a_eq,ai,am (az _),ac]
 ·rw[io.a_eq,ai,aj,ab hi,an i _ hi (by omega),mO o hz _ i (by rw[nJ];omega),(eJ _).1,gk]
  unfold mM
  simp only[ae,af]
  cases cz (rd (τ:=aP) o.2.2.1 (i:Int)).1 with
  |false=>rfl
  |true=>
   cases iw ((cY o).take i) (rd (τ:=aP) o.2.2.1 (i:Int)).1 with
   |true=>rfl
   |false=>cases dG (rd (τ:=aP) o.2.2.1 (i:Int)).2.2.1<;>cases br (rd (τ:=aP) o.2.2.1 (i:Int)).2.2.2.size<;>rfl
theorem Da (o:bL) (hz:ObjSz o):io.b o o.2.2.2.1 (o.2.2.2.1.length:Int) 0=if(bw (mN o) 0 o.2.2.2.1.length).2=0 then io.c o (o.2.2.2.2.1.length:Int) 0 else some (bw (mN o) 0 o.2.2.2.1.length):=by
 have h1:=hz.f
 have h2:=hz.d
 rw[dH (L:=io.b o o.2.2.2.1 (o.2.2.2.1.length:Int)) (mN o) o.2.2.2.1.length fun i hi=> ?_]
 ·rw[io.b_eq,ai,am (az _),ac]
 ·rw[io.b_eq,ai,aj,ab hi,an i _ hi (by omega),aU (n:=(o.2.2.1.length:Int)+(i:Int)) (by omega) (by omega),←Int.natCast_add,mO o hz _ (o.2.2.1.length+i) (by rw[nJ];omega),(bN _ _ _).1]
  unfold mN qY
  simp only[ae,af]
  cases cz (rd (τ:=bB) o.2.2.2.1 (i:Int)).1 with
  |false=>rfl
  |true=>
   cases iw ((cY o).take (o.2.2.1.length+i)) (rd (τ:=bB) o.2.2.2.1 (i:Int)).1 with
   |true=>rfl
   |false=>cases dd ((rd (τ:=bB) o.2.2.2.1 (i:Int)).2.size:Int) 8 64<;>cases decide (((rd (τ:=bB) o.2.2.2.1 (i:Int)).2.size:Int).tmod 8=0)<;>rfl
theorem Db (o:bL) (hz:ObjSz o):uR o=some (bw (mM o) 0 o.2.2.1.length):=by
 have h1:=hz.f
 rw[LB,dH (L:=uR.a o) (mM o) o.2.2.1.length fun i hi=> ?_]
 ·rw[uR.a_eq,ai,am (az _),ac]
  exact kA _ _ _
 ·rw[uR.a_eq,ai,aj,ab hi,(d9 _).2]
  unfold mM
  simp only[ae,af]
  cases cz (rd (τ:=aP) o.2.2.1 (i:Int)).1 with
  |false=>rfl
  |true=>
   rw[show(!true)=false from rfl,ac,eK (L:=uR.b o (i:Int) (rd (τ:=aP) o.2.2.1 (i:Int))) (fun j=>decide ((rd (τ:=aP) o.2.2.1 (j:Int)).1=(rd (τ:=aP) o.2.2.1 (i:Int)).1)) i (some ((i:Int),24)) fun j hj=> ?_]
   ·rw[mL o i (by omega),nK]
    cases go (fun j=>decide ((rd (τ:=aP) o.2.2.1 (j:Int)).1=(rd (τ:=aP) o.2.2.1 (i:Int)).1)) 0 i with
    |true=>rfl
    |false=>
     rw[uR.b_eq,ai,am (az _),ac,ac,(eJ _).2,Hh,an i _ hi (by omega)]
     simp only[af]
     cases dG (rd (τ:=aP) o.2.2.1 (i:Int)).2.2.1<;>cases br (rd (τ:=aP) o.2.2.1 (i:Int)).2.2.2.size<;>rfl
   ·rw[uR.b_eq,ai,aj,ab hj,ab (show j<o.2.2.1.length by omega),an j _ hj (by omega),bf];rfl
theorem Dc (o:bL) (hz:ObjSz o):nC o=some (bw (mN o) 0 o.2.2.2.1.length):=by
 have h1:=hz.f
 have h2:=hz.d
 rw[LC,dH (L:=nC.a o) (mN o) o.2.2.2.1.length fun i hi=> ?_]
 ·rw[nC.a_eq,ai,am (az _),ac]
  exact kA _ _ _
 ·rw[nC.a_eq,ai,aj,ab hi,(d9 _).2]
  unfold mN qY
  simp only[ae,af]
  cases cz (rd (τ:=bB) o.2.2.2.1 (i:Int)).1 with
  |false=>rfl
  |true=>
   rw[show(!true)=false from rfl,ac,eK (L:=nC.b o (i:Int) (rd (τ:=bB) o.2.2.2.1 (i:Int))) (fun j=>decide ((rd (τ:=aP) o.2.2.1 (j:Int)).1=(rd (τ:=bB) o.2.2.2.1 (i:Int)).1)) o.2.2.1.length (some ((i:Int),24)) fun j hj=> ?_]
   ·rw[jy o i (by omega),qW,nK,nK]
    cases go (fun j=>decide ((rd (τ:=aP) o.2.2.1 (j:Int)).1=(rd (τ:=bB) o.2.2.2.1 (i:Int)).1)) 0 o.2.2.1.length with
    |true=>rfl
    |false=>
     rw[nC.b_eq,ai,am (az _),ac,ac,eK (L:=nC.c o (i:Int) (rd (τ:=bB) o.2.2.2.1 (i:Int))) (fun j=>decide ((rd (τ:=bB) o.2.2.2.1 (j:Int)).1=(rd (τ:=bB) o.2.2.2.1 (i:Int)).1)) i (some ((i:Int),24)) fun j hj=> ?_]
     ·cases go (fun j=>decide ((rd (τ:=bB) o.2.2.2.1 (j:Int)).1=(rd (τ:=bB) o.2.2.2.1 (i:Int)).1)) 0 i with
      |true=>rfl
      |false=>
       rw[nC.c_eq,ai,am (az _),ac,ac,an i _ hi (by omega)]
       unfold dd
       generalize (rd (τ:=bB) o.2.2.2.1 (i:Int)).2.size=n
       rw[show decide ((n:Int)<8)= !decide (8≤(n:Int)) by rw[←decide_not];congr 1;apply propext;omega,show decide ((n:Int)>64)= !decide ((n:Int)≤64) by rw[←decide_not];congr 1;apply propext;omega]
       cases decide ((n:Int).tmod 8=0)<;>cases decide (8≤(n:Int))<;>cases decide ((n:Int)≤64)<;>rfl
     ·rw[nC.c_eq,ai,aj,ab hj,ab (show j<o.2.2.2.1.length by omega),an j _ hj (by omega),bf];rfl
   ·rw[nC.b_eq,ai,aj,ab hj,an j _ hj (by omega),bf];rfl
def mP (a b c d:Int):Bool:=if a=c then decide (b<d)else decide (a<c)
def fg (o:bL) (u:Int):Int:=
 if 0≤u∧u< (o.2.2.1.length:Int)then((rd (τ:=aP) o.2.2.1 u).2.2.2.size:Int).tdiv 4
 else if(o.2.2.1.length:Int)≤u∧u< (o.2.2.1.length:Int)+(o.2.2.2.1.length:Int)then((rd (τ:=bB) o.2.2.2.1 (u-(o.2.2.1.length:Int))).2.size:Int).tdiv 8 else-1
structure UnitSz (o:bL):Prop extends ObjSz o where
 fs:∀i,i<o.2.2.1.length→(rd (τ:=aP) o.2.2.1 (i:Int)).2.2.2.size≤256
 ds:∀i,i<o.2.2.2.1.length→(rd (τ:=bB) o.2.2.2.1 (i:Int)).2.size≤64
theorem gK {α:Type} (f:Nat→α):∀k i j (h:j< (bn f i k).length),(bn f i k)[j]=f (i+j)
 |0,_,_,h=>by simp[bn]at h
 |k+1,i,0,_=>by simp[bn]
 |k+1,i,j+1,h=>by
  have:=gK f k (i+1) j (by rw[aO]at h⊢;omega)
  simp only[bn,List.getElem_cons_succ]
  rw[this];congr 1;omega
theorem Jt (n k:Nat) (h:n≤4096):IntKind.wrap .i64 ((n:Int).tdiv (k:Int))=(n:Int).tdiv (k:Int):=by
 rw[Int.tdiv_eq_ediv_of_nonneg (by omega)]
 have h1:0≤(n:Int)/(k:Int):=Int.ediv_nonneg (by omega) (by omega)
 have h2:(n:Int)/(k:Int)≤(n:Int):=Int.ediv_le_self _ (by omega)
 exact aU (by omega) (by omega)
theorem tU (o:bL):(ge o).length=o.2.2.1.length+o.2.2.2.1.length:=by unfold ge;rw[List.length_append,aO,aO]
theorem Hi (o:bL) (hz:UnitSz o) (u:Nat) (hu:u<o.2.2.1.length+o.2.2.2.1.length):rd (τ:= .int .i64) (ge o) (u:Int)=fg o (u:Int):=by
 unfold fg
 have hl:=tU o
 rw[aY (τ:= .int .i64) (ge o) u (by omega)]
 by_cases h:u<o.2.2.1.length
 ·rw[au ⟨by omega,by omega⟩]
  have:(ge o)[u]'(by omega)=IntKind.wrap .i64 (((rd (τ:=aP) o.2.2.1 ((0+u:Nat):Int)).2.2.2.size:Int).tdiv 4):=by
   unfold ge
   rw[List.getElem_append_left (by rw[aO];exact h),gK]
  rw[this,Nat.zero_add]
  exact Jt _ 4 (by have:=hz.fs u h;omega)
 ·rw[ap (by omega),au ⟨by omega,by omega⟩]
  have:(ge o)[u]'(by omega)=IntKind.wrap .i64 (((rd (τ:=bB) o.2.2.2.1 ((0+(u-(bn (fun i=>IntKind.wrap .i64 (((rd (τ:=aP) o.2.2.1 (i:Int)).2.2.2.size:Int).tdiv 4)) 0 o.2.2.1.length).length):Nat):Int)).2.size:Int).tdiv 8):=by
   unfold ge
   rw[List.getElem_append_right (by rw[aO];omega),gK]
  rw[aO]at this
  rw[this,Nat.zero_add,show(u:Int)-(o.2.2.1.length:Int)=((u-o.2.2.1.length:Nat):Int) by omega]
  exact Jt _ 8 (by have:=hz.ds (u-o.2.2.1.length) (by omega);omega)
theorem xC (o:bL) (hz:UnitSz o) (u:Int): -1≤fg o u∧fg o u≤256:=by
 unfold fg
 split
 ·rename_i h
  have:=hz.fs u.toNat (by omega)
  rw[show((u.toNat:Nat):Int)=u by omega]at this
  rw[Int.tdiv_eq_ediv_of_nonneg (by omega)]
  omega
 ·split
  ·rename_i h
   have:=hz.ds (u-(o.2.2.1.length:Int)).toNat (by omega)
   rw[show(((u-(o.2.2.1.length:Int)).toNat:Nat):Int)=u-(o.2.2.1.length:Int) by omega]at this
   rw[Int.tdiv_eq_ediv_of_nonneg (by omega)]
   omega
  ·omega
theorem Dd (o:bL) (hz:UnitSz o) (u:Int) (hu: -9223372036854775808≤u∧u≤9223372036854775807):Rw o u=some (fg o u):=by
 rw[LD]
 have h1:=hz.f
 have h2:=hz.d
 unfold fg
 by_cases h:0≤u∧u< (o.2.2.1.length:Int)
 ·have e1:decide (u≥0)=true:=ab h.1
  have e2:decide (u< (o.2.2.1.length:Int))=true:=ab h.2
  simp only[aJ,e1,e2,ae,inL_true h.1 h.2,au h]
  have:=hz.fs u.toNat (by omega)
  rw[show((u.toNat:Nat):Int)=u by omega]at this
  rw[show(4:Int)=((4:Nat):Int) from rfl,Jt _ 4 (by omega)]
 ·have e0:(decide (u≥0)&&decide (u< (o.2.2.1.length:Int)))=false:=by simp;omega
  simp only[aJ,ap h]
  generalize decide (u≥0)=b0 at*
  generalize decide (u< (o.2.2.1.length:Int))=b1 at*
  by_cases h3:(o.2.2.1.length:Int)≤u
  ·rw[ab (show u≥(o.2.2.1.length:Int) from h3),aU (n:=u-(o.2.2.1.length:Int)) (by omega) (by omega)]
   by_cases h4:u< (o.2.2.1.length:Int)+(o.2.2.2.1.length:Int)
   ·rw[au ⟨h3,h4⟩,ab (show u-(o.2.2.1.length:Int)< (o.2.2.2.1.length:Int) by omega),inL_true (i:=u-(o.2.2.1.length:Int)) (n:=o.2.2.2.1.length) (by omega) (by omega)]
    have:=hz.ds (u-(o.2.2.1.length:Int)).toNat (by omega)
    rw[show(((u-(o.2.2.1.length:Int)).toNat:Nat):Int)=u-(o.2.2.1.length:Int) by omega]at this
    rw[show(8:Int)=((8:Nat):Int) from rfl,Jt _ 8 (by omega)]
    cases b0<;>cases b1<;>first|rfl|(exact absurd e0 (by decide))
   ·rw[ap (by omega),am (show¬u-(o.2.2.1.length:Int)< (o.2.2.2.1.length:Int) by omega)]
    cases b0<;>cases b1<;>first|rfl|(exact absurd e0 (by decide))
  ·rw[am (show¬u≥(o.2.2.1.length:Int) from h3),ap (by omega)]
   cases b0<;>cases b1<;>first|rfl|(exact absurd e0 (by decide))
def Br (n:Int):Prop:= -9223372036854775808≤n∧n≤9223372036854775807
def tV (o:bL):Prop:=∀k,k<o.2.2.2.2.1.length→Br (rd (τ:=cu) o.2.2.2.2.1 (k:Int)).1
def iY (o:bL) (r:Kp):Bool:=dd r.1 0 ((o.2.2.1.length:Int)+(o.2.2.2.1.length:Int)-1)&&dd r.2.1 0 (fg o r.1-1)
noncomputable def l6 (o:bL) (k:Nat):Int:=
 if iY o (rd (τ:=cu) o.2.2.2.2.1 (k:Int))=false then 4
 else if(dd (rd (τ:=cu) o.2.2.2.2.1 (k:Int)).2.2.1 1 9&&(decide ((rd (τ:=cu) o.2.2.2.2.1 (k:Int)).2.2.1=9)==decide ((rd (τ:=cu) o.2.2.2.2.1 (k:Int)).1≥(o.2.2.1.length:Int))))=false then 26
 else if cz (rd (τ:=cu) o.2.2.2.2.1 (k:Int)).2.2.2.1=false then 3
 else if dd (rd (τ:=cu) o.2.2.2.2.1 (k:Int)).2.2.2.2 (-2147483648) 2147483647=false then 4
 else if k=0 then 0
 else if mP (rd (τ:=cu) o.2.2.2.2.1 ((k-1:Nat):Int)).1 (rd (τ:=cu) o.2.2.2.2.1 ((k-1:Nat):Int)).2.1 (rd (τ:=cu) o.2.2.2.2.1 (k:Int)).1 (rd (τ:=cu) o.2.2.2.2.1 (k:Int)).2.1=false then 24 else 0
theorem zI (pu pa u a:Int):(bif decide (u<pu)then some (24:Int)else bif decide (u=pu)then bif decide (a≤pa)then some 24 else some 0 else some 0)=some (if mP pu pa u a=false then 24 else 0):=by
 rcases Int.lt_trichotomy u pu with h|h|h
 ·rw[ab h,show mP pu pa u a=false by unfold mP;rw[ap (show¬pu=u by omega)];exact am (by omega)];rfl
 ·subst h
  rw[am (by omega),ab rfl,ac,ae]
  have:mP u pa u a=decide (pa<a):=by unfold mP;rw[au rfl]
  rw[this]
  by_cases h:a≤pa
  ·rw[ab h,am (show¬pa<a by omega)];rfl
  ·rw[am h,ab (show pa<a by omega)];rfl
 ·rw[am (by omega),am (by omega),show mP pu pa u a=true by unfold mP;rw[ap (show¬pu=u by omega)];exact ab (by omega)];rfl
theorem zJ (o:bL) (hz:UnitSz o) (r:Kp) {β:Type} (K:Bool→Option β):
  ((gT r.1 0 (IntKind.wrap .i64 (((ge o).length:Int)-1))).bind fun r2=>bif (!r2)then K true else(bif (aA r.1 (ge o).length)then((gT r.2.1 0 (IntKind.wrap .i64 ((rd (τ:= .int .i64) (ge o) r.1)-1))).bind fun r3=>K (!r3))else none))=K (!iY o r):=by
 have h1:=hz.f
 have h2:=hz.d
 rw[tU,aU (n:=((o.2.2.1.length+o.2.2.2.1.length:Nat):Int)-1) (by omega) (by omega),(bN _ _ _).1,(bN _ _ _).1]
 simp only[af]
 unfold iY
 rw[Int.natCast_add]
 by_cases h:0≤r.1∧r.1≤(o.2.2.1.length:Int)+(o.2.2.2.1.length:Int)-1
 ·rw[bF.2 h,inL_true (by omega) (by omega)]
  have hu:=Hi o hz r.1.toNat (by omega)
  rw[show((r.1.toNat:Nat):Int)=r.1 by omega]at hu
  have hr:=xC o hz r.1
  simp only[aM,ac,ae,Bool.true_and]
  rw[hu,aU (n:=fg o r.1-1) (by omega) (by omega)]
 ·rw[show dd r.1 0 ((o.2.2.1.length:Int)+(o.2.2.2.1.length:Int)-1)=false by cases h5:dd r.1 0 ((o.2.2.1.length:Int)+(o.2.2.2.1.length:Int)-1);rfl;exact absurd (bF.1 h5) h];rfl
theorem zK (o:bL) (hz:UnitSz o) (r:Kp) (hr:Br r.1) {β:Type} (K:Bool→Option β):
  (bif decide (r.2.1<0)then K true else((Rw o r.1).bind fun r1=>K (decide (r.2.1≥r1))))=K (!iY o r):=by
 rw[Dd o hz _ hr]
 simp only[af]
 have h1:=hz.f
 have h2:=hz.d
 have e:(decide (r.2.1<0)||decide (r.2.1≥fg o r.1))= !iY o r:=by
  unfold iY
  rw[Bool.eq_iff_iff]
  simp only[Bool.or_eq_true,aT,Bool.not_eq_true',Bool.and_eq_false_imp,bF]
  constructor
  ·intro h h3
   cases h4:dd r.2.1 0 (fg o r.1-1)with
   |false=>rfl
   |true=>rw[bF]at h4;omega
  ·intro h
   by_cases h3:0≤r.1∧r.1≤(o.2.2.1.length:Int)+(o.2.2.2.1.length:Int)-1
   ·have:=h h3
    by_cases h4:0≤r.2.1∧r.2.1≤fg o r.1-1
    ·rw[bF.2 h4]at this;cases this
    ·omega
   ·have:fg o r.1= -1:=by unfold fg;rw[ap (by omega),ap (by omega)]
    omega
 rw[←e]
 cases decide (r.2.1<0)<;>rfl
theorem De (o:bL) (hz:UnitSz o):io.c o (o.2.2.2.2.1.length:Int) 0=if(bw (l6 o) 0 o.2.2.2.2.1.length).2=0 then io.d o o.2.2.2.2.2 (o.2.2.2.2.2.length:Int) 0 else some (bw (l6 o) 0 o.2.2.2.2.1.length):=by
 have h3:=hz.r
 rw[dH (L:=io.c o (o.2.2.2.2.1.length:Int)) (l6 o) o.2.2.2.2.1.length fun i hi=> ?_]
 ·rw[io.c_eq,ai,am (az _),ac]
 ·have e:Tl o (i:Int)=some (l6 o i):=by
   rw[NG,aj,ab hi,ae,C8 o hz.toObjSz]
   simp only[af,aJ]
   rw[zJ o hz (rd (τ:=cu) o.2.2.2.2.1 (i:Int)) (fun r5=>bif r5 then some 4 else _)]
   unfold l6
   generalize hrel:iY o (rd (τ:=cu) o.2.2.2.2.1 (i:Int))=ra
   rw[(bN _ _ _).1,(bN _ _ _).1,(d9 _).1]
   simp only[af]
   cases ra with
   |false=>rfl
   |true=>
    generalize dd (rd (τ:=cu) o.2.2.2.2.1 (i:Int)).2.2.1 1 9=b1
    generalize (decide ((rd (τ:=cu) o.2.2.2.2.1 (i:Int)).2.2.1=9)==decide ((rd (τ:=cu) o.2.2.2.2.1 (i:Int)).1≥(o.2.2.1.length:Int)))=b2
    cases b1 with
    |false=>rfl
    |true=>
     cases b2 with
     |false=>rfl
     |true=>
      generalize cz (rd (τ:=cu) o.2.2.2.2.1 (i:Int)).2.2.2.1=b3
      generalize dd (rd (τ:=cu) o.2.2.2.2.1 (i:Int)).2.2.2.2 (-2147483648) 2147483647=b4
      cases b3 with
      |false=>rfl
      |true=>
       cases b4 with
       |false=>rfl
       |true=>
        by_cases h0:i=0
        ·rw[show decide ((i:Int)>0)=false by simp[h0],au h0];rfl
        ·rw[show decide ((i:Int)>0)=true by simp;omega,ap h0,fV i (by omega) (by omega),aj,ab (show i-1<o.2.2.2.2.1.length by omega),zI];rfl
  rw[io.c_eq,ai,ab hi,an i _ hi (by omega),e]
  simp only[af,ae]
  by_cases h:l6 o i=0
  ·rw[au h,ab h];rfl
  ·rw[ap h,am h];rfl
theorem Df (o:bL) (hz:UnitSz o) (hr:tV o):EJ o=some (bw (l6 o) 0 o.2.2.2.2.1.length):=by
 have h3:=hz.r
 rw[LE,dH (L:=EJ.a o) (l6 o) o.2.2.2.2.1.length fun i hi=> ?_]
 ·rw[EJ.a_eq,ai,am (az _),ac]
  exact kA _ _ _
 ·rw[EJ.a_eq,ai,aj,ab hi,ae,ae]
  simp only[aJ]
  rw[zK o hz (rd (τ:=cu) o.2.2.2.2.1 (i:Int)) (hr i hi) (fun r5=>bif r5 then some ((i:Int),4)else _)]
  unfold l6
  generalize hrel:iY o (rd (τ:=cu) o.2.2.2.2.1 (i:Int))=ra
  rw[(bN _ _ _).2,(bN _ _ _).2,(d9 _).2,an i _ hi (by omega)]
  simp only[af]
  cases ra with
  |false=>rfl
  |true=>
   generalize dd (rd (τ:=cu) o.2.2.2.2.1 (i:Int)).2.2.1 1 9=b1
   generalize (decide ((rd (τ:=cu) o.2.2.2.2.1 (i:Int)).2.2.1=9)==decide ((rd (τ:=cu) o.2.2.2.2.1 (i:Int)).1≥(o.2.2.1.length:Int)))=b2
   cases b1 with
   |false=>rfl
   |true=>
    cases b2 with
    |false=>rfl
    |true=>
     generalize cz (rd (τ:=cu) o.2.2.2.2.1 (i:Int)).2.2.2.1=b3
     generalize dd (rd (τ:=cu) o.2.2.2.2.1 (i:Int)).2.2.2.2 (-2147483648) 2147483647=b4
     cases b3 with
     |false=>rfl
     |true=>
      cases b4 with
      |false=>rfl
      |true=>
       by_cases h0:i=0
       ·rw[show decide ((i:Int)>0)=false by simp[h0],au h0];rfl
       ·rw[show decide ((i:Int)>0)=true by simp;omega,ap h0,fV i (by omega) (by omega),aj,ab (show i-1<o.2.2.2.2.1.length by omega),tT]
        unfold mP
        simp only[af,ae,aM,ac,Bool.and_self]
        generalize (if(rd (τ:=cu) o.2.2.2.2.1 ((i-1:Nat):Int)).1=(rd (τ:=cu) o.2.2.2.2.1 (i:Int)).1 then decide ((rd (τ:=cu) o.2.2.2.2.1 ((i-1:Nat):Int)).2.1< (rd (τ:=cu) o.2.2.2.2.1 (i:Int)).2.1)else decide ((rd (τ:=cu) o.2.2.2.2.1 ((i-1:Nat):Int)).1< (rd (τ:=cu) o.2.2.2.2.1 (i:Int)).1))=b5
        cases b5<;>rfl
def zL (o:bL) (k:Nat):Int:=
 if dd (rd (τ:=dR) o.2.2.2.2.2 (k:Int)).1 0 255=false then 4 else if k=0 then 0
 else if decide ((rd (τ:=dR) o.2.2.2.2.2 (k:Int)).1≤(rd (τ:=dR) o.2.2.2.2.2 ((k-1:Nat):Int)).1)=true then 24 else 0
theorem Dg (o:bL) (hz:ObjSz o):io.d o o.2.2.2.2.2 (o.2.2.2.2.2.length:Int) 0=some (bw (zL o) 0 o.2.2.2.2.2.length):=by
 have h3:=hz.s
 rw[dH (L:=io.d o o.2.2.2.2.2 (o.2.2.2.2.2.length:Int)) (zL o) o.2.2.2.2.2.length fun i hi=> ?_]
 ·rw[io.d_eq,ai,am (az _),ac]
  exact kA _ _ _
 ·rw[io.d_eq,ai,aj,ab hi,an i _ hi (by omega),(bN _ _ _).1]
  unfold zL
  simp only[af,ae]
  by_cases h0:i=0
  ·rw[show decide ((i:Int)>0)=false by simp[h0],au h0]
   cases dd (rd (τ:=dR) o.2.2.2.2.2 (i:Int)).1 0 255<;>rfl
  ·rw[show decide ((i:Int)>0)=true by simp;omega,ap h0,fV i (by omega) (by omega),aj,ab (show i-1<o.2.2.2.2.2.length by omega)]
   cases dd (rd (τ:=dR) o.2.2.2.2.2 (i:Int)).1 0 255<;>cases decide ((rd (τ:=dR) o.2.2.2.2.2 (i:Int)).1≤(rd (τ:=dR) o.2.2.2.2.2 ((i-1:Nat):Int)).1)<;>rfl
theorem Dh (o:bL) (hz:ObjSz o):EK o=some (bw (zL o) 0 o.2.2.2.2.2.length):=by
 have h3:=hz.s
 rw[LF,dH (L:=EK.a o) (zL o) o.2.2.2.2.2.length fun i hi=> ?_]
 ·rw[EK.a_eq,ai,am (az _),ac]
  exact kA _ _ _
 ·rw[EK.a_eq,ai,aj,ab hi,an i _ hi (by omega),(bN _ _ _).2]
  unfold zL
  simp only[af,ae]
  by_cases h0:i=0
  ·rw[show decide ((i:Int)>0)=false by simp[h0],au h0]
   cases dd (rd (τ:=dR) o.2.2.2.2.2 (i:Int)).1 0 255<;>rfl
  ·rw[show decide ((i:Int)>0)=true by simp;omega,ap h0,fV i (by omega) (by omega),aj,ab (show i-1<o.2.2.2.2.2.length by omega)]
   cases dd (rd (τ:=dR) o.2.2.2.2.2 (i:Int)).1 0 255<;>cases decide ((rd (τ:=dR) o.2.2.2.2.2 (i:Int)).1≤(rd (τ:=dR) o.2.2.2.2.2 ((i-1:Nat):Int)).1)<;>rfl
noncomputable def xD (o:bL):Int×Int:=
 if cz o.1=false then(0,3)else if dd o.2.1 0 5=false then(0,27)else if o.2.2.1.length=0 then(0,5)
 else if¬(o.2.2.1.length≤4∧o.2.2.2.1.length≤4∧o.2.2.2.2.1.length≤32∧o.2.2.2.2.2.length≤4)then(0,6)
 else if(bw (mM o) 0 o.2.2.1.length).2≠0 then bw (mM o) 0 o.2.2.1.length
 else if(bw (mN o) 0 o.2.2.2.1.length).2≠0 then bw (mN o) 0 o.2.2.2.1.length
 else if(bw (l6 o) 0 o.2.2.2.2.1.length).2≠0 then bw (l6 o) 0 o.2.2.2.2.1.length
 else bw (zL o) 0 o.2.2.2.2.2.length
theorem xE {n:Nat} (h:br n=true):n≤256:=by
 unfold br at h
 cases h1:cq n with
 |false=>rw[h1]at h;cases h
 |true=>exact(dk h1).2
theorem iZ {o:bL} {i:Nat} (h:mM o i=0):cz (rd (τ:=aP) o.2.2.1 (i:Int)).1=true∧iw ((cY o).take i) (rd (τ:=aP) o.2.2.1 (i:Int)).1=false∧dG (rd (τ:=aP) o.2.2.1 (i:Int)).2.2.1=true∧br (rd (τ:=aP) o.2.2.1 (i:Int)).2.2.2.size=true:=by
 unfold mM at h
 cases h1:cz (rd (τ:=aP) o.2.2.1 (i:Int)).1<;>cases h2:iw ((cY o).take i) (rd (τ:=aP) o.2.2.1 (i:Int)).1<;>cases h3:dG (rd (τ:=aP) o.2.2.1 (i:Int)).2.2.1<;>cases h4:br (rd (τ:=aP) o.2.2.1 (i:Int)).2.2.2.size<;>simp[h1,h2,h3,h4]at h⊢
theorem i6 {o:bL} {i:Nat} (h:mN o i=0):cz (rd (τ:=bB) o.2.2.2.1 (i:Int)).1=true∧iw ((cY o).take (o.2.2.1.length+i)) (rd (τ:=bB) o.2.2.2.1 (i:Int)).1=false∧qY (rd (τ:=bB) o.2.2.2.1 (i:Int)).2.size=true:=by
 unfold mN at h
 cases h1:cz (rd (τ:=bB) o.2.2.2.1 (i:Int)).1<;>cases h2:iw ((cY o).take (o.2.2.1.length+i)) (rd (τ:=bB) o.2.2.2.1 (i:Int)).1<;>cases h4:qY (rd (τ:=bB) o.2.2.2.1 (i:Int)).2.size<;>simp[h1,h2,h4]at h⊢
theorem ow {n:Nat} (h:qY n=true):8≤n∧n≤64∧n%8=0:=by
 unfold qY at h
 rw[ay,bF,aT,Int.tmod_eq_emod_of_nonneg (by omega)]at h
 omega
theorem tW {o:bL} (hz:ObjSz o) (h1:(bw (mM o) 0 o.2.2.1.length).2=0) (h2:(bw (mN o) 0 o.2.2.2.1.length).2=0):UnitSz o:=
 ⟨hz,fun i hi=>xE (iZ ((dI _ _ _).1 h1 i (Nat.zero_le _) (by omega))).2.2.2,fun i hi=>(ow (i6 ((dI _ _ _).1 h2 i (Nat.zero_le _) (by omega))).2.2).2.1⟩
theorem tX (o:bL) (hr:tV o):io o=some (xD o)∧S0 o=some (xD o):=by
 rw[NH,LG,(d9 _).1,(d9 _).2,(bN _ _ _).1,(bN _ _ _).2]
 unfold xD
 simp only[af,aJ]
 cases cz o.1 with
 |false=>exact⟨rfl,rfl⟩
 |true=>
  cases dd o.2.1 0 5 with
  |false=>exact⟨rfl,rfl⟩
  |true=>
   by_cases h0:o.2.2.1.length=0
   ·rw[au h0,ab (show(o.2.2.1.length:Int)=0 by omega)];exact⟨rfl,rfl⟩
   rw[ap h0,am (show¬(o.2.2.1.length:Int)=0 by omega)]
   rcases Classical.em (o.2.2.1.length≤4∧o.2.2.2.1.length≤4∧o.2.2.2.2.1.length≤32∧o.2.2.2.2.2.length≤4)with hz|hz
   ·rw[ap (not_not_intro hz),am (show¬(o.2.2.1.length:Int)>4 by omega),am (show¬(o.2.2.2.1.length:Int)>4 by omega),am (show¬(o.2.2.2.2.1.length:Int)>32 by omega),am (show¬(o.2.2.2.2.2.length:Int)>4 by omega)]
    have hz':ObjSz o:=⟨hz.1,hz.2.1,hz.2.2.1,hz.2.2.2⟩
    simp only[aM,ac]
    rw[C9 o hz',Db o hz']
    simp only[af]
    by_cases h1:(bw (mM o) 0 o.2.2.1.length).2=0
    ·rw[au h1,ap (not_not_intro h1),ab h1,Da o hz',Dc o hz']
     simp only[af,aM,ac]
     by_cases h2:(bw (mN o) 0 o.2.2.2.1.length).2=0
     ·have hu:=tW hz' h1 h2
      rw[au h2,ap (not_not_intro h2),ab h2,De o hu,Df o hu hr]
      simp only[af,aM,ac]
      by_cases h3:(bw (l6 o) 0 o.2.2.2.2.1.length).2=0
      ·rw[au h3,ap (not_not_intro h3),ab h3,Dg o hz',Dh o hz'];exact⟨rfl,rfl⟩
      ·rw[ap h3,au h3,am h3];exact⟨rfl,rfl⟩
     ·rw[ap h2,au h2,am h2];exact⟨rfl,rfl⟩
    ·rw[ap h1,au h1,am h1];exact⟨rfl,rfl⟩
   ·rw[au hz]
    have e:(decide ((o.2.2.1.length:Int)>4)||decide ((o.2.2.2.1.length:Int)>4)||decide ((o.2.2.2.2.1.length:Int)>32)||decide ((o.2.2.2.2.2.length:Int)>4))=true:=by simp;omega
    generalize decide ((o.2.2.1.length:Int)>4)=b1 at*
    generalize decide ((o.2.2.2.1.length:Int)>4)=b2 at*
    generalize decide ((o.2.2.2.2.1.length:Int)>32)=b3 at*
    generalize decide ((o.2.2.2.2.2.length:Int)>4)=b4 at*
    cases b1<;>cases b2<;>cases b3<;>cases b4<;>first|exact⟨rfl,rfl⟩|(exact absurd e (by decide))
noncomputable def qZ (o:bL):Bool:=decide ((xD o).2=0)
theorem jz (o:bL) (hr:tV o):Rd o=some (qZ o)∧S2 o=some (qZ o):=by
 rw[NI,LH,(tX o hr).1,(tX o hr).2];exact⟨rfl,rfl⟩
structure eg (o:bL):Prop extends UnitSz o where
 depth:0≤o.2.1∧o.2.1≤5
 pos:0<o.2.2.1.length
 fun_:∀i,i<o.2.2.1.length→mM o i=0
 dat:∀i,i<o.2.2.2.1.length→mN o i=0
 rel:∀i,i<o.2.2.2.2.1.length→l6 o i=0
theorem mQ {o:bL} (h:qZ o=true):eg o:=by
 unfold qZ at h
 rw[aT]at h
 unfold xD at h
 split at h
 ·cases h
 split at h
 ·cases h
 rename_i hn hd
 split at h
 ·cases h
 split at h
 ·cases h
 rename_i h0 hz
 have hz:=Classical.not_not.1 hz
 split at h
 ·rename_i h1;exact absurd h h1
 split at h
 ·rename_i h2;exact absurd h h2
 split at h
 ·rename_i h3;exact absurd h h3
 rename_i h1 h2 h3
 have h1:=Classical.not_not.1 h1
 have h2:=Classical.not_not.1 h2
 have h3:=Classical.not_not.1 h3
 have hz':ObjSz o:=⟨hz.1,hz.2.1,hz.2.2.1,hz.2.2.2⟩
 have hd:dd o.2.1 0 5=true:=by cases h4:dd o.2.1 0 5;exact absurd h4 hd;rfl
 exact⟨tW hz' h1 h2,bF.1 hd,by omega,fun i hi=>(dI _ _ _).1 h1 i (Nat.zero_le _) (by omega),fun i hi=>(dI _ _ _).1 h2 i (Nat.zero_le _) (by omega),fun i hi=>(dI _ _ _).1 h3 i (Nat.zero_le _) (by omega)⟩
theorem Hj (X:Nat) (h:X<2^64):X&&&(2^64-1-4095)=X/4096*4096:=by
 have e:(2^64-1-4095:Nat)=(2^52-1)*2^12:=by decide
 have e2:X/4096*4096=(X/2^12)*2^12:=by rfl
 rw[e,e2]
 apply Nat.eq_of_testBit_eq
 intro i
 rw[Nat.testBit_and,Nat.testBit_mul_two_pow,Nat.testBit_mul_two_pow,Nat.testBit_two_pow_sub_one,Nat.testBit_div_two_pow]
 by_cases h1:12≤i
 ·rw[show i-12+12=i by omega]
  by_cases h2:i<64
  ·simp[h1];omega
  ·have:X.testBit i=false:=Nat.testBit_lt_two_pow (Nat.lt_of_lt_of_le h (Nat.pow_le_pow_right (by decide) (by omega)))
   rw[this];simp
 ·simp[h1]
def vK (v:Int):Int:=(v+2048)-(v+2048)%4096
def Ju (v:Int):Prop:= -1152921504606846976≤v∧v≤1152921504606846976
theorem nL (v:Int) (h:Ju v):Re v=some (vK v):=by
 obtain⟨h1,h2⟩:=h
 rw[N2,aU (n:=v+2048) (by omega) (by omega)]
 congr 1
 unfold uJ
 have e1:(BitVec.ofInt IntKind.i64.bits (v+2048)&&& ~~~BitVec.ofInt IntKind.i64.bits 4095).toNat=(BitVec.ofInt IntKind.i64.bits (v+2048)).toNat/4096*4096:=by
  rw[BitVec.toNat_and,BitVec.toNat_not]
  have:(BitVec.ofInt IntKind.i64.bits (4095:Int)).toNat=4095:=by decide
  rw[this]
  exact Hj _ (BitVec.isLt _)
 rw[e1]
 have e2:=zm (v+2048)
 generalize (BitVec.ofInt IntKind.i64.bits (v+2048)).toNat=X at*
 unfold vK
 have:(((X/4096*4096:Nat)):Int)=(v+2048)%18446744073709551616/4096*4096:=by omega
 rw[this]
 refine ku (if v+2048<0 then 1 else 0) ?_ (by omega) (by omega)
 split<;>omega
theorem Oz (v:Int):cE v 12=v-vK v:=by
 unfold cE vK
 have e1:(2:Int)^12=4096:=by decide
 have e2:(2:Int)^(12-1)=2048:=by decide
 rw[e1,e2]
 split<;>omega
theorem tY (v:Int) (h:Ju v):Qi v=some (v-vK v):=by
 rw[N3,nL v h]
 simp only[af]
 rw[aU (by have:=h.1;unfold vK;omega) (by unfold vK;omega)]
theorem u7 (v:Int) (h:Ju v):Qe v=some (v-vK v):=by
 obtain⟨h1,h2⟩:=h
 rw[LQ,iT v 12 (by decide) (by decide) (by omega) (by omega)]
 simp only[af]
 rw[show(12:Int).toNat=12 from rfl,Oz]
theorem xF (v:Int) (h:Ju v):Rx v=some (vK v):=by
 rw[LR,u7 v h]
 simp only[af]
 have:v-(v-vK v)=vK v:=by omega
 rw[this,aU (by have:=h.1;unfold vK;omega) (by have:=h.2;unfold vK;omega)]
theorem Di (f i:Int) (hf:1≤f∧f≤9):Tq f i=some (js f i):=by
 rw[N6]
 have t1:decide (i.tmod 4096=0)=decide (i%4096=0):=by
  congr 1;exact propext ⟨fun h=>by rw[←Int.dvd_iff_tmod_eq_zero]at h;omega,fun h=>by rw[←Int.dvd_iff_tmod_eq_zero];omega⟩
 have t2:decide (i.tmod 2=0)=decide (i%2=0):=by
  congr 1;exact propext ⟨fun h=>by rw[←Int.dvd_iff_tmod_eq_zero]at h;omega,fun h=>by rw[←Int.dvd_iff_tmod_eq_zero];omega⟩
 rw[t1,t2]
 simp only[cF,af,aJ]
 rcases fO hf with rfl|rfl|rfl|rfl|rfl|rfl|rfl|rfl|rfl
 all_goals simp[js,d5]
 all_goals (try (split<;>simp_all))
 all_goals (try (intro q1 q2;omega))
def xG (x:gJ) (k:Int):Bool:=
 if k=1 then decide (x.1=1)else if k=2∨k=5 then decide ((bE x.1).1=3)&& !decide (x.1=4)else if k=3∨k=6 then decide ((bE x.1).1=5)
 else if k=4 then decide (x.1=2)else if k=7 then decide (x.1=3)else decide ((bE x.1).1=4)
def iy (k v p:Int):Int:=
 if k=1 then vK v else if k=2∨k=3 then v-vK v else if k=4 then vK (v-p)else if k=5∨k=6 then v-p+4-vK (v-p+4)else v-p
theorem zM (n:Int) (h:1≤n) (h':n≤64):decide ((bE n).1=5)=(decide (18≤n)&&decide (n≤21)):=by
 obtain⟨k,rfl⟩:=mD (n:=n) (by omega) h'
 revert k;decide
theorem Hk (x:gJ) (h:1≤x.1) (h':x.1≤64):R2 x=some (decide ((bE x.1).1=3)&& !decide (x.1=4)):=by
 rw[N4,jp _ (by omega) h']
 simp only[af]
 cases decide ((bE x.1).1=3)<;>rfl
theorem zN {k:Int} (h:1≤k∧k≤8):k=1∨k=2∨k=3∨k=4∨k=5∨k=6∨k=7∨k=8:=by omega
def Kq (v:Int):Prop:= -1099511627776≤v∧v≤1099511627776
theorem xH (x:gJ) (h:1≤x.1) (h':x.1≤64) (k v p:Int) (hk:1≤k∧k≤8) (hv:Kq v) (hp:Kq p):Tp x k v p=some (iy k v p,xG x k):=by
 have hb:=ot x.1 h h'
 have hs:=zM x.1 h h'
 rw[N5,Hk x h h',nG,qM,←hb,←hs]
 obtain⟨v1,v2⟩:=hv
 obtain⟨p1,p2⟩:=hp
 rw[aU (n:=v-p) (by omega) (by omega),aU (n:=p-4) (by omega) (by omega),aU (n:=v-(p-4)) (by omega) (by omega),show v-(p-4)=v-p+4 by omega,
  nL v ⟨by omega,by omega⟩,tY v ⟨by omega,by omega⟩,nL (v-p) ⟨by omega,by omega⟩,tY (v-p+4) ⟨by omega,by omega⟩]
 unfold iy xG
 rcases zN hk with rfl|rfl|rfl|rfl|rfl|rfl|rfl|rfl<;>rfl
theorem Hl (x:gJ) (h:1≤x.1) (h':x.1≤64) (k:Int) (hk:1≤k∧k≤8):S3 x k=some (xG x k):=by
 rw[LP,ez _ (by omega) h']
 unfold xG
 simp only[af,aJ]
 generalize (bE x.1).1=f
 rcases zN hk with rfl|rfl|rfl|rfl|rfl|rfl|rfl|rfl<;>first|rfl|(simp only[];cases decide (f=3)<;>rfl)
theorem Jv (k v p:Int) (hk:1≤k∧k≤8) (hv:Kq v) (hp:Kq p):S4 k v p=some (iy k v p):=by
 obtain⟨v1,v2⟩:=hv
 obtain⟨p1,p2⟩:=hp
 rw[LS,aU (n:=v-p) (by omega) (by omega),aU (n:=v-p+4) (by omega) (by omega),xF v ⟨by omega,by omega⟩,u7 v ⟨by omega,by omega⟩,xF (v-p) ⟨by omega,by omega⟩,u7 (v-p+4) ⟨by omega,by omega⟩]
 unfold iy
 rcases zN hk with rfl|rfl|rfl|rfl|rfl|rfl|rfl|rfl<;>rfl
theorem xI (k v p:Int) (hv:Kq v) (hp:Kq p):Br (iy k v p):=by
 obtain⟨v1,v2⟩:=hv
 obtain⟨p1,p2⟩:=hp
 unfold iy Br vK
 repeat' split
 all_goals omega
theorem Dj {x:gJ} {i:Int} (h:dv x=true):dv (x.1,x.2.1,x.2.2.1,x.2.2.2.1,i)=js (bE x.1).1 i:=by
 unfold dv at h⊢
 simp only[ay]at h
 simp only[h.1,Bool.and_self,Bool.true_and]
theorem Jw {i:Int} (h:js 1 i=true):i%4096=0:=by
 unfold js at h
 rw[au rfl]at h
 simp only[ay,aT]at h
 exact h.2
theorem sC (w k v p:Int) (hw:0≤w∧w<4294967296) (hk:1≤k∧k≤8) (hv:Kq v) (hp:Kq p):∃r,Tr w k v p=some r∧S5 w k v p=some r:=by
 obtain⟨d,h1,h2,hd⟩:=kw w hw.1 hw.2
 rw[N7,LT,h1,h2]
 simp only[af]
 cases hb:d.2 with
 |false=>exact⟨(0,10),rfl,rfl⟩
 |true=>
  obtain⟨n1,n2,hr,hri⟩:=hd.ins hw.1 hw.2 hb
  rw[xH _ n1 n2 k v p hk hv hp,Hl _ n1 n2 k hk,Jv k v p hk hv hp,jp _ (by omega) n2]
  simp only[af,aM,ac]
  cases xG d.1 k with
  |false=>exact⟨(0,26),rfl,rfl⟩
  |true=>
   rw[Di _ _ (fT n1 n2),kv,Dj hri]
   simp only[af,aM,ac]
   cases hi:js (bE d.1.1).1 (iy k v p)with
   |false=>exact⟨(0,25),rfl,rfl⟩
   |true=>
    have hR:ga (d.1.1,d.1.2.1,d.1.2.2.1,d.1.2.2.2.1,iy k v p):=⟨hr.d,hr.a,hr.b,xI k v p hv hp⟩
    rw[eo (d.1.1,d.1.2.1,d.1.2.2.1,d.1.2.2.2.1,iy k v p) n1 n2 hR,gb (d.1.1,d.1.2.1,d.1.2.2.1,d.1.2.2.2.1,iy k v p) n1 n2 hR fun h=>by
     rw[show(bE d.1.1).1=1 from h]at hi;exact Jw hi]
    exact⟨_,rfl,rfl⟩
theorem Dk (L:Int→Option Int) (c:Nat→Int) (n:Nat) (hstep:∀i:Nat,i<n→L (i:Int)=if c i=0 then L ((i+1:Nat):Int)else some (c i)):
  ∀k i:Nat,i+k=n→L (i:Int)=if(bw c i k).2=0 then L (n:Int)else some (bw c i k).2:=by
 intro k
 induction k with
 |zero=>
   intro i h;have:i=n:=by omega
   subst this;rfl
 |succ k ih=>
  intro i h
  rw[hstep i (by omega),ih (i+1) (by omega),bw]
  by_cases h:c i=0
  ·rw[au h,au h]
  ·rw[ap h,ap h,ap h]
theorem jA {L:Int→Option Int} (c:Nat→Int) (n:Nat) (hstep:∀i:Nat,i<n→L (i:Int)=if c i=0 then L ((i+1:Nat):Int)else some (c i)):L 0=if(bw c 0 n).2=0 then L (n:Int)else some (bw c 0 n).2:=
 Dk L c n hstep n 0 (by omega)
abbrev fh:Type:=List Int×List ByteArray×List Int×List ByteArray
abbrev T6:Type:=fh×List dr×bL
theorem df (t:List dr) (n:ByteArray):cp t n= -1∨(0≤cp t n∧cp t n< (t.length:Int)):=by
 unfold cp
 rcases ce (fun i=>decide ((rd (τ:=aW) t (i:Int)).1=n)) t.length 0 with⟨h,_⟩|⟨j,h1,_,h3,_⟩
 ·exact .inl h
 ·rw[h1];exact .inr ⟨by omega,by omega⟩
def E8 (t:List dr) (o:bL) (i:Nat):Int:=
 if(rd (τ:=aP) o.2.2.1 (i:Int)).2.1=true then(if cp t (rd (τ:=aP) o.2.2.1 (i:Int)).1<0 then 23 else if(rd (τ:=aW) t (cp t (rd (τ:=aP) o.2.2.1 (i:Int)).1)).2.1=1 then 0 else 26)
 else if cp t (rd (τ:=aP) o.2.2.1 (i:Int)).1≥0 then 24 else 0
def Kr (t:List dr) (o:bL) (i:Nat):Int:=if cp t (rd (τ:=bB) o.2.2.2.1 (i:Int)).1≥0 then 24 else 0
def gL (t:List dr) (o:bL):Int:=
 if(bw (E8 t o) 0 o.2.2.1.length).2=0 then(bw (Kr t o) 0 o.2.2.2.1.length).2 else(bw (E8 t o) 0 o.2.2.1.length).2
theorem xJ (c:Nat→Int) (i k:Nat):(if(bw c i k).2=0 then some (0:Int)else some (bw c i k).2)=some (bw c i k).2:=by
 by_cases h:(bw c i k).2=0
 ·rw[au h,h]
 ·rw[ap h]
theorem zO (l:fh) (t:List dr) (o:bL) (ht:t.length≤64) (hz:ObjSz o):rY (l,t,o)=some (gL t o):=by
 have h1:=hz.f
 have h2:=hz.d
 rw[NX]
 show rY.a (l,t,o) o.2.2.1 (o.2.2.1.length:Int) 0=_
 rw[jA (L:=rY.a (l,t,o) o.2.2.1 (o.2.2.1.length:Int)) (E8 t o) o.2.2.1.length fun i hi=> ?_]
 ·rw[rY.a_eq,ai,am (az _),ac]
  show(if _ then rY.b (l,t,o) o.2.2.2.1 (o.2.2.2.1.length:Int) 0 else _)=_
  rw[jA (L:=rY.b (l,t,o) o.2.2.2.1 (o.2.2.2.1.length:Int)) (Kr t o) o.2.2.2.1.length fun i hi=> ?_]
  ·rw[rY.b_eq,ai,am (az _),ac,xJ]
   unfold gL
   split<;>rfl
  ·rw[rY.b_eq,ai,aj,ab hi,an i _ hi (by omega),(dQ t _ (by omega)).1]
   unfold Kr
   simp only[ae,af]
   by_cases h:cp t (rd (τ:=bB) o.2.2.2.1 (i:Int)).1≥0
   ·rw[au h,ab h];rfl
   ·rw[ap h,am h];rfl
 ·rw[rY.a_eq,ai,aj,ab hi,an i _ hi (by omega),(dQ t _ (by omega)).1]
  unfold E8
  simp only[ae,af,aJ]
  have hr:=df t (rd (τ:=aP) o.2.2.1 (i:Int)).1
  generalize cp t (rd (τ:=aP) o.2.2.1 (i:Int)).1=e at*
  cases (rd (τ:=aP) o.2.2.1 (i:Int)).2.1 with
  |false=>
   by_cases h:e≥0
   ·simp only[Bool.false_eq_true,if_false,au h,ab h];rfl
   ·simp only[Bool.false_eq_true,if_false,ap h,am h];rfl
  |true=>
   rcases hr with h|h
   ·simp only[if_true,au (show e<0 by omega),ab (show e<0 by omega)];rfl
   ·simp only[if_true,ap (show¬e<0 by omega),am (show¬e<0 by omega),inL_true h.1 h.2]
    by_cases h3:(rd (τ:=aW) t e).2.1=1
    ·simp only[au h3,ab h3];rfl
    ·simp only[ap h3,am h3];rfl
theorem zP (t:List dr) (o:bL) (ht:t.length≤64) (hz:ObjSz o):tD t o=some (gL t o):=by
 have h1:=hz.f
 have h2:=hz.d
 rw[LJ]
 rw[jA (L:=tD.a t o) (E8 t o) o.2.2.1.length fun i hi=> ?_]
 ·rw[tD.a_eq,ai,am (az _),ac]
  rw[jA (L:=tD.b t o) (Kr t o) o.2.2.2.1.length fun i hi=> ?_]
  ·rw[tD.b_eq,ai,am (az _),ac,xJ]
   unfold gL
   split<;>rfl
  ·rw[tD.b_eq,ai,aj,ab hi,an i _ hi (by omega),(dQ t _ (by omega)).2]
   unfold Kr
   simp only[ae,af]
   by_cases h:cp t (rd (τ:=bB) o.2.2.2.1 (i:Int)).1≥0
   ·rw[au h,ab h];rfl
   ·rw[ap h,am h];rfl
 ·rw[tD.a_eq,ai,aj,ab hi,an i _ hi (by omega),(dQ t _ (by omega)).2]
  unfold E8
  simp only[ae,af]
  have hr:=df t (rd (τ:=aP) o.2.2.1 (i:Int)).1
  generalize cp t (rd (τ:=aP) o.2.2.1 (i:Int)).1=e at*
  cases (rd (τ:=aP) o.2.2.1 (i:Int)).2.1 with
  |false=>
   by_cases h:e≥0
   ·simp only[Bool.false_eq_true,if_false,au h,ab h];rfl
   ·simp only[Bool.false_eq_true,if_false,ap h,am h];rfl
  |true=>
   rcases hr with h|h
   ·simp only[if_true,au (show e<0 by omega),ab (show e<0 by omega)];rfl
   ·simp only[if_true,ap (show¬e<0 by omega),am (show¬e<0 by omega),inL_true h.1 h.2]
    by_cases h3:(rd (τ:=aW) t e).2.1=1
    ·simp only[au h3,ab h3];rfl
    ·simp only[ap h3,am h3];rfl
structure ct (a:bG):Prop where
 base:0≤a.1∧a.1≤1048575∧a.1%8=0
 size:0≤a.2.1∧a.2.1≤1048576-a.1∧a.2.1%8=0
 top:a.1≤a.2.2∧a.2.2≤a.1+a.2.1∧a.2.2%8=0
theorem nM (n:Int):n.tmod 8=0↔n%8=0:=⟨fun h=>by rw[←Int.dvd_iff_tmod_eq_zero]at h;omega,fun h=>by rw[←Int.dvd_iff_tmod_eq_zero];omega⟩
theorem tZ {a:bG}:Bl a=true↔ct a:=by
 unfold Bl
 simp only[ay,bF,aT,nM]
 constructor
 ·rintro⟨⟨⟨⟨⟨h1,h2⟩,h3⟩,h4⟩,h5⟩,h6⟩
  rw[aU (n:=1048576-a.1) (by omega) (by omega)]at h2
  rw[aU (n:=a.1+a.2.1) (by omega) (by omega)]at h3
  exact⟨⟨h1.1,h1.2,h4⟩,⟨h2.1,h2.2,h5⟩,⟨h3.1,h3.2,h6⟩⟩
 ·rintro⟨⟨h1,h2,h3⟩,⟨h4,h5,h6⟩,h7,h8,h9⟩
  rw[aU (n:=1048576-a.1) (by omega) (by omega),aU (n:=a.1+a.2.1) (by omega) (by omega)]
  exact⟨⟨⟨⟨⟨⟨h1,h2⟩,h4,h5⟩,h7,h8⟩,h3⟩,h6⟩,h9⟩
def oN (n:Nat):Nat:=(n+7)/8*8
def aL (a:bG) (n:Nat):bG×Int×Bool:=if(oN n:Int)>a.1+a.2.1-a.2.2 then(a,0,false)else((a.1,a.2.1,a.2.2+(oN n:Int)),a.2.2,true)
theorem c9 {a:bG} (h:ct a) (n:Nat):ct (aL a n).1:=by
 unfold aL
 split
 ·exact h
 ·obtain⟨⟨h1,h2,h3⟩,⟨h4,h5,h6⟩,h7,h8,h9⟩:=h
  have:oN n%8=0:=by unfold oN;omega
  refine⟨⟨h1,h2,h3⟩,⟨h4,h5,h6⟩, ?_, ?_, ?_⟩<;>simp only<;>omega
theorem kB (a:bG) (h:ct a) (n:Nat) (hn:n≤256):R0 a (n:Int)=some (aL a n):=by
 obtain⟨⟨h1,h2,h3⟩,⟨h4,h5,h6⟩,h7,h8,h9⟩:=h
 rw[NY,aU (n:=(n:Int)+7) (by omega) (by omega),Int.tdiv_eq_ediv_of_nonneg (by omega),aU (n:=((n:Int)+7)/8) (by omega) (by omega),aU (n:=((n:Int)+7)/8*8) (by omega) (by omega),aU (n:=a.1+a.2.1) (by omega) (by omega),aU (n:=a.1+a.2.1-a.2.2) (by omega) (by omega),show((n:Int)+7)/8*8=(oN n:Int) by unfold oN;omega]
 have:oN n≤264:=by unfold oN;omega
 rw[aU (n:=a.2.2+(oN n:Int)) (by omega) (by omega)]
 unfold aL
 by_cases h:(oN n:Int)>a.1+a.2.1-a.2.2
 ·rw[au h,ab h];rfl
 ·rw[ap h,am h];rfl
theorem oO (a:bG) (h:ct a) (z:bG):∀(k n:Nat),n+k=oN n→n≤256→EL.a (n:Int) a z=some (aL a n):=by
 obtain⟨⟨h1,h2,h3⟩,⟨h4,h5,h6⟩,h7,h8,h9⟩:=h
 intro k
 induction k with
 |zero=>
  intro n hn hn2
  have h0:n%8=0:=by unfold oN at hn;omega
  have e:decide ((n:Int).tmod 8=0)=true:=ab ((nM _).2 (by omega))
  rw[EL.a_eq,e,aU (n:=a.1+a.2.1) (by omega) (by omega),aU (n:=a.1+a.2.1-a.2.2) (by omega) (by omega),aU (n:=a.2.2+(n:Int)) (by omega) (by omega)]
  unfold aL
  rw[←hn,Nat.add_zero]
  by_cases h:(n:Int)>a.1+a.2.1-a.2.2
  ·rw[au h,ab h];rfl
  ·rw[ap h,am h];rfl
 |succ k ih=>
  intro n hn hn2
  have h0:n%8≠0:=by unfold oN at hn;omega
  have h256:n≠256:=by intro h;subst h;exact h0 rfl
  have e:decide ((n:Int).tmod 8=0)=false:=am (fun h=>h0 (by have:=(nM _).1 h;omega))
  have hu:oN (n+1)=oN n:=by unfold oN;omega
  rw[EL.a_eq,e,aU (n:=(n:Int)+1) (by omega) (by omega)]
  simp only[Bool.not_false,ae]
  rw[show(n:Int)+1=((n+1:Nat):Int) by omega,ih (n+1) (by rw[hu];omega) (by omega)]
  unfold aL
  rw[hu]
theorem kC (a:bG) (h:ct a) (n:Nat) (hn:n≤256):EL a (n:Int)=some (aL a n):=by
 rw[LL];exact oO a h _ (oN n-n) n (by unfold oN;omega) hn
def cK (sz:Nat→Nat) (a:bG):Nat→Nat→bG×List Int×Bool
 |_,0=>(a,[],true)
 |i,k+1=>((cK sz (aL a (sz i)).1 (i+1) k).1,(aL a (sz i)).2.1::(cK sz (aL a (sz i)).1 (i+1) k).2.1,(aL a (sz i)).2.2&&(cK sz (aL a (sz i)).1 (i+1) k).2.2)
theorem cr (sz:Nat→Nat):∀k i a,(cK sz a i k).2.1.length=k
 |0,_,_=>rfl
 |k+1,i,a=>by rw[cK,List.length_cons,cr sz k]
theorem rb (sz:Nat→Nat):∀k i a,ct a→ct (cK sz a i k).1
 |0,_,_,h=>h
 |k+1,i,a,h=>by rw[cK];exact rb sz k (i+1) _ (c9 h _)
def dW (o:bL) (i:Nat):Nat:=(rd (τ:=aP) o.2.2.1 (i:Int)).2.2.2.size
def lA (o:bL) (i:Nat):Nat:=(rd (τ:=bB) o.2.2.2.1 (i:Int)).2.size
def lB (o:bL) (i:Nat):ByteArray:=(rd (τ:=aP) o.2.2.1 (i:Int)).2.2.2
def kD (o:bL) (i:Nat):ByteArray:=(rd (τ:=bB) o.2.2.2.1 (i:Int)).2
def after (f:Int) (ok:Bool):Int:=if f=0∧ok=false then 7 else f
theorem kE (f:Int) (a b:Bool):after (after f a) b=after f (a&&b):=by
 unfold after
 cases a<;>cases b<;>by_cases h:f=0<;>simp[h]
end Go.Proofs.YtijpmnicihmoaaaGreatDoor.S
