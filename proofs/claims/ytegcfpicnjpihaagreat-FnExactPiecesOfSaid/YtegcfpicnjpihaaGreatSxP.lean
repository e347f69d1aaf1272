import Derived.Test.YtegcfpicnjpihaaGreatSxI
import Derived.IntWalk
namespace Go.Proofs.YtegcfpicnjpihaaGreat.S
open Go.Ps
set_option linter.unusedVariables false
set_option maxRecDepth 100000
theorem aF {n:Int} (h: -9223372036854775808≤n) (h':n≤9223372036854775807):IntKind.wrap .i64 n=n:=IntWalk.i64_in n ⟨h,h'⟩
theorem lK (n:Int):OL n=Zv n:=by rw[Fd,OD]
theorem vA (n:Int):Po n=Zw n:=by rw[Fe,OE]
theorem Bv (t:ByteArray) (ht:t.size≤20):∀(k:Nat) (i:Int),0≤i→t.size≤i.toNat+k→n6.a t i=Zx.a t i:=by
 intro k
 induction k with
 |zero=>
  intro i h0 hk
  have:decide (i< (t.size:Int))=false:=by simp;omega
  rw[n6.a_eq,Zx.a_eq,this];rfl
 |succ k ih=>
  intro i h0 hk
  rw[n6.a_eq,Zx.a_eq,lK,vA]
  by_cases hi:i< (t.size:Int)
  ·rw[aF (n:=i+1) (by omega) (by omega),ih (i+1) (by omega) (by omega)]
  ·rw[show decide (i< (t.size:Int))=false by simp;omega];rfl
theorem LL (t:ByteArray):n6 t=Zx t:=by
 rw[Ff,OF,xR]
 by_cases h1:(t.size:Int)<1
 ·rw[show decide ((1:Int)≤(t.size:Int))=false by simp;omega,show decide ((t.size:Int)<1)=true by simp;omega];rfl
 ·rw[show decide ((1:Int)≤(t.size:Int))=true by simp;omega,show decide ((t.size:Int)<1)=false by simp;omega]
  by_cases h2:(t.size:Int)>20
  ·rw[show decide ((t.size:Int)>20)=true by simp;omega,show decide ((t.size:Int)≤20)=false by simp;omega];rfl
  ·rw[show decide ((t.size:Int)>20)=false by simp;omega,show decide ((t.size:Int)≤20)=true by simp;omega]
   simp only[cond_true,cond_false,Option.bind_some,Bool.not_true]
   rw[lK,Bv t (by omega) t.size 1 (by omega) (by omega)]
theorem vB (t:ByteArray) (i:Int):0≤bt t i∧bt t i≤255:=by
 unfold bt
 have:=(t.data.getD i.toNat 0).toNat_lt
 omega
theorem Fp {n:Int} (h:0≤n) (h':n≤18446744073709551615):IntKind.wrap .u64 n=n:=by
 have:IntKind.wrap .u64 n=n%18446744073709551616:=by simp[IntKind.wrap,IntKind.bits,IntKind.signed]
 rw[this];omega
def vC {α:Type} (x y:Option α):Prop:=∃v,x=some v∧y=some v
theorem vC.bind {α β:Type} {x y:Option α} {f g:α→Option β} (h:vC x y) (k:∀v,x=some v→vC (f v) (g v)):vC (x.bind f) (y.bind g):=by
 obtain⟨v,h1,h2⟩:=h
 rw[h1,h2];exact k v h1
theorem vC.some {α:Type} {x y:Option α} (e:x=y) (h:∃v,x=some v):vC x y:=by obtain⟨v,h⟩:=h;exact⟨v,h,e▸h⟩
theorem nl (n:Int):∃v,OL n=some v:=by
 rw[Fd]
 cases decide (n≥97)<;>cases decide (n≤122)<;>cases decide (n≥65)<;>cases decide (n≤90)<;>exact⟨_,rfl⟩
theorem xT (n:Int):∃v,Po n=some v:=by
 rw[Fe];cases decide (n≥48)<;>exact⟨_,rfl⟩
theorem pL (t:ByteArray) (ht:t.size≤20):∀(k:Nat) (i:Int),0≤i→t.size≤i.toNat+k→∃v,n6.a t i=some v:=by
 intro k
 induction k with
 |zero=>
  intro i h0 hk
  have:decide (i< (t.size:Int))=false:=by simp;omega
  rw[n6.a_eq,this];exact⟨_,rfl⟩
 |succ k ih=>
  intro i h0 hk
  rw[n6.a_eq]
  by_cases hi:i< (t.size:Int)
  ·have e:ao i t.size=true:=by simp[ao];omega
   obtain⟨v1,h1⟩:=nl (bt t i)
   obtain⟨v2,h2⟩:=xT (bt t i)
   obtain⟨v3,h3⟩:=ih (i+1) (by omega) (by omega)
   rw[aF (n:=i+1) (by omega) (by omega),e,h1,h2,h3]
   simp only[decide_eq_true hi,cond_true,Option.bind_some]
   cases v1<;>cases v2<;>exact⟨_,rfl⟩
  ·rw[show decide (i< (t.size:Int))=false by simp;omega];exact⟨_,rfl⟩
theorem rW (t:ByteArray):∃v,n6 t=some v:=by
 rw[Ff,xR]
 by_cases h1:(1:Int)≤(t.size:Int)
 ·by_cases h2:(t.size:Int)≤20
  ·obtain⟨v1,e1⟩:=nl (bt t 0)
   obtain⟨v2,e2⟩:=pL t (by omega) t.size 1 (by omega) (by omega)
   have e:ao 0 t.size=true:=by simp[ao];omega
   simp only[decide_eq_true h1,decide_eq_true h2,cond_true,Option.bind_some,Bool.not_true,cond_false,e,e1,e2]
   cases v1<;>exact⟨_,rfl⟩
  ·simp only[decide_eq_true h1,cond_true,Option.bind_some,decide_eq_false h2,Bool.not_false];exact⟨_,rfl⟩
 ·simp only[decide_eq_false h1,cond_false,Option.bind_some,Bool.not_false,cond_true];exact⟨_,rfl⟩
theorem Bw (t:ByteArray):vC (n6 t) (Zx t):=vC.some (LL t) (rW t)
theorem du {α:Type} (c:Bool) (a b:α):cond c a b=if c=true then a else b:=by cases c<;>rfl
theorem xU (n:Int):∃q:Int,IntKind.wrap .i64 n=n-18446744073709551616*q:=by
 rw[IntKind.wrap_i64];exact⟨(n+9223372036854775808)/18446744073709551616,by omega⟩
theorem xV (x:Int):((BitVec.ofInt IntKind.i64.bits x).toNat:Int)=x%18446744073709551616:=by
 rw[BitVec.toNat_ofInt]
 have hb:((2^IntKind.i64.bits:Nat):Int)=18446744073709551616:=rfl
 rw[hb];omega
theorem vD (x:Int) (c:Nat) (hc:c≤62):x%18446744073709551616%2^c=x%2^c:=by
 apply Int.emod_emod_of_dvd
 exact⟨2^(64-c),by rw[←Int.pow_add,show c+(64-c)=64 by omega];rfl⟩
theorem hZ (c:Nat) (hc:c≤62):(1:Int)≤2^c∧(2:Int)^c≤4611686018427387904:=by
 have h1:2^c≤2^62:=Nat.pow_le_pow_right (by decide) hc
 have h2:1≤2^c:=Nat.one_le_two_pow
 have e:((2^c:Nat):Int)=(2:Int)^c:=by simp
 omega
theorem Fq (x:Int) (c:Nat) (hc:c≤62):andI .i64 x (2^c-1)=x%2^c:=by
 have hp:=hZ c hc
 have e:((2^c:Nat):Int)=(2:Int)^c:=by simp
 unfold andI
 have h1:(BitVec.ofInt IntKind.i64.bits x&&&BitVec.ofInt IntKind.i64.bits ((2:Int)^c-1)).toNat=(BitVec.ofInt IntKind.i64.bits x).toNat%2^c:=by
  rw[BitVec.toNat_and]
  have:(BitVec.ofInt IntKind.i64.bits ((2:Int)^c-1)).toNat=2^c-1:=by
   have:=xV ((2:Int)^c-1);omega
  rw[this,Nat.and_two_pow_sub_one_eq_mod]
 rw[h1]
 have h2:(((BitVec.ofInt IntKind.i64.bits x).toNat%2^c:Nat):Int)=x%2^c:=by
  rw[Int.natCast_emod,xV,e,vD x c hc]
 rw[h2]
 have h3:0≤x%2^c:=Int.emod_nonneg _ (by omega)
 have h4:x%2^c<2^c:=Int.emod_lt_of_pos _ (by omega)
 exact aF (by omega) (by omega)
theorem n8 {x:Int} {k:Int} (h:0≤k) (h':k≤64):lr .i64 x k=x/2^k.toNat:=by
 unfold lr
 have hb:IntKind.i64.bits=64:=rfl
 rw[show min k.toNat IntKind.i64.bits=k.toNat by omega,Int.fdiv_eq_ediv_of_nonneg]
 have:=hZ
 exact Int.le_of_lt (Int.pow_pos (by decide))
theorem rX {x:Int} {k:Int} (h:0≤k) (h':k≤64):lr .u64 x k=x/2^k.toNat:=by
 unfold lr
 have hb:IntKind.u64.bits=64:=rfl
 rw[show min k.toNat IntKind.u64.bits=k.toNat by omega,Int.fdiv_eq_ediv_of_nonneg]
 exact Int.le_of_lt (Int.pow_pos (by decide))
theorem lL {x:Int} {k:Int} (h:0≤k) (h':k≤64):cE .i64 x k=IntKind.wrap .i64 (x*2^k.toNat):=by
 unfold cE
 have hb:IntKind.i64.bits=64:=rfl
 rw[show min k.toNat IntKind.i64.bits=k.toNat by omega]
theorem eB (v low count:Int) (h:0≤low) (h':low≤64) (hc:0≤count) (hc':count≤62):Fh v low count=some (v/2^low.toNat%2^count.toNat):=by
 rw[KC]
 have hp:=hZ count.toNat (by omega)
 rw[show decide (low<0)=false by simp;omega,show decide (count<0)=false by simp;omega,lL hc (by omega),n8 h h',Int.one_mul,aF (n:=2^count.toNat) (by omega) (by omega),aF (n:=2^count.toNat-1) (by omega) (by omega),Fq _ _ (by omega)]
 rfl
theorem lM (x y k c:Nat) (hy:y<2^c) (h:x/2^k%2^c=0):x|||y*2^k=x+y*2^k:=by
 have hk:0<2^k:=Nat.two_pow_pos k
 have hkc:0<2^(k+c):=Nat.two_pow_pos _
 have e1:x%2^(k+c)<2^k:=by
  rw[Nat.pow_add]
  have:x% (2^k*2^c)=x%2^k+2^k*(x/2^k%2^c):=Nat.mod_mul
  rw[this,h]
  have:=Nat.mod_lt x hk
  omega
 have e2:y*2^k+x%2^(k+c)<2^(k+c):=by
  have:(y+1)*2^k≤2^c*2^k:=Nat.mul_le_mul_right _ (by omega)
  rw[Nat.pow_add,Nat.mul_comm (2^k) (2^c)]
  rw[Nat.pow_add,Nat.mul_comm (2^k) (2^c)]at e1
  rw[Nat.add_mul]at this
  omega
 have hx:x=(x/2^(k+c))<<< (k+c)|||x%2^(k+c):=by
  rw[←Nat.shiftLeft_add_eq_or_of_lt (Nat.mod_lt x hkc),Nat.shiftLeft_eq]
  have:=Nat.div_add_mod x (2^(k+c))
  rw[Nat.mul_comm]at this;exact this.symm
 have h3:x%2^(k+c)|||y*2^k=y*2^k+x%2^(k+c):=by
  rw[Nat.or_comm,←Nat.shiftLeft_eq y k,←Nat.shiftLeft_add_eq_or_of_lt e1,Nat.shiftLeft_eq]
 calc
  x|||y*2^k=(x/2^(k+c))<<< (k+c)||| (x%2^(k+c)|||y*2^k):=by
    conv=>lhs;rw[hx]
    rw[Nat.or_assoc]
  _=(x/2^(k+c))<<< (k+c)+(y*2^k+x%2^(k+c)):=by rw[h3,Nat.shiftLeft_add_eq_or_of_lt e2]
  _=x+y*2^k:=by
    rw[Nat.shiftLeft_eq]
    have:=Nat.div_add_mod x (2^(k+c))
    rw[Nat.mul_comm]at this;omega
theorem be {x y P Q:Int} (k c:Nat) (hP:P=2^k) (hQ:Q=2^c) (hkc:k+c≤62) (hx:0≤x) (hx':x<4611686018427387904) (hy:0≤y) (hy':y<Q) (h:x/P%Q=0):gL .i64 x (y*P)=x+y*P:=by
 subst hP hQ
 obtain⟨a,rfl⟩:=Int.eq_ofNat_of_zero_le hx
 obtain⟨b,rfl⟩:=Int.eq_ofNat_of_zero_le hy
 have hp:=hZ k (by omega)
 have ek:((2^k:Nat):Int)=(2:Int)^k:=by simp
 have ec:((2^c:Nat):Int)=(2:Int)^c:=by simp
 have hb:b<2^c:=by omega
 have hlt:b*2^k<4611686018427387904:=by
  have h1:b*2^k<2^c*2^k:=Nat.mul_lt_mul_of_pos_right hb (Nat.two_pow_pos k)
  rw[←Nat.pow_add]at h1
  have h2:2^(c+k)≤2^62:=Nat.pow_le_pow_right (by decide) (by omega)
  omega
 have h0:a/2^k%2^c=0:=by
  have:((a/2^k%2^c:Nat):Int)=(a:Int)/2^k%2^c:=by
   rw[Int.natCast_emod,Int.natCast_ediv,ek,ec]
  omega
 have em:((b*2^k:Nat):Int)=(b:Int)*2^k:=by rw[Int.natCast_mul,ek]
 unfold gL
 rw[BitVec.toNat_or]
 have f1:(BitVec.ofInt IntKind.i64.bits (a:Int)).toNat=a:=by have:=xV (a:Int);omega
 have f2:(BitVec.ofInt IntKind.i64.bits ((b:Int)*2^k)).toNat=b*2^k:=by have:=xV ((b:Int)*2^k);omega
 rw[f1,f2,lM a b k c hb h0,Int.natCast_add,em]
 exact aF (by omega) (by omega)
theorem go (v i:Int) (hv: -9223372036854775808≤v) (hv':v≤9223372036854775807) (h:0≤i) (h':i≤63):wk v i=some (v/2^i.toNat%2):=by
 rw[IF,Fp (n:=i) (by omega) (by omega),show decide (i<0)=false by simp;omega,rX h (by omega)]
 have hu:IntKind.wrap .u64 v=v%18446744073709551616:=by simp[IntKind.wrap,IntKind.bits,IntKind.signed]
 have h0:0≤v%18446744073709551616:=by omega
 have hp:(0:Int)<2^i.toNat:=Int.pow_pos (by decide)
 have hd:0≤v%18446744073709551616/2^i.toNat:=Int.ediv_nonneg h0 (by omega)
 rw[hu,Int.tmod_eq_emod_of_nonneg hd]
 have e:v%18446744073709551616/2^i.toNat%2=v/2^i.toNat%2:=by
  have hpe:(18446744073709551616:Int)=2^i.toNat*(2^(63-i.toNat)*2):=by
   rw[←Int.pow_succ,←Int.pow_add,show i.toNat+(63-i.toNat+1)=64 by omega];rfl
  have h1:v%18446744073709551616=v-2^i.toNat*(2^(63-i.toNat)*2*(v/18446744073709551616)):=by
   rw[Int.emod_def,←Int.mul_assoc,←hpe]
  rw[h1,Int.sub_eq_add_neg,←Int.mul_neg,Int.add_mul_ediv_left _ _ (by omega)]
  rw[Int.mul_comm (2^(63-i.toNat)) 2,Int.mul_assoc,←Int.mul_neg,Int.add_mul_emod_self_left]
 rw[e]
 have:v/2^i.toNat%2=0∨v/2^i.toNat%2=1:=by omega
 rcases this with h|h<;>rw[h]<;>rfl
theorem xW (w low:Int) (hw: -9223372036854775808≤w) (hw':w≤9223372036854775807) (h:0≤low):∀(k:Nat) (x:Int),low+k≤63→k≤62→0≤x→(x+1)*2^k≤4611686018427387904→qi.a w low x ((k:Int)-1)=some (x*2^k+w/2^low.toNat%2^k):=by
 intro k
 induction k with
 |zero=>
  intro x _ _ _ _
  rw[qi.a_eq,show decide (((0:Nat):Int)-1≥0)=false by rfl]
  simp only[cond_false,Int.pow_zero,Int.emod_one,Int.mul_one,Int.add_zero]
 |succ k ih=>
  intro x h1 h2 h3 h4
  have hpk:=hZ k (by omega)
  have hx:2*x+2≤4611686018427387904:=by
   rw[Int.pow_succ]at h4
   have:(x+1)*2≤(x+1)*(2^k*2):=Int.mul_le_mul_of_nonneg_left (by omega) (by omega)
   omega
  have hs:(((k+1:Nat):Int)-1)=(k:Int):=by omega
  rw[hs,qi.a_eq,show decide ((k:Int)≥0)=true by simp,aF (n:=low+k) (by omega) (by omega),go w (low+k) hw hw' (by omega) (by omega)]
  have hb:0≤w/2^(low+k).toNat%2∧w/2^(low+k).toNat%2≤1:=by omega
  simp only[cond_true,Option.bind_some]
  rw[aF (n:=2*x) (by omega) (by omega),aF (n:=2*x+_) (by omega) (by omega),aF (n:=(k:Int)-1) (by omega) (by omega)]
  rw[ih _ (by omega) (by omega) (by omega) (by
   rw[Int.pow_succ,Int.mul_comm (2^k) 2,←Int.mul_assoc]at h4
   exact Int.le_trans (Int.mul_le_mul_of_nonneg_right (by omega) (by omega)) h4)]
  congr 1
  have e1:(low+k).toNat=low.toNat+k:=by omega
  have e2:w/2^low.toNat%2^(k+1)=w/2^low.toNat%2^k+2^k*(w/2^(low.toNat+k)%2):=by
   rw[Int.pow_succ,Int.pow_add,←Int.ediv_ediv_of_nonneg (Int.le_of_lt (Int.pow_pos (by decide)))]
   generalize w/2^low.toNat=z
   have hk:(0:Int)≤2^k:=by omega
   rw[Int.emod_def z (2^k*2),←Int.ediv_ediv_of_nonneg hk,Int.emod_def (z/2^k) 2,Int.emod_def z (2^k),Int.mul_sub]
   rw[Int.mul_assoc (2^k) 2];omega
  rw[e1,e2,Int.add_mul,Int.pow_succ,Int.mul_comm (2^k) 2,←Int.mul_assoc,Int.mul_comm x 2,Int.mul_comm (2^k) (w/2^(low.toNat+k)%2)]
  omega
theorem By (w low count:Int) (hw: -9223372036854775808≤w) (hw':w≤9223372036854775807) (h:0≤low) (hc:0≤count) (hlc:low+count≤62):qi w low count=some (w/2^low.toNat%2^count.toNat):=by
 have hp:=hZ count.toNat (by omega)
 rw[IL,aF (n:=count-1) (by omega) (by omega),show count-1=(count.toNat:Int)-1 by omega,xW w low hw hw' h count.toNat 0 (by omega) (by omega) (by omega) (by omega)]
 rw[Int.zero_mul,Int.zero_add]
theorem jU (a z:Int) (n i:Nat) (h:i<n):(a+2^n*z)/2^i%2=a/2^i%2:=by
 have e:(2:Int)^n=2^i*(2*2^(n-i-1)):=by
  rw[←Int.mul_assoc,←Int.pow_succ,←Int.pow_add,show i+1+(n-i-1)=n by omega]
 have hp:(0:Int)<2^i:=Int.pow_pos (by decide)
 rw[e,Int.mul_assoc,Int.add_mul_ediv_left _ _ (by omega),Int.mul_assoc,Int.add_mul_emod_self_left]
theorem lN (t:Int) (i:Nat):2*(t/2^(i+1))+t/2^i%2=t/2^i:=by
 have hp:(0:Int)≤2^i:=Int.le_of_lt (Int.pow_pos (by decide))
 rw[Int.pow_succ,←Int.ediv_ediv_of_nonneg hp];omega
def cJ (w low count v:Int):Int:=w%2^low.toNat+2^low.toNat*(v%2^count.toNat+2^count.toNat*(w/2^(low.toNat+count.toNat)))
theorem jw (w low count v:Int) (h:0≤low) (hc:0≤count) (i:Nat):cJ w low count v/2^i%2=if low≤i∧(i:Int)<low+count then v/2^(i-low.toNat)%2 else w/2^i%2:=by
 obtain⟨l,rfl⟩:=Int.eq_ofNat_of_zero_le h
 obtain⟨c,rfl⟩:=Int.eq_ofNat_of_zero_le hc
 have hl:(0:Int)<2^l:=Int.pow_pos (by decide)
 have hcc:(0:Int)<2^c:=Int.pow_pos (by decide)
 simp only[cJ,Int.toNat_natCast]
 by_cases h1:i<l
 ·rw[jU _ _ _ _ h1,if_neg (by omega)]
  conv=>rhs;rw[←Int.emod_add_mul_ediv w (2^l)]
  rw[jU _ _ _ _ h1]
 ·have e:(2:Int)^i=2^l*2^(i-l):=by rw[←Int.pow_add,show l+(i-l)=i by omega]
  rw[e,←Int.ediv_ediv_of_nonneg (by omega:(0:Int)≤2^l),Int.add_mul_ediv_left _ _ (by omega),Int.ediv_eq_zero_of_lt (Int.emod_nonneg _ (by omega)) (Int.emod_lt_of_pos _ hl),Int.zero_add]
  by_cases h2:i<l+c
  ·rw[if_pos (by omega),jU _ _ _ _ (show i-l<c by omega)]
   conv=>rhs;rw[←Int.emod_add_mul_ediv v (2^c)]
   rw[jU _ _ _ _ (show i-l<c by omega)]
  ·have e2:(2:Int)^(i-l)=2^c*2^(i-l-c):=by rw[←Int.pow_add,show c+(i-l-c)=i-l by omega]
   rw[if_neg (by omega),e2,←Int.ediv_ediv_of_nonneg (by omega:(0:Int)≤2^c),Int.add_mul_ediv_left _ _ (by omega),Int.ediv_eq_zero_of_lt (Int.emod_nonneg _ (by omega)) (Int.emod_lt_of_pos _ hcc),Int.zero_add,Int.pow_add,←Int.ediv_ediv_of_nonneg (by omega:(0:Int)≤2^l),Int.ediv_ediv_of_nonneg (by omega:(0:Int)≤2^c),←e2,Int.ediv_ediv_of_nonneg (by omega:(0:Int)≤2^l)]
theorem bF (w low count v:Int) (h:0≤low) (hc:0≤count) (hlc:low+count≤32) (hw:0≤w) (hw':w<4294967296):0≤cJ w low count v∧cJ w low count v<4294967296:=by
 obtain⟨l,rfl⟩:=Int.eq_ofNat_of_zero_le h
 obtain⟨c,rfl⟩:=Int.eq_ofNat_of_zero_le hc
 have hl:(0:Int)<2^l:=Int.pow_pos (by decide)
 have hcc:(0:Int)<2^c:=Int.pow_pos (by decide)
 simp only[cJ,Int.toNat_natCast]
 have a1:=Int.emod_nonneg w (show(2:Int)^l≠0 by omega)
 have a2:=Int.emod_lt_of_pos w hl
 have b1:=Int.emod_nonneg v (show(2:Int)^c≠0 by omega)
 have b2:=Int.emod_lt_of_pos v hcc
 have hlcp:(0:Int)<2^(l+c):=Int.pow_pos (by decide)
 have c1:0≤w/2^(l+c):=Int.ediv_nonneg hw (by omega)
 have c2:w/2^(l+c)+1≤2^(32-l-c):=by
  have:w/2^(l+c)<2^(32-l-c):=by
   apply Int.ediv_lt_of_lt_mul hlcp
   rw[←Int.pow_add,show 32-l-c+(l+c)=32 by omega];exact hw'
  omega
 generalize w/2^(l+c)=z at*
 generalize w%2^l=x at*
 generalize v%2^c=y at*
 have d1:0≤2^c*z:=Int.mul_nonneg (by omega) c1
 have d2:2^c*z+2^c≤2^c*2^(32-l-c):=by
  have:=Int.mul_le_mul_of_nonneg_left c2 (show(0:Int)≤2^c by omega)
  rw[Int.mul_add,Int.mul_one]at this;exact this
 rw[←Int.pow_add,show c+(32-l-c)=32-l by omega]at d2
 have d3:0≤2^l*(y+2^c*z):=Int.mul_nonneg (by omega) (by omega)
 have d4:2^l*(y+2^c*z)+2^l≤2^l*2^(32-l):=by
  have:=Int.mul_le_mul_of_nonneg_left (show y+2^c*z+1≤2^(32-l) by omega) (show(0:Int)≤2^l by omega)
  rw[Int.mul_add (2^l) _ 1,Int.mul_one]at this;exact this
 rw[←Int.pow_add,show l+(32-l)=32 by omega,show(2:Int)^32=4294967296 by rfl]at d4
 omega
theorem Fr (w low count v:Int) (h:0≤low) (hc:0≤count) (hlc:low+count≤32) (hw:0≤w) (hw':w<4294967296) (hv: -9223372036854775808≤v) (hv':v≤9223372036854775807):
  ∀(k:Nat),k≤32→fO.a w low count v (cJ w low count v/2^k) ((k:Int)-1)=some (cJ w low count v):=by
 have hr:=bF w low count v h hc hlc hw hw'
 intro k
 induction k with
 |zero=>
  intro _
  rw[fO.a_eq,show decide (((0:Nat):Int)-1≥0)=false by rfl]
  simp only[cond_false,Int.pow_zero,Int.ediv_one]
 |succ k ih=>
  intro hk
  have ih:=ih (by omega)
  have hb:=jw w low count v h hc k
  have hst:=lN (cJ w low count v) k
  generalize ht:cJ w low count v=T at*
  have hp:(0:Int)<2^(k+1):=Int.pow_pos (by decide)
  have q0:0≤T/2^(k+1):=Int.ediv_nonneg hr.1 (by omega)
  have q1:T/2^(k+1)≤T:=Int.ediv_le_self _ hr.1
  have hs:(((k+1:Nat):Int)-1)=(k:Int):=by omega
  rw[hs,fO.a_eq,show decide ((k:Int)≥0)=true by simp,go w k (by omega) (by omega) (by omega) (by omega),aF (n:=low+count) (by omega) (by omega),aF (n:=2*(T/2^(k+1))) (by omega) (by omega),aF (n:=(k:Int)-1) (by omega) (by omega)]
  simp only[cond_true,Option.bind_some,Int.toNat_natCast]
  by_cases h1:low≤(k:Int)
  ·by_cases h2:(k:Int)<low+count
   ·rw[show decide ((k:Int)≥low)=true by simp;omega,show decide ((k:Int)<low+count)=true by simp;omega,aF (n:=(k:Int)-low) (by omega) (by omega),go v _ hv hv' (by omega) (by omega)]
    rw[if_pos ⟨h1,h2⟩]at hb
    simp only[cond_true,Option.bind_some]
    rw[show((k:Int)-low).toNat=k-low.toNat by omega,←hb,aF (by omega) (by omega),hst,ih]
   ·rw[show decide ((k:Int)≥low)=true by simp;omega,show decide ((k:Int)<low+count)=false by simp;omega]
    rw[if_neg (by omega)]at hb
    simp only[cond_true,cond_false]
    rw[←hb,aF (by omega) (by omega),hst,ih]
  ·rw[show decide ((k:Int)≥low)=false by simp;omega]
   rw[if_neg (by omega)]at hb
   simp only[cond_false]
   rw[←hb,aF (by omega) (by omega),hst,ih]
theorem co (w low count v:Int) (h:0≤low) (hc:0≤count) (hlc:low+count≤32) (hw:0≤w) (hw':w<4294967296) (hv: -9223372036854775808≤v) (hv':v≤9223372036854775807):
  fO w low count v=some (cJ w low count v):=by
 have hr:=bF w low count v h hc hlc hw hw'
 have:=Fr w low count v h hc hlc hw hw' hv hv' 32 (by omega)
 rw[IG]
 rw[Int.ediv_eq_zero_of_lt hr.1 (by rw[show(2:Int)^32=4294967296 by rfl];exact hr.2)]at this
 exact this
def ce (v:Int) (c:Nat):Int:=if v%2^c<2^(c-1)then v%2^c else v%2^c-2^c
theorem vE (c:Nat) (h:1≤c):(2:Int)^c=2*2^(c-1):=by
 obtain⟨d,rfl⟩:=Nat.exists_eq_add_of_le h
 rw[Nat.add_comm,Int.pow_succ,Int.mul_comm];rfl
theorem rY (v:Int) (c:Nat):∃q,ce v c=v+2^c*q:=by
 unfold ce
 rw[Int.emod_def]
 split
 ·exact⟨-(v/2^c),by rw[Int.mul_neg];omega⟩
 ·exact⟨-(v/2^c)-1,by rw[Int.mul_sub,Int.mul_neg];omega⟩
theorem jx (v:Int) (c:Nat) (h:1≤c): -2^(c-1)≤ce v c∧ce v c<2^(c-1):=by
 have hp:=vE c h
 have hp1:(0:Int)<2^(c-1):=Int.pow_pos (by decide)
 have a1:=Int.emod_nonneg v (show(2:Int)^c≠0 by omega)
 have a2:=Int.emod_lt_of_pos v (show(0:Int)<2^c by omega)
 unfold ce
 split<;>omega
theorem H9 (c:Nat) (h:c≤63):(2:Int)^c≤9223372036854775808:=by
 have h1:2^c≤2^63:=Nat.pow_le_pow_right (by decide) h
 have e:((2^c:Nat):Int)=(2:Int)^c:=by simp
 omega
theorem jy {n s:Int} (q:Int) (h:n=s+18446744073709551616*q) (h1: -9223372036854775808≤s) (h2:s≤9223372036854775807):IntKind.wrap .i64 n=s:=by
 rw[IntKind.wrap_i64];omega
theorem xX (v count:Int) (h:1≤count) (h':count≤64):Pv v count=some (ce v count.toNat):=by
 rw[KG,aF (n:=64-count) (by omega) (by omega),show decide (64-count<0)=false by simp;omega,lL (by omega) (by omega),n8 (by omega) (by omega)]
 simp only[cond_false]
 congr 1
 obtain⟨c,rfl⟩:=Int.eq_ofNat_of_zero_le (show 0≤count by omega)
 rw[show((64:Int)-(c:Int)).toNat=64-c by omega,Int.toNat_natCast]
 have hp1:(0:Int)<2^(c-1):=Int.pow_pos (by decide)
 have hk:(0:Int)<2^(64-c):=Int.pow_pos (by decide)
 obtain⟨q,hq⟩:=rY v c
 have hr:=jx v c (by omega)
 have e64:(2:Int)^c*2^(64-c)=18446744073709551616:=by rw[←Int.pow_add,show c+(64-c)=64 by omega];rfl
 have e63:(2:Int)^(c-1)*2^(64-c)=9223372036854775808:=by rw[←Int.pow_add,show c-1+(64-c)=63 by omega];rfl
 have hv:v*2^(64-c)=ce v c*2^(64-c)+18446744073709551616*(-q):=by
  rw[hq,←e64,Int.add_mul,Int.mul_neg,Int.mul_assoc,Int.mul_comm q,←Int.mul_assoc];omega
 have l1: -9223372036854775808≤ce v c*2^(64-c):=by
  have:=Int.mul_le_mul_of_nonneg_right hr.1 (show(0:Int)≤2^(64-c) by omega)
  rw[Int.neg_mul,e63]at this;exact this
 have l2:ce v c*2^(64-c)≤9223372036854775807:=by
  have:=Int.mul_lt_mul_of_pos_right hr.2 hk
  rw[e63]at this;omega
 rw[jy (-q) hv l1 l2,Int.mul_ediv_cancel _ (by omega)]
theorem Ft (v:Int) (c i:Nat) (h:1≤c):ce v c/2^i%2=v/2^(min i (c-1))%2:=by
 obtain⟨q,hq⟩:=rY v c
 by_cases h1:i<c
 ·rw[show min i (c-1)=i by omega,hq,jU _ _ _ _ h1]
 ·have hr:=jx v c h
  rw[show min i (c-1)=c-1 by omega]
  have e:v/2^(c-1)%2=ce v c/2^(c-1)%2:=by rw[hq,jU _ _ _ _ (by omega)]
  rw[e]
  have hp1:(0:Int)<2^(c-1):=Int.pow_pos (by decide)
  have hm:(2:Int)^(c-1)≤2^i:=by
   have h9:2^(c-1)≤2^i:=Nat.pow_le_pow_right (by decide) (show c-1≤i by omega)
   have e1:((2^(c-1):Nat):Int)=(2:Int)^(c-1):=by simp
   have e2:((2^i:Nat):Int)=(2:Int)^i:=by simp
   omega
  by_cases hs:0≤ce v c
  ·rw[Int.ediv_eq_zero_of_lt hs (by omega),Int.ediv_eq_zero_of_lt hs hr.2]
  ·have f:∀P:Int,0<P→ -P≤ce v c→ce v c/P= -1:=by
    intro P hP hle
    have:ce v c/P<0:=Int.ediv_neg_of_neg_of_pos (by omega) hP
    have h2: -1≤ce v c/P:=Int.le_ediv_of_mul_le hP (by omega)
    omega
   rw[f _ (by omega) (by omega),f _ hp1 hr.1]
theorem Bz (v:Int) (c:Nat) (h:1≤c) (h':c≤64) (hv: -9223372036854775808≤v) (hv':v≤9223372036854775807):
  ∀k:Nat,k≤64→wl.a v c (ce v c/2^k%2^(64-k)) ((k:Int)-1)=some (ce v c):=by
 have hr:=jx v c h
 have hp:=H9 (c-1) (by omega)
 intro k
 induction k with
 |zero=>
  intro _
  rw[wl.a_eq,show decide (((0:Nat):Int)-1≥0)=false by rfl]
  simp only[cond_false,Int.pow_zero,Int.ediv_one]
  congr 1
  rw[show(2:Int)^(64-0)=18446744073709551616 by rfl,Int.emod_def]
  exact jy (-(ce v c/18446744073709551616)) (by omega) (by omega) (by omega)
 |succ k ih=>
  intro hk
  have ih:=ih (by omega)
  have hs:(((k+1:Nat):Int)-1)=(k:Int):=by omega
  have hmin:(if IntKind.wrap .i64 ((c:Int)-1)< (k:Int)then IntKind.wrap .i64 ((c:Int)-1)else(k:Int))=((min k (c-1):Nat):Int):=by
   rw[aF (n:=(c:Int)-1) (by omega) (by omega)];split<;>omega
  rw[hs,wl.a_eq,show decide ((k:Int)≥0)=true by simp,hmin,go v _ hv hv' (by omega) (by omega),aF (n:=(k:Int)-1) (by omega) (by omega)]
  simp only[cond_true,Option.bind_some,Int.toNat_natCast]
  rw[←Ft v c k h]
  have hst:=lN (ce v c) k
  have e:(2:Int)^(64-k)=2*2^(64-(k+1)):=by
   have:=vE (64-k) (by omega);rw[this,show 64-k-1=64-(k+1) by omega]
  have hq:(0:Int)<2^(64-(k+1)):=Int.pow_pos (by decide)
  have hq':=H9 (64-(k+1)) (by omega)
  generalize ce v c/2^(k+1)=z at*
  generalize ce v c/2^k=y at*
  rw[e]at ih
  have z1:=Int.emod_nonneg z (show(2:Int)^(64-(k+1))≠0 by omega)
  have z2:=Int.emod_lt_of_pos z hq
  have ey:2*(z%2^(64-(k+1)))+y%2=y% (2*2^(64-(k+1))):=by
   rw[Int.emod_def z,Int.emod_def y (2*_),←Int.ediv_ediv_of_nonneg (by decide),show y/2=z by omega,Int.mul_assoc];omega
  rw[Fp (n:=2*_) (by omega) (by omega),Fp (n:=y%2) (by omega) (by omega),Fp (n:=2*_+y%2) (by omega) (by omega),ey,ih]
theorem ia (v count:Int) (h:1≤count) (h':count≤64) (hv: -9223372036854775808≤v) (hv':v≤9223372036854775807):wl v count=some (ce v count.toNat):=by
 obtain⟨c,rfl⟩:=Int.eq_ofNat_of_zero_le (show 0≤count by omega)
 have:=Bz v c (by omega) (by omega) hv hv' 64 (by omega)
 rw[show(64-64:Nat)=0 by rfl,Int.pow_zero,Int.emod_one]at this
 rw[IM,Int.toNat_natCast]
 exact this
def QU:List (Int×Int×Int×Int):=[(0,0,0,0),(1,55,0,0),(1,23,0,0),(2,111,0,0),(3,103,0,0),(4,99,0,0),(4,99,1,0),(4,99,4,0),(4,99,5,0),(4,99,6,0),(4,99,7,0),(3,3,0,0),(3,3,1,0),(3,3,2,0),(3,3,3,0),(3,3,4,0),(3,3,5,0),(3,3,6,0),(5,35,0,0),(5,35,1,0),(5,35,2,0),(5,35,3,0),(3,19,0,0),(3,19,2,0),(3,19,3,0),(3,19,4,0),(3,19,6,0),(3,19,7,0),(6,19,1,0),(6,19,5,0),(6,19,5,32),(8,51,0,0),(8,51,0,32),(8,51,1,0),(8,51,2,0),(8,51,3,0),(8,51,4,0),(8,51,5,0),(8,51,5,32),(8,51,6,0),(8,51,7,0),(3,27,0,0),(7,27,1,0),(7,27,5,0),(7,27,5,32),(8,59,0,0),(8,59,0,32),(8,59,1,0),(8,59,5,0),(8,59,5,32),(8,51,0,1),(8,51,1,1),(8,51,2,1),(8,51,3,1),(8,51,4,1),(8,51,5,1),(8,51,6,1),(8,51,7,1),(8,59,0,1),(8,59,4,1),(8,59,5,1),(8,59,6,1),(8,59,7,1),(9,115,0,0),(9,115,0,1)]
def cS (n:Int):Int×Int×Int×Int:=QU.getD n.toNat (0,0,0,0)
theorem pM {n:Int} (h:0≤n) (h':n≤64):∃k:Fin 65,n=(k.val:Int):=⟨⟨n.toNat,by omega⟩,by simp;omega⟩
theorem kU (n:Int) (h:0≤n) (h':n≤64):ON n=some (cS n):=by
 rw[KA,Fg]
 simp only[Option.bind_some]
 obtain⟨k,rfl⟩:=pM h h'
 clear h h';revert k
 decide+kernel
theorem eC (n:Int) (h:0≤n) (h':n≤64):H7 n=some (cS n):=by
 rw[IE]
 obtain⟨k,rfl⟩:=pM h h'
 clear h h';revert k
 decide+kernel
def zl (s:Int×Int×Int×Int):Bool:=decide (1≤s.1)&&decide (s.1≤9)&&decide (0≤s.2.1)&&decide (s.2.1<128)&&decide (0≤s.2.2.1)&&decide (s.2.2.1<8)&&decide (0≤s.2.2.2)&&decide (s.2.2.2<64)&&(!decide (s.1=6)||decide (s.2.2.2%2=0))&&(!decide (s.1=9)|| (decide (s.2.2.2<2)&&decide (s.2.2.1=0)))
theorem mK (n:Int) (h:1≤n) (h':n≤64):zl (cS n)=true:=by
 obtain⟨k,rfl⟩:=pM (show 0≤n by omega) h'
 clear h';revert k
 decide+kernel
theorem LM {x y:Int} (hx:0≤x) (hx':x<4611686018427387904) (hy:0≤y) (hy':y<2) (h:x/128%2=0):gL .i64 x (y*128)=x+y*128:=be 7 1 rfl rfl (by decide) hx hx' hy hy' h
theorem kV {x y:Int} (hx:0≤x) (hx':x<4611686018427387904) (hy:0≤y) (hy':y<32) (h:x/128%32=0):gL .i64 x (y*128)=x+y*128:=be 7 5 rfl rfl (by decide) hx hx' hy hy' h
theorem LN {x y:Int} (hx:0≤x) (hx':x<4611686018427387904) (hy:0≤y) (hy':y<16) (h:x/256%16=0):gL .i64 x (y*256)=x+y*256:=be 8 4 rfl rfl (by decide) hx hx' hy hy' h
theorem jV {x y:Int} (hx:0≤x) (hx':x<4611686018427387904) (hy:0≤y) (hy':y<8) (h:x/4096%8=0):gL .i64 x (y*4096)=x+y*4096:=be 12 3 rfl rfl (by decide) hx hx' hy hy' h
theorem zm {x y:Int} (hx:0≤x) (hx':x<4611686018427387904) (hy:0≤y) (hy':y<256) (h:x/4096%256=0):gL .i64 x (y*4096)=x+y*4096:=be 12 8 rfl rfl (by decide) hx hx' hy hy' h
theorem vF {x y:Int} (hx:0≤x) (hx':x<4611686018427387904) (hy:0≤y) (hy':y<1048576) (h:x/4096%1048576=0):gL .i64 x (y*4096)=x+y*4096:=be 12 20 rfl rfl (by decide) hx hx' hy hy' h
theorem tz {x y:Int} (hx:0≤x) (hx':x<4611686018427387904) (hy:0≤y) (hy':y<2) (h:x/1048576%2=0):gL .i64 x (y*1048576)=x+y*1048576:=be 20 1 rfl rfl (by decide) hx hx' hy hy' h
theorem n9 {x y:Int} (hx:0≤x) (hx':x<4611686018427387904) (hy:0≤y) (hy':y<32) (h:x/1048576%32=0):gL .i64 x (y*1048576)=x+y*1048576:=be 20 5 rfl rfl (by decide) hx hx' hy hy' h
theorem Hw {x y:Int} (hx:0≤x) (hx':x<4611686018427387904) (hy:0≤y) (hy':y<64) (h:x/1048576%64=0):gL .i64 x (y*1048576)=x+y*1048576:=be 20 6 rfl rfl (by decide) hx hx' hy hy' h
theorem Fu {x y:Int} (hx:0≤x) (hx':x<4611686018427387904) (hy:0≤y) (hy':y<4096) (h:x/1048576%4096=0):gL .i64 x (y*1048576)=x+y*1048576:=be 20 12 rfl rfl (by decide) hx hx' hy hy' h
theorem Fv {x y:Int} (hx:0≤x) (hx':x<4611686018427387904) (hy:0≤y) (hy':y<1024) (h:x/2097152%1024=0):gL .i64 x (y*2097152)=x+y*2097152:=be 21 10 rfl rfl (by decide) hx hx' hy hy' h
theorem Hx {x y:Int} (hx:0≤x) (hx':x<4611686018427387904) (hy:0≤y) (hy':y<64) (h:x/33554432%64=0):gL .i64 x (y*33554432)=x+y*33554432:=be 25 6 rfl rfl (by decide) hx hx' hy hy' h
theorem tA {x y:Int} (hx:0≤x) (hx':x<4611686018427387904) (hy:0≤y) (hy':y<128) (h:x/33554432%128=0):gL .i64 x (y*33554432)=x+y*33554432:=be 25 7 rfl rfl (by decide) hx hx' hy hy' h
theorem Hy {x y:Int} (hx:0≤x) (hx':x<4611686018427387904) (hy:0≤y) (hy':y<64) (h:x/67108864%64=0):gL .i64 x (y*67108864)=x+y*67108864:=be 26 6 rfl rfl (by decide) hx hx' hy hy' h
theorem zn {x y:Int} (hx:0≤x) (hx':x<4611686018427387904) (hy:0≤y) (hy':y<2) (h:x/2147483648%2=0):gL .i64 x (y*2147483648)=x+y*2147483648:=be 31 1 rfl rfl (by decide) hx hx' hy hy' h
theorem LO {x y:Int} (hx:0≤x) (hx':x<4611686018427387904) (hy:0≤y) (hy':y<16) (h:x/2%16=0):gL .i64 x (y*2)=x+y*2:=be 1 4 rfl rfl (by decide) hx hx' hy hy' h
theorem Hz {x y:Int} (hx:0≤x) (hx':x<4611686018427387904) (hy:0≤y) (hy':y<1024) (h:x/2%1024=0):gL .i64 x (y*2)=x+y*2:=be 1 10 rfl rfl (by decide) hx hx' hy hy' h
theorem LP {x y:Int} (hx:0≤x) (hx':x<4611686018427387904) (hy:0≤y) (hy':y<64) (h:x/32%64=0):gL .i64 x (y*32)=x+y*32:=be 5 6 rfl rfl (by decide) hx hx' hy hy' h
theorem LQ {x y:Int} (hx:0≤x) (hx':x<4611686018427387904) (hy:0≤y) (hy':y<128) (h:x/32%128=0):gL .i64 x (y*32)=x+y*32:=be 5 7 rfl rfl (by decide) hx hx' hy hy' h
theorem zo {x y:Int} (hx:0≤x) (hx':x<4611686018427387904) (hy:0≤y) (hy':y<2) (h:x/2048%2=0):gL .i64 x (y*2048)=x+y*2048:=be 11 1 rfl rfl (by decide) hx hx' hy hy' h
theorem HC {x y:Int} (hx:0≤x) (hx':x<4611686018427387904) (hy:0≤y) (hy':y<2) (h:x/4096%2=0):gL .i64 x (y*4096)=x+y*4096:=be 12 1 rfl rfl (by decide) hx hx' hy hy' h
theorem rZ {w a b:Int} (hw:0≤w) (hw':w<4611686018427387904) (ha:0≤a) (ha':a<32) (hb:0≤b) (hb':b<8) (h:w/4096%256=0):gL .i64 w (a*32768+b*4096)=w+(a*32768+b*4096):=by
 have:=be (x:=w) (y:=a*8+b) (P:=4096) (Q:=256) 12 8 rfl rfl (by decide) hw hw' (by omega) (by omega) h
 rw[show a*32768+b*4096=(a*8+b)*4096 by omega];exact this
def dW (s:Int×Int×Int×Int) (x:Int×Int×Int×Int×Int):Int:=
 if s.1=1 then s.2.1+x.2.1*128+x.2.2.2.2/4096%1048576*4096
 else if s.1=2 then s.2.1+x.2.1*128+x.2.2.2.2/4096%256*4096+x.2.2.2.2/2048%2*1048576+x.2.2.2.2/2%1024*2097152+x.2.2.2.2/1048576%2*2147483648
 else if s.1=3 then s.2.1+x.2.1*128+s.2.2.1*4096+x.2.2.1*32768+x.2.2.2.2%4096*1048576
 else if s.1=4 then s.2.1+x.2.2.2.2/2048%2*128+x.2.2.2.2/2%16*256+s.2.2.1*4096+x.2.2.1*32768+x.2.2.2.1*1048576+x.2.2.2.2/32%64*33554432+x.2.2.2.2/4096%2*2147483648
 else if s.1=5 then s.2.1+x.2.2.2.2%32*128+s.2.2.1*4096+x.2.2.1*32768+x.2.2.2.1*1048576+x.2.2.2.2/32%128*33554432
 else if s.1=6 then s.2.1+x.2.1*128+s.2.2.1*4096+x.2.2.1*32768+x.2.2.2.2%64*1048576+s.2.2.2/2*67108864
 else if s.1=7 then s.2.1+x.2.1*128+s.2.2.1*4096+x.2.2.1*32768+x.2.2.2.2%32*1048576+s.2.2.2*33554432
 else if s.1=8 then s.2.1+x.2.1*128+s.2.2.1*4096+x.2.2.1*32768+x.2.2.2.1*1048576+s.2.2.2*33554432
 else s.2.1+s.2.2.2*1048576
structure kW (x:Int×Int×Int×Int×Int):Prop where
 d:0≤x.2.1∧x.2.1≤31
 a:0≤x.2.2.1∧x.2.2.1≤31
 b:0≤x.2.2.2.1∧x.2.2.2.1≤31
 i: -9223372036854775808≤x.2.2.2.2∧x.2.2.2.2≤9223372036854775807
theorem fw {f c f3 f7:Int} (h:zl (f,c,f3,f7)=true):(1≤f∧f≤9)∧(0≤c∧c<128)∧(0≤f3∧f3<8)∧(0≤f7∧f7<64)∧(f=6→f7%2=0)∧(f=9→f7<2∧f3=0):=by
 simp only[zl,Bool.and_eq_true,Bool.or_eq_true,Bool.not_eq_true',decide_eq_true_eq,decide_eq_false_iff_not]at h
 omega
theorem gp {f:Int} (h:1≤f∧f≤9):f=1∨f=2∨f=3∨f=4∨f=5∨f=6∨f=7∨f=8∨f=9:=by omega
theorem ae (j n:Nat):ao (j:Int) n=decide (j<n):=by
 unfold ao;rw[show decide (0≤(j:Int))=true by simp,Bool.true_and];congr 1;simp
theorem aS {τ:Ty} (xs:List τ.den) (j:Nat) (h:j<xs.length):rd (τ:=τ) xs (j:Int)=xs[j]:=by
 unfold rd;rw[Int.toNat_natCast,List.getD_eq_getElem?_getD,List.getElem?_eq_getElem h];rfl
theorem ah (j n:Nat) (h:j<n) (h':n≤9223372036854775807):IntKind.wrap .i64 ((j:Int)+1)=((j+1:Nat):Int):=by
 rw[aF (by omega) (by omega)];omega
theorem ab (j n:Nat):decide ((j:Int)< (n:Int))=decide (j<n):=by congr 1;simp
def vG (imm:Int) (w:Int) (p:Int×Int×Int):Int:=gL .i64 w (cE .i64 (imm/2^p.1.toNat%2^p.2.1.toNat) p.2.2)
def lO (ps:List (Int×Int×Int)):Prop:=ps.length≤4∧∀p∈ps,0≤p.1∧p.1≤62∧0≤p.2.1∧p.2.1≤62∧0≤p.2.2∧p.2.2≤62
theorem Fw (x:Int×Int×Int×Int×Int) (s:Int×Int×Int×Int) (ps:List (Int×Int×Int)) (hp:lO ps):
  ∀(k j:Nat) (w:Int),j+k=ps.length→wr.a x s w ps (ps.length:Int) (j:Int)=wr.a x s ((ps.drop j).foldl (vG x.2.2.2.2) w) ps (ps.length:Int) (ps.length:Int):=by
 intro k
 induction k with
 |zero=>
   intro j w h;have:j=ps.length:=by omega
   subst this;simp
 |succ k ih=>
  intro j w h
  have hj:j<ps.length:=by omega
  obtain⟨p1,p2,p3,p4,p5,p6⟩:=hp.2 ps[j] (List.getElem_mem hj)
  have e:=aS (τ:= .pair (.int .i64) (.pair (.int .i64) (.int .i64))) ps j hj
  rw[wr.a_eq,ab,ae,e,ah j ps.length hj (by have:=hp.1;omega)]
  simp only[decide_eq_true hj,cond_true]
  rw[eB _ _ _ (by omega) (by omega) (by omega) (by omega)]
  simp only[Option.bind_some]
  rw[show decide (ps[j].2.2<0)=false by simp;omega]
  simp only[cond_false]
  rw[ih (j+1) _ (by omega),List.drop_eq_getElem_cons hj,List.foldl_cons]
  rfl
def bI (f:Int):List (Int×Int×Int):=
 if f=1 then[(12,20,12)]else if f=2 then[(12,8,12),(11,1,20),(1,10,21),(20,1,31)]else if f=3 then[(0,12,20)]else if f=4 then[(11,1,7),(1,4,8),(5,6,25),(12,1,31)]
 else if f=5 then[(0,5,7),(5,7,25)]else if f=6 then[(0,6,20)]else if f=7 then[(0,5,20)]else[]
theorem pN {f:Int} (h:1≤f∧f≤9):Pt f=some (bI f)∧lO (bI f):=by
 rw[KB]
 rcases gp h with rfl|rfl|rfl|rfl|rfl|rfl|rfl|rfl|rfl<;>exact⟨rfl,by unfold lO;decide⟩
theorem dC {y:Int} (k:Nat) (P:Int) (hP:P=2^k) (hk:k≤62) (h0:0≤y) (h:y*P≤9223372036854775807):cE .i64 y (k:Int)=y*P:=by
 rw[lL (by omega) (by omega),Int.toNat_natCast,←hP]
 have:0≤y*P:=Int.mul_nonneg h0 (by rw[hP];exact Int.le_of_lt (Int.pow_pos (by decide)))
 exact aF (by omega) (by omega)
theorem nn {y:Int} (h0:0≤y) (h:y≤2147483647):cE .i64 y 7=y*128:=dC 7 128 rfl (by decide) h0 (by omega)
theorem OR {y:Int} (h0:0≤y) (h:y≤2147483647):cE .i64 y 8=y*256:=dC 8 256 rfl (by decide) h0 (by omega)
theorem fP {y:Int} (h0:0≤y) (h:y≤2147483647):cE .i64 y 12=y*4096:=dC 12 4096 rfl (by decide) h0 (by omega)
theorem mL {y:Int} (h0:0≤y) (h:y≤2147483647):cE .i64 y 15=y*32768:=dC 15 32768 rfl (by decide) h0 (by omega)
theorem iI {y:Int} (h0:0≤y) (h:y≤2147483647):cE .i64 y 20=y*1048576:=dC 20 1048576 rfl (by decide) h0 (by omega)
theorem LR {y:Int} (h0:0≤y) (h:y≤2147483647):cE .i64 y 21=y*2097152:=dC 21 2097152 rfl (by decide) h0 (by omega)
theorem tB {y:Int} (h0:0≤y) (h:y≤2147483647):cE .i64 y 25=y*33554432:=dC 25 33554432 rfl (by decide) h0 (by omega)
theorem LS {y:Int} (h0:0≤y) (h:y≤2147483647):cE .i64 y 26=y*67108864:=dC 26 67108864 rfl (by decide) h0 (by omega)
theorem Fx {y:Int} (h0:0≤y) (h:y≤2147483647):cE .i64 y 31=y*2147483648:=dC 31 2147483648 rfl (by decide) h0 (by omega)
theorem HD {x:Int}:lr .i64 x 1=x/2:=by rw[n8 (by decide) (by decide)];rfl
def aV (f:Int):Bool×Bool×Bool:=
 if f=1∨f=2 then(true,false,false)else if f=3∨f=6∨f=7 then(true,true,false)else if f=4∨f=5 then(false,true,true)else if f=8 then(true,true,true)else(false,false,false)
theorem pO {f:Int} (h:1≤f∧f≤9):Pu f=some (aV f):=by
 rw[KD]
 rcases gp h with rfl|rfl|rfl|rfl|rfl|rfl|rfl|rfl|rfl<;>rfl
theorem eX (x:Int×Int×Int×Int×Int) (h:1≤x.1) (h':x.1≤64) (hr:kW x):wr x=some (dW (cS x.1) x):=by
 rw[KE,kU _ (by omega) h']
 have hs:=mK x.1 h h'
 generalize cS x.1=s at*
 obtain⟨n,rd',rs1,rs2,imm⟩:=x
 obtain⟨f,c,f3,f7⟩:=s
 obtain⟨⟨d1,d2⟩,⟨a1,a2⟩,⟨b1,b2⟩,⟨i1,i2⟩⟩:=hr
 obtain⟨s1,⟨s2,s2'⟩,⟨s3,s3'⟩,⟨s4,s4'⟩,s5,s6⟩:=fw hs
 clear hs
 dsimp only at*
 obtain⟨hp,hpo⟩:=pN s1
 have hf:=pO s1
 simp only[Option.bind_some,hp]
 rw[show(0:Int)=((0:Nat):Int) by rfl,Fw _ _ _ hpo (bI f).length 0 _ (by omega),wr.a_eq,ab]
 simp only[Nat.lt_irrefl,decide_false,cond_false,hf,List.drop_zero,Option.bind_some,ax]
 clear hp hpo hf
 rcases gp s1 with rfl|rfl|rfl|rfl|rfl|rfl|rfl|rfl|rfl
 ·simp[bI,aV,vG,dW]
  have hb0:0≤imm/4096%1048576∧imm/4096%1048576<1048576:=by omega
  generalize imm/4096%1048576=y0 at*
  simp(disch:=omega) only[fP,nn,vF,kV]
  try omega
 ·simp[bI,aV,vG,dW]
  have hb0:0≤imm/4096%256∧imm/4096%256<256:=by omega
  generalize imm/4096%256=y0 at*
  have hb1:0≤imm/2048%2∧imm/2048%2<2:=by omega
  generalize imm/2048%2=y1 at*
  have hb2:0≤imm/2%1024∧imm/2%1024<1024:=by omega
  generalize imm/2%1024=y2 at*
  have hb3:0≤imm/1048576%2∧imm/1048576%2<2:=by omega
  generalize imm/1048576%2=y3 at*
  simp(disch:=omega) only[fP,iI,LR,Fx,nn,zm,tz,Fv,zn,kV]
  try omega
 ·simp[bI,aV,vG,dW]
  have hb0:0≤imm%4096∧imm%4096<4096:=by omega
  generalize imm%4096=y0 at*
  simp(disch:=omega) only[iI,nn,mL,fP,Fu,kV,jV,rZ]
  try omega
 ·simp[bI,aV,vG,dW]
  have hb0:0≤imm/2048%2∧imm/2048%2<2:=by omega
  generalize imm/2048%2=y0 at*
  have hb1:0≤imm/2%16∧imm/2%16<16:=by omega
  generalize imm/2%16=y1 at*
  have hb2:0≤imm/32%64∧imm/32%64<64:=by omega
  generalize imm/32%64=y2 at*
  have hb3:0≤imm/4096%2∧imm/4096%2<2:=by omega
  generalize imm/4096%2=y3 at*
  simp(disch:=omega) only[nn,OR,tB,Fx,mL,fP,iI,LM,LN,Hx,zn,jV,rZ,n9]
  try omega
 ·simp[bI,aV,vG,dW]
  have hb0:0≤imm%32∧imm%32<32:=by omega
  generalize imm%32=y0 at*
  have hb1:0≤imm/32%128∧imm/32%128<128:=by omega
  generalize imm/32%128=y1 at*
  simp(disch:=omega) only[nn,tB,mL,fP,iI,kV,tA,jV,rZ,n9]
  try omega
 ·simp[bI,aV,vG,dW,HD]
  have hb0:0≤imm%64∧imm%64<64:=by omega
  generalize imm%64=y0 at*
  have hs:0≤f7/2∧f7/2<64:=by omega
  generalize f7/2=z at*
  simp(disch:=omega) only[iI,nn,mL,fP,LS,Hw,kV,jV,rZ,Hy]
  try omega
 ·simp[bI,aV,vG,dW]
  have hb0:0≤imm%32∧imm%32<32:=by omega
  generalize imm%32=y0 at*
  simp(disch:=omega) only[iI,nn,mL,fP,tB,n9,kV,jV,rZ,tA]
  try omega
 ·simp[bI,aV,dW]
  simp(disch:=omega) only[nn,mL,fP,iI,tB,kV,jV,rZ,n9,tA]
  try omega
 ·simp[bI,aV,dW]
  simp(disch:=omega) only[iI,tz]
  try omega
theorem vH {a b:Int} (ha:0≤a∧a<4294967296) (hb:0≤b∧b<4294967296) (h:∀i:Nat,i<32→a/2^i%2=b/2^i%2):a=b:=by
 have:∀k:Nat,k≤32→a/2^(32-k)=b/2^(32-k):=by
  intro k
  induction k with
  |zero=>intro _;rw[show(2:Int)^(32-0)=4294967296 by rfl];omega
  |succ k ih=>
   intro hk
   have ih:=ih (by omega)
   have h1:=h (32-(k+1)) (by omega)
   have e:32-k=32-(k+1)+1:=by omega
   rw[e]at ih
   have ea:=lN a (32-(k+1))
   have eb:=lN b (32-(k+1))
   omega
 have:=this 32 (by omega)
 simpa using this
theorem BA (w low v:Int) (c:Nat) (h:0≤low) (hlc:low+c+1≤32) (hw:0≤w) (hw':w<4294967296):cJ (cJ w low c v) (low+c) 1 (v/2^c%2)=cJ w low ((c+1:Nat):Int) v:=by
 have r1:=bF w low c v h (by omega) (by omega) hw hw'
 apply vH (bF _ _ _ _ (by omega) (by omega) (by omega) r1.1 r1.2) (bF _ _ _ _ h (by omega) (by omega) hw hw')
 intro i hi
 rw[jw _ _ _ _ (by omega) (by omega),jw _ _ _ _ h (by omega),jw _ _ _ _ h (by omega)]
 by_cases h1:low+c≤(i:Int)∧(i:Int)<low+c+1
 ·rw[if_pos h1,if_pos (by omega),show i-(low+(c:Int)).toNat=0 by omega,show i-low.toNat=c by omega,Int.pow_zero,Int.ediv_one];omega
 ·rw[if_neg h1]
  by_cases h2:low≤(i:Int)∧(i:Int)<low+c
  ·rw[if_pos h2,if_pos (by omega)]
  ·rw[if_neg h2,if_neg (by omega)]
theorem BC (w low v:Int) (h:0≤low) (hl:low≤31) (hw:0≤w) (hw':w<4294967296):cJ w low 0 v=w:=by
 apply vH (bF _ _ _ _ h (by omega) (by omega) hw hw') ⟨hw,hw'⟩
 intro i hi
 rw[jw _ _ _ _ h (by omega),if_neg (by omega)]
theorem bh {w v:Int} (k c:Nat) (P Q:Int) (hP:P=2^k) (hQ:Q=2^c) (h:w/P%Q=0):cJ w (k:Int) (c:Int) v=w+v%Q*P:=by
 subst hP hQ
 simp only[cJ,Int.toNat_natCast]
 have hk:(0:Int)<2^k:=Int.pow_pos (by decide)
 have hc:(0:Int)<2^c:=Int.pow_pos (by decide)
 have e1:=Int.emod_add_mul_ediv w (2^k)
 have e2:=Int.emod_add_mul_ediv (w/2^k) (2^c)
 rw[h,Int.zero_add,Int.ediv_ediv_of_nonneg (by omega),←Int.pow_add]at e2
 rw[e2,Int.mul_add]
 rw[Int.mul_comm (v%2^c)]
 omega
theorem BD (x:Int×Int×Int×Int×Int) (hx: -9223372036854775808≤x.2.2.2.2) (hx':x.2.2.2.2≤9223372036854775807) (w:Int) (hw:0≤w) (hw':w<4294967296) (i:Nat) (h:1≤i) (h':i≤20):
  gM.a x w (i:Int)=gM.a x (cJ w (if i=20 then 31 else if 11<i then i else if 10<i then 9+i else 20+i:Nat) 1 (x.2.2.2.2/2^i%2)) ((i+1:Nat):Int):=by
 rw[gM.a_eq,show decide ((i:Int)<21)=true by simp;omega,go _ _ hx hx' (by omega) (by omega),aF (n:=9+(i:Int)) (by omega) (by omega),aF (n:=20+(i:Int)) (by omega) (by omega),aF (n:=(i:Int)+1) (by omega) (by omega)]
 simp only[ax,cond_true,Int.toNat_natCast,Option.bind_some]
 have e0:((i+1:Nat):Int)=(i:Int)+1:=by omega
 rw[e0]
 by_cases h1:i=20
 ·subst h1;rw[show decide (((20:Nat):Int)=20)=true by rfl,co _ _ _ _ (by omega) (by omega) (by omega) hw hw' (by omega) (by omega)];rfl
 ·by_cases h2:11<i
  ·rw[show decide ((i:Int)=20)=false by simp;omega,show decide ((i:Int)>11)=true by simp;omega,show decide ((i:Int)>10)=true by simp;omega,if_neg h1,if_pos h2]
   simp only[cond_true,cond_false]
   rw[co _ _ _ _ (by omega) (by omega) (by omega) hw hw' (by omega) (by omega)];rfl
  ·by_cases h3:10<i
   ·rw[show decide ((i:Int)=20)=false by simp;omega,show decide ((i:Int)>11)=false by simp;omega,show decide ((i:Int)>10)=true by simp;omega,if_neg h1,if_neg h2,if_pos h3]
    simp only[cond_true,cond_false]
    rw[co _ _ _ _ (by omega) (by omega) (by omega) hw hw' (by omega) (by omega),show((9+i:Nat):Int)=9+(i:Int) by omega];rfl
   ·rw[show decide ((i:Int)=20)=false by simp;omega,show decide ((i:Int)>11)=false by simp;omega,show decide ((i:Int)>10)=false by simp;omega,if_neg h1,if_neg h2,if_neg h3]
    simp only[cond_false]
    rw[co _ _ _ _ (by omega) (by omega) (by omega) hw hw' (by omega) (by omega),show((20+i:Nat):Int)=20+(i:Int) by omega];rfl
theorem pP (L:Int→Nat→Option Int) (v:Int) (pl:Nat→Nat) (lo hi:Nat) (step:∀(w:Int) (i:Nat),0≤w→w<4294967296→lo≤i→i<hi→L w i=L (cJ w (pl i:Nat) 1 (v/2^i%2)) (i+1))
  (a p:Nat) (ha:lo≤a) (w:Int) (hw:0≤w) (hw':w<4294967296) (n:Nat) (hn:a+n≤hi) (hp1:p≤31) (hpn:p+n≤32) (hp:∀c:Nat,c<n→pl (a+c)=p+c):
  ∀c:Nat,c≤n→L w a=L (cJ w (p:Int) (c:Int) (v/2^a)) (a+c):=by
 intro c
 induction c with
 |zero=>intro _;rw[show((0:Nat):Int)=0 by rfl,BC _ _ _ (by omega) (by omega) hw hw',Nat.add_zero]
 |succ c ih=>
  intro hc
  have r:=bF w p c (v/2^a) (by omega) (by omega) (by omega) hw hw'
  rw[ih (by omega),step _ (a+c) r.1 r.2 (by omega) (by omega),hp c (by omega)]
  have e:v/2^(a+c)=v/2^a/2^c:=by rw[Int.pow_add,Int.ediv_ediv_of_nonneg (Int.le_of_lt (Int.pow_pos (by decide)))]
  rw[e,show((p+c:Nat):Int)=(p:Int)+(c:Int) by omega,BA _ _ _ _ (by omega) (by omega) hw hw']
  rfl
def LT (i:Nat):Nat:=if i=20 then 31 else if 11<i then i else if 10<i then 9+i else 20+i
def pQ (i:Nat):Nat:=if i=12 then 31 else if i=11 then 7 else if 4<i then 20+i else 7+i
theorem Fy (x:Int×Int×Int×Int×Int) (hx: -9223372036854775808≤x.2.2.2.2) (hx':x.2.2.2.2≤9223372036854775807) (w:Int) (hw:0≤w) (hw':w<4294967296):
  gM.a x w 1=some (cJ (cJ (cJ (cJ w 21 10 (x.2.2.2.2/2)) 20 1 (x.2.2.2.2/2048)) 12 8 (x.2.2.2.2/4096)) 31 1 (x.2.2.2.2/1048576)):=by
 have st:=pP (fun w i=>gM.a x w (i:Int)) x.2.2.2.2 LT 1 21 (fun w i h1 h2 h3 h4=>BD x hx hx' w h1 h2 i h3 (by omega))
 have r1:=bF w 21 10 (x.2.2.2.2/2) (by decide) (by decide) (by decide) hw hw'
 have r2:=bF _ 20 1 (x.2.2.2.2/2048) (by decide) (by decide) (by decide) r1.1 r1.2
 have r3:=bF _ 12 8 (x.2.2.2.2/4096) (by decide) (by decide) (by decide) r2.1 r2.2
 refine(st 1 21 (by decide) w hw hw' 10 (by decide) (by decide) (by decide) (by decide) 10 (by decide)).trans ?_
 refine(st 11 20 (by decide) _ r1.1 r1.2 1 (by decide) (by decide) (by decide) (by decide) 1 (by decide)).trans ?_
 refine(st 12 12 (by decide) _ r2.1 r2.2 8 (by decide) (by decide) (by decide) (by decide) 8 (by decide)).trans ?_
 refine(st 20 31 (by decide) _ r3.1 r3.2 1 (by decide) (by decide) (by decide) (by decide) 1 (by decide)).trans ?_
 exact gM.a_eq _ _ _
theorem vJ (x:Int×Int×Int×Int×Int) (hx: -9223372036854775808≤x.2.2.2.2) (hx':x.2.2.2.2≤9223372036854775807) (w:Int) (hw:0≤w) (hw':w<4294967296) (i:Nat) (h:1≤i) (h':i≤12):
  gM.b x w (i:Int)=gM.b x (cJ w (pQ i:Nat) 1 (x.2.2.2.2/2^i%2)) ((i+1:Nat):Int):=by
 rw[gM.b_eq,show decide ((i:Int)<13)=true by simp;omega,go _ _ hx hx' (by omega) (by omega),aF (n:=7+(i:Int)) (by omega) (by omega),aF (n:=20+(i:Int)) (by omega) (by omega),aF (n:=(i:Int)+1) (by omega) (by omega)]
 simp only[ax,cond_true,Int.toNat_natCast,Option.bind_some,pQ]
 have e0:((i+1:Nat):Int)=(i:Int)+1:=by omega
 rw[e0]
 by_cases h1:i=12
 ·subst h1;rw[show decide (((12:Nat):Int)=12)=true by rfl,co _ _ _ _ (by omega) (by omega) (by omega) hw hw' (by omega) (by omega)];rfl
 ·by_cases h2:i=11
  ·subst h2
   rw[show decide (((11:Nat):Int)=12)=false by rfl,show decide (((11:Nat):Int)>4)=true by rfl,show decide (((11:Nat):Int)=11)=true by rfl]
   simp only[cond_true,cond_false]
   rw[co _ _ _ _ (by omega) (by omega) (by omega) hw hw' (by omega) (by omega)];rfl
  ·by_cases h3:4<i
   ·rw[show decide ((i:Int)=12)=false by simp;omega,show decide ((i:Int)=11)=false by simp;omega,show decide ((i:Int)>4)=true by simp;omega,if_neg h1,if_neg h2,if_pos h3]
    simp only[cond_true,cond_false]
    rw[co _ _ _ _ (by omega) (by omega) (by omega) hw hw' (by omega) (by omega),show((20+i:Nat):Int)=20+(i:Int) by omega];rfl
   ·rw[show decide ((i:Int)=12)=false by simp;omega,show decide ((i:Int)=11)=false by simp;omega,show decide ((i:Int)>4)=false by simp;omega,if_neg h1,if_neg h2,if_neg h3]
    simp only[cond_false]
    rw[co _ _ _ _ (by omega) (by omega) (by omega) hw hw' (by omega) (by omega),show((7+i:Nat):Int)=7+(i:Int) by omega];rfl
theorem xY (x:Int×Int×Int×Int×Int) (hx: -9223372036854775808≤x.2.2.2.2) (hx':x.2.2.2.2≤9223372036854775807) (w:Int) (hw:0≤w) (hw':w<4294967296):
  gM.b x w 1=some (cJ (cJ (cJ (cJ w 8 4 (x.2.2.2.2/2)) 25 6 (x.2.2.2.2/32)) 7 1 (x.2.2.2.2/2048)) 31 1 (x.2.2.2.2/4096)):=by
 have st:=pP (fun w i=>gM.b x w (i:Int)) x.2.2.2.2 pQ 1 13 (fun w i h1 h2 h3 h4=>vJ x hx hx' w h1 h2 i h3 (by omega))
 have r1:=bF w 8 4 (x.2.2.2.2/2) (by decide) (by decide) (by decide) hw hw'
 have r2:=bF _ 25 6 (x.2.2.2.2/32) (by decide) (by decide) (by decide) r1.1 r1.2
 have r3:=bF _ 7 1 (x.2.2.2.2/2048) (by decide) (by decide) (by decide) r2.1 r2.2
 refine(st 1 8 (by decide) w hw hw' 4 (by decide) (by decide) (by decide) (by decide) 4 (by decide)).trans ?_
 refine(st 5 25 (by decide) _ r1.1 r1.2 6 (by decide) (by decide) (by decide) (by decide) 6 (by decide)).trans ?_
 refine(st 11 7 (by decide) _ r2.1 r2.2 1 (by decide) (by decide) (by decide) (by decide) 1 (by decide)).trans ?_
 refine(st 12 31 (by decide) _ r3.1 r3.2 1 (by decide) (by decide) (by decide) (by decide) 1 (by decide)).trans ?_
 exact gM.b_eq _ _ _
theorem xZ (x:Int×Int×Int×Int×Int) (hx: -9223372036854775808≤x.2.2.2.2) (hx':x.2.2.2.2≤9223372036854775807) (w:Int) (hw:0≤w) (hw':w<4294967296) (i:Nat) (h:5≤i) (h':i≤11):
  gM.c x w (i:Int)=gM.c x (cJ w (20+i:Nat) 1 (x.2.2.2.2/2^i%2)) ((i+1:Nat):Int):=by
 rw[gM.c_eq,show decide ((i:Int)<12)=true by simp;omega,go _ _ hx hx' (by omega) (by omega),aF (n:=20+(i:Int)) (by omega) (by omega),aF (n:=(i:Int)+1) (by omega) (by omega)]
 simp only[cond_true,Int.toNat_natCast,Option.bind_some]
 rw[co _ _ _ _ (by omega) (by omega) (by omega) hw hw' (by omega) (by omega),show((20+i:Nat):Int)=20+(i:Int) by omega];rfl
theorem BE (x:Int×Int×Int×Int×Int) (hx: -9223372036854775808≤x.2.2.2.2) (hx':x.2.2.2.2≤9223372036854775807) (w:Int) (hw:0≤w) (hw':w<4294967296):
  gM.c x w 5=some (cJ w 25 7 (x.2.2.2.2/32)):=by
 have st:=pP (fun w i=>gM.c x w (i:Int)) x.2.2.2.2 (fun i=>20+i) 5 12 (fun w i h1 h2 h3 h4=>xZ x hx hx' w h1 h2 i h3 (by omega))
 refine(st 5 25 (by decide) w hw hw' 7 (by decide) (by decide) (by decide) (by decide) 7 (by decide)).trans ?_
 exact gM.c_eq _ _ _
theorem iJ {w v:Int} (hw:0≤w) (hw':w<4294967296) (h:w/128%32=0) (hv: -9223372036854775808≤v) (hv':v≤9223372036854775807):fO w 7 5 v=some (w+v%32*128):=
 (co w 7 5 v (by decide) (by decide) (by decide) hw hw' hv hv').trans (congrArg some (bh 7 5 128 32 rfl rfl h))
theorem BF {w v:Int} (hw:0≤w) (hw':w<4294967296) (h:w/4096%1048576=0) (hv: -9223372036854775808≤v) (hv':v≤9223372036854775807):fO w 12 20 v=some (w+v%1048576*4096):=
 (co w 12 20 v (by decide) (by decide) (by decide) hw hw' hv hv').trans (congrArg some (bh 12 20 4096 1048576 rfl rfl h))
theorem ib {w v:Int} (hw:0≤w) (hw':w<4294967296) (h:w/4096%8=0) (hv: -9223372036854775808≤v) (hv':v≤9223372036854775807):fO w 12 3 v=some (w+v%8*4096):=
 (co w 12 3 v (by decide) (by decide) (by decide) hw hw' hv hv').trans (congrArg some (bh 12 3 4096 8 rfl rfl h))
theorem ic {w v:Int} (hw:0≤w) (hw':w<4294967296) (h:w/32768%32=0) (hv: -9223372036854775808≤v) (hv':v≤9223372036854775807):fO w 15 5 v=some (w+v%32*32768):=
 (co w 15 5 v (by decide) (by decide) (by decide) hw hw' hv hv').trans (congrArg some (bh 15 5 32768 32 rfl rfl h))
theorem sa {w v:Int} (hw:0≤w) (hw':w<4294967296) (h:w/1048576%4096=0) (hv: -9223372036854775808≤v) (hv':v≤9223372036854775807):fO w 20 12 v=some (w+v%4096*1048576):=
 (co w 20 12 v (by decide) (by decide) (by decide) hw hw' hv hv').trans (congrArg some (bh 20 12 1048576 4096 rfl rfl h))
theorem lP {w v:Int} (hw:0≤w) (hw':w<4294967296) (h:w/1048576%32=0) (hv: -9223372036854775808≤v) (hv':v≤9223372036854775807):fO w 20 5 v=some (w+v%32*1048576):=
 (co w 20 5 v (by decide) (by decide) (by decide) hw hw' hv hv').trans (congrArg some (bh 20 5 1048576 32 rfl rfl h))
theorem Fz {w v:Int} (hw:0≤w) (hw':w<4294967296) (h:w/1048576%64=0) (hv: -9223372036854775808≤v) (hv':v≤9223372036854775807):fO w 20 6 v=some (w+v%64*1048576):=
 (co w 20 6 v (by decide) (by decide) (by decide) hw hw' hv hv').trans (congrArg some (bh 20 6 1048576 64 rfl rfl h))
theorem pR {w v:Int} (hw:0≤w) (hw':w<4294967296) (h:w/33554432%128=0) (hv: -9223372036854775808≤v) (hv':v≤9223372036854775807):fO w 25 7 v=some (w+v%128*33554432):=
 (co w 25 7 v (by decide) (by decide) (by decide) hw hw' hv hv').trans (congrArg some (bh 25 7 33554432 128 rfl rfl h))
theorem ya {w v:Int} (h:w/2097152%1024=0):cJ w 21 10 v=w+v%1024*2097152:=bh 21 10 2097152 1024 rfl rfl h
theorem BG {w v:Int} (h:w/1048576%2=0):cJ w 20 1 v=w+v%2*1048576:=bh 20 1 1048576 2 rfl rfl h
theorem BH {w v:Int} (h:w/4096%256=0):cJ w 12 8 v=w+v%256*4096:=bh 12 8 4096 256 rfl rfl h
theorem sb {w v:Int} (h:w/2147483648%2=0):cJ w 31 1 v=w+v%2*2147483648:=bh 31 1 2147483648 2 rfl rfl h
theorem FA {w v:Int} (h:w/256%16=0):cJ w 8 4 v=w+v%16*256:=bh 8 4 256 16 rfl rfl h
theorem BI {w v:Int} (h:w/33554432%64=0):cJ w 25 6 v=w+v%64*33554432:=bh 25 6 33554432 64 rfl rfl h
theorem FB {w v:Int} (h:w/128%2=0):cJ w 7 1 v=w+v%2*128:=bh 7 1 128 2 rfl rfl h
theorem BJ {w v:Int} (h:w/33554432%128=0):cJ w 25 7 v=w+v%128*33554432:=bh 25 7 33554432 128 rfl rfl h
theorem eY (x:Int×Int×Int×Int×Int) (h:1≤x.1) (h':x.1≤64) (hr:kW x) (hu:(cS x.1).1=1→x.2.2.2.2%4096=0):gM x=some (dW (cS x.1) x):=by
 rw[IH,eC _ (by omega) h']
 have hs:=mK x.1 h h'
 generalize cS x.1=s at*
 obtain⟨n,rd',rs1,rs2,imm⟩:=x
 obtain⟨f,c,f3,f7⟩:=s
 obtain⟨⟨d1,d2⟩,⟨a1,a2⟩,⟨b1,b2⟩,⟨i1,i2⟩⟩:=hr
 obtain⟨s1,⟨s2,s2'⟩,⟨s3,s3'⟩,⟨s4,s4'⟩,s5,s6⟩:=fw hs
 clear hs
 dsimp only at*
 simp only[Option.bind_some,ax]
 rcases gp s1 with rfl|rfl|rfl|rfl|rfl|rfl|rfl|rfl|rfl
 ·have hu:=hu rfl
  have ht:imm.tdiv 4096=imm/4096:=by
   rw[Int.tdiv_eq_ediv_of_dvd];exact Int.dvd_of_emod_eq_zero hu
  simp only[du,↓reduceIte,decide_true,ht]
  rw[aF (n:=imm/4096) (by omega) (by omega),iJ (by omega) (by omega) (by omega) (by omega) (by omega)]
  simp only[Option.bind_some]
  rw[BF (by omega) (by omega) (by omega) (by omega) (by omega)]
  simp[dW];omega
 ·simp(disch:=omega) [iJ,Fy,dW]
  rw[ya (by omega)]
  have hb0:0≤imm/2%1024∧imm/2%1024<1024:=by omega
  generalize imm/2%1024=y0 at*
  rw[BG (by omega)]
  have hb1:0≤imm/2048%2∧imm/2048%2<2:=by omega
  generalize imm/2048%2=y1 at*
  rw[BH (by omega)]
  have hb2:0≤imm/4096%256∧imm/4096%256<256:=by omega
  generalize imm/4096%256=y2 at*
  rw[sb (by omega)]
  have hb3:0≤imm/1048576%2∧imm/1048576%2<2:=by omega
  generalize imm/1048576%2=y3 at*
  omega
 ·simp(disch:=omega) [iJ,ib,ic,sa,dW]
  omega
 ·simp(disch:=omega) [ib,ic,lP,xY,dW]
  rw[FA (by omega)]
  have hb0:0≤imm/2%16∧imm/2%16<16:=by omega
  generalize imm/2%16=y0 at*
  rw[BI (by omega)]
  have hb1:0≤imm/32%64∧imm/32%64<64:=by omega
  generalize imm/32%64=y1 at*
  rw[FB (by omega)]
  have hb2:0≤imm/2048%2∧imm/2048%2<2:=by omega
  generalize imm/2048%2=y2 at*
  rw[sb (by omega)]
  have hb3:0≤imm/4096%2∧imm/4096%2<2:=by omega
  generalize imm/4096%2=y3 at*
  omega
 ·simp(disch:=omega) [iJ,ib,ic,lP,BE,dW]
  have hb0:0≤imm%32∧imm%32<32:=by omega
  generalize imm%32=y0 at*
  rw[BJ (by omega)]
  have hb1:0≤imm/32%128∧imm/32%128<128:=by omega
  generalize imm/32%128=y1 at*
  omega
 ·have hf:=s5 rfl
  simp(disch:=omega) [iJ,ib,ic,pR,Fz,dW]
  omega
 ·simp(disch:=omega) [iJ,ib,ic,pR,lP,dW]
  omega
 ·simp(disch:=omega) [iJ,ib,ic,pR,lP,dW]
  omega
 ·simp(disch:=omega) [sa,dW]
  omega
def eZ (f w:Int):Int:=
 if f=1 then w/4096%1048576*4096
 else if f=2 then w/4096%256*4096+w/1048576%2*2048+w/2097152%1024*2+w/2147483648%2*1048576
 else if f=3 then w/1048576%4096
 else if f=4 then w/128%2*2048+w/256%16*2+w/33554432%64*32+w/2147483648%2*4096
 else if f=5 then w/128%32+w/33554432%128*32
 else if f=6 then w/1048576%64
 else if f=7 then w/1048576%32
 else 0
def d8 (f:Int):Nat:=if f=1 then 32 else if f=2 then 21 else if f=3∨f=5 then 12 else if f=4 then 13 else 0
def nF (f w:Int):Int:=if 0<d8 f then ce (eZ f w) (d8 f)else eZ f w
def ee (n f w:Int):Int×Int×Int×Int×Int:=
 (n,(if(aV f).1 then w/128%32 else 0),(if(aV f).2.1 then w/32768%32 else 0),(if(aV f).2.2 then w/1048576%32 else 0),nF f w)
theorem vK {f:Int} (h:1≤f∧f≤9):QE f=some ((d8 f:Nat):Int):=by
 rw[KF]
 rcases gp h with rfl|rfl|rfl|rfl|rfl|rfl|rfl|rfl|rfl<;>rfl
theorem yb {f w:Int} (hf:1≤f∧f≤9) (h:0≤w) (h':w<4294967296): -2147483648≤nF f w∧nF f w≤2147483647:=by
 rcases gp hf with rfl|rfl|rfl|rfl|rfl|rfl|rfl|rfl|rfl<;>simp[nF,d8,eZ,ce]<;>omega
theorem fQ {n f w:Int} (hf:1≤f∧f≤9) (h:0≤w) (h':w<4294967296):kW (ee n f w):=by
 have hi:=yb hf h h'
 refine⟨?_, ?_, ?_, ?_⟩
 ·simp only[ee];split<;>omega
 ·simp only[ee];split<;>omega
 ·simp only[ee];split<;>omega
 ·simp only[ee];omega
def lQ (w:Int) (i:Int) (p:Int×Int×Int):Int:=gL .i64 i (cE .i64 (w/2^p.2.2.toNat%2^p.2.1.toNat) p.1)
theorem FC (w:Int) (z:Int×Int×Int×Int×Int) (s:Int×Int×Int×Int) (os:List (ByteArray×Int×Int×Int×Int)) (ln n:Int) (op rd' r1 r2:Int) (ps:List (Int×Int×Int)) (hp:lO ps):
  ∀(k j:Nat) (i:Int),j+k=ps.length→l5.b w z s (op,rd',r1,r2,i) os ln n ps (ps.length:Int) (j:Int)=l5.b w z s (op,rd',r1,r2,(ps.drop j).foldl (lQ w) i) os ln n ps (ps.length:Int) (ps.length:Int):=by
 intro k
 induction k with
 |zero=>
   intro j i h;have:j=ps.length:=by omega
   subst this;simp
 |succ k ih=>
  intro j i h
  have hj:j<ps.length:=by omega
  obtain⟨p1,p2,p3,p4,p5,p6⟩:=hp.2 ps[j] (List.getElem_mem hj)
  have e:=aS (τ:= .pair (.int .i64) (.pair (.int .i64) (.int .i64))) ps j hj
  rw[l5.b_eq,ab,ae,e,ah j ps.length hj (by have:=hp.1;omega)]
  simp only[decide_eq_true hj,cond_true]
  rw[eB _ _ _ (by omega) (by omega) (by omega) (by omega)]
  simp only[Option.bind_some]
  rw[show decide (ps[j].1<0)=false by simp;omega]
  simp only[cond_false]
  rw[ih (j+1) _ (by omega),List.drop_eq_getElem_cons hj,List.foldl_cons]
  rfl
theorem FD {y:Int} (h0:0≤y) (h:y≤2147483647):cE .i64 y 11=y*2048:=dC 11 2048 rfl (by decide) h0 (by omega)
theorem Ia {y:Int} (h0:0≤y) (h:y≤2147483647):cE .i64 y 1=y*2:=dC 1 2 rfl (by decide) h0 (by omega)
theorem Ib {y:Int} (h0:0≤y) (h:y≤2147483647):cE .i64 y 5=y*32:=dC 5 32 rfl (by decide) h0 (by omega)
theorem zp {y:Int} (h0:0≤y) (h:y≤2147483647):cE .i64 y 0=y:=by
 rw[lL (by decide) (by decide)];simp;exact aF (by omega) (by omega)
theorem oa {y:Int} (h0:0≤y) (h:y≤2147483647):gL .i64 0 y=y:=by
 have:=be (x:=0) (y:=y) (P:=1) (Q:=2147483648) 0 31 rfl rfl (by decide) (by decide) (by decide) h0 (by omega) (by omega)
 simpa using this
theorem vM {f w:Int} (hf:1≤f∧f≤9) (h:0≤w) (h':w<4294967296):(bI f).foldl (lQ w) 0=eZ f w:=by
 rcases gp hf with rfl|rfl|rfl|rfl|rfl|rfl|rfl|rfl|rfl
 ·simp[bI,lQ,eZ]
  have hb0:0≤w/4096%1048576∧w/4096%1048576<1048576:=by omega
  generalize w/4096%1048576=y0 at*
  simp(disch:=omega) only[fP,vF]
  omega
 ·simp[bI,lQ,eZ]
  have hb0:0≤w/4096%256∧w/4096%256<256:=by omega
  generalize w/4096%256=y0 at*
  have hb1:0≤w/1048576%2∧w/1048576%2<2:=by omega
  generalize w/1048576%2=y1 at*
  have hb2:0≤w/2097152%1024∧w/2097152%1024<1024:=by omega
  generalize w/2097152%1024=y2 at*
  have hb3:0≤w/2147483648%2∧w/2147483648%2<2:=by omega
  generalize w/2147483648%2=y3 at*
  simp(disch:=omega) only[fP,FD,Ia,iI,zm,zo,Hz,tz]
  omega
 ·simp[bI,lQ,eZ]
  have hb0:0≤w/1048576%4096∧w/1048576%4096<4096:=by omega
  generalize w/1048576%4096=y0 at*
  simp(disch:=omega) only[zp,oa]
 ·simp[bI,lQ,eZ]
  have hb0:0≤w/128%2∧w/128%2<2:=by omega
  generalize w/128%2=y0 at*
  have hb1:0≤w/256%16∧w/256%16<16:=by omega
  generalize w/256%16=y1 at*
  have hb2:0≤w/33554432%64∧w/33554432%64<64:=by omega
  generalize w/33554432%64=y2 at*
  have hb3:0≤w/2147483648%2∧w/2147483648%2<2:=by omega
  generalize w/2147483648%2=y3 at*
  simp(disch:=omega) only[FD,Ia,Ib,fP,zo,LO,LP,HC]
  omega
 ·simp[bI,lQ,eZ]
  have hb0:0≤w/128%32∧w/128%32<32:=by omega
  generalize w/128%32=y0 at*
  have hb1:0≤w/33554432%128∧w/33554432%128<128:=by omega
  generalize w/33554432%128=y1 at*
  simp(disch:=omega) only[zp,Ib,oa,LQ]
 ·simp[bI,lQ,eZ]
  have hb0:0≤w/1048576%64∧w/1048576%64<64:=by omega
  generalize w/1048576%64=y0 at*
  simp(disch:=omega) only[zp,oa]
 ·simp[bI,lQ,eZ]
  have hb0:0≤w/1048576%32∧w/1048576%32<32:=by omega
  generalize w/1048576%32=y0 at*
  simp(disch:=omega) only[zp,oa]
 ·rfl
 ·rfl
theorem HE {f w:Int} (hf:1≤f∧f≤9):(if 0<d8 f then Pv (eZ f w) ((d8 f:Nat):Int)else some (eZ f w))=some (nF f w):=by
 unfold nF
 rcases gp hf with rfl|rfl|rfl|rfl|rfl|rfl|rfl|rfl|rfl<;>simp[d8]<;>rw[xX _ _ (by decide) (by decide)]<;>rfl
theorem LU (n:Int) (h:0≤n) (h':n≤64):∃os:List (ByteArray×Int×Int×Int×Int),Pr=some os∧os.length=65∧∀m:Nat,m≤64→((rd (τ:=(.pair .str (.pair (.int .i64) (.pair (.int .i64) (.pair (.int .i64) (.int .i64)))))) os m).2)=cS m:=by
 refine⟨_,Fg,rfl,fun m hm=> ?_⟩
 obtain⟨k,rfl⟩:∃k:Fin 65,m=k.val:=⟨⟨m,by omega⟩,rfl⟩
 clear hm;revert k
 decide+kernel
theorem qW (w:Int) (h:0≤w) (h':w<4294967296) (z:Int×Int×Int×Int×Int) (os:List (ByteArray×Int×Int×Int×Int)) (ho:os.length=65) (hs:∀m:Nat,m≤64→((rd (τ:=(.pair .str (.pair (.int .i64) (.pair (.int .i64) (.pair (.int .i64) (.int .i64)))))) os m).2)=cS m) (n:Nat) (h1:1≤n) (hn:n≤64):
  l5.a w z os 65 n=if(cS n).2.1=w%128∧dW (cS n) (ee n (cS n).1 w)=w then some (ee n (cS n).1 w,true)else l5.a w z os 65 ((n+1:Nat):Int):=by
 have hsf:=mK n (by omega) (by omega)
 rw[l5.a_eq,show decide ((n:Int)<65)=true by simp;omega,ho,show ao (n:Int) 65=true by rw[ae];simp;omega,hs n hn,show decide ((n:Int)=0)=false by simp;omega,eB w 0 7 (by decide) (by decide) (by decide) (by decide),aF (n:=(n:Int)+1) (by omega) (by omega)]
 have e0:((n+1:Nat):Int)=(n:Int)+1:=by omega
 rw[e0]
 simp only[cond_true,cond_false,ax,Option.bind_some]
 rw[show w/2^(0:Int).toNat%2^(7:Int).toNat=w%128 by simp]
 by_cases hc:(cS n).2.1=w%128
 ·have henc:∀x:Int×Int×Int×Int×Int,x.1=(n:Int)→kW x→wr x=some (dW (cS n) x):=fun x hx hr=>by rw[←hx];exact eX x (by omega) (by omega) hr
  generalize hS:cS n=s at*
  obtain⟨f,c,f3,f7⟩:=s
  obtain⟨s1,⟨s2,s2'⟩,⟨s3,s3'⟩,⟨s4,s4'⟩,s5,s6⟩:=fw hsf
  obtain⟨hp,hpo⟩:=pN s1
  dsimp only at*
  rw[decide_eq_true hc,hp]
  simp only[eq_true hc,true_and,Bool.not_true,cond_false,Option.bind_some]
  clear hc
  rw[show(0:Int)=((0:Nat):Int) by rfl,FC _ _ _ _ _ _ _ _ _ _ _ hpo (bI f).length 0 _ (by omega),List.drop_zero,show(((0:Nat):Int))=0 by rfl,vM s1 h h',l5.b_eq,ab]
  simp only[Nat.lt_irrefl,decide_false,cond_false,vK s1,pO s1,Option.bind_some,ax]
  have hi:=HE (w:=w) s1
  have he:=henc (ee n f w) rfl (fQ s1 h h')
  have b1:Fh w 7 5=some (w/128%32):=eB w 7 5 (by decide) (by decide) (by decide) (by decide)
  have b2:Fh w 15 5=some (w/32768%32):=eB w 15 5 (by decide) (by decide) (by decide) (by decide)
  have b3:Fh w 20 5=some (w/1048576%32):=eB w 20 5 (by decide) (by decide) (by decide) (by decide)
  rw[aF (n:=(n:Int)+1) (by omega) (by omega)]
  clear henc hS hs ho hp hpo s5 s6 hsf
  unfold ee at he⊢
  generalize l5.a w z os 65 (↑n+1)=nx
  generalize eZ f w=iu at*
  generalize nF f w=im at*
  simp only[b1,b2,b3,Option.bind_some]
  rcases gp s1 with rfl|rfl|rfl|rfl|rfl|rfl|rfl|rfl|rfl<;>simp[d8,aV]at hi he⊢ <;>first|(rw[hi,Option.bind_some,he];simp[du])|(rw[hi,he];simp[du])
 ·rw[if_neg (fun hh=>hc hh.1),show decide ((cS n).2.1=w%128)=false by simpa using hc]
  rfl
theorem vN (n:Int):Qf n=some (decide (1≤n)&&decide (n≤64)):=by
 rw[II,xQ]
 by_cases h:n≥1<;>simp[h]
theorem tC (n:Int):OI n=some (decide (0≤n)&&decide (n≤31)):=by
 rw[IJ,xQ]
 by_cases h:n≥0<;>simp[h]
theorem eP (n a b:Int):nj n a b=some (decide (a≤n)&&decide (n≤b)):=by
 rw[xQ]
 by_cases h:n≥a<;>simp[h]
theorem ca (n a b:Int):fY n a b=some (decide (a≤n)&&decide (n≤b)):=by
 rw[xR]
 by_cases h:a≤n<;>simp[h]
def lR (f i:Int):Bool:=
 if f=1 then decide (-2147483648≤i)&&decide (i≤2147479552)&&decide (i%4096=0)
 else if f=2 then decide (-1048576≤i)&&decide (i≤1048574)&&decide (i%2=0)
 else if f=3∨f=5 then decide (-2048≤i)&&decide (i≤2047)
 else if f=4 then decide (-4096≤i)&&decide (i≤4094)&&decide (i%2=0)
 else if f=6 then decide (0≤i)&&decide (i≤63)
 else if f=7 then decide (0≤i)&&decide (i≤31)
 else decide (i=0)
def eD (x:Int×Int×Int×Int×Int):Bool:=
 decide (1≤x.1)&&decide (x.1≤64)&&decide (0≤x.2.1)&&decide (x.2.1≤31)&&decide (0≤x.2.2.1)&&decide (x.2.2.1≤31)&&decide (0≤x.2.2.2.1)&&decide (x.2.2.2.1≤31)
  &&((aV (cS x.1).1).1||decide (x.2.1=0))&&((aV (cS x.1).1).2.1||decide (x.2.2.1=0))&&((aV (cS x.1).1).2.2||decide (x.2.2.2.1=0))&&lR (cS x.1).1 x.2.2.2.2
theorem jz (x:Int×Int×Int×Int×Int):O1 x=some (eD x):=by
 rw[IK]
 obtain⟨n,d,a,b,i⟩:=x
 simp only[ax,vN,tC,eP,Option.bind_some,eD]
 by_cases hn:1≤n∧n≤64
 ·by_cases hd:0≤d∧d≤31
  ·by_cases ha:0≤a∧a≤31
   ·by_cases hb:0≤b∧b≤31
    ·have hs:=mK n hn.1 hn.2
     rw[eC n (by omega) hn.2]
     generalize cS n=s at*
     obtain⟨f,c,f3,f7⟩:=s
     have s1:=(fw hs).1
     simp only[hn,hd,ha,hb,decide_true,Bool.and_self,Bool.not_true,cond_false,Option.bind_some,Bool.true_and]
     clear hs
     have t1:decide (i.tmod 4096=0)=decide (i%4096=0):=by
      congr 1;exact propext ⟨fun h=>by rw[←Int.dvd_iff_tmod_eq_zero]at h;omega,fun h=>by rw[←Int.dvd_iff_tmod_eq_zero];omega⟩
     have t2:decide (i.tmod 2=0)=decide (i%2=0):=by
      congr 1;exact propext ⟨fun h=>by rw[←Int.dvd_iff_tmod_eq_zero]at h;omega,fun h=>by rw[←Int.dvd_iff_tmod_eq_zero];omega⟩
     rw[t1,t2]
     rcases gp s1 with rfl|rfl|rfl|rfl|rfl|rfl|rfl|rfl|rfl<;>simp[aV,lR]<;>by_cases e1:d=0<;>by_cases e2:a=0<;>by_cases e3:b=0<;>simp[e1,e2,e3,du]<;>(first|done|(split<;>first|(simp_all;done)|(simp;intro q1 q2;omega)))
    ·have:(decide (0≤b)&&decide (b≤31))=false:=by simpa using hb
     have h2:¬(0≤b∧b≤31):=hb
     rw[this]
     simp[hn,hd,ha]
     by_cases q:0≤b<;>simp[q]<;>intros<;>omega
   ·have:(decide (0≤a)&&decide (a≤31))=false:=by simpa using ha
    rw[this]
    simp[hn,hd]
    by_cases q:0≤a<;>simp[q]<;>intros<;>omega
  ·have:(decide (0≤d)&&decide (d≤31))=false:=by simpa using hd
   rw[this]
   simp[hn]
   by_cases q:0≤d<;>simp[q]<;>intros<;>omega
 ·have:(decide (1≤n)&&decide (n≤64))=false:=by simpa using hn
  rw[this]
  simp
theorem ie {n:Int} (h:1≤n) (h':n≤64):1≤(cS n).1∧(cS n).1≤9:=by
 have:=mK n h h'
 generalize cS n=s at*
 exact(fw this).1
theorem sd {n f w:Int} (hn:1≤n) (hn':n≤64) (hf:f=(cS n).1) (h:0≤w) (h':w<4294967296):eD (ee n f w)=true:=by
 have s1:=ie hn hn'
 obtain⟨⟨d1,d2⟩,⟨a1,a2⟩,⟨b1,b2⟩,⟨i1,i2⟩⟩:=fQ (n:=n) (hf▸s1) h h'
 have hi:lR f (nF f w)=true:=by
  subst hf
  rcases gp s1 with e|e|e|e|e|e|e|e|e<;>rw[e]<;>simp[lR,nF,d8,eZ,ce]<;>omega
 subst hf
 unfold eD
 simp only[Bool.and_eq_true,Bool.or_eq_true,decide_eq_true_eq]
 simp only[ee]at d1 d2 a1 a2 b1 b2⊢
 refine⟨⟨⟨⟨⟨⟨⟨⟨⟨⟨⟨hn,hn'⟩,d1⟩,d2⟩,a1⟩,a2⟩,b1⟩,b2⟩, ?_⟩, ?_⟩, ?_⟩,hi⟩
 ·cases (aV (cS n).1).1<;>simp
 ·cases (aV (cS n).1).2.1<;>simp
 ·cases (aV (cS n).1).2.2<;>simp
theorem pS (w:Int) (h:0≤w) (h':w<4294967296) (n:Int) (h1:1≤n) (hn:n≤64):Qg n w=some (ee n (cS n).1 w):=by
 have s1:=ie h1 hn
 have fv:∀l c:Int,0≤l→0≤c→l+c≤62→qi w l c=some (w/2^l.toNat%2^c.toNat):=fun l c a b d=>By w l c (by omega) (by omega) a b d
 have bv:∀l:Int,0≤l→l≤63→wk w l=some (w/2^l.toNat%2):=fun l a b=>go w l (by omega) (by omega) a b
 rw[IN,fv 7 5 (by decide) (by decide) (by decide),fv 15 5 (by decide) (by decide) (by decide),fv 20 5 (by decide) (by decide) (by decide),fv 12 20 (by decide) (by decide) (by decide),fv 21 10 (by decide) (by decide) (by decide),fv 12 8 (by decide) (by decide) (by decide),fv 20 12 (by decide) (by decide) (by decide),fv 8 4 (by decide) (by decide) (by decide),fv 25 6 (by decide) (by decide) (by decide),fv 25 7 (by decide) (by decide) (by decide),fv 20 6 (by decide) (by decide) (by decide),bv 20 (by decide) (by decide),bv 31 (by decide) (by decide),bv 7 (by decide) (by decide),eC n (by omega) hn]
 generalize cS n=s at*
 obtain⟨f,c,f3,f7⟩:=s
 dsimp only at*
 simp only[Option.bind_some,ee,nF]
 rcases gp s1 with rfl|rfl|rfl|rfl|rfl|rfl|rfl|rfl|rfl
 ·simp[aV,d8,eZ]
  rw[ia _ 20 (by decide) (by decide) (by omega) (by omega)]
  simp[ce]
  rw[aF (by omega) (by omega)]
  omega
 ·simp[aV,d8,eZ]
  rw[aF (n:=w/2097152%1024*2) (by omega) (by omega),aF (n:=w/1048576%2*2048) (by omega) (by omega),aF (n:=w/4096%256*4096) (by omega) (by omega),aF (n:=w/2147483648%2*1048576) (by omega) (by omega),aF (n:=w/2097152%1024*2+w/1048576%2*2048) (by omega) (by omega),aF (n:=w/2097152%1024*2+w/1048576%2*2048+w/4096%256*4096) (by omega) (by omega),aF (by omega) (by omega),ia _ 21 (by decide) (by decide) (by omega) (by omega)]
  simp
  congr 1;omega
 ·simp[aV,d8,eZ]
  rw[ia _ 12 (by decide) (by decide) (by omega) (by omega)]
  simp
 ·simp[aV,d8,eZ]
  rw[aF (n:=w/256%16*2) (by omega) (by omega),aF (n:=w/33554432%64*32) (by omega) (by omega),aF (n:=w/128%2*2048) (by omega) (by omega),aF (n:=w/2147483648%2*4096) (by omega) (by omega),aF (n:=w/256%16*2+w/33554432%64*32) (by omega) (by omega),aF (n:=w/256%16*2+w/33554432%64*32+w/128%2*2048) (by omega) (by omega),aF (by omega) (by omega),ia _ 13 (by decide) (by decide) (by omega) (by omega)]
  simp
  congr 1;omega
 ·simp[aV,d8,eZ]
  rw[aF (n:=w/33554432%128*32) (by omega) (by omega),aF (by omega) (by omega),ia _ 12 (by decide) (by decide) (by omega) (by omega)]
  simp
 ·simp[aV,d8,eZ]
 ·simp[aV,d8,eZ]
 ·simp[aV,d8,eZ]
 ·simp[aV,d8,eZ]
theorem LV {n f c f3 f7 w:Int} (hs:zl (f,c,f3,f7)=true) (h:0≤w) (h':w<4294967296) (hc:c=w%128) (h3:3≤f) (h8:f≤8) (he:dW (f,c,f3,f7) (ee n f w)=w):f3=w/4096%8:=by
 obtain⟨s1,⟨s2,s2'⟩,⟨s3,s3'⟩,⟨s4,s4'⟩,s5,s6⟩:=fw hs
 clear hs
 have hd:=(fQ (n:=n) s1 h h').d
 have ha:=(fQ (n:=n) s1 h h').a
 have hb:=(fQ (n:=n) s1 h h').b
 have:f=3∨f=4∨f=5∨f=6∨f=7∨f=8:=by omega
 generalize ee n f w=x at*
 obtain⟨n',d,a,b,i⟩:=x
 dsimp only at*
 rcases this with rfl|rfl|rfl|rfl|rfl|rfl<;>simp only[dW,Int.reduceEq,↓reduceIte]at he
 ·have hb0:0≤i%4096∧i%4096<4096:=by omega
  generalize i%4096=y0 at*;omega
 ·have hb0:0≤i/2048%2∧i/2048%2<2:=by omega
  generalize i/2048%2=y0 at*
  have hb1:0≤i/2%16∧i/2%16<16:=by omega
  generalize i/2%16=y1 at*
  have hb2:0≤i/32%64∧i/32%64<64:=by omega
  generalize i/32%64=y2 at*
  have hb3:0≤i/4096%2∧i/4096%2<2:=by omega
  generalize i/4096%2=y3 at*;omega
 ·have hb0:0≤i%32∧i%32<32:=by omega
  generalize i%32=y0 at*
  have hb1:0≤i/32%128∧i/32%128<128:=by omega
  generalize i/32%128=y1 at*;omega
 ·have hb0:0≤i%64∧i%64<64:=by omega
  generalize i%64=y0 at*;omega
 ·have hb0:0≤i%32∧i%32<32:=by omega
  generalize i%32=y0 at*;omega
 ·omega
theorem qX (w:Int) (h:0≤w) (h':w<4294967296) (z:Int×Int×Int×Int×Int) (n:Nat) (h1:1≤n) (hn:n≤64):
  wm.a w z n=if(cS n).2.1=w%128∧dW (cS n) (ee n (cS n).1 w)=w then some (ee n (cS n).1 w,true)else wm.a w z ((n+1:Nat):Int):=by
 have hsf:=mK n (by omega) (by omega)
 have s1:=ie (n:=n) (by omega) (by omega)
 have hr:=sd (n:=n) (by omega) (by omega) rfl h h'
 have he:gM (ee n (cS n).1 w)=some (dW (cS n) (ee n (cS n).1 w)):=eY (ee n (cS n).1 w) (by simp only[ee];omega) (by simp only[ee];omega) (fQ s1 h h') (fun hf=>by
  have hf:(cS n).1=1:=hf
  show nF (cS n).1 w%4096=0
  rw[hf];simp[nF,d8,eZ,ce];omega)
 have e0:((n+1:Nat):Int)=(n:Int)+1:=by omega
 rw[wm.a_eq,show decide ((n:Int)≤64)=true by simp;omega,eC n (by omega) (by omega),aF (n:=(n:Int)+1) (by omega) (by omega),e0]
 simp only[cond_true,ax,Option.bind_some,eP,pS w h h' n (by omega) (by omega),jz,hr,he]
 have t1:w.tmod 128=w%128:=Int.tmod_eq_emod_of_nonneg h
 have t2:(w.tdiv 4096).tmod 8=w/4096%8:=by rw[Int.tdiv_eq_ediv_of_nonneg h,Int.tmod_eq_emod_of_nonneg (by omega)]
 have w1:IntKind.wrap .i64 (w.tdiv 4096)=w.tdiv 4096:=by rw[Int.tdiv_eq_ediv_of_nonneg h];exact aF (by omega) (by omega)
 rw[w1,t1,t2]
 have h3:=fun(hc:(cS n).2.1=w%128) (h3:3≤(cS n).1) (h8:(cS n).1≤8) (he:dW (cS n) (ee n (cS n).1 w)=w)=>LV (n:=n) (f:=(cS n).1) (c:=(cS n).2.1) (f3:=(cS n).2.2.1) (f7:=(cS n).2.2.2) hsf h h' hc h3 h8 he
 clear hsf hr he
 generalize cS n=s at*
 by_cases hc:s.2.1=w%128
 ·by_cases hf:3≤s.1∧s.1≤8
  ·by_cases hg:s.2.2.1=w/4096%8
   ·simp[hc,hf,hg,du]
   ·have:¬dW s (ee n s.1 w)=w:=fun he=>hg (h3 hc hf.1 hf.2 he)
    simp[hc,hf,hg,this]
  ·have:(decide (3≤s.1)&&decide (s.1≤8))=false:=by simpa using hf
   simp[hc,this,du]
 ·simp[hc]
def FE (w:Int) (v:(Int×Int×Int×Int×Int)×Bool):Prop:=(v.2=true→1≤v.1.1∧v.1.1≤64∧v.1=ee v.1.1 (cS v.1.1).1 w∧dW (cS v.1.1) v.1=w)∧(v.2=false→v.1=(0,0,0,0,0))
theorem np (w:Int) (h:0≤w) (h':w<4294967296):∃v,l5 w=some v∧wm w=some v∧FE w v:=by
 obtain⟨os,ho,hl,hs⟩:=LU 0 (by decide) (by decide)
 rw[KH,IO,ho]
 simp only[Option.bind_some,hl]
 have hz:l5.a w (0,0,0,0,0) os 65 0=l5.a w (0,0,0,0,0) os 65 1:=by
  rw[l5.a_eq,hl];rfl
 have key:∀(k n:Nat),n+k=65→1≤n→∃v,l5.a w (0,0,0,0,0) os 65 (n:Int)=some v∧wm.a w (0,0,0,0,0) (n:Int)=some v∧FE w v:=by
  intro k
  induction k with
  |zero=>
   intro n hn h1
   have:n=65:=by omega
   subst this
   rw[l5.a_eq,wm.a_eq]
   exact⟨_,rfl,rfl,(fun hh=>by cases hh),fun _=>rfl⟩
  |succ k ih=>
   intro n hn h1
   obtain⟨v,e1,e2,e3⟩:=ih (n+1) (by omega) (by omega)
   rw[qW w h h' _ os hl hs n h1 (by omega),qX w h h' _ n h1 (by omega),e1,e2]
   by_cases hc:(cS n).2.1=w%128∧dW (cS n) (ee n (cS n).1 w)=w
   ·rw[if_pos hc]
    exact⟨_,rfl,rfl,fun _=>⟨by simp only[ee];omega,by simp only[ee];omega,rfl,hc.2⟩,(fun hh=>by cases hh)⟩
   ·rw[if_neg hc]
    exact⟨v,rfl,rfl,e3⟩
 rw[show(((65:Nat)):Int)=65 by rfl,hz]
 exact key 64 1 (by omega) (by omega)
abbrev dv:Ty:= .pair (.int .i64) (.pair (.int .i64) (.pair (.int .i64) (.pair (.int .i64) (.int .i64))))
abbrev iK:Type:=Int×Int×Int×Int×Int
theorem BK (a b:ByteArray):(bu a b=true)=(a=b):=by
 unfold bu
 rw[beq_iff_eq]
 refine propext ⟨fun h=> ?_,fun h=>by rw[h]⟩
 have e:∀x:ByteArray,x.toList=x.data.toList:=by
  intro x
  have:∀(n i:Nat) (r:List UInt8),n=x.size-i→ByteArray.toList.loop x i r=r.reverse++x.data.toList.drop i:=by
   intro n
   induction n with
   |zero=>
     intro i r hn
     rw[ByteArray.toList.loop,if_neg (by omega),List.drop_eq_nil_of_le (by have:x.size=x.data.size:=rfl;simp;omega),List.append_nil]
   |succ n ih=>
    intro i r hn
    have hi:i<x.data.toList.length:=by have:x.size=x.data.size:=rfl;simp;omega
    rw[ByteArray.toList.loop,if_pos (by omega),ih (i+1) _ (by omega),List.drop_eq_getElem_cons hi]
    have:x.get! i=x.data.toList[i]:=by
     have h2:i<x.data.size:=by simpa using hi
     rw[ByteArray.get!,getElem!_pos x.data i h2];simp
    rw[this];simp
  have:=this (x.size-0) 0 [] rfl
  rw[ByteArray.toList,this];simp
 rw[e,e]at h
 have:a.data=b.data:=Array.toList_inj.mp h
 cases a;cases b;simp_all
theorem aM (a b:ByteArray):bu a b=decide (a=b):=by
 have:=BK a b
 by_cases h:a=b
 ·rw[decide_eq_true h,this.mpr h]
 ·rw[decide_eq_false h]
  cases e:bu a b
  ·rfl
  ·exact absurd (this.mp e) h
theorem ob (a b:iK):jQ dv a b=decide (a=b):=by
 obtain⟨a1,a2,a3,a4,a5⟩:=a
 obtain⟨b1,b2,b3,b4,b5⟩:=b
 simp[jQ]
def ke (t:ByteArray) (a:Nat):Nat→Nat
 |0=>0
 |n+1=>(t.data.getD a 0).toNat+256*ke t (a+1) n
theorem LW (t:ByteArray):∀(n a:Nat),ke t a n<256^n:=by
 intro n
 induction n with
 |zero=>intro a;simp[ke]
 |succ n ih=>
  intro a
  have h1:=ih (a+1)
  have h2:=(t.data.getD a 0).toNat_lt
  rw[ke,Nat.pow_succ];omega
theorem nq (t:ByteArray) (a b:Nat) (hb:b≤t.size):∀(n i:Nat),i+n≤b-a→ke (t.extract a b) i n=ke t (a+i) n:=by
 intro n
 induction n with
 |zero=>intro i _;rfl
 |succ n ih=>
  intro i h
  rw[ke,ke,ih (i+1) (by omega)]
  congr 2
  rw[ByteArray.data_extract]
  have hs:t.size=t.data.size:=rfl
  simp[Array.getD]
  rw[dif_pos (by omega),dif_pos (by omega)]
theorem HF (V b:Int) (hV:0≤V) (hb:0≤b) (hb':b≤255):gL .i64 (cE .i64 (IntKind.wrap .i64 V) 8) b=IntKind.wrap .i64 (256*V+b):=by
 have h1:cE .i64 (IntKind.wrap .i64 V) 8=IntKind.wrap .i64 (V*256):=by
  rw[lL (by decide) (by decide)]
  obtain⟨q,hq⟩:=xU V
  have e8:(2:Int)^(8:Int).toNat=256:=by decide
  rw[hq,e8,IntKind.wrap_i64,IntKind.wrap_i64];omega
 rw[h1]
 obtain⟨y,rfl⟩:=Int.eq_ofNat_of_zero_le hb
 unfold gL
 rw[BitVec.toNat_or]
 have f1:=xV (IntKind.wrap .i64 (V*256))
 have f2:(BitVec.ofInt IntKind.i64.bits (y:Int)).toNat=y:=by have:=xV (y:Int);omega
 have f3:IntKind.wrap .i64 (V*256)%18446744073709551616=V*256%18446744073709551616:=by
  rw[IntKind.wrap_i64];omega
 rw[f3]at f1
 rw[f2]
 generalize (BitVec.ofInt IntKind.i64.bits (IntKind.wrap .i64 (V*256))).toNat=x at*
 have h0:=lM x y 0 8 (by omega) (by omega)
 simp only[Nat.pow_zero,Nat.mul_one]at h0
 rw[h0,IntKind.wrap_i64,IntKind.wrap_i64]
 omega
theorem lS (n:Int):IntKind.wrap .u64 n=n%18446744073709551616:=by simp[IntKind.wrap,IntKind.bits,IntKind.signed]
theorem fR (t:ByteArray) (i:Nat):bt t (i:Int)=((t.data.getD i 0).toNat:Int):=by unfold bt;rw[Int.toNat_natCast]
theorem pT (t:ByteArray) (hz:t.size≤9223372036854775807):∀(k:Nat),k≤t.size→zj.a t (IntKind.wrap .i64 (ke t k (t.size-k))) ((k:Int)-1)=some (IntKind.wrap .i64 (ke t 0 t.size)):=by
 intro k
 induction k with
 |zero=>
  intro _
  rw[zj.a_eq];rfl
 |succ k ih=>
  intro hk
  have hs:(((k+1:Nat):Int)-1)=(k:Int):=by omega
  have hb:=vB t (k:Int)
  rw[hs,zj.a_eq,show decide ((k:Int)≥0)=true by simp,ae,decide_eq_true (show k<t.size by omega),aF (n:=bt t (k:Int)) (by omega) (by omega),HF _ _ (by omega) hb.1 hb.2,aF (n:=(k:Int)-1) (by omega) (by omega)]
  simp only[cond_true]
  have e:ke t k (t.size-k)=(t.data.getD k 0).toNat+256*ke t (k+1) (t.size-(k+1)):=by
   rw[show t.size-k=(t.size-(k+1))+1 by omega,ke]
  have ih:=ih (by omega)
  rw[e]at ih
  rw[fR,show(256:Int)*(ke t (k+1) (t.size-(k+1)):Nat)+((t.data.getD k 0).toNat:Nat)=(((t.data.getD k 0).toNat+256*ke t (k+1) (t.size-(k+1)):Nat):Int) by omega]
  exact ih
theorem gF (t:ByteArray) (hz:t.size≤9223372036854775807):zj t=some (IntKind.wrap .i64 (ke t 0 t.size)):=by
 have:=pT t hz t.size (by omega)
 rw[Nat.sub_self,show IntKind.wrap .i64 (ke t t.size 0:Nat)=0 by rfl]at this
 rw[Kz,aF (n:=(t.size:Int)-1) (by omega) (by omega)]
 exact this
theorem pU (t:ByteArray) (a n:Nat) (hz:t.size≤4611686018427387904) (han:a+n≤t.size):∀(k:Nat),k≤n→wj.a t (a:Int) (((ke t (a+k) (n-k):Nat):Int)%18446744073709551616) ((k:Int)-1)=some (IntKind.wrap .i64 (ke t a n)):=by
 intro k
 induction k with
 |zero=>
  intro _
  rw[wj.a_eq,show decide (((0:Nat):Int)-1≥0)=false by rfl]
  simp only[cond_false,Nat.add_zero,Nat.sub_zero]
  congr 1
  rw[IntKind.wrap_i64,IntKind.wrap_i64];omega
 |succ k ih=>
  intro hk
  have hs:(((k+1:Nat):Int)-1)=(k:Int):=by omega
  have hi:((a:Int)+(k:Int))=((a+k:Nat):Int):=by omega
  rw[hs,wj.a_eq,show decide ((k:Int)≥0)=true by simp,hi,aF (n:=((a+k:Nat):Int)) (by omega) (by omega),ae,decide_eq_true (show a+k<t.size by omega),aF (n:=(k:Int)-1) (by omega) (by omega)]
  simp only[cond_true]
  have e:ke t (a+k) (n-k)=(t.data.getD (a+k) 0).toNat+256*ke t (a+(k+1)) (n-(k+1)):=by
   rw[show n-k=(n-(k+1))+1 by omega,ke];rfl
  have ih:=ih (by omega)
  rw[e]at ih
  rw[fR]
  have hb:=(t.data.getD (a+k) 0).toNat_lt
  refine Eq.trans ?_ ih
  congr 1
  rw[lS,lS,lS]
  generalize (t.data.getD (a+k) 0).toNat=b at*
  generalize ke t (a+(k+1)) (n-(k+1))=L at*
  omega
theorem gG (t:ByteArray) (a n:Nat) (hz:t.size≤4611686018427387904) (han:a+n≤t.size):wj t (a:Int) (n:Int)=some (IntKind.wrap .i64 (ke t a n)):=by
 have:=pU t a n hz han n (by omega)
 rw[Nat.sub_self,show((ke t (a+n) 0:Nat):Int)%18446744073709551616=0 by rfl]at this
 rw[ID,aF (n:=(n:Int)-1) (by omega) (by omega)]
 exact this
theorem Ri (t:ByteArray) (a:Nat):0≤((ke t a 4:Nat):Int)∧((ke t a 4:Nat):Int)<4294967296:=by
 have:=LW t 4 a
 have e:256^4=4294967296:=by decide
 omega
def tD (x:iK):Prop:=1≤x.1∧x.1≤64∧kW x∧eD x=true
theorem FE.ins {w:Int} (h:0≤w) (h':w<4294967296) {v:iK×Bool} (hv:FE w v) (hb:v.2=true):tD v.1:=by
 obtain⟨h1,h2,h3,h4⟩:=hv.1 hb
 refine⟨h1,h2, ?_, ?_⟩
 ·rw[h3];exact fQ (ie h1 h2) h h'
 ·rw[h3];exact sd h1 h2 rfl h h'
theorem oc {n b:Nat} (h:n*b≤140737488355328) (h':n≤140737488355328):av n b=true:=by
 simp only[av,Bool.and_eq_true,decide_eq_true_eq];omega
inductive OS (code:ByteArray):Prop where
 |ok (l:List iK) (hi:Bs code=some (l,0,true)) (hs:Bn code=some (l,-1)) (hl:4*l.length=code.size) (hr:∀x∈l,tD x)
 |bad (k:Int) (hi:Bs code=some ([],k,false)) (hs:Bn code=some ([],k)) (h0:0≤k)
theorem vO (code:ByteArray) (h4:code.size%4=0) (hz:code.size≤1048576):OS code:=by
 have key:∀(k i:Nat) (l:List iK),4*(i+k)=code.size→l.length=i→(∀x∈l,tD x)→
   (∃l',Bs.a code l (4*i:Nat)=some (l',0,true)∧Bn.a code l (i:Int)=some (l',-1)∧4*l'.length=code.size∧∀x∈l',tD x)∨
   (∃b:Int,Bs.a code l (4*i:Nat)=some ([],b,false)∧Bn.a code l (i:Int)=some ([],b)∧0≤b):=by
  intro k
  induction k with
  |zero=>
   intro i l hk hl hr
   rw[Bs.a_eq,Bn.a_eq,aF (n:=4*(i:Int)) (by omega) (by omega),show decide (((4*i:Nat):Int)< (code.size:Int))=false by simp;omega,show decide (4*(i:Int)< (code.size:Int))=false by simp;omega]
   exact Or.inl ⟨l,rfl,rfl,by omega,hr⟩
  |succ k ih=>
   intro i l hk hl hr
   have hw:=Ri code (4*i)
   obtain⟨v,e1,e2,e3⟩:=np _ hw.1 hw.2
   have t1:zj (code.extract (4*i) (4*i+4))=some ((ke code (4*i) 4:Nat):Int):=by
    have hsz:(code.extract (4*i) (4*i+4)).size=4:=by rw[ByteArray.size_extract];omega
    rw[gF _ (by omega),hsz,nq code (4*i) (4*i+4) (by omega) 4 0 (by omega),Nat.add_zero,aF (by omega) (by omega)]
   have t2:wj code ((4*i:Nat):Int) 4=some ((ke code (4*i) 4:Nat):Int):=by
    rw[show(4:Int)=((4:Nat):Int) by rfl,gG _ _ _ (by omega) (by omega),aF (by omega) (by omega)]
   rw[Bs.a_eq,Bn.a_eq,aF (n:=4*(i:Int)) (by omega) (by omega),aF (n:=(i:Int)+1) (by omega) (by omega),aF (n:=((4*i:Nat):Int)+4) (by omega) (by omega),show 4*(i:Int)=((4*i:Nat):Int) by omega,Int.toNat_natCast,show(((4*i:Nat):Int)+4).toNat=4*i+4 by omega,t1,t2]
   rw[show decide (((4*i:Nat):Int)< (code.size:Int))=true by simp;omega,show decide ((0:Int)≤((4*i:Nat):Int))=true by simp;omega,show decide (((4*i:Nat):Int)≤((4*i:Nat):Int)+4)=true by simp;omega,show decide (((4*i:Nat):Int)+4≤(code.size:Int))=true by simp;omega]
   simp only[cond_true,Bool.and_self,Option.bind_some,e1,e2]
   cases hb:v.2 with
   |false=>
    refine Or.inr ⟨(i:Int), ?_,rfl,by omega⟩
    rw[show(((4*i:Nat):Int)).tdiv 4=(i:Int) by rw[Int.tdiv_eq_ediv_of_nonneg (by omega)];omega,aF (by omega) (by omega)];rfl
   |true=>
    have hx:=FE.ins hw.1 hw.2 e3 hb
    rw[oc (by simp;omega) (by simp;omega)]
    simp only[Bool.not_true,cond_false,cond_true]
    have ih:=ih (i+1) (l++[v.1]) (by omega) (by simp;omega) (by
     intro x hx'
     rcases List.mem_append.mp hx' with h|h
     ·exact hr x h
     ·rw[List.mem_singleton.mp h];exact hx)
    rw[show((4*(i+1):Nat):Int)=((4*i:Nat):Int)+4 by omega,show((i+1:Nat):Int)=(i:Int)+1 by omega]at ih
    exact ih
 rcases key (code.size/4) 0 [] (by omega) rfl (by simp)with⟨l,a1,a2,a3,a4⟩|⟨b,a1,a2,a3⟩
 ·exact .ok l ((Fk code).trans a1) ((E6 code).trans a2) a3 a4
 ·exact .bad b ((Fk code).trans a1) ((E6 code).trans a2) a3
theorem dD {α:Type} {c d:Prop} [Decidable c] [Decidable d] {a b b':α} (h:c↔d) (hb:b=b'):(if c then a else b)=(if d then a else b'):=by
 subst hb
 by_cases hc:c
 ·rw[if_pos hc,if_pos (h.mp hc)]
 ·rw[if_neg hc,if_neg (fun hd=>hc (h.mpr hd))]
theorem FF (f:Int) (h:16≤f∧f≤128):QF f=some [(14,1,2,0,f-8),(22,2,2,0,f),(4,0,1,0,0)]∧Qi f=some [(14,1,2,0,f-8),(22,2,2,0,f),(4,0,1,0,0)]:=by
 rw[KK,IR,aF (n:=f-8) (by omega) (by omega)];exact⟨rfl,rfl⟩
def bx (l:List iK) (f k:Int):Bool:=
 decide (2≤k)&&decide (k+2< (l.length:Int))&&decide (rd (τ:=dv) l k=((14,1,2,0,f-8):iK))&&decide (rd (τ:=dv) l (k+1)=((22,2,2,0,f):iK))&&decide (rd (τ:=dv) l (k+2)=((4,0,1,0,0):iK))
theorem HG (i:Int) (n:Nat):(ao i n=true)=(0≤i∧i< (n:Int)):=by simp[ao]
theorem inL_true {i:Int} {n:Nat} (h:0≤i) (h':i< (n:Int)):ao i n=true:=by rw[HG];exact⟨h,h'⟩
theorem dw (l:List iK) (f k:Int) (hf:16≤f∧f≤128) (hl:l.length≤1048576) (hk: -4611686018427387904≤k) (hk':k≤4611686018427387904):Hv l k f=some (bx l f k):=by
 rw[IS,(FF f hf).2,aF (n:=k+1) (by omega) (by omega),aF (n:=k+2) (by omega) (by omega)]
 simp only[Option.bind_some]
 unfold bx
 by_cases h1:2≤k
 ·by_cases h2:k+2< (l.length:Int)
  ·rw[inL_true (i:=k) (by omega) (by omega),inL_true (i:=k+1) (by omega) (by omega),inL_true (i:=k+2) (by omega) (by omega),ob,ob,ob]
   simp only[h1,h2,decide_true,cond_true,Bool.true_and]
   have e0:∀a b c:iK,rd (τ:=dv) [a,b,c] 0=a:=fun _ _ _=>rfl
   have e1:∀a b c:iK,rd (τ:=dv) [a,b,c] 1=b:=fun _ _ _=>rfl
   have e2:∀a b c:iK,rd (τ:=dv) [a,b,c] 2=c:=fun _ _ _=>rfl
   rw[e0,e1,e2]
   show(bif true then bif decide _ then(bif true then bif decide _ then(bif true then some (decide _)else none)else some false else none)else some false else none)=_
   cases decide (rd (τ:=dv) l k=((14,1,2,0,f-8):iK))<;>cases decide (rd (τ:=dv) l (k+1)=((22,2,2,0,f):iK))<;>rfl
  ·simp[h1,h2]
 ·simp[h1]
theorem HH (l:List iK) (f k:Int):(bx l f k=true→bx l f (k-1)=false)∧(bx l f k=true→bx l f (k-2)=false)∧(bx l f (k-1)=true→bx l f (k-2)=false):=by
 have e1:k-1+1=k:=by omega
 have e2:k-2+2=k:=by omega
 have e3:k-2+1=k-1:=by omega
 have e4:k-1+2=k+1:=by omega
 unfold bx
 rw[e1,e2,e3,e4]
 simp only[Bool.and_eq_true,decide_eq_true_eq]
 refine⟨?_, ?_, ?_⟩
 ·rintro⟨⟨⟨_,h⟩,_⟩,_⟩
  rw[h];simp
 ·rintro⟨⟨⟨_,h⟩,_⟩,_⟩
  rw[h];simp
 ·rintro⟨⟨⟨_,h⟩,h2⟩,_⟩
  rw[h2];simp
def qY (l:List iK) (f:Int) (n j:Int):Int:=
 if j<n∧bx l f j=true then 1 else if j-1<n∧bx l f (j-1)=true then 2 else if j-2<n∧bx l f (j-2)=true then 3 else 0
def gq (l:List iK) (f:Int) (n:Int) (E:List Int):Prop:=E.length=l.length∧∀j:Nat,j<l.length→E[j]? =some (qY l f n (j:Int))
theorem yc (a b:List iK) (hl:a.length=b.length) (hz:a.length≤1048576):∀(k j:Nat),j+k=a.length→Fm.a a b (a.length:Int) (j:Int)=some (decide (a.drop j=b.drop j)):=by
 intro k
 induction k with
 |zero=>
  intro j hj
  rw[Fm.a_eq,ab,show decide (j<a.length)=false by simp;omega,List.drop_eq_nil_of_le (by omega),List.drop_eq_nil_of_le (by omega)];rfl
 |succ k ih=>
  intro j hj
  have h1:j<a.length:=by omega
  have h2:j<b.length:=by omega
  rw[Fm.a_eq,ab,ae,ae,decide_eq_true h1,decide_eq_true h2,ah j a.length h1 (by omega),ih (j+1) (by omega)]
  simp only[cond_true]
  rw[aS (τ:=dv) a j h1,aS (τ:=dv) b j h2,ob,List.drop_eq_getElem_cons h1,List.drop_eq_getElem_cons h2]
  simp only[List.cons.injEq]
  by_cases h:a[j]=b[j]<;>simp[h]
theorem BM (a b:List iK) (hz:a.length≤1048576):Fm a b=some (decide (a=b)):=by
 rw[KJ]
 by_cases h:a.length=b.length
 ·rw[show decide ((a.length:Int)=(b.length:Int))=true by simp[h]]
  have:=yc a b h hz a.length 0 (by omega)
  rw[show((0:Nat):Int)=0 by rfl]at this
  simp only[Bool.not_true,cond_false,this,List.drop_zero]
 ·rw[show decide ((a.length:Int)=(b.length:Int))=false by simp;omega]
  simp only[Bool.not_false,cond_true]
  rw[decide_eq_false];rintro rfl;exact h rfl
theorem FG (l:List iK) (k:Nat) (hk:k+3≤l.length) (a b c:iK):decide ((l.take (k+3)).drop k=[a,b,c])=(decide (rd (τ:=dv) l k=a)&&decide (rd (τ:=dv) l ((k:Int)+1)=b)&&decide (rd (τ:=dv) l ((k:Int)+2)=c)):=by
 rw[show(k:Int)+1=((k+1:Nat):Int) by omega,show(k:Int)+2=((k+2:Nat):Int) by omega,aS (τ:=dv) l k (by omega),aS (τ:=dv) l (k+1) (by omega),aS (τ:=dv) l (k+2) (by omega)]
 rw[List.drop_take,show k+3-k=3 by omega,List.drop_eq_getElem_cons (show k<l.length by omega),List.drop_eq_getElem_cons (show k+1<l.length by omega),List.drop_eq_getElem_cons (show k+1+1<l.length by omega)]
 simp[List.take]
 rw[Bool.and_assoc]
theorem BN (at_:Int) (calls:List Int) (l:List iK) (f:Int) (hf:16≤f∧f≤128) (hl:l.length≤1048576) (h2:2≤l.length):
  ∀(k i:Nat) (E:List Int),2≤i→i+k+2=l.length→gq l f i E→∃E',gq l f l.length E'∧jv.b f l (l,f,at_,calls,E) i=jv.c l (l,f,at_,calls,E') 2:=by
 intro k
 induction k with
 |zero=>
  intro i E h2i hk hE
  refine⟨E,⟨hE.1,fun j hj=> ?_⟩, ?_⟩
  ·rw[hE.2 j hj]
   congr 1
   have out:∀m:Int,(i:Int)≤m→bx l f m=false:=by
    intro m hm
    unfold bx
    rw[show decide (m+2< (l.length:Int))=false by simp;omega];simp
   have r:∀m:Int,m< (l.length:Int)→((m< (i:Int)∧bx l f m=true)↔(m< (l.length:Int)∧bx l f m=true)):=by
    intro m hm
    constructor
    ·rintro⟨_,h⟩;exact⟨hm,h⟩
    ·rintro⟨_,h⟩
     refine⟨?_,h⟩
     by_cases hmi:m< (i:Int)
     ·exact hmi
     ·rw[out m (by omega)]at h;cases h
   unfold qY
   exact dD (r j (by omega)) (dD (r (j-1) (by omega)) (dD (r (j-2) (by omega)) rfl))
  ·rw[jv.b_eq,aF (n:=(i:Int)+3) (by omega) (by omega),show decide ((i:Int)+3≤(l.length:Int))=false by simp;omega]
   rfl
 |succ k ih=>
  intro i E h2i hk hE
  have hstep:∀E':List Int,E'.length=l.length→(∀j:Nat,j<l.length→E'[j]? =some (qY l f ((i:Int)+1) j))→∃E'',gq l f l.length E''∧jv.b f l (l,f,at_,calls,E') (((i+1:Nat)):Int)=jv.c l (l,f,at_,calls,E'') 2:=by
   intro E' h1 h2'
   exact ih (i+1) E' (by omega) (by omega) ⟨h1,fun j hj=>by rw[h2' j hj];rfl⟩
  have hEl:=hE.1
  rw[jv.b_eq,aF (n:=(i:Int)+3) (by omega) (by omega),aF (n:=(i:Int)+1) (by omega) (by omega),aF (n:=(i:Int)+2) (by omega) (by omega),(FF f hf).1,show decide ((i:Int)+3≤(l.length:Int))=true by simp;omega,show decide ((0:Int)≤(i:Int))=true by simp,show decide ((i:Int)≤(i:Int)+3)=true by simp;omega,show((i:Int)+3).toNat=i+3 by omega,Int.toNat_natCast,show((i:Int)+1).toNat=i+1 by omega,show((i:Int)+2).toNat=i+2 by omega]
  simp only[cond_true,Bool.and_self,Option.bind_some]
  rw[BM _ _ (by simp;omega),FG l i (by omega)]
  have hB:bx l f i=(decide (rd (τ:=dv) l i=((14,1,2,0,f-8):iK))&&decide (rd (τ:=dv) l ((i:Int)+1)=((22,2,2,0,f):iK))&&decide (rd (τ:=dv) l ((i:Int)+2)=((4,0,1,0,0):iK))):=by
   unfold bx
   rw[show decide (2≤(i:Int))=true by simp;omega,show decide ((i:Int)+2< (l.length:Int))=true by simp;omega];simp
  rw[←hB]
  simp only[Option.bind_some]
  cases hb:bx l f i with
  |true=>
   simp only[cond_true,letB]
   rw[inL_true (by omega) (by rw[hEl];omega),inL_true (by omega) (by rw[List.length_set,hEl];omega),inL_true (by omega) (by rw[List.length_set,List.length_set,hEl];omega)]
   simp only[cond_true]
   rw[show(i:Int)+1=((i+1:Nat):Int) by omega]
   refine hstep _ (by simp[hEl]) (fun j hj=> ?_)
   have hj':=hE.2 j hj
   rw[List.getElem?_set,List.getElem?_set,List.getElem?_set]
   simp only[List.length_set,hEl]
   unfold qY
   by_cases c2:i+2=j
   ·rw[if_pos c2,if_pos (by omega),if_neg (by omega),if_neg (by omega),if_pos ⟨by omega,by rw[show(j:Int)-2=(i:Int) by omega];exact hb⟩]
   ·rw[if_neg c2]
    by_cases c1:i+1=j
    ·rw[if_pos c1,if_pos (by omega),if_neg (by omega),if_pos ⟨by omega,by rw[show(j:Int)-1=(i:Int) by omega];exact hb⟩]
    ·rw[if_neg c1]
     by_cases c0:i=j
     ·rw[if_pos c0,if_pos (by omega),if_pos ⟨by omega,by rw[show(j:Int)=(i:Int) by omega];exact hb⟩]
     ·rw[if_neg c0,hj']
      unfold qY
      congr 1
      have r:∀m:Int,m≠(i:Int)→((m< (i:Int)∧bx l f m=true)↔(m< (i:Int)+1∧bx l f m=true)):=by
       intro m hm
       constructor
       ·rintro⟨_,h⟩;exact⟨by omega,h⟩
       ·rintro⟨_,h⟩;exact⟨by omega,h⟩
      exact dD (r j (by omega)) (dD (r (j-1) (by omega)) (dD (r (j-2) (by omega)) rfl))
  |false=>
   simp only[cond_false]
   rw[show(i:Int)+1=((i+1:Nat):Int) by omega]
   refine hstep _ hEl (fun j hj=> ?_)
   rw[hE.2 j hj]
   unfold qY
   congr 1
   have r:∀m:Int,((m< (i:Int)∧bx l f m=true)↔(m< (i:Int)+1∧bx l f m=true)):=by
    intro m
    constructor
    ·rintro⟨_,h⟩;exact⟨by omega,h⟩
    ·rintro⟨_,h⟩
     refine⟨?_,h⟩
     by_cases hmi:m=(i:Int)
     ·rw[hmi,hb]at h;cases h
     ·omega
   exact dD (r j) (dD (r (j-1)) (dD (r (j-2)) rfl))
theorem yd (l:List Int) (n:Int) (hz:l.length≤1048576):∀(k j:Nat),j+k=l.length→∃r:Int,Gp.a l n (l.length:Int) (j:Int)=some r∧decide (r≥0)=decide (n∈l.drop j)∧E7.a l n (j:Int)=some (decide (n∈l.drop j)):=by
 intro k
 induction k with
 |zero=>
  intro j hj
  rw[Gp.a_eq,E7.a_eq,ab,show decide (j<l.length)=false by simp;omega,List.drop_eq_nil_of_le (by omega)]
  exact⟨-1,rfl,by simp,by simp⟩
 |succ k ih=>
  intro j hj
  have h1:j<l.length:=by omega
  obtain⟨r,i1,i2,i3⟩:=ih (j+1) (by omega)
  rw[Gp.a_eq,E7.a_eq,ab,ae,decide_eq_true h1,ah j l.length h1 (by omega),aS (τ:= .int .i64) l j h1,List.drop_eq_getElem_cons h1]
  simp only[cond_true]
  by_cases h:n=l[j]
  ·rw[decide_eq_true h,decide_eq_true h.symm,decide_eq_true (show n∈l[j]::l.drop (j+1) by rw[h];exact List.mem_cons_self)]
   exact⟨(j:Int),rfl,by simp,rfl⟩
  ·have e:decide (n∈l[j]::l.drop (j+1))=decide (n∈l.drop (j+1)):=by simp only[List.mem_cons,h,false_or]
   rw[e,decide_eq_false h,decide_eq_false (fun q:l[j]=n=>h q.symm)]
   exact⟨r,i1,i2,i3⟩
theorem zq (l:List Int) (n:Int) (hz:l.length≤1048576):QG l n=some (decide (n∈l))∧E7 l n=some (decide (n∈l)):=by
 obtain⟨r,i1,i2,i3⟩:=yd l n hz l.length 0 (by omega)
 rw[show((0:Nat):Int)=0 by rfl]at i1 i3
 rw[KM,KL,i1,IT,i3]
 rw[Option.bind_some,i2,List.drop_zero]
 exact⟨rfl,rfl⟩
theorem pV (n:Int):Px n=some (decide (5≤n)&&decide (n≤10)):=by rw[KO,ca];rfl
theorem FH (n:Int):QH n=some (decide (11≤n)&&decide (n≤17)):=by rw[KP,ca];rfl
theorem mM (n:Int):NO n=some (decide (18≤n)&&decide (n≤21)):=by rw[KQ,ca];rfl
def jA (n:Int):Int×Bool:=
 if n=11 then(1,true)else if n=12 then(2,true)else if n=13 then(4,true)else if n=14 then(8,true)else if n=15 then(1,false)else if n=16 then(2,false)else if n=17 then(4,false)
 else if n=18 then(1,false)else if n=19 then(2,false)else if n=20 then(4,false)else if n=21 then(8,false)else(0,false)
theorem FI (n:Int) (h:1≤n) (h':n≤64):Qh n=some (jA n):=by
 rw[IQ]
 obtain⟨k,rfl⟩:=pM (show 0≤n by omega) h'
 clear h h';revert k
 decide+kernel
theorem FJ (n:Int) (h:11≤n) (h':n≤21):QI n=some (jA n):=by
 rw[KR,mM]
 have:n=11∨n=12∨n=13∨n=14∨n=15∨n=16∨n=17∨n=18∨n=19∨n=20∨n=21:=by omega
 rcases this with rfl|rfl|rfl|rfl|rfl|rfl|rfl|rfl|rfl|rfl|rfl<;>decide+kernel
theorem HI (n:Int) (h:11≤n) (h':n≤21):1≤(jA n).1∧(jA n).1≤8:=by
 have:n=11∨n=12∨n=13∨n=14∨n=15∨n=16∨n=17∨n=18∨n=19∨n=20∨n=21:=by omega
 rcases this with rfl|rfl|rfl|rfl|rfl|rfl|rfl|rfl|rfl|rfl|rfl<;>decide
theorem FK (n:Int) (h:¬(11≤n∧n≤21)):(jA n).1=0:=by
 unfold jA
 repeat rw[if_neg (by omega)]
theorem nr (n:Int) (h:1≤n) (h':n≤64):decide ((cS n).1=4)=(decide (5≤n)&&decide (n≤10)):=by
 obtain⟨k,rfl⟩:=pM (show 0≤n by omega) h'
 clear h';revert k
 decide+kernel
theorem HJ {l:List iK} {f:Int} {E:List Int} (hE:gq l f l.length E) (i:Int) (h:0≤i) (h':i< (l.length:Int)):rd (τ:= .int .i64) E i=qY l f l.length i:=by
 obtain⟨j,rfl⟩:=Int.eq_ofNat_of_zero_le h
 have:=hE.2 j (by omega)
 unfold rd
 rw[Int.toNat_natCast,List.getD_eq_getElem?_getD,this];rfl
theorem BO (l:List iK) (f i:Int) (h:i< (l.length:Int)):qY l f l.length i=if bx l f i=true then 1 else if bx l f (i-1)=true then 2 else if bx l f (i-2)=true then 3 else 0:=by
 unfold qY
 exact dD ⟨fun h=>h.2,fun hh=>⟨h,hh⟩⟩ (dD ⟨fun h=>h.2,fun hh=>⟨by omega,hh⟩⟩ (dD ⟨fun h=>h.2,fun hh=>⟨by omega,hh⟩⟩ rfl))
theorem se {l:List iK} {f:Int} {E:List Int} (hE:gq l f l.length E) (i:Int) (h:0≤i) (h':i< (l.length:Int)):
  decide (rd (τ:= .int .i64) E i=1)=bx l f i∧decide (rd (τ:= .int .i64) E i=2)=bx l f (i-1)∧decide (rd (τ:= .int .i64) E i=3)=bx l f (i-2)∧decide (rd (τ:= .int .i64) E i<2)=(!bx l f (i-1)&& !bx l f (i-2)):=by
 have hx:=HH l f i
 rw[HJ hE i h h',BO l f i h']
 cases h0:bx l f i<;>cases h1:bx l f (i-1)<;>cases h2:bx l f (i-2)<;>simp_all
theorem BP (n:Int) (h: -9223372036854775808≤n) (h':n≤9223372036854775807):IntKind.wrap .i64 (n.tdiv 4)=n.tdiv 4:=by
 have: -9223372036854775808≤n.tdiv 4∧n.tdiv 4≤9223372036854775807:=by
  rcases Int.le_total 0 n with h0|h0
  ·rw[Int.tdiv_eq_ediv_of_nonneg h0];omega
  ·have:n.tdiv 4= -((-n).tdiv 4):=by rw[Int.neg_tdiv,Int.neg_neg]
   rw[this,Int.tdiv_eq_ediv_of_nonneg (by omega)];omega
 exact aF this.1 this.2
theorem OT (n:Int) (h:n.tmod 4=0):n.tdiv 4=n/4:=by
 rw[Int.tdiv_eq_ediv_of_dvd];exact Int.dvd_iff_tmod_eq_zero.mpr h
theorem tD.imm {x:iK} (h:tD x): -2147483648≤x.2.2.2.2∧x.2.2.2.2≤2147483647:=by
 have hrv:=h.2.2.2
 have hsf:=ie h.1 h.2.1
 unfold eD at hrv
 simp only[Bool.and_eq_true]at hrv
 have hrv:=hrv.2
 generalize (cS x.1).1=ff at*
 unfold lR at hrv
 rcases gp hsf with rfl|rfl|rfl|rfl|rfl|rfl|rfl|rfl|rfl<;>simp at hrv<;>omega
theorem BQ (l:List iK) (f at_:Int) (calls E:List Int) (hE:gq l f l.length E) (hf:16≤f∧f≤128) (hl:l.length≤1048576) (i:Int) (h:0≤i) (h':i< (l.length:Int)) (hr:tD (rd (τ:=dv) l i)):
  ∃b,Pw (l,f,at_,calls,E) i=some b∧O2 l i (rd (τ:=dv) l i).2.2.2.2 f=some b:=by
 have hi:=hr.imm
 rw[KN,IU]
 dsimp only
 rw[inL_true h h']
 generalize (rd (τ:=dv) l i).2.2.2.2=m at*
 rw[BP m (by omega) (by omega)]
 by_cases h4:m.tmod 4=0
 ·rw[OT m h4,aF (n:=i+m/4) (by omega) (by omega),aF (n:=(l.length:Int)-1) (by omega) (by omega),aF (n:=i+m/4-1) (by omega) (by omega),aF (n:=i+m/4-2) (by omega) (by omega),ca,dw l f _ hf hl (by omega) (by omega),dw l f _ hf hl (by omega) (by omega)]
  simp only[h4,decide_true,cond_true,Option.bind_some]
  by_cases ha:2≤i+m/4
  ·by_cases hb:i+m/4< (l.length:Int)
   ·have he:=se hE (i+m/4) (by omega) hb
    rw[inL_true (by omega) (by rw[hE.1];exact hb),he.2.2.2,decide_eq_true ha,show decide (i+m/4≤(l.length:Int)-1)=true by simp;omega,decide_eq_true hb]
    simp only[Bool.and_self,cond_true]
    cases bx l f (i+m/4-1)<;>exact⟨_,rfl,rfl⟩
   ·rw[show decide (i+m/4≤(l.length:Int)-1)=false by simp;omega,decide_eq_false hb]
    rw[decide_eq_true ha]
    exact⟨_,rfl,rfl⟩
  ·rw[decide_eq_false ha]
   exact⟨_,rfl,rfl⟩
 ·rw[decide_eq_false h4]
  exact⟨_,rfl,rfl⟩
theorem ye (l:List iK) (f at_:Int) (calls E:List Int) (hE:gq l f l.length E) (hf:16≤f∧f≤128) (ha:0≤at_∧at_≤1048575) (hl:l.length≤1048576) (hc:calls.length≤1048576) (i:Int) (h:2≤i) (h':i< (l.length:Int)) (hr:tD (rd (τ:=dv) l i)):
  ∃b,QJ (l,f,at_,calls,E) i=some b∧Qj l i at_ f calls=some b:=by
 obtain⟨g,g1,g2⟩:=BQ l f at_ calls E hE hf hl i (by omega) h' hr
 have he:=se hE i (by omega) h'
 rw[KS,IV]
 dsimp only
 rw[inL_true (by omega) h',inL_true (by omega) (by rw[hE.1];exact h'),g1,g2,he.1,he.2.1,he.2.2.1,aF (n:=i-2) (by omega) (by omega),aF (n:=i-1) (by omega) (by omega),dw l f i hf hl (by omega) (by omega),dw l f (i-1) hf hl (by omega) (by omega),dw l f (i-2) hf hl (by omega) (by omega),(zq calls _ hc).1,(zq calls _ hc).2,FI _ hr.1 hr.2.1,eC _ (by have:=hr.1;omega) hr.2.1,pV,FH,mM]
 have hbf:=nr _ hr.1 hr.2.1
 simp only[Option.bind_some,cond_true,ax,hbf,ca]
 clear g1 g2 he hr hE hbf
 generalize bx l f i=B0 at*
 generalize bx l f (i-1)=B1 at*
 generalize bx l f (i-2)=B2 at*
 obtain⟨x,hx⟩:∃x:iK,rd (τ:=dv) l i=x:=⟨_,rfl⟩
 rw[hx]at*
 clear hx
 obtain⟨n,d,a,b,m⟩:=x
 dsimp only at*
 have hw:=FJ n
 have hwp:=HI n
 have hwz:=FK n
 by_cases h4:n=4
 ·subst h4
  simp only[decide_true,cond_true]
  cases B2<;>exact⟨_,rfl,rfl⟩
 ·rw[decide_eq_false h4]
  simp only[cond_false]
  by_cases h3:n=3
  ·subst h3
   simp only[decide_true,cond_true]
   by_cases hd:d=1
   ·rw[decide_eq_true hd]
    cases decide (IntKind.wrap .i64 (IntKind.wrap .i64 (at_+IntKind.wrap .i64 (4*i))+m)∈calls)<;>exact⟨_,rfl,rfl⟩
   ·rw[decide_eq_false hd]
    cases decide (d=0)<;>cases g<;>exact⟨_,rfl,rfl⟩
  ·rw[decide_eq_false h3]
   simp only[cond_false]
   cases hb:(decide (5≤n)&&decide (n≤10))with
   |true=>cases g<;>exact⟨_,rfl,rfl⟩
   |false=>
    simp only[cond_false]
    have hm:0≤(jA n).1∧(jA n).1≤8:=by
     by_cases q:11≤n∧n≤21
     ·have:=hwp q.1 q.2;omega
     ·rw[hwz q];decide
    rw[aF (n:=f-8) (by omega) (by omega),aF (n:=f-8-(jA n).1) (by omega) (by omega)]
    by_cases q:11≤n∧n≤21
    ·have hwn:=hwp q.1 q.2
     rw[hw q.1 q.2]
     simp only[Option.bind_some]
     rw[aF (n:=f-8-(jA n).1) (by omega) (by omega),show decide ((jA n).1>0)=true by simp;omega,show decide ((jA n).1=0)=false by simp;omega]
     have hls:(bif (decide (11≤n)&&decide (n≤17))then true else(decide (18≤n)&&decide (n≤21)))=true:=by
      by_cases q2:n≤17
      ·simp[q.1,q2]
      ·rw[decide_eq_false q2,show decide (18≤n)=true by simp;omega,decide_eq_true q.2];simp
     have hm2:(decide (0≤m)&&decide (m≤f-8-(jA n).1))=(!decide (m<0)&& !decide (m>f-8-(jA n).1)):=by
      by_cases z1:m<0<;>by_cases z2:m>f-8-(jA n).1<;>simp[z1,z2]<;>omega
     rw[hm2]
     clear hm hw hwp hwz hwn hm2 hb
     generalize (decide (11≤n)&&decide (n≤17))=L at*
     generalize (decide (18≤n)&&decide (n≤21))=S at*
     generalize decide (m<0)=z1
     generalize decide (m>f-8-(jA n).1)=z2
     generalize decide (m.tmod (jA n).1=0)=z3
     generalize decide (d=1)=z4
     generalize decide (d=2)=z5
     generalize decide (a=2)=z6
     cases L<;>cases S<;>first|(cases hls;done)|(cases z4<;>cases z5<;>cases B0<;>cases B1<;>first|exact⟨_,rfl,rfl⟩|(cases z6<;>first|exact⟨_,rfl,rfl⟩|(cases z1<;>cases z2<;>cases z3<;>exact⟨_,rfl,rfl⟩)))
    ·have hls1:(decide (11≤n)&&decide (n≤17))=false:=by
      by_cases q1:11≤n
      ·rw[show decide (n≤17)=false by simp;omega];simp
      ·simp[q1]
     have hls2:(decide (18≤n)&&decide (n≤21))=false:=by
      by_cases q1:18≤n
      ·rw[show decide (n≤21)=false by simp;omega];simp
      ·simp[q1]
     rw[hls1,hls2,hwz q]
     cases decide (d=1)<;>cases decide (d=2)<;>cases B0<;>cases B1<;>exact⟨_,rfl,rfl⟩
def dm (f:Int):Bool:=bif decide (16≤f)&&decide (f≤128)then decide (f.tmod 16=0)else false
theorem eE (f:Int):OM f=some (dm f)∧OH f=some (dm f):=by
 rw[Kv,IB,ca,eP]
 simp only[Option.bind_some,dm]
 cases (decide (16≤f)&&decide (f≤128))<;>exact⟨rfl,rfl⟩
theorem tE {f:Int} (h:dm f=true):16≤f∧f≤128:=by
 unfold dm at h
 cases hb:(decide (16≤f)&&decide (f≤128))with
 |true=>simpa using hb
 |false=>rw[hb]at h;cases h
def bT (a:Int):Bool:=bif decide (0≤a)&&decide (a≤1048575)then decide (a.tmod 4=0)else false
theorem kX (a:Int):Pq a=some (bT a):=by
 rw[Ky,ca]
 simp only[Option.bind_some,bT]
 cases (decide (0≤a)&&decide (a≤1048575))<;>rfl
theorem kx {a:Int} (h:bT a=true):0≤a∧a≤1048575:=by
 unfold bT at h
 cases hb:(decide (0≤a)&&decide (a≤1048575))with
 |true=>simpa using hb
 |false=>rw[hb]at h;cases h
def cj (n:Nat):Bool:=bif decide ((n:Int).tmod 4=0)then decide ((n:Int)≤256)else false
theorem lT (t:ByteArray):QD t=some (cj t.size)∧Qe t=some (cj t.size):=by
 rw[Kw,IC]
 unfold cj
 cases decide ((t.size:Int).tmod 4=0)<;>exact⟨rfl,rfl⟩
theorem fb {n:Nat} (h:cj n=true):n%4=0∧n≤256:=by
 unfold cj at h
 cases hb:decide ((n:Int).tmod 4=0)with
 |true=>
  rw[hb]at h
  simp only[cond_true,decide_eq_true_eq]at h hb
  rw[Int.tmod_eq_emod_of_nonneg (by omega)]at hb
  omega
 |false=>rw[hb]at h;cases h
def bf (n:Nat):Bool:=bif cj n then decide ((n:Int)≥20)else false
theorem iL (t:ByteArray):Pp t=some (bf t.size):=by
 rw[Kx,(lT t).1]
 simp only[Option.bind_some,bf]
 cases cj t.size<;>rfl
theorem yf (l:List iK) (f at_:Int) (calls E:List Int) (hE:gq l f l.length E) (hf:16≤f∧f≤128) (ha:0≤at_∧at_≤1048575) (hl:l.length≤1048576) (hc:calls.length≤1048576) (hr:∀x∈l,tD x):
  ∀(k i:Nat),2≤i→i+k=l.length→∃v,jv.c l (l,f,at_,calls,E) i=some v∧qj.b at_ f calls l ((l.length:Int)-1) i=some v:=by
 intro k
 induction k with
 |zero=>
  intro i h2 hk
  rw[jv.c_eq,qj.b_eq,ab,show decide (i<l.length)=false by simp;omega,show decide ((i:Int)≤(l.length:Int)-1)=false by simp;omega]
  exact⟨_,rfl,rfl⟩
 |succ k ih=>
  intro i h2 hk
  obtain⟨v,v1,v2⟩:=ih (i+1) (by omega) (by omega)
  have hi:i<l.length:=by omega
  obtain⟨b,b1,b2⟩:=ye l f at_ calls E hE hf ha hl hc i (by omega) (by omega) (by rw[aS (τ:=dv) l i hi];exact hr _ (List.getElem_mem hi))
  rw[jv.c_eq,qj.b_eq,ab,decide_eq_true hi,show decide ((i:Int)≤(l.length:Int)-1)=true by simp;omega,b1,b2,ah i l.length hi (by omega),v1,v2]
  simp only[cond_true,Option.bind_some]
  cases decide (b=0)<;>exact⟨_,rfl,rfl⟩
theorem sf (code:ByteArray) (at_ f:Int) (calls:List Int) (hz:code.size≤1048576) (hc:calls.length≤1048576):∃v,jv code at_ f calls=some v∧qj code at_ f calls=some v:=by
 rw[Fo,IW,kX,eP,(eE f).1,(eE f).2,iL,(lT code).2]
 simp only[Option.bind_some,ax]
 have ec:(bif !(decide (0≤at_)&&decide (at_≤1048575))then true else !decide (at_.tmod 4=0))= !bT at_:=by
  unfold bT;cases (decide (0≤at_)&&decide (at_≤1048575))<;>rfl
 cases hA:bT at_ with
 |false=>
  unfold bT at hA
  cases hq:(decide (0≤at_)&&decide (at_≤1048575))with
  |false=>exact⟨_,rfl,rfl⟩
  |true=>rw[hq]at hA;simp only[cond_true]at hA;rw[hA];exact⟨_,rfl,rfl⟩
 |true=>
  have ha:=kx hA
  have hq:(decide (0≤at_)&&decide (at_≤1048575))=true:=by simp[ha]
  have h4:decide (at_.tmod 4=0)=true:=by unfold bT at hA;rw[hq]at hA;exact hA
  rw[hq,h4]
  simp only[Bool.not_true,cond_false]
  cases hF:dm f with
  |false=>exact⟨_,rfl,rfl⟩
  |true=>
   have hf:=tE hF
   simp only[Bool.not_true,cond_false]
   cases hS:cj code.size with
   |false=>unfold bf;rw[hS];exact⟨_,rfl,rfl⟩
   |true=>
    have hs:=fb hS
    unfold bf
    rw[hS]
    simp only[Bool.not_true,cond_false,cond_true]
    by_cases h20:(code.size:Int)≥20
    ·rw[decide_eq_true h20,show decide ((code.size:Int)<20)=false by simp;omega]
     simp only[Bool.not_true,cond_false]
     cases vO code hs.1 (by omega)with
     |bad k hi hsp h0=>
      rw[hi,hsp]
      simp only[Option.bind_some,Bool.not_false,cond_true]
      rw[decide_eq_true (show k≥0 from h0)]
      exact⟨_,rfl,rfl⟩
     |ok l hi hsp hll hr=>
      rw[hi,hsp,KI]
      simp only[Option.bind_some,Bool.not_true,cond_false]
      rw[show decide ((-1:Int)≥0)=false by rfl]
      simp only[cond_false]
      have hl5:5≤l.length:=by omega
      have hl64:l.length≤64:=by omega
      have last:∃v,jv.a at_ f calls l [(22,2,2,0,(IntKind.wrap .i64 (0-f))),(21,0,2,1,(IntKind.wrap .i64 (f-8)))] 2 2=some v∧qj.a at_ f calls l 2=some v:=by
       rw[jv.a_eq,qj.a_eq]
       rw[show decide ((2:Int)<2)=false by rfl]
       simp only[cond_false,ax]
       rw[aF (n:=(l.length:Int)-1) (by omega) (by omega),inL_true (by omega) (by omega),oc (by rw[Int.toNat_natCast];omega) (by rw[Int.toNat_natCast];omega),show decide ((0:Int)≤(l.length:Int))=true by simp,Int.toNat_natCast]
       simp only[cond_true,Bool.and_self]
       obtain⟨E,hE,e⟩:=BN at_ calls l f hf (by omega) (by omega) (l.length-4) 2 (List.replicate l.length 0) (by omega) (by omega) ⟨by simp,fun j hj=>by
        rw[List.getElem?_replicate,if_pos hj]
        unfold qY
        have z:∀m:Int,m< ((2:Nat):Int)→bx l f m=false:=by
         intro m hm
         unfold bx
         rw[show decide (2≤m)=false by simp;omega];simp
        rw[if_neg (fun h=>by rw[z _ h.1]at h;cases h.2),if_neg (fun h=>by rw[z _ h.1]at h;cases h.2),if_neg (fun h=>by rw[z _ h.1]at h;cases h.2)]⟩
       rw[show((2:Nat):Int)=2 by rfl]at e
       rw[e]
       obtain⟨v,v1,v2⟩:=yf l f at_ calls E hE hf ha (by omega) (by omega) hr (l.length-2) 2 (by omega) (by omega)
       rw[show((2:Nat):Int)=2 by rfl]at v1 v2
       rw[v1,v2]
       cases decide ((rd (τ:=dv) l ((l.length:Int)-1)).1=4)<;>cases decide ((rd (τ:=dv) l ((l.length:Int)-1)).1=3)<;>cases decide ((rd (τ:=dv) l ((l.length:Int)-1)).2.1=0)<;>exact⟨_,rfl,rfl⟩
      have step:∀(j:Nat),j<2→(∃v,jv.a at_ f calls l [(22,2,2,0,(IntKind.wrap .i64 (0-f))),(21,0,2,1,(IntKind.wrap .i64 (f-8)))] 2 ((j+1:Nat):Int)=some v∧qj.a at_ f calls l ((j+1:Nat):Int)=some v)→
        ∃v,jv.a at_ f calls l [(22,2,2,0,(IntKind.wrap .i64 (0-f))),(21,0,2,1,(IntKind.wrap .i64 (f-8)))] 2 (j:Int)=some v∧qj.a at_ f calls l (j:Int)=some v:=by
       rintro j hj ⟨v,v1,v2⟩
       rw[jv.a_eq,qj.a_eq,show decide ((j:Int)<2)=true by simp;omega,inL_true (i:=(j:Int)) (by omega) (by simp;omega),inL_true (i:=(j:Int)) (by omega) (by omega),aF (n:=(j:Int)+1) (by omega) (by omega),show(j:Int)+1=((j+1:Nat):Int) by omega,v1,v2,IP]
       simp only[cond_true,Option.bind_some]
       rw[inL_true (i:=(j:Int)) (by omega) (by simp;omega)]
       simp only[cond_true]
       cases jQ dv (rd (τ:=dv) l (j:Int)) (rd (τ:=dv) [(22,2,2,0,(IntKind.wrap .i64 (0-f))),(21,0,2,1,(IntKind.wrap .i64 (f-8)))] (j:Int))<;>exact⟨_,rfl,rfl⟩
      exact step 0 (by omega) (step 1 (by omega) last)
    ·rw[decide_eq_false h20,show decide ((code.size:Int)<20)=true by simp;omega]
     exact⟨_,rfl,rfl⟩
abbrev bO:Ty:= .pair .str (.pair (.int .i64) (.pair (.int .i64) (.pair (.int .i64) (.int .i64))))
abbrev nG:Type:=ByteArray×Int×Int×Int×Int
abbrev gH:Type:=ByteArray×ByteArray×List nG
noncomputable def cf (t:ByteArray):Bool:=(n6 t).getD false
theorem LX (t:ByteArray):n6 t=some (cf t):=by
 obtain⟨v,h1⟩:=rW t
 unfold cf
 rw[h1];rfl
theorem dz (t:ByteArray):n6 t=some (cf t)∧Zx t=some (cf t):=by
 obtain⟨v,h1,h2⟩:=Bw t
 unfold cf
 rw[h1,h2];exact⟨rfl,rfl⟩
def kY (l:List nG) (name:ByteArray):Bool:=l.any fun y=>decide (y.1=name)
theorem vQ {y:nG} {l:List nG} {n:ByteArray} (h:y.1=n):kY (y::l) n=true:=by simp[kY,h]
theorem vR {y:nG} {l:List nG} {n:ByteArray} (h:¬y.1=n):kY (y::l) n=kY l n:=by simp[kY,h]
theorem FL (e:Int×Int) (im:gH) (s:nG) (l:List nG) (hl:l.length≤16):∀(k j:Nat),j+k=l.length→CR.a e im s l (l.length:Int) (j:Int)=if kY (l.drop j) s.1=true then some (24,e)else CR.a e im s l (l.length:Int) (l.length:Int):=by
 intro k
 induction k with
 |zero=>
   intro j h;have:j=l.length:=by omega
   subst this;simp[kY]
 |succ k ih=>
  intro j h
  have hj:j<l.length:=by omega
  rw[CR.a_eq,ab,ae,decide_eq_true hj,ah j l.length hj (by omega),ih (j+1) (by omega),aS (τ:=bO) l j hj,aM,List.drop_eq_getElem_cons hj]
  by_cases hn:l[j].1=s.1
  ·rw[vQ hn,decide_eq_true hn];rfl
  ·rw[vR hn,decide_eq_false hn];rfl
theorem FM (im:gH) (c d:Int) (i:Nat) (s:nG) (hi:i≤im.2.2.length) (hl:im.2.2.length≤16):∀(k j:Nat),j+k=i→Zy.b im c d (i:Int) s (j:Int)=if kY ((im.2.2.take i).drop j) s.1=true then some ((i:Int),24)else Zy.b im c d (i:Int) s (i:Int):=by
 intro k
 induction k with
 |zero=>
   intro j h;have:j=i:=by omega
   subst this;simp[kY]
 |succ k ih=>
  intro j h
  have hj:j<i:=by omega
  rw[Zy.b_eq,ab,ae,decide_eq_true hj,decide_eq_true (show j<im.2.2.length by omega),ah j i hj (by omega),ih (j+1) (by omega),aS (τ:=bO) im.2.2 j (by omega),aM,List.drop_eq_getElem_cons (show j< (im.2.2.take i).length by simp;omega)]
  have hg:(im.2.2.take i)[j]'(by simp;omega)=im.2.2[j]:=List.getElem_take
  rw[hg]
  by_cases hn:im.2.2[j].1=s.1
  ·rw[vQ hn,decide_eq_true hn];rfl
  ·rw[vR hn,decide_eq_false hn];rfl
noncomputable def eQ (im:gH) (i:Nat) (s:nG) (e:Int×Int):Int×Int×Int:=
 if cf s.1=false then(3,e)
 else if kY (im.2.2.take i) s.1=true then(24,e)
 else if s.2.1=1 then
  if s.2.2.1=e.1∧1≤s.2.2.2.1∧s.2.2.2.1≤(im.1.size:Int)-e.1 then(0,s.2.2.1+s.2.2.2.1,e.2)else(4,e)
 else if s.2.1=2 then
  if e.2≤s.2.2.1∧s.2.2.1≤(im.2.1.size:Int)∧s.2.2.1%8=0∧s.2.2.2.1%8=0∧1≤s.2.2.2.1∧s.2.2.2.1≤(im.2.1.size:Int)-s.2.2.1 then
   if s.2.2.2.2=0 then(0,e.1,s.2.2.1+s.2.2.2.1)else(17,e.1,s.2.2.1+s.2.2.2.1)
  else(4,e)
 else(26,e)
structure si (im:gH) (e:Int×Int):Prop where
 c:0≤e.1∧e.1≤(im.1.size:Int)
 d:0≤e.2∧e.2≤(im.2.1.size:Int)
structure ky (im:gH):Prop where
 n:im.2.2.length≤16
 c:im.1.size≤1024
 d:im.2.1.size≤256
theorem FN {n:Int}:decide (n.tmod 8=0)=decide (n%8=0):=by
 congr 1;exact propext ⟨fun h=>by rw[←Int.dvd_iff_tmod_eq_zero]at h;omega,fun h=>by rw[←Int.dvd_iff_tmod_eq_zero];omega⟩
theorem yg (im:gH) (hz:ky im) (i:Nat) (hi:i<im.2.2.length) (e:Int×Int) (he:si im e):CR im i e=some (eQ im i im.2.2[i] e):=by
 obtain⟨hn,hc,hd⟩:=hz
 rw[Ks,ae,decide_eq_true hi,aS (τ:=bO) im.2.2 i hi,LX _,Int.toNat_natCast,show(Int.toNat 0)=0 by rfl,List.drop_zero,show decide ((0:Int)≤(i:Int))=true by simp,show decide ((i:Int)≤(im.2.2.length:Int))=true by simp;omega]
 simp only[cond_true,Bool.and_self,Nat.le_refl,decide_true,Option.bind_some]
 have hlt:(im.2.2.take i).length=i:=by simp;omega
 have hd':=FL e im im.2.2[i] (im.2.2.take i) (by omega) i 0 (by omega)
 rw[hlt,show((0:Nat):Int)=0 by rfl,List.drop_zero]at hd'
 rw[hlt,hd',CR.a_eq,show decide ((i:Int)< (i:Int))=false by simp]
 obtain⟨s,hs⟩:∃s:nG,im.2.2[i]=s:=⟨_,rfl⟩
 rw[hs]
 obtain⟨nm,kd,at_,sz,fr⟩:=s
 obtain⟨ec,ed⟩:=e
 obtain⟨⟨hc1,hc2⟩,⟨hd1,hd2⟩⟩:=he
 dsimp only at*
 unfold eQ
 dsimp only
 simp only[cond_false,ca,Option.bind_some,ax]
 cases cf nm with
 |false=>rfl
 |true=>
  simp only[Bool.not_true,cond_false,Bool.true_eq_false,↓reduceIte]
  by_cases hdup:kY (im.2.2.take i) nm=true
  ·rw[if_pos hdup,if_pos hdup]
  ·rw[if_neg hdup,if_neg hdup]
   by_cases k1:kd=1
   ·rw[decide_eq_true k1,if_pos k1]
    simp only[cond_true]
    by_cases h1:at_=ec
    ·subst h1
     rw[aF (n:=(im.1.size:Int)-at_) (by omega) (by omega)]
     simp only[decide_true,Bool.not_true,cond_false]
     by_cases h2:1≤sz∧sz≤(im.1.size:Int)-at_
     ·rw[if_pos ⟨trivial,h2⟩,decide_eq_true h2.1,decide_eq_true h2.2,aF (n:=at_+sz) (by omega) (by omega)];rfl
     ·rw[if_neg (fun hh=>h2 hh.2),show(decide (1≤sz)&&decide (sz≤(im.1.size:Int)-at_))=false by simpa using h2];rfl
    ·rw[decide_eq_false h1,if_neg (fun hh=>h1 hh.1)];rfl
   ·rw[decide_eq_false k1,if_neg k1]
    simp only[cond_false]
    by_cases k2:kd=2
    ·rw[decide_eq_true k2,if_pos k2,FN,FN]
     simp only[cond_true]
     by_cases h1:ed≤at_∧at_≤(im.2.1.size:Int)
     ·rw[aF (n:=(im.2.1.size:Int)-at_) (by omega) (by omega),decide_eq_true h1.1,decide_eq_true h1.2]
      simp only[Bool.and_self,Bool.not_true,cond_false]
      by_cases h2:at_%8=0
      ·by_cases h3:sz%8=0
       ·by_cases h4:1≤sz∧sz≤(im.2.1.size:Int)-at_
        ·rw[if_pos ⟨h1.1,h1.2,h2,h3,h4⟩,decide_eq_true h2,decide_eq_true h3,decide_eq_true h4.1,decide_eq_true h4.2,aF (n:=at_+sz) (by omega) (by omega)]
         by_cases h5:fr=0
         ·rw[decide_eq_true h5,if_pos h5];rfl
         ·rw[decide_eq_false h5,if_neg h5];rfl
        ·rw[if_neg (fun hh=>h4 hh.2.2.2.2),decide_eq_true h2,decide_eq_true h3,show(decide (1≤sz)&&decide (sz≤(im.2.1.size:Int)-at_))=false by simpa using h4];rfl
       ·rw[if_neg (fun hh=>h3 hh.2.2.2.1),decide_eq_true h2,decide_eq_false h3];rfl
      ·rw[if_neg (fun hh=>h2 hh.2.2.1),decide_eq_false h2];rfl
     ·rw[if_neg (fun hh=>h1 ⟨hh.1,hh.2.1⟩),show(decide (ed≤at_)&&decide (at_≤(im.2.1.size:Int)))=false by simpa using h1];rfl
    ·rw[decide_eq_false k2,if_neg k2];rfl
theorem yh (im:gH) (hz:ky im) (i:Nat) (hi:i<im.2.2.length) (e:Int×Int) (he:si im e):Zy.a im e.1 e.2 i=if(eQ im i im.2.2[i] e).1=0 then Zy.a im (eQ im i im.2.2[i] e).2.1 (eQ im i im.2.2[i] e).2.2 ((i+1:Nat):Int)else some ((i:Int),(eQ im i im.2.2[i] e).1):=by
 obtain⟨hn,hc,hd⟩:=hz
 rw[Zy.a_eq,ae,ab,decide_eq_true hi,aS (τ:=bO) im.2.2 i hi,(dz _).2]
 simp only[cond_true,Option.bind_some]
 have hd':=FM im e.1 e.2 i im.2.2[i] (by omega) hn i 0 (by omega)
 rw[show((0:Nat):Int)=0 by rfl,List.drop_zero]at hd'
 rw[hd',Zy.b_eq,show decide ((i:Int)< (i:Int))=false by simp,ah i im.2.2.length hi (by omega)]
 obtain⟨s,hs⟩:∃s:nG,im.2.2[i]=s:=⟨_,rfl⟩
 rw[hs]
 obtain⟨nm,kd,at_,sz,fr⟩:=s
 obtain⟨ec,ed⟩:=e
 obtain⟨⟨hc1,hc2⟩,⟨hd1,hd2⟩⟩:=he
 dsimp only at*
 unfold eQ
 dsimp only
 simp only[cond_false]
 cases cf nm with
 |false=>rfl
 |true=>
  simp only[Bool.not_true,cond_false]
  by_cases hdup:kY (im.2.2.take i) nm=true
  ·simp[hdup]
  ·simp only[hdup,if_false,Bool.false_eq_true]
   by_cases k1:kd=1
   ·simp only[k1,decide_true,cond_true,if_true]
    by_cases h1:at_=ec
    ·rw[←h1,aF (n:=(im.1.size:Int)-at_) (by omega) (by omega)]
     by_cases h2:1≤sz
     ·by_cases h3:sz≤(im.1.size:Int)-at_
      ·rw[aF (n:=at_+sz) (by omega) (by omega)]
       simp[h2,h3,show¬sz<1 by omega,show¬(im.1.size:Int)-at_<sz by omega]
      ·simp[h3,show¬sz<1 by omega,show(im.1.size:Int)-at_<sz by omega]
     ·simp[h2,show sz<1 by omega]
    ·simp[h1]
   ·simp only[k1,decide_false,cond_false,if_false]
    by_cases k2:kd=2
    ·simp only[k2,decide_true,cond_true,if_true,FN]
     by_cases h1:ed≤at_
     ·by_cases h1':at_≤(im.2.1.size:Int)
      ·rw[aF (n:=(im.2.1.size:Int)-at_) (by omega) (by omega),show decide (at_<ed)=false by simp;omega,show decide (at_>(im.2.1.size:Int))=false by simp;omega]
       simp only[cond_false]
       by_cases h4:1≤sz
       ·by_cases h5:sz≤(im.2.1.size:Int)-at_
        ·rw[show decide (sz<1)=false by simp;omega,show decide (sz>(im.2.1.size:Int)-at_)=false by simp;omega,aF (n:=at_+sz) (by omega) (by omega)]
         by_cases h2:at_%8=0
         ·by_cases h3:sz%8=0
          ·by_cases h6:fr=0<;>simp[h1,h1',h2,h3,h4,h5,h6]
          ·simp[h2,h3]
         ·simp[h2]
        ·simp[h5,show¬sz<1 by omega,show(im.2.1.size:Int)-at_<sz by omega]
       ·simp[h4,show sz<1 by omega]
      ·simp[h1',show¬at_<ed by omega,show(im.2.1.size:Int)<at_ by omega]
     ·simp[h1,show at_<ed by omega]
    ·simp[k2]
theorem yi {im:gH} {i:Nat} {s:nG} {e:Int×Int} (he:si im e) (h:(eQ im i s e).1=0):si im (eQ im i s e).2:=by
 obtain⟨nm,kd,at_,sz,fr⟩:=s
 obtain⟨ec,ed⟩:=e
 obtain⟨⟨c1,c2⟩,⟨d1,d2⟩⟩:=he
 dsimp only at*
 unfold eQ at h⊢
 dsimp only at*
 split at h<;>(try (cases h;done))
 split at h<;>(try (cases h;done))
 rename_i n1 n2
 rw[if_neg n1,if_neg n2]
 split at h
 ·rename_i k1
  rw[if_pos k1]
  split at h<;>(try (cases h;done))
  rename_i hh
  rw[if_pos hh]
  exact⟨⟨by dsimp only;omega,by dsimp only;omega⟩,⟨d1,d2⟩⟩
 ·rename_i k1
  rw[if_neg k1]
  split at h
  ·rename_i k2
   rw[if_pos k2]
   split at h<;>(try (cases h;done))
   rename_i hh
   rw[if_pos hh]
   split at h<;>(try (cases h;done))
   rename_i h3
   rw[if_pos h3]
   exact⟨⟨c1,c2⟩,⟨by dsimp only;omega,by dsimp only;omega⟩⟩
  ·cases h
def jW (im:gH) (n:Nat) (E:Nat→Int×Int):Prop:=E 0=(0,0)∧(∀i,i≤n→si im (E i))∧∀(i:Nat) (h:i<im.2.2.length),i<n→eQ im i im.2.2[i] (E i)=(0,E (i+1))
def LY (im:gH) (e:Int×Int):Int:=if im.2.2.length=0 then 23 else if(rd (τ:=bO) im.2.2 0).2.1≠1 then 23 else if e.1≠(im.1.size:Int)then 22 else 0
theorem BR (im:gH) (hz:ky im):∀(k i:Nat) (E:Nat→Int×Int),i+k=im.2.2.length→jW im i E→
  (∃n c:Int,c≠0∧n7.a im (E i) (im.2.2.length:Int) i=some (n,0,c)∧Zy.a im (E i).1 (E i).2 i=some (n,c))∨
  (∃E',jW im im.2.2.length E'∧n7.a im (E i) (im.2.2.length:Int) i=n7.a im (E' im.2.2.length) (im.2.2.length:Int) (im.2.2.length:Int)∧Zy.a im (E i).1 (E i).2 i=some (0,LY im (E' im.2.2.length))):=by
 intro k
 induction k with
 |zero=>
  intro i E hk hE
  have:i=im.2.2.length:=by omega
  subst this
  refine Or.inr ⟨E,hE,rfl, ?_⟩
  rw[Zy.a_eq,ab]
  simp only[Nat.lt_irrefl,decide_false,cond_false,LY]
  by_cases h0:im.2.2.length=0
  ·simp[h0]
  ·rw[inL_true (i:=0) (by omega) (by omega),show decide ((im.2.2.length:Int)=0)=false from decide_eq_false (by omega),if_neg h0]
   simp only[cond_false,cond_true]
   by_cases h1:(rd (τ:=bO) im.2.2 0).2.1=1
   ·simp only[h1,decide_true,Bool.not_true,cond_false,ne_eq,not_true_eq_false,↓reduceIte]
    by_cases h2:(E im.2.2.length).1=(im.1.size:Int)
    ·simp[h2]
    ·simp[h2]
   ·simp[h1]
 |succ k ih=>
  intro i E hk hE
  have hi:i<im.2.2.length:=by omega
  have he:=hE.2.1 i (Nat.le_refl _)
  rw[n7.a_eq,ab,decide_eq_true hi,yg im hz i hi (E i) he,yh im hz i hi (E i) he,ah i im.2.2.length hi (by have:=hz.n;omega)]
  simp only[cond_true,Option.bind_some]
  by_cases h0:(eQ im i im.2.2[i] (E i)).1=0
  ·rw[decide_eq_true h0,if_pos h0]
   simp only[Bool.not_true,cond_false]
   have hends:=yi he h0
   have hch:jW im (i+1) (fun j=>if j=i+1 then(eQ im i im.2.2[i] (E i)).2 else E j):=by
    have ev:∀(j:Nat),(fun j=>if j=i+1 then(eQ im i im.2.2[i] (E i)).2 else E j) j=if j=i+1 then(eQ im i im.2.2[i] (E i)).2 else E j:=fun _=>rfl
    refine⟨by rw[ev,if_neg (by omega)];exact hE.1,fun j hj=> ?_,fun j hj hj'=> ?_⟩<;>simp only
    ·by_cases hji:j=i+1
     ·rw[if_pos hji];exact hends
     ·rw[if_neg hji];exact hE.2.1 j (by omega)
    ·rw[if_neg (by omega)]
     by_cases hji:j=i
     ·subst hji
      rw[if_pos rfl,←h0]
     ·rw[if_neg (by omega)];exact hE.2.2 j hj (by omega)
   have:=ih (i+1) _ (by omega) hch
   simp only[↓reduceIte]at this
   exact this
  ·rw[decide_eq_false h0,if_neg h0]
   exact Or.inl ⟨_,_,h0,rfl,rfl⟩
theorem pW (s:nG):∃v,Kt s=some v∧Zz s=some v:=by
 rw[xS,H6]
 cases decide (s.2.1=1)<;>exact⟨_,rfl,rfl⟩
theorem pX (im:gH) (hz:ky im):∃l,CS im=some l∧Cq im.2.2=some l∧l.length≤16:=by
 have key:∀(k i:Nat) (l:List Int),i+k=im.2.2.length→l.length≤i→∃l',CS.a l im.2.2 (im.2.2.length:Int) i=some l'∧Cq.a im.2.2 l i=some l'∧l'.length≤im.2.2.length:=by
  intro k
  induction k with
  |zero=>
   intro i l hk hl
   rw[CS.a_eq,Cq.a_eq,ab,decide_eq_false (show¬i<im.2.2.length by omega)]
   exact⟨l,rfl,rfl,by omega⟩
  |succ k ih=>
   intro i l hk hl
   have hi:i<im.2.2.length:=by omega
   have hn:=hz.n
   rw[CS.a_eq,Cq.a_eq,ab,ae,decide_eq_true hi,ah i _ hi (by omega)]
   simp only[cond_true]
   obtain⟨v,v1,v2⟩:=pW (rd (τ:=bO) im.2.2 i)
   obtain⟨l1,a1,a2,a3⟩:=ih (i+1) l (by omega) (by omega)
   obtain⟨l2,b1,b2,b3⟩:=ih (i+1) (l++[v]) (by omega) (by simp;omega)
   rw[v1,v2]
   simp only[Option.bind_some]
   rw[oc (by simp;omega) (by simp;omega),a1,a2,b1,b2]
   cases decide ((rd (τ:=bO) im.2.2 i).2.1=1)
   ·exact⟨l1,rfl,rfl,a3⟩
   ·exact⟨l2,rfl,rfl,b3⟩
 obtain⟨l,h1,h2,h3⟩:=key im.2.2.length 0 [] (by omega) (by simp)
 exact⟨l,(Ku im).trans h1,(IA im.2.2).trans h2,by have:=hz.n;omega⟩
structure pY (im:gH) (s:nG):Prop where
 name:cf s.1=true
 kind:s.2.1=1∨s.2.1=2
 at0:0≤s.2.2.1
 size:1≤s.2.2.2.1
 func:s.2.1=1→s.2.2.1+s.2.2.2.1≤(im.1.size:Int)
 data:s.2.1=2→s.2.2.1+s.2.2.2.1≤(im.2.1.size:Int)∧s.2.2.1%8=0∧s.2.2.2.1%8=0∧s.2.2.2.2=0
theorem FO {im:gH} {i:Nat} {s:nG} {e:Int×Int} (he:si im e) (h:(eQ im i s e).1=0):pY im s∧kY (im.2.2.take i) s.1=false:=by
 obtain⟨nm,kd,at_,sz,fr⟩:=s
 obtain⟨ec,ed⟩:=e
 obtain⟨⟨c1,c2⟩,⟨d1,d2⟩⟩:=he
 dsimp only at*
 unfold eQ at h
 dsimp only at*
 split at h<;>(try (cases h;done))
 split at h<;>(try (cases h;done))
 rename_i n1 n2
 refine⟨?_,by simpa using n2⟩
 have n1:cf nm=true:=by simpa using n1
 split at h
 ·rename_i k1
  split at h<;>(try (cases h;done))
  rename_i hh
  exact⟨n1,Or.inl k1,by dsimp only;omega,by dsimp only;omega,fun _=>by dsimp only;omega,fun h=>by dsimp only at h;omega⟩
 ·rename_i k1
  split at h
  ·rename_i k2
   split at h<;>(try (cases h;done))
   rename_i hh
   split at h<;>(try (cases h;done))
   rename_i h3
   exact⟨n1,Or.inr k2,by dsimp only;omega,by dsimp only;omega,fun h=>absurd h k1,fun _=>by dsimp only;omega⟩
  ·cases h
theorem mN {im:gH} {E:Nat→Int×Int} (h:jW im im.2.2.length E) (i:Nat) (hi:i<im.2.2.length):pY im im.2.2[i]∧kY (im.2.2.take i) im.2.2[i].1=false:=
 FO (h.2.1 i (by omega)) (by rw[h.2.2 i hi hi])
def FP (s:nG):Prop:=s.2.1=1→bT (4096+s.2.2.1)=true∧dm s.2.2.2.2=true∧bf s.2.2.2.1.toNat=true
theorem HK {code:ByteArray} {at_ f:Int} {calls:List Int} {v:Int×Int} (h:jv code at_ f calls=some v) (hv:v.2=0):bT at_=true∧dm f=true∧bf code.size=true:=by
 rw[Fo,kX,(eE f).1,iL]at h
 simp only[Option.bind_some]at h
 cases h1:bT at_ with
 |false=>
  rw[h1]at h
  have e:(0,4)=v:=Option.some.inj h
  rw[←e]at hv;cases hv
 |true=>
  rw[h1]at h
  cases h2:dm f with
  |false=>
   rw[h2]at h
   have e:(0,17)=v:=Option.some.inj h
   rw[←e]at hv;cases hv
  |true=>
   rw[h2]at h
   cases h3:bf code.size with
   |false=>
    rw[h3]at h
    have e:(0,8)=v:=Option.some.inj h
    rw[←e]at hv;cases hv
   |true=>exact⟨rfl,rfl,rfl⟩
theorem yj (im:gH) (hz:ky im) (hs:∀s∈im.2.2,pY im s) (calls:List Int) (hc:calls.length≤16):∀(k i:Nat),i+k=im.2.2.length→∃v,n7.b im calls im.2.2 (im.2.2.length:Int) i=some v∧Cr.a im calls i=some v∧(v.2.2=0→∀j (hj:j<im.2.2.length),i≤j→FP im.2.2[j]):=by
 intro k
 induction k with
 |zero=>
  intro i hk
  rw[n7.b_eq,Cr.a_eq,ab,decide_eq_false (show¬i<im.2.2.length by omega)]
  exact⟨_,rfl,rfl,fun _ j hj h=>by omega⟩
 |succ k ih=>
  intro i hk
  have hi:i<im.2.2.length:=by omega
  obtain⟨v,v1,v2,v3⟩:=ih (i+1) (by omega)
  obtain⟨hn,hcz,hdz⟩:=hz
  rw[n7.b_eq,Cr.a_eq,ab,ae,decide_eq_true hi,ah i _ hi (by omega),aS (τ:=bO) im.2.2 i hi,v1,v2]
  simp only[cond_true]
  have hS:=hs _ (List.getElem_mem hi)
  have next:FP im.2.2[i]→(v.2.2=0→∀j (hj:j<im.2.2.length),i≤j→FP im.2.2[j]):=fun hg hv j hj hij=>by
   by_cases e:j=i
   ·subst e;exact hg
   ·exact v3 hv j hj (by omega)
  obtain⟨s,hse⟩:∃s:nG,im.2.2[i]=s:=⟨_,rfl⟩
  rw[hse]at hS next⊢
  obtain⟨p,p1,p2⟩:=pW s
  rw[p1,p2]
  by_cases k1:s.2.1=1
  ·have hf:=hS.func k1
   have h0:=hS.at0
   have h1:=hS.size
   rw[aF (n:=s.2.2.1+s.2.2.2.1) (by omega) (by omega),decide_eq_true k1,decide_eq_true h0,decide_eq_true hf,decide_eq_true (show s.2.2.1≤s.2.2.1+s.2.2.2.1 by omega)]
   obtain⟨b,b1,b2⟩:=sf (im.1.extract s.2.2.1.toNat (s.2.2.1+s.2.2.2.1).toNat) p s.2.2.2.2 calls (by rw[ByteArray.size_extract];omega) (by omega)
   simp only[Bool.and_self,Bool.not_true,cond_true,cond_false,Option.bind_some,b1,b2]
   have hp:p=4096+s.2.2.1:=by
    rw[xS,decide_eq_true k1,cond_true,aF (n:=4096+s.2.2.1) (by omega) (by omega)]at p1
    exact(Option.some.inj p1).symm
   by_cases hb:b.2=0
   ·rw[decide_eq_true hb]
    refine⟨_,rfl,rfl,next fun _=> ?_⟩
    have hl:=HK b1 hb
    rw[hp,ByteArray.size_extract]at hl
    rw[show min (s.2.2.1+s.2.2.2.1).toNat im.1.size-s.2.2.1.toNat=s.2.2.2.1.toNat by omega]at hl
    exact hl
   ·rw[decide_eq_false hb];exact⟨_,rfl,rfl,fun h=>absurd h hb⟩
  ·rw[decide_eq_false k1];exact⟨_,rfl,rfl,next fun h=>absurd h k1⟩
structure vS (im:gH):Prop where
 sz:ky im
 chain:∃E,jW im im.2.2.length E∧(E im.2.2.length).1=(im.1.size:Int)
 pos:1≤im.2.2.length
 first:(rd (τ:=bO) im.2.2 0).2.1=1
 funs:∀j (hj:j<im.2.2.length),FP im.2.2[j]
theorem yk (im:gH):∃v,n7 im=some v∧Cr im=some v∧(v.2.2=0→vS im):=by
 rw[KT,IX]
 simp only[ax]
 by_cases h1:(im.2.2.length:Int)>16
 ·rw[decide_eq_true h1];exact⟨_,rfl,rfl,fun h=>by cases h⟩
 ·rw[decide_eq_false h1]
  by_cases h2:(im.1.size:Int)>1024
  ·rw[decide_eq_true h2];exact⟨_,rfl,rfl,fun h=>by cases h⟩
  ·rw[decide_eq_false h2]
   by_cases h3:(im.2.1.size:Int)>256
   ·rw[decide_eq_true h3];exact⟨_,rfl,rfl,fun h=>by cases h⟩
   ·rw[decide_eq_false h3]
    simp only[cond_false]
    have hz:ky im:=⟨by omega,by omega,by omega⟩
    rw[OG]
    have hE0:jW im 0 (fun _=>(0,0)):=⟨rfl,fun i _=>⟨⟨by simp,by simp⟩,⟨by simp,by simp⟩⟩,fun i _ h=>by omega⟩
    rcases BR im hz im.2.2.length 0 _ (by omega) hE0 with⟨n,c,hc,a1,a2⟩|⟨E,hE,a1,a2⟩
    ·have a1':n7.a im (0,0) (im.2.2.length:Int) 0=some (n,0,c):=a1
     have a2':Zy.a im 0 0 0=some (n,c):=a2
     rw[a1',a2']
     simp only[Option.bind_some]
     rw[decide_eq_false hc]
     exact⟨_,rfl,rfl,fun h=>absurd h hc⟩
    ·have a1':n7.a im (0,0) (im.2.2.length:Int) 0=_:=a1
     have a2':Zy.a im 0 0 0=_:=a2
     rw[a1',a2',n7.a_eq,ab]
     simp only[Nat.lt_irrefl,decide_false,cond_false,Option.bind_some,LY]
     by_cases h0:im.2.2.length=0
     ·rw[if_pos h0,show decide ((im.2.2.length:Int)=0)=true by simp[h0]]
      exact⟨_,rfl,rfl,fun h=>by cases h⟩
     ·rw[if_neg h0,show decide ((im.2.2.length:Int)=0)=false from decide_eq_false (by omega),inL_true (i:=0) (by omega) (by omega)]
      simp only[cond_false,cond_true]
      by_cases k1:(rd (τ:=bO) im.2.2 0).2.1=1
      ·rw[decide_eq_true k1]
       by_cases k2:(E im.2.2.length).1=(im.1.size:Int)
       ·rw[decide_eq_true k2]
        obtain⟨fs,f1,f2,f3⟩:=pX im hz
        have hs:∀s∈im.2.2,pY im s:=fun s hs=>by
         obtain⟨i,hi,rfl⟩:=List.getElem_of_mem hs
         exact(mN hE i hi).1
        obtain⟨v,v1,v2,v3⟩:=yj im hz hs fs f3 im.2.2.length 0 (by omega)
        rw[f1,f2]
        simp only[k1,k2,ne_eq,not_true_eq_false,↓reduceIte,Bool.not_true,cond_false,decide_true,Option.bind_some]
        exact⟨v,v1,v2,fun h=>⟨hz,⟨E,hE,k2⟩,by omega,k1,fun j hj=>v3 h j hj (Nat.zero_le _)⟩⟩
       ·simp only[k1,k2,ne_eq,not_true_eq_false,not_false_eq_true,↓reduceIte,Bool.not_true,Bool.not_false,cond_false,cond_true,decide_false]
        exact⟨_,rfl,rfl,fun h=>by cases h⟩
      ·simp only[k1,ne_eq,not_false_eq_true,↓reduceIte,Bool.not_false,cond_true,decide_false]
       exact⟨_,rfl,rfl,fun h=>by cases h⟩
noncomputable def BS (im:gH):Bool:=(OO im).getD false
theorem ns (im:gH):OO im=some (BS im)∧Qk im=some (BS im)∧(BS im=true→vS im):=by
 obtain⟨v,v1,v2,v3⟩:=yk im
 have e:OO im=some (decide (v.2.2=0)):=by rw[KU,v1];rfl
 unfold BS
 rw[e,IY,v2]
 exact⟨rfl,rfl,fun h=>v3 (by simpa using h)⟩
def pZ (v:Int):Nat→List Int
 |0=>[]
 |n+1=>v%256::pZ (v/256) n
theorem kZ (n:Nat):∀v,(pZ v n).length=n:=by
 induction n with
 |zero=>intro v;rfl
 |succ n ih=>intro v;simp[pZ,ih]
theorem zr (n:Int):IntKind.wrap .u8 n=n%256:=by simp[IntKind.wrap,IntKind.bits,IntKind.signed]
theorem nH (n:Nat):∀(v:Int) (xs:List Int),n≤1000→xs.length+n≤1000→ws.a v n xs=some (aI (xs++pZ v n)):=by
 induction n with
 |zero=>intro v xs _ _;rw[ws.a_eq];simp[pZ]
 |succ n ih=>
  intro v xs hn hx
  rw[ws.a_eq,show decide (((n+1:Nat):Int)>0)=true from decide_eq_true (by omega),oc (by simp;omega) (by simp;omega),aF (n:=((n+1:Nat):Int)-1) (by omega) (by omega),n8 (by decide) (by decide),zr,show((n+1:Nat):Int)-1=(n:Int) by omega]
  simp only[cond_true]
  rw[ih _ _ (by omega) (by simp;omega),pZ,List.append_assoc]
  rfl
theorem k6 (v:Int) (n:Nat) (h:n≤1000):ws v n=some (aI (pZ v n)):=by
 rw[Lw,nH n v [] h (by simpa using h)];rfl
theorem cF (xs:List Int):(aI xs).size=xs.length:=by simp[aI,ByteArray.size]
theorem tF (xs:List Int) (i:Nat) (h:∀x∈xs,0≤x∧x≤255) (hi:i<xs.length):(((aI xs).data.getD i 0).toNat:Int)=xs[i]:=by
 have hx:=h _ (List.getElem_mem hi)
 unfold aI
 simp[Array.getD,hi]
 omega
theorem FQ {a b:ByteArray} (hs:a.size=b.size) (h:∀i,i<a.size→a.data.getD i 0=b.data.getD i 0):a=b:=by
 cases a with|mk x=>cases b with|mk y=>
 congr 1
 have hs:x.size=y.size:=hs
 apply Array.ext hs
 intro i h1 h2
 have:=h i h1
 simpa[Array.getD,h1,h2]using this
theorem p7 (n:Nat):∀(k:Int) (t:ByteArray),0≤k→k<10^n→k≤4611686018427387904→t.size+n≤1000→∃v,qu.a k t=some v:=by
 induction n with
 |zero=>
  intro k t h0 h1 _ hs
  have:k=0:=by simp at h1;omega
  subst this
  rw[qu.a_eq,show decide ((0:Int)>0)=false from rfl]
  simp only[cond_false]
  rw[decide_eq_true (by have:(⟨#[109]⟩:ByteArray).size=1:=rfl;omega)]
  exact⟨_,rfl⟩
 |succ n ih=>
  intro k t h0 h1 hk hs
  rw[qu.a_eq]
  by_cases hp:k>0
  ·rw[decide_eq_true hp,decide_eq_true (by rw[cF];simp;omega),Int.tdiv_eq_ediv_of_nonneg h0,aF (n:=k/10) (by omega) (by omega)]
   simp only[cond_true]
   rw[Int.pow_succ]at h1
   exact ih _ _ (by omega) (by omega) (by omega) (by rw[ByteArray.size_append,cF];simp;omega)
  ·rw[decide_eq_false hp]
   simp only[cond_false]
   rw[decide_eq_true (by have:(⟨#[109]⟩:ByteArray).size=1:=rfl;omega)]
   exact⟨_,rfl⟩
noncomputable def Rj (k:Int):ByteArray:=(qu k).getD ⟨#[]⟩
theorem cN (k:Int) (h:1≤k) (h':k≤4611686018427387904):qu k=some (Rj k):=by
 obtain⟨v,hv⟩:=p7 30 k ⟨#[]⟩ (by omega) (by omega) h' (by decide)
 have e:qu k=some v:=by rw[Nd,decide_eq_false (by omega)];exact hv
 unfold Rj
 rw[e];rfl
def fe {α:Type} (E:Int→α) (c:Nat) (m0:Int) (n:Nat):List α:=(List.range n).map fun i:Nat=>E (m0+c*i)
theorem k7 {α:Type} (E:Int→α) (c:Nat) (m0:Int) (n:Nat):(fe E c m0 n).length=n:=by simp[fe]
theorem p8 {α:Type} (E:Int→α) (c:Nat) (m0:Int) (n i:Nat) (h:i<n):(fe E c m0 n)[i]? =some (E (m0+c*i)):=by simp[fe,h]
theorem vT {α:Type} (L:List α→Int→Int→Option (Int×List α)) (E:Int→α) (c n:Nat) (m0:Int) (M:Int)
  (hm:1≤m0) (hM:m0+c*n≤M)
  (step:∀(l:List α) (m:Int) (i:Nat),l.length=n→i<n→1≤m→m+c≤M→L l m i=L (l.set i (E m)) (m+c) ((i+1:Nat):Int))
  (last:∀(l:List α) (m:Int),l.length=n→L l m n=some (m,l)) (l:List α) (hl:l.length=n):L l m0 0=some (m0+c*n,fe E c m0 n):=by
 have key:∀(k i:Nat) (l:List α),i+k=n→l.length=n→(∀j,j<i→l[j]? =some (E (m0+c*j)))→L l (m0+c*i) i=some (m0+c*n,fe E c m0 n):=by
  intro k
  induction k with
  |zero=>
   intro i l hi hl hj
   have:i=n:=by omega
   subst this
   rw[last l _ hl]
   congr 2
   apply List.ext_getElem?
   intro j
   by_cases h:j<i
   ·rw[hj j h,p8 E c m0 i j h]
   ·rw[List.getElem?_eq_none (by omega),List.getElem?_eq_none (by rw[k7];omega)]
  |succ k ih=>
   intro i l hi hl hj
   have hci:(c:Int)*i+c≤c*n:=by
    have:c*i+c≤c*n:=by
     have:=Nat.mul_le_mul_left c (show i+1≤n by omega)
     rw[Nat.mul_add,Nat.mul_one]at this;exact this
    have e1:((c*i:Nat):Int)=(c:Int)*i:=by simp
    have e2:((c*n:Nat):Int)=(c:Int)*n:=by simp
    omega
   have hc0:0≤(c:Int)*i:=Int.mul_nonneg (by omega) (by omega)
   rw[step l _ i hl (by omega) (by omega) (by omega),show m0+(c:Int)*i+c=m0+c*((i+1:Nat):Int) by rw[Int.natCast_add,Int.mul_add];omega]
   apply ih (i+1) _ (by omega) (by simp[hl])
   intro j hji
   rw[List.getElem?_set]
   by_cases h:i=j
   ·subst h
    rw[if_pos rfl,if_pos (by omega)]
   ·rw[if_neg h];exact hj j (by omega)
 have:=key n 0 l (by omega) hl (fun j h=>by omega)
 simpa using this
theorem vU {α:Type} (H:List α→Int→Int→Option Int) (E:Int→α) (c n:Nat) (m0:Int) (M:Int)
  (hm:1≤m0) (hM:m0+c*n≤M)
  (step:∀(l:List α) (m:Int) (i:Nat),l.length=n→i<n→1≤m→m+c≤M→l[i]? =some (E m)→H l m i=H l (m+c) ((i+1:Nat):Int))
  (last:∀(l:List α) (m:Int),l.length=n→H l m n=some m):H (fe E c m0 n) m0 0=some (m0+c*n):=by
 have key:∀(k i:Nat),i+k=n→H (fe E c m0 n) (m0+c*i) i=some (m0+c*n):=by
  intro k
  induction k with
  |zero=>
   intro i hi
   have:i=n:=by omega
   subst this
   rw[last _ _ (k7 ..)]
  |succ k ih=>
   intro i hi
   have hci:(c:Int)*i+c≤c*n:=by
    have:c*i+c≤c*n:=by
     have:=Nat.mul_le_mul_left c (show i+1≤n by omega)
     rw[Nat.mul_add,Nat.mul_one]at this;exact this
    have e1:((c*i:Nat):Int)=(c:Int)*i:=by simp
    have e2:((c*n:Nat):Int)=(c:Int)*n:=by simp
    omega
   have hc0:0≤(c:Int)*i:=Int.mul_nonneg (by omega) (by omega)
   rw[step _ _ i (k7 ..) (by omega) (by omega) (by omega) (p8 E c m0 n i (by omega)),show m0+(c:Int)*i+c=m0+c*((i+1:Nat):Int) by rw[Int.natCast_add,Int.mul_add];omega]
   exact ih (i+1) (by omega)
 have:=key n 0 (by omega)
 simpa using this
theorem bB {τ:Ty} (xs:List τ.den) (i:Nat) (v:τ.den) (h:i<xs.length):rd (τ:=τ) (xs.set i v) (i:Int)=v:=by
 rw[aS _ _ (by simpa using h)];simp
theorem zt {τ:Ty} (xs:List τ.den) (i:Nat) (v:τ.den) (h:xs[i]? =some v):rd (τ:=τ) xs (i:Int)=v:=by
 unfold rd;rw[Int.toNat_natCast,List.getD_eq_getElem?_getD,h];rfl
def gI (p:Nat→Bool):Nat→Nat→Bool
 |_,0=>true
 |i,k+1=>bif p i then gI p (i+1) k else false
theorem fT (p:Nat→Bool):∀k i,gI p i k=true↔∀j,i≤j→j<i+k→p j=true
 |0,i=>by simp[gI];omega
 |k+1,i=>by
  rw[gI,du]
  by_cases h:p i=true
  ·rw[if_pos h,fT p k (i+1)]
   refine⟨fun H j h1 h2=> ?_,fun H j h1 h2=>H j (by omega) (by omega)⟩
   by_cases e:j=i
   ·rw[e];exact h
   ·exact H j (by omega) (by omega)
  ·rw[if_neg h]
   refine⟨fun H=>(by cases H),fun H=>absurd (H i (Nat.le_refl _) (by omega)) h⟩
theorem FS (L:Int→Option Bool) (p:Nat→Bool) (n:Nat) (hend:L (n:Int)=some true) (hstep:∀i:Nat,i<n→L (i:Int)=bif p i then L ((i+1:Nat):Int)else some false):
  ∀k i:Nat,i+k=n→L (i:Int)=some (gI p i k):=by
 intro k
 induction k with
 |zero=>
   intro i h;have:i=n:=by omega
   subst this;exact hend
 |succ k ih=>
  intro i h
  rw[hstep i (by omega),ih (i+1) (by omega),gI]
  cases p i<;>rfl
theorem cO {L:Int→Option Bool} (p:Nat→Bool) (n:Nat) (hend:L (n:Int)=some true) (hstep:∀i:Nat,i<n→L (i:Int)=bif p i then L ((i+1:Nat):Int)else some false):L 0=some (gI p 0 n):=
 FS L p n hend hstep n 0 (by omega)
def dR (p:Nat→Bool):Nat→Nat→Int
 |_,0=> -1
 |i,k+1=>bif p i then(i:Int)else dR p (i+1) k
theorem BT (L:Int→Option Int) (p:Nat→Bool) (n:Nat) (hend:L (n:Int)=some (-1)) (hstep:∀i:Nat,i<n→L (i:Int)=bif p i then some (i:Int)else L ((i+1:Nat):Int)):
  ∀k i:Nat,i+k=n→L (i:Int)=some (dR p i k):=by
 intro k
 induction k with
 |zero=>
   intro i h;have:i=n:=by omega
   subst this;exact hend
 |succ k ih=>
  intro i h
  rw[hstep i (by omega),ih (i+1) (by omega),dR]
  cases p i<;>rfl
theorem c6 {L:Int→Option Int} (p:Nat→Bool) (n:Nat) (hend:L (n:Int)=some (-1)) (hstep:∀i:Nat,i<n→L (i:Int)=bif p i then some (i:Int)else L ((i+1:Nat):Int)):L 0=some (dR p 0 n):=
 BT L p n hend hstep n 0 (by omega)
theorem cr (p:Nat→Bool):∀k i,(dR p i k= -1∧∀j,i≤j→j<i+k→p j=false)∨∃j:Nat,dR p i k=(j:Int)∧i≤j∧j<i+k∧p j=true∧∀q,i≤q→q<j→p q=false
 |0,i=> .inl ⟨rfl,fun j h1 h2=>by omega⟩
 |k+1,i=>by
  rw[dR]
  cases h:p i with
  |true=>exact .inr ⟨i,rfl,Nat.le_refl _,by omega,h,fun q h1 h2=>by omega⟩
  |false=>
   rw[cond_false]
   rcases cr p k (i+1)with⟨h1,h2⟩|⟨j,h1,h2,h3,h4,h5⟩
   ·refine .inl ⟨h1,fun j h3 h4=> ?_⟩
    by_cases e:j=i
    ·rw[e];exact h
    ·exact h2 j (by omega) (by omega)
   ·refine .inr ⟨j,h1,by omega,by omega,h4,fun q h6 h7=> ?_⟩
    by_cases e:q=i
    ·rw[e];exact h
    ·exact h5 q (by omega) (by omega)
theorem eR (i:Nat) (h:0<i) (h':i≤1048576):IntKind.wrap .i64 ((i:Int)-1)=((i-1:Nat):Int):=by
 rw[aF (by omega) (by omega)];omega
theorem jX (a b:Int):decide (a<b)= !decide (a≥b):=by
 rw[←decide_not];congr 1;apply propext;omega
abbrev aO:Ty:= .pair (.int .i64) (.pair (.int .i64) .str)
abbrev fq:Type:=Int×Int×ByteArray
def cP (n a b:Int):Bool:=decide (a≤n)&&decide (n≤b)
theorem HL (n a b:Int):fY n a b=some (cP n a b):=ca n a b
theorem bm (n a b:Int):fY n a b=some (cP n a b)∧nj n a b=some (cP n a b):=⟨ca n a b,eP n a b⟩
theorem bj {n a b:Int}:cP n a b=true↔a≤n∧n≤b:=by simp[cP]
def kz (b:Int):Bool:=bif cP b 0 1048575 then decide (b.tmod 128=0)else false
theorem LZ (b:Int):PG b=some (kz b):=by
 rw[Gb,HL]
 unfold kz
 simp only[Option.bind_some]
 cases cP b 0 1048575<;>rfl
theorem L8 (p:Int):PH p=some (cP p 0 15):=by rw[Gd,HL];rfl
theorem FT (b:Int):PG b=some (kz b)∧Ql b=some (kz b):=by
 rw[Gb,IZ,(bm _ _ _).1,(bm _ _ _).2]
 unfold kz
 simp only[Option.bind_some]
 cases cP b 0 1048575<;>exact⟨rfl,rfl⟩
theorem FU (p:Int):PH p=some (cP p 0 15)∧Qm p=some (cP p 0 15):=by
 rw[Gd,I0,(bm _ _ _).1,(bm _ _ _).2];exact⟨rfl,rfl⟩
def FV (m:List fq) (i:Nat):Bool:=
 bif kz (rd (τ:=aO) m i).1 then bif cP (rd (τ:=aO) m i).2.1 0 15 then bif decide (((rd (τ:=aO) m i).2.2.size:Int)=128)then
  (decide (i=0)||decide ((rd (τ:=aO) m ((i-1:Nat):Int)).1< (rd (τ:=aO) m i).1))else false else false else false
def p9 (m:List fq):Bool:=decide (m.length≤64)&&gI (FV m) 0 m.length
theorem FW (m:List fq):Ch m=some (p9 m):=by
 rw[Mn]
 unfold p9
 rcases Nat.lt_or_ge 64 m.length with h|h
 ·rw[show decide ((m.length:Int)>64)=true by simp;omega,decide_eq_false (by omega)];rfl
 rw[show decide ((m.length:Int)>64)=false by simp;omega,decide_eq_true h,cond_false,Bool.true_and]
 refine cO (L:=Ch.a m m (m.length:Int)) (FV m) m.length ?_ fun i hi=> ?_
 ·rw[Ch.a_eq,ab];simp
 ·rw[Ch.a_eq,ab,ae,decide_eq_true hi,ah i m.length hi (by omega),LZ,L8]
  unfold FV
  simp only[cond_true,Option.bind_some]
  by_cases h0:i=0
  ·rw[show decide ((i:Int)>0)=false by simp[h0],decide_eq_true h0]
   cases kz (rd (τ:=aO) m i).1<;>cases cP (rd (τ:=aO) m i).2.1 0 15<;>cases decide (((rd (τ:=aO) m i).2.2.size:Int)=128)<;>rfl
  ·rw[show decide ((i:Int)>0)=true by simp;omega,decide_eq_false h0,eR i (by omega) (by omega),ae,decide_eq_true (show i-1<m.length by omega)]
   rw[show decide ((rd (τ:=aO) m ((i-1:Nat):Int)).1< (rd (τ:=aO) m i).1)= !decide ((rd (τ:=aO) m ((i-1:Nat):Int)).1≥(rd (τ:=aO) m i).1) from jX _ _]
   cases kz (rd (τ:=aO) m i).1<;>cases cP (rd (τ:=aO) m i).2.1 0 15<;>cases decide (((rd (τ:=aO) m i).2.2.size:Int)=128)<;>cases decide ((rd (τ:=aO) m ((i-1:Nat):Int)).1≥(rd (τ:=aO) m i).1)<;>rfl
theorem qa (m:List fq):Ch m=some (p9 m)∧Cs m=some (p9 m):=by
 refine⟨FW m, ?_⟩
 rw[I1]
 unfold p9
 rcases Nat.lt_or_ge 64 m.length with h|h
 ·rw[show decide ((m.length:Int)>64)=true by simp;omega,decide_eq_false (by omega)];rfl
 rw[show decide ((m.length:Int)>64)=false by simp;omega,decide_eq_true h,cond_false,Bool.true_and]
 refine cO (L:=Cs.a m) (FV m) m.length ?_ fun i hi=> ?_
 ·rw[Cs.a_eq,ab];simp
 ·rw[Cs.a_eq,ab,ae,decide_eq_true hi,ah i m.length hi (by omega),(FT _).2,(FU _).2]
  unfold FV
  simp only[cond_true,Option.bind_some]
  by_cases h0:i=0
  ·rw[show decide ((i:Int)>0)=false by simp[h0],decide_eq_true h0]
   cases kz (rd (τ:=aO) m i).1<;>cases cP (rd (τ:=aO) m i).2.1 0 15<;>cases decide (((rd (τ:=aO) m i).2.2.size:Int)=128)<;>rfl
  ·rw[show decide ((i:Int)>0)=true by simp;omega,decide_eq_false h0,eR i (by omega) (by omega),ae,decide_eq_true (show i-1<m.length by omega)]
   rw[show decide ((rd (τ:=aO) m ((i-1:Nat):Int)).1< (rd (τ:=aO) m i).1)= !decide ((rd (τ:=aO) m i).1≤(rd (τ:=aO) m ((i-1:Nat):Int)).1) from jX _ _]
   cases kz (rd (τ:=aO) m i).1<;>cases cP (rd (τ:=aO) m i).2.1 0 15<;>cases decide (((rd (τ:=aO) m i).2.2.size:Int)=128)<;>cases decide ((rd (τ:=aO) m i).1≤(rd (τ:=aO) m ((i-1:Nat):Int)).1)<;>rfl
abbrev aT:Ty:= .pair .str (.pair (.int .i64) (.pair (.int .i64) (.pair (.int .i64) (.pair (.int .i64) (.int .i64)))))
abbrev da:Type:=ByteArray×Int×Int×Int×Int×Int
def ci (l:List da) (name:ByteArray):Int:=dR (fun i=>decide ((rd (τ:=aT) l (i:Int)).1=name)) 0 l.length
theorem dE (l:List da) (name:ByteArray) (hl:l.length≤1048576):H8 l name=some (ci l name)∧wn l name=some (ci l name):=by
 rw[Lq,Lo,I3]
 unfold ci
 constructor
 ·rw[c6 (L:=Gt.a name l (l.length:Int)) (fun i=>decide ((rd (τ:=aT) l (i:Int)).1=name)) l.length ?_ fun i hi=> ?_]
  ·rfl
  ·rw[Gt.a_eq,ab];simp
  ·rw[Gt.a_eq,ab,ae,decide_eq_true hi,ah i l.length hi (by omega),Ln,aM]
   simp only[cond_true,Option.bind_some]
 ·refine c6 (L:=wn.a l name) (fun i=>decide ((rd (τ:=aT) l (i:Int)).1=name)) l.length ?_ fun i hi=> ?_
  ·rw[wn.a_eq,ab];simp
  ·rw[wn.a_eq,ab,ae,decide_eq_true hi,ah i l.length hi (by omega),aM]
   simp only[cond_true]
def vV (k f:Int):Bool:=bif decide (k=1)then(bif dm f then true else bif decide (k=2)then decide (f=0)else false)else bif decide (k=2)then decide (f=0)else false
noncomputable def dn (e:da):Bool:=
 bif cf e.1 then bif bT e.2.2.1 then bif cP e.2.2.2.1 1 1024 then bif cP e.2.2.2.2.2 0 6 then vV e.2.1 e.2.2.2.2.1 else false else false else false else false
theorem sj (e:da):QP e=some (dn e)∧Qn e=some (dn e):=by
 rw[Lr,I2]
 unfold dn
 rw[(dz _).1,(dz _).2,kX,(bm _ _ _).1,(bm _ _ _).1,(bm _ _ _).2,(bm _ _ _).2,(bm _ _ _).2,(eE _).1,(eE _).2]
 unfold bT vV ax
 simp only[Option.bind_some]
 rw[show(decide ((0:Int)≤e.2.2.1)&&decide (e.2.2.1≤1048575))=cP e.2.2.1 0 1048575 from rfl]
 cases cf e.1<;>cases cP e.2.2.1 0 1048575<;>cases decide (e.2.2.1.tmod 4=0)<;>cases cP e.2.2.2.1 1 1024<;>cases cP e.2.2.2.2.2 0 6<;>cases decide (e.2.1=1)<;>cases dm e.2.2.2.2.1<;>cases decide (e.2.1=2)<;>exact⟨rfl,rfl⟩
noncomputable def vW (l:List da) (i:Nat):Bool:=bif dn (rd (τ:=aT) l i)then decide (ci (l.take i) (rd (τ:=aT) l i).1<0)else false
noncomputable def nI (l:List da):Bool:=decide (l.length≤64)&&gI (vW l) 0 l.length
theorem iM {α:Type} (l:List α) (i:Nat):(l.take (Int.toNat (i:Int))).drop (Int.toNat 0)=l.take i:=by
 rw[Int.toNat_natCast,show(Int.toNat 0)=0 from rfl,List.drop_zero]
theorem iN (i n:Nat) (h:i≤n):(decide (0≤0)&&decide (0≤(i:Int))&&decide ((i:Int)≤(n:Int)))=true:=by simp;omega
theorem ig (l:List da):zk l=some (nI l)∧E8 l=some (nI l):=by
 rw[Ls,I4]
 unfold nI
 rcases Nat.lt_or_ge 64 l.length with h|h
 ·rw[show decide ((l.length:Int)>64)=true by simp;omega,decide_eq_false (show¬l.length≤64 by omega)]
  cases decide ((l.length:Int)>4096)<;>exact⟨rfl,rfl⟩
 rw[show decide ((l.length:Int)>64)=false by simp;omega,show decide ((l.length:Int)>4096)=false by simp;omega,decide_eq_true h,cond_false,cond_false,cond_false,Bool.true_and]
 constructor
 ·refine cO (L:=zk.a l l (l.length:Int)) (vW l) l.length ?_ fun i hi=> ?_
  ·rw[zk.a_eq,ab];simp
  ·rw[zk.a_eq,ab,ae,decide_eq_true hi,ah i l.length hi (by omega),(sj _).1,iM,iN i _ (by omega),(dE _ _ (by simp;omega)).1]
   unfold vW
   rw[jX]
   simp only[cond_true,Option.bind_some]
   cases dn (rd (τ:=aT) l i)<;>cases decide (ci (l.take i) (rd (τ:=aT) l i).1≥0)<;>rfl
 ·refine cO (L:=E8.a l) (vW l) l.length ?_ fun i hi=> ?_
  ·rw[E8.a_eq,ab];simp
  ·rw[E8.a_eq,ab,ae,decide_eq_true hi,ah i l.length hi (by omega),(sj _).2,iM,iN i _ (by omega),(dE _ _ (by simp;omega)).2]
   unfold vW
   rw[jX]
   simp only[cond_true,Option.bind_some]
   cases dn (rd (τ:=aT) l i)<;>cases decide (ci (l.take i) (rd (τ:=aT) l i).1≥0)<;>rfl
abbrev bl:Type:=Int×Int×Int
def zu (a:bl):Bool:=
 cP a.1 0 1048575&&cP a.2.1 0 (IntKind.wrap .i64 (1048576-a.1))&&cP a.2.2 a.1 (IntKind.wrap .i64 (a.1+a.2.1))&&decide (a.1.tmod 8=0)&&decide (a.2.1.tmod 8=0)&&decide (a.2.2.tmod 8=0)
theorem sk (a:bl):Pz a=some (zu a):=by
 rw[Lt,(bm _ _ _).1,(bm _ _ _).1,(bm _ _ _).1]
 unfold zu
 simp only[Option.bind_some]
 cases cP a.1 0 1048575<;>cases cP a.2.1 0 (IntKind.wrap .i64 (1048576-a.1))<;>cases cP a.2.2 a.1 (IntKind.wrap .i64 (a.1+a.2.1))<;>cases decide (a.1.tmod 8=0)<;>cases decide (a.2.1.tmod 8=0)<;>cases decide (a.2.2.tmod 8=0)<;>rfl
abbrev od:Ty:= .pair (.int .i64) (.pair (.int .i64) (.int .i64))
abbrev Sh:Type:=Int×Int×Int
def BU (a b:Int):Int:=bif decide (a<b)then-1 else bif decide (a>b)then 1 else 0
def BV (a b:Sh):Int:=if BU a.1 b.1=0 then BU a.2.1 b.2.1 else BU a.1 b.1
theorem zw (a b:Int):PI a b=some (BU a b):=by
 rw[Mp,Gf,Gf]
 unfold BU
 simp only[Option.bind_some,decide_true,Bool.not_true,cond_false]
 cases decide (a<b)<;>cases decide (a>b)<;>rfl
theorem HM (x y:Int):Ge [x,y]=some (if x=0 then y else x):=by
 rw[Mo,show(([x,y]:List Int).length:Int)=2 from rfl,Ge.a_eq,Ge.a_eq,Ge.a_eq]
 show(bif !decide (x=0)then some x else bif !decide (y=0)then some y else some 0)=_
 by_cases hx:x=0
 ·by_cases hy:y=0
  ·simp[hx,hy]
  ·simp[hx,hy]
 ·simp[hx]
theorem BW (a b:Sh):QX a b=some (BV a b):=by
 rw[Mq,zw,zw]
 simp only[Option.bind_some]
 rw[HM];rfl
theorem sm (a b c d:Int):Ct [a,b] [c,d]=some (if a=c then decide (b<d)else decide (a<c)):=by
 rw[I6,Ct.a_eq,Ct.a_eq,Ct.a_eq]
 show(bif !decide (a=c)then some (decide (a<c))else bif !decide (b=d)then some (decide (b<d))else some false)=_
 by_cases h:a=c
 ·by_cases h2:b=d
  ·simp[h,h2]
  ·simp[h,h2]
 ·simp[h]
theorem FX (a b:Sh):(if a.1=b.1 then decide (a.2.1<b.2.1)else decide (a.1<b.1))= !decide (BV a b≥0):=by
 obtain⟨a1,a2,a3⟩:=a
 obtain⟨b1,b2,b3⟩:=b
 simp only[BV,BU,du,decide_eq_true_eq]
 rcases Int.lt_trichotomy a1 b1 with h|h|h
 ·rw[if_neg (by omega),if_pos h];simp[h]
 ·subst h
  rw[if_pos rfl]
  rcases Int.lt_trichotomy a2 b2 with h2|h2|h2
  ·simp[h2]
  ·simp[h2]
  ·simp[show¬a2<b2 by omega,h2]
 ·rw[if_neg (by omega),if_neg (by omega),if_pos h];simp[show¬a1<b1 by omega]
theorem L9 (n:Int):Qo n=some (cP n 0 255):=by rw[I5,(bm _ _ _).2];rfl
def OU (l:List Sh) (i:Nat):Bool:=
 bif cP (rd (τ:=od) l i).2.1 0 255 then(decide (i=0)|| !decide (BV (rd (τ:=od) l ((i-1:Nat):Int)) (rd (τ:=od) l i)≥0))else false
def NQ (l:List Sh):Bool:=decide (l.length≤16)&&gI (OU l) 0 l.length
theorem nt (l:List Sh):C0 l=some (NQ l)∧Cu l=some (NQ l):=by
 rw[Mr,I7]
 unfold NQ
 rcases Nat.lt_or_ge 16 l.length with h|h
 ·rw[show decide ((l.length:Int)>16)=true by simp;omega,decide_eq_false (show¬l.length≤16 by omega)]
  cases decide ((l.length:Int)>4096)<;>exact⟨rfl,rfl⟩
 rw[show decide ((l.length:Int)>16)=false by simp;omega,show decide ((l.length:Int)>4096)=false by simp;omega,decide_eq_true h,cond_false,cond_false,cond_false,Bool.true_and]
 constructor
 ·refine cO (L:=C0.a l l (l.length:Int)) (OU l) l.length ?_ fun i hi=> ?_
  ·rw[C0.a_eq,ab];simp
  ·rw[C0.a_eq,ab,ae,decide_eq_true hi,ah i l.length hi (by omega),(bm _ _ _).1]
   unfold OU
   simp only[cond_true,Option.bind_some]
   by_cases h0:i=0
   ·rw[show decide ((i:Int)>0)=false by simp[h0],decide_eq_true h0]
    cases cP (rd (τ:=od) l i).2.1 0 255<;>rfl
   ·rw[show decide ((i:Int)>0)=true by simp;omega,decide_eq_false h0,eR i (by omega) (by omega),ae,decide_eq_true (show i-1<l.length by omega),BW]
    simp only[Option.bind_some]
    cases cP (rd (τ:=od) l i).2.1 0 255<;>cases decide (BV (rd (τ:=od) l ((i-1:Nat):Int)) (rd (τ:=od) l i)≥0)<;>rfl
 ·refine cO (L:=Cu.a l) (OU l) l.length ?_ fun i hi=> ?_
  ·rw[Cu.a_eq,ab];simp
  ·rw[Cu.a_eq,ab,ae,decide_eq_true hi,ah i l.length hi (by omega),L9]
   unfold OU
   simp only[cond_true,Option.bind_some]
   by_cases h0:i=0
   ·rw[show decide ((i:Int)>0)=false by simp[h0],decide_eq_true h0]
    cases cP (rd (τ:=od) l i).2.1 0 255<;>rfl
   ·rw[show decide ((i:Int)>0)=true by simp;omega,decide_eq_false h0,eR i (by omega) (by omega),ae,decide_eq_true (show i-1<l.length by omega),sm,FX]
    simp only[Option.bind_some]
    cases cP (rd (τ:=od) l i).2.1 0 255<;>cases decide (BV (rd (τ:=od) l ((i-1:Nat):Int)) (rd (τ:=od) l i)≥0)<;>rfl
abbrev FY:Ty:= .pair (.arr (.int .i64) 32) (.int .i64)
abbrev eF:Ty:= .pair (.int .i64) (.pair FY (.pair (.list (.int .i64)) (.int .i64)))
abbrev Ma:Type:=Int×(List Int×Int)×List Int×Int
abbrev PD:Type:=List fq×List Ma×List da×List Sh
def zx (h:List Int×Int):Bool:=decide ((rd (τ:= .int .i64) h.1 0)=(0:Int))
theorem vX (h:List Int×Int):QY h=some (zx h)∧Qp h=some (zx h):=by
 rw[Ms,I8];exact⟨rfl,rfl⟩
def yl (t:Ma):Bool:=
 bif cP t.1 1 3 then bif zx t.2.1 then bif decide ((t.2.2.1.length:Int)≤32)then(bif decide (t.1=3)then cP t.2.2.2 1 31 else decide (t.2.2.2=0))else false else false else false
theorem zy (t:Ma):QZ t=some (yl t)∧Qq t=some (yl t):=by
 rw[Mt,I9,(bm _ _ _).1,(bm _ _ _).1,(bm _ _ _).2,(bm _ _ _).2,(vX _).1,(vX _).2]
 unfold yl ax
 rw[show decide ((t.2.2.1.length:Int)>32)= !decide ((t.2.2.1.length:Int)≤32) by rw[←decide_not];congr 1;apply propext;omega]
 simp only[Option.bind_some]
 cases cP t.1 1 3<;>cases zx t.2.1<;>cases decide ((t.2.2.1.length:Int)≤32)<;>cases decide (t.1=3)<;>exact⟨rfl,rfl⟩
def zz (l:List Ma):Bool:=cP l.length 1 4&&gI (fun i=>yl (rd (τ:=eF) l (i:Int))) 0 l.length
theorem FZ (p:Nat→Bool) (n:Nat):decide (dR (fun i=> !p i) 0 n≥0)= !gI p 0 n:=by
 rcases cr (fun i=> !p i) n 0 with⟨h1,h2⟩|⟨j,h1,h2,h3,h4,h5⟩
 ·rw[h1,(fT p n 0).2 fun j h3 h4=>by simpa using h2 j h3 h4];rfl
 ·rw[h1]
  have:gI p 0 n=false:=by
   cases h:gI p 0 n with
   |false=>rfl
   |true=>have:=(fT p n 0).1 h j h2 h3;rw[this]at h4;cases h4
  rw[this];simp
theorem vY (l:List Ma):Q0 l=some (zz l):=by
 rw[Mx,(bm _ _ _).1]
 unfold zz
 simp only[Option.bind_some]
 cases h:cP (l.length:Int) 1 4 with
 |false=>rfl
 |true=>
  have hl:l.length≤4:=by rw[bj]at h;omega
  rw[Mw,Mv,c6 (L:=Gw.a l (l.length:Int)) (fun i=> !yl (rd (τ:=eF) l (i:Int))) l.length ?_ fun i hi=> ?_]
  ·simp only[Option.bind_some,cond_true,Bool.true_and]
   rw[FZ];simp
  ·rw[Gw.a_eq,ab];simp
  ·rw[Gw.a_eq,ab,ae,decide_eq_true hi,ah i l.length hi (by omega),Mu,(zy _).1]
   simp only[cond_true,Option.bind_some]
noncomputable def ym (m:PD):Bool:=p9 m.1&&(nI m.2.2.1&&(NQ m.2.2.2&&zz m.2.1))
theorem vZ (m:PD):Q1 m=some (ym m)∧E9 m=some (ym m):=by
 rw[My,Ja,(qa _).1,(qa _).2,(ig _).1,(ig _).2,(nt _).1,(nt _).2,vY]
 unfold ym
 simp only[Option.bind_some]
 constructor
 ·cases p9 m.1<;>cases nI m.2.2.1<;>cases NQ m.2.2.2<;>rfl
 ·unfold zz
  by_cases h1:(m.2.1.length:Int)<1
  ·rw[decide_eq_true h1,show cP (m.2.1.length:Int) 1 4=false by simp[cP];omega]
   cases p9 m.1<;>simp
  rw[decide_eq_false h1]
  by_cases h2:(m.2.1.length:Int)>4
  ·rw[decide_eq_true h2,show cP (m.2.1.length:Int) 1 4=false by simp[cP];omega]
   cases p9 m.1<;>simp
  rw[decide_eq_false h2,show cP (m.2.1.length:Int) 1 4=true by simp[cP];omega]
  rw[cO (L:=E9.a m) (fun i=>yl (rd (τ:=eF) m.2.1 (i:Int))) m.2.1.length ?_ fun i hi=> ?_]
  ·cases p9 m.1<;>cases nI m.2.2.1<;>cases NQ m.2.2.2<;>rfl
  ·rw[E9.a_eq,ab];simp
  ·rw[E9.a_eq,ab,ae,decide_eq_true hi,ah i m.2.1.length hi (by omega),(zy _).2]
   simp only[cond_true,Option.bind_some]
   cases yl (rd (τ:=eF) m.2.1 (i:Int))<;>rfl
def ft (p:Nat→Bool):Nat→Nat→Bool
 |_,0=>false
 |i,k+1=>bif p i then true else ft p (i+1) k
theorem jB (p:Nat→Bool):∀k i,ft p i k=true↔∃j,i≤j∧j<i+k∧p j=true
 |0,i=>by simp[ft];omega
 |k+1,i=>by
  rw[ft,du]
  by_cases h:p i=true
  ·rw[if_pos h];simp only[true_iff];exact⟨i,Nat.le_refl _,by omega,h⟩
  ·rw[if_neg h,jB p k (i+1)]
   refine⟨fun⟨j,h1,h2,h3⟩=>⟨j,by omega,by omega,h3⟩,fun⟨j,h1,h2,h3⟩=>⟨j, ?_,by omega,h3⟩⟩
   rcases Nat.lt_or_ge i j with h4|h4
   ·exact h4
   ·have:j=i:=by omega
    subst this;exact absurd h3 h
theorem F2 {β:Type} (L:Int→Option β) (p:Nat→Bool) (n:Nat) (r:Option β) (hstep:∀i:Nat,i<n→L (i:Int)=bif p i then r else L ((i+1:Nat):Int)):
  ∀k i:Nat,i+k=n→L (i:Int)=bif ft p i k then r else L (n:Int):=by
 intro k
 induction k with
 |zero=>
   intro i h;have:i=n:=by omega
   subst this;rfl
 |succ k ih=>
  intro i h
  rw[hstep i (by omega),ih (i+1) (by omega),ft]
  cases p i<;>rfl
theorem dS {β:Type} {L:Int→Option β} (p:Nat→Bool) (n:Nat) (r:Option β) (hstep:∀i:Nat,i<n→L (i:Int)=bif p i then r else L ((i+1:Nat):Int)):L 0=bif ft p 0 n then r else L (n:Int):=
 F2 L p n r hstep n 0 (by omega)
theorem qb (p:Nat→Bool) (n:Nat):decide (dR p 0 n≥0)=ft p 0 n:=by
 rcases cr p n 0 with⟨h1,h2⟩|⟨j,h1,h2,h3,h4,h5⟩
 ·rw[h1]
  cases h:ft p 0 n with
  |false=>rfl
  |true=>obtain⟨j,h3,h4,h5⟩:=(jB p n 0).1 h;rw[h2 j h3 h4]at h5;cases h5
 ·rw[h1,(jB p n 0).2 ⟨j,h2,h3,h4⟩];simp
def bb {α:Type} (f:Nat→α):Nat→Nat→List α
 |_,0=>[]
 |i,k+1=>f i::bb f (i+1) k
theorem az {α:Type} (f:Nat→α):∀k i,(bb f i k).length=k
 |0,_=>rfl
 |k+1,i=>by rw[bb,List.length_cons,az f k]
theorem F3 {α β:Type} (L:List α→Int→Option β) (f:Nat→α) (n A:Nat) (hstep:∀acc (i:Nat),i<n→acc.length=A+i→L acc (i:Int)=L (acc++[f i]) ((i+1:Nat):Int)):
  ∀(k i:Nat) (acc:List α),i+k=n→acc.length=A+i→L acc (i:Int)=L (acc++bb f i k) (n:Int):=by
 intro k
 induction k with
 |zero=>
   intro i acc h _;have:i=n:=by omega
   subst this;rw[bb,List.append_nil]
 |succ k ih=>
  intro i acc h ha
  rw[hstep acc i (by omega) ha,ih (i+1) _ (by omega) (by simp;omega),bb,List.append_assoc];rfl
theorem ck {α β:Type} {L:List α→Int→Option β} (f:Nat→α) (n:Nat) (acc:List α) (hstep:∀acc' (i:Nat),i<n→acc'.length=acc.length+i→L acc' (i:Int)=L (acc'++[f i]) ((i+1:Nat):Int)):L acc 0=L (acc++bb f 0 n) (n:Int):=
 F3 L f n acc.length hstep n 0 acc (by omega) (by omega)
def aZ (c:Nat→Int):Nat→Nat→Int×Int
 |_,0=>(0,0)
 |i,k+1=>if c i=0 then aZ c (i+1) k else((i:Int),c i)
theorem BZ (L:Int→Option (Int×Int)) (c:Nat→Int) (n:Nat) (hstep:∀i:Nat,i<n→L (i:Int)=if c i=0 then L ((i+1:Nat):Int)else some ((i:Int),c i)):
  ∀k i:Nat,i+k=n→L (i:Int)=if(aZ c i k).2=0 then L (n:Int)else some (aZ c i k):=by
 intro k
 induction k with
 |zero=>
   intro i h;have:i=n:=by omega
   subst this;rfl
 |succ k ih=>
  intro i h
  rw[hstep i (by omega),ih (i+1) (by omega),aZ]
  by_cases h:c i=0
  ·rw[if_pos h,if_pos h]
  ·rw[if_neg h,if_neg h,if_neg h]
theorem c7 {L:Int→Option (Int×Int)} (c:Nat→Int) (n:Nat) (hstep:∀i:Nat,i<n→L (i:Int)=if c i=0 then L ((i+1:Nat):Int)else some ((i:Int),c i)):L 0=if(aZ c 0 n).2=0 then L (n:Int)else some (aZ c 0 n):=
 BZ L c n hstep n 0 (by omega)
theorem c8 (c:Nat→Int):∀k i,(aZ c i k).2=0↔∀j,i≤j→j<i+k→c j=0
 |0,i=>by simp[aZ];omega
 |k+1,i=>by
  rw[aZ]
  by_cases h:c i=0
  ·rw[if_pos h,c8 c k (i+1)]
   refine⟨fun H j h1 h2=> ?_,fun H j h1 h2=>H j (by omega) (by omega)⟩
   by_cases e:j=i
   ·rw[e];exact h
   ·exact H j (by omega) (by omega)
  ·rw[if_neg h]
   exact⟨fun H=>absurd H h,fun H=>absurd (H i (Nat.le_refl _) (by omega)) h⟩
abbrev aA:Ty:= .pair .str (.pair .bool (.pair (.int .i64) .str))
abbrev RA:Type:=ByteArray×Bool×Int×ByteArray
abbrev bc:Ty:= .pair .str .str
abbrev RB:Type:=ByteArray×ByteArray
abbrev bU:Ty:= .pair (.int .i64) (.pair (.int .i64) (.pair (.int .i64) (.pair .str (.int .i64))))
abbrev Ic:Type:=Int×Int×Int×ByteArray×Int
abbrev dj:Ty:= .pair (.int .i64) .bool
abbrev RC:Type:=Int×Bool
abbrev bn:Type:=ByteArray×Int×List RA×List RB×List Ic×List RC
structure ObjSz (o:bn):Prop where
 f:o.2.2.1.length≤4
 d:o.2.2.2.1.length≤4
 r:o.2.2.2.2.1.length≤32
 s:o.2.2.2.2.2.length≤4
def cx (o:bn):List ByteArray:=bb (fun i=>(rd (τ:=aA) o.2.2.1 (i:Int)).1) 0 o.2.2.1.length++bb (fun i=>(rd (τ:=bc) o.2.2.2.1 (i:Int)).1) 0 o.2.2.2.1.length
def fg (o:bn):List Int:=bb (fun i=>IntKind.wrap .i64 (((rd (τ:=aA) o.2.2.1 (i:Int)).2.2.2.size:Int).tdiv 4)) 0 o.2.2.1.length++bb (fun i=>IntKind.wrap .i64 (((rd (τ:=bc) o.2.2.2.1 (i:Int)).2.size:Int).tdiv 8)) 0 o.2.2.2.1.length
theorem jC (n:Nat) (h:n≤4096):av n 16=true:=by simp[av];omega
theorem jD (n:Nat) (h:n≤4096):av n 8=true:=by simp[av];omega
theorem B3 (o:bn) (hz:ObjSz o) (u:Nat) (hu:u≤(cx o).length):qn o (u:Int)=some ((cx o).take u):=by
 obtain⟨hf,hd,_,_⟩:=hz
 rw[K8]
 rw[ck (L:=fun acc i=>qn.a (u:Int) o acc o.2.2.1 (o.2.2.1.length:Int) i) (fun i=>(rd (τ:=aA) o.2.2.1 (i:Int)).1) o.2.2.1.length [] fun acc i hi ha=> ?_]
 ·rw[qn.a_eq,ab,decide_eq_false (Nat.lt_irrefl _),cond_false,List.nil_append]
  rw[ck (L:=fun acc i=>qn.b (u:Int) acc o.2.2.2.1 (o.2.2.2.1.length:Int) i) (fun i=>(rd (τ:=bc) o.2.2.2.1 (i:Int)).1) o.2.2.2.1.length (bb (fun i=>(rd (τ:=aA) o.2.2.1 (i:Int)).1) 0 o.2.2.1.length) fun acc i hi ha=> ?_]
  ·show qn.b (u:Int) (cx o) o.2.2.2.1 (o.2.2.2.1.length:Int) (o.2.2.2.1.length:Int)=_
   rw[qn.b_eq,ab,decide_eq_false (Nat.lt_irrefl _),cond_false,iN u _ hu,cond_true,iM]
  ·rw[az]at ha
   show qn.b (u:Int) acc o.2.2.2.1 (o.2.2.2.1.length:Int) (i:Int)=_
   rw[qn.b_eq,ab,ae,decide_eq_true hi,ah i _ hi (by omega),jC _ (by simp;omega)];rfl
 ·show qn.a (u:Int) o acc o.2.2.1 (o.2.2.1.length:Int) (i:Int)=_
  rw[qn.a_eq,ab,ae,decide_eq_true hi,ah i _ hi (by omega),jC _ (by simp at ha⊢;omega)];rfl
theorem B4 (o:bn) (hz:ObjSz o):qV o=some (fg o):=by
 obtain⟨hf,hd,_,_⟩:=hz
 rw[La]
 rw[ck (L:=fun acc i=>qV.a o acc o.2.2.1 (o.2.2.1.length:Int) i) (fun i=>IntKind.wrap .i64 (((rd (τ:=aA) o.2.2.1 (i:Int)).2.2.2.size:Int).tdiv 4)) o.2.2.1.length [] fun acc i hi ha=> ?_]
 ·rw[qV.a_eq,ab,decide_eq_false (Nat.lt_irrefl _),cond_false,List.nil_append]
  rw[ck (L:=fun acc i=>qV.b acc o.2.2.2.1 (o.2.2.2.1.length:Int) i) (fun i=>IntKind.wrap .i64 (((rd (τ:=bc) o.2.2.2.1 (i:Int)).2.size:Int).tdiv 8)) o.2.2.2.1.length (bb (fun i=>IntKind.wrap .i64 (((rd (τ:=aA) o.2.2.1 (i:Int)).2.2.2.size:Int).tdiv 4)) 0 o.2.2.1.length) fun acc i hi ha=> ?_]
  ·rw[qV.b_eq,ab,decide_eq_false (Nat.lt_irrefl _),cond_false];rfl
  ·rw[az]at ha
   show qV.b acc o.2.2.2.1 (o.2.2.2.1.length:Int) (i:Int)=_
   rw[qV.b_eq,ab,ae,decide_eq_true hi,ah i _ hi (by omega),jD _ (by simp;omega)];rfl
 ·show qV.a o acc o.2.2.1 (o.2.2.1.length:Int) (i:Int)=_
  rw[qV.a_eq,ab,ae,decide_eq_true hi,ah i _ hi (by omega),jD _ (by simp at ha⊢;omega)];rfl
def gJ (l:List ByteArray) (n:ByteArray):Bool:=l.any fun y=>decide (y=n)
theorem jE {l:List ByteArray} {n:ByteArray}:gJ l n=true↔n∈l:=by simp[gJ]
theorem yn (l:List ByteArray) (n:ByteArray) (hl:l.length≤4096):QL l n=some (gJ l n):=by
 rw[K7,K6,c6 (L:=Gq.a l n (l.length:Int)) (fun i=>decide (n=rd (τ:= .str) l (i:Int))) l.length ?_ fun i hi=> ?_]
 ·simp only[Option.bind_some]
  rw[qb]
  congr 1
  rw[Bool.eq_iff_iff,jB,jE,List.mem_iff_getElem]
  refine⟨fun⟨j,h1,h2,h3⟩=>⟨j,by omega, ?_⟩,fun⟨j,h1,h2⟩=>⟨j,by omega,by omega, ?_⟩⟩
  ·rw[decide_eq_true_iff,aS (τ:= .str) l j (by omega)]at h3;exact h3.symm
  ·rw[decide_eq_true_iff,aS (τ:= .str) l j h1];exact h2.symm
 ·rw[Gq.a_eq,ab];simp
 ·rw[Gq.a_eq,ab,ae,decide_eq_true hi,ah i _ hi (by omega),aM];rfl
theorem cy {α:Type} (f:Nat→α) (x:α):∀k i,x∈bb f i k↔∃j,i≤j∧j<i+k∧f j=x
 |0,i=>by simp[bb];omega
 |k+1,i=>by
  rw[bb,List.mem_cons,cy f x k (i+1)]
  constructor
  ·rintro(h|⟨j,h1,h2,h3⟩)
   ·exact⟨i,Nat.le_refl _,by omega,h.symm⟩
   ·exact⟨j,by omega,by omega,h3⟩
  ·rintro⟨j,h1,h2,h3⟩
   by_cases e:j=i
   ·subst e;exact .inl h3.symm
   ·exact .inr ⟨j,by omega,by omega,h3⟩
theorem mO {α:Type} (f:Nat→α):∀k i n,(bb f i k).take n=bb f i (min n k)
 |0,i,n=>by simp[bb]
 |k+1,i,0=>by simp[bb]
 |k+1,i,n+1=>by rw[bb,List.take_succ_cons,mO f k (i+1) n,Nat.add_min_add_right,bb]
theorem lU (o:bn) (i:Nat) (hi:i≤o.2.2.1.length):(cx o).take i=bb (fun i=>(rd (τ:=aA) o.2.2.1 (i:Int)).1) 0 i:=by
 unfold cx
 rw[List.take_append_of_le_length (by rw[az];exact hi),mO,Nat.min_eq_left hi]
theorem iO (o:bn) (i:Nat) (hi:i≤o.2.2.2.1.length):(cx o).take (o.2.2.1.length+i)=bb (fun i=>(rd (τ:=aA) o.2.2.1 (i:Int)).1) 0 o.2.2.1.length++bb (fun i=>(rd (τ:=bc) o.2.2.2.1 (i:Int)).1) 0 i:=by
 unfold cx
 rw[List.take_append,az,List.take_of_length_le (by rw[az];omega),mO,show o.2.2.1.length+i-o.2.2.1.length=i by omega,Nat.min_eq_left hi]
theorem mP (o:bn):(cx o).length=o.2.2.1.length+o.2.2.2.1.length:=by unfold cx;rw[List.length_append,az,az]
theorem mQ (f:Nat→ByteArray) (n:ByteArray) (k:Nat):gJ (bb f 0 k) n=ft (fun j=>decide (f j=n)) 0 k:=by
 rw[Bool.eq_iff_iff,jE,cy,jB];simp
theorem qc (a b:List ByteArray) (n:ByteArray):gJ (a++b) n=(gJ a n||gJ b n):=by simp[gJ]
theorem qd (c:Nat→Int):∀k i,(aZ c i k).2=0→aZ c i k=(0,0)
 |0,_,_=>rfl
 |k+1,i,h=>by
  rw[aZ]at h⊢
  by_cases e:c i=0
  ·rw[if_pos e]at h⊢;exact qd c k (i+1) h
  ·rw[if_neg e]at h;exact absurd h e
theorem jF (c:Nat→Int) (i k:Nat):(if(aZ c i k).2=0 then some ((0,0):Int×Int)else some (aZ c i k))=some (aZ c i k):=by
 by_cases h:(aZ c i k).2=0
 ·rw[if_pos h,qd c k i h]
 ·rw[if_neg h]
noncomputable def lV (o:bn) (i:Nat):Int:=
 if cf (rd (τ:=aA) o.2.2.1 (i:Int)).1=false then 3 else if gJ ((cx o).take i) (rd (τ:=aA) o.2.2.1 (i:Int)).1=true then 24
 else if dm (rd (τ:=aA) o.2.2.1 (i:Int)).2.2.1=false then 17 else if bf (rd (τ:=aA) o.2.2.1 (i:Int)).2.2.2.size=false then 8 else 0
def qe (n:Nat):Bool:=cP (n:Int) 8 64&&decide ((n:Int).tmod 8=0)
noncomputable def lW (o:bn) (i:Nat):Int:=
 if cf (rd (τ:=bc) o.2.2.2.1 (i:Int)).1=false then 3 else if gJ ((cx o).take (o.2.2.1.length+i)) (rd (τ:=bc) o.2.2.2.1 (i:Int)).1=true then 24
 else if qe (rd (τ:=bc) o.2.2.2.1 (i:Int)).2.size=false then 8 else 0
theorem lX (o:bn) (hz:ObjSz o) (n:ByteArray) (u:Nat) (hu:u≤(cx o).length):Py o n (u:Int)=some (if cf n=false then 3 else if gJ ((cx o).take u) n=true then 24 else 0):=by
 have:=hz.f;have:=hz.d;have:=mP o
 rw[K9,(dz _).1,B3 o hz u hu]
 simp only[Option.bind_some]
 rw[yn _ _ (by simp;omega)]
 cases cf n<;>cases gJ ((cx o).take u) n<;>rfl
theorem F4 (t:ByteArray):Qv t=some (bf t.size):=by
 rw[Jm]
 unfold bf cj
 cases decide ((t.size:Int).tmod 4=0)<;>cases decide ((t.size:Int)≥20)<;>cases decide ((t.size:Int)≤256)<;>rfl
theorem B5 (o:bn) (hz:ObjSz o):gE.a o o.2.2.1 (o.2.2.1.length:Int) 0=if(aZ (lV o) 0 o.2.2.1.length).2=0 then gE.b o o.2.2.2.1 (o.2.2.2.1.length:Int) 0 else some (aZ (lV o) 0 o.2.2.1.length):=by
 have:=hz.f
 rw[c7 (L:=gE.a o o.2.2.1 (o.2.2.1.length:Int)) (lV o) o.2.2.1.length fun i hi=> ?_]
 ·rw[gE.a_eq,ab,decide_eq_false (Nat.lt_irrefl _),cond_false]
 ·rw[gE.a_eq,ab,ae,decide_eq_true hi,ah i _ hi (by omega),lX o hz _ i (by rw[mP];omega),(eE _).1,iL]
  unfold lV
  simp only[cond_true,Option.bind_some]
  cases cf (rd (τ:=aA) o.2.2.1 (i:Int)).1 with
  |false=>rfl
  |true=>
   cases gJ ((cx o).take i) (rd (τ:=aA) o.2.2.1 (i:Int)).1 with
   |true=>rfl
   |false=>cases dm (rd (τ:=aA) o.2.2.1 (i:Int)).2.2.1<;>cases bf (rd (τ:=aA) o.2.2.1 (i:Int)).2.2.2.size<;>rfl
theorem B6 (o:bn) (hz:ObjSz o):gE.b o o.2.2.2.1 (o.2.2.2.1.length:Int) 0=if(aZ (lW o) 0 o.2.2.2.1.length).2=0 then gE.c o (o.2.2.2.2.1.length:Int) 0 else some (aZ (lW o) 0 o.2.2.2.1.length):=by
 have h1:=hz.f
 have h2:=hz.d
 rw[c7 (L:=gE.b o o.2.2.2.1 (o.2.2.2.1.length:Int)) (lW o) o.2.2.2.1.length fun i hi=> ?_]
 ·rw[gE.b_eq,ab,decide_eq_false (Nat.lt_irrefl _),cond_false]
 ·rw[gE.b_eq,ab,ae,decide_eq_true hi,ah i _ hi (by omega),aF (n:=(o.2.2.1.length:Int)+(i:Int)) (by omega) (by omega),←Int.natCast_add,lX o hz _ (o.2.2.1.length+i) (by rw[mP];omega),(bm _ _ _).1]
  unfold lW qe
  simp only[cond_true,Option.bind_some]
  cases cf (rd (τ:=bc) o.2.2.2.1 (i:Int)).1 with
  |false=>rfl
  |true=>
   cases gJ ((cx o).take (o.2.2.1.length+i)) (rd (τ:=bc) o.2.2.2.1 (i:Int)).1 with
   |true=>rfl
   |false=>cases cP ((rd (τ:=bc) o.2.2.2.1 (i:Int)).2.size:Int) 8 64<;>cases decide (((rd (τ:=bc) o.2.2.2.1 (i:Int)).2.size:Int).tmod 8=0)<;>rfl
theorem B7 (o:bn) (hz:ObjSz o):tw o=some (aZ (lV o) 0 o.2.2.1.length):=by
 have h1:=hz.f
 rw[Jn,c7 (L:=tw.a o) (lV o) o.2.2.1.length fun i hi=> ?_]
 ·rw[tw.a_eq,ab,decide_eq_false (Nat.lt_irrefl _),cond_false]
  exact jF _ _ _
 ·rw[tw.a_eq,ab,ae,decide_eq_true hi,(dz _).2]
  unfold lV
  simp only[cond_true,Option.bind_some]
  cases cf (rd (τ:=aA) o.2.2.1 (i:Int)).1 with
  |false=>rfl
  |true=>
   rw[show(!true)=false from rfl,cond_false,dS (L:=tw.b o (i:Int) (rd (τ:=aA) o.2.2.1 (i:Int))) (fun j=>decide ((rd (τ:=aA) o.2.2.1 (j:Int)).1=(rd (τ:=aA) o.2.2.1 (i:Int)).1)) i (some ((i:Int),24)) fun j hj=> ?_]
   ·rw[lU o i (by omega),mQ]
    cases ft (fun j=>decide ((rd (τ:=aA) o.2.2.1 (j:Int)).1=(rd (τ:=aA) o.2.2.1 (i:Int)).1)) 0 i with
    |true=>rfl
    |false=>
     rw[tw.b_eq,ab,decide_eq_false (Nat.lt_irrefl _),cond_false,cond_false,(eE _).2,F4,ah i _ hi (by omega)]
     simp only[Option.bind_some]
     cases dm (rd (τ:=aA) o.2.2.1 (i:Int)).2.2.1<;>cases bf (rd (τ:=aA) o.2.2.1 (i:Int)).2.2.2.size<;>rfl
   ·rw[tw.b_eq,ab,ae,decide_eq_true hj,decide_eq_true (show j<o.2.2.1.length by omega),ah j _ hj (by omega),aM];rfl
theorem B8 (o:bn) (hz:ObjSz o):mJ o=some (aZ (lW o) 0 o.2.2.2.1.length):=by
 have h1:=hz.f
 have h2:=hz.d
 rw[Jo,c7 (L:=mJ.a o) (lW o) o.2.2.2.1.length fun i hi=> ?_]
 ·rw[mJ.a_eq,ab,decide_eq_false (Nat.lt_irrefl _),cond_false]
  exact jF _ _ _
 ·rw[mJ.a_eq,ab,ae,decide_eq_true hi,(dz _).2]
  unfold lW qe
  simp only[cond_true,Option.bind_some]
  cases cf (rd (τ:=bc) o.2.2.2.1 (i:Int)).1 with
  |false=>rfl
  |true=>
   rw[show(!true)=false from rfl,cond_false,dS (L:=mJ.b o (i:Int) (rd (τ:=bc) o.2.2.2.1 (i:Int))) (fun j=>decide ((rd (τ:=aA) o.2.2.1 (j:Int)).1=(rd (τ:=bc) o.2.2.2.1 (i:Int)).1)) o.2.2.1.length (some ((i:Int),24)) fun j hj=> ?_]
   ·rw[iO o i (by omega),qc,mQ,mQ]
    cases ft (fun j=>decide ((rd (τ:=aA) o.2.2.1 (j:Int)).1=(rd (τ:=bc) o.2.2.2.1 (i:Int)).1)) 0 o.2.2.1.length with
    |true=>rfl
    |false=>
     rw[mJ.b_eq,ab,decide_eq_false (Nat.lt_irrefl _),cond_false,cond_false,dS (L:=mJ.c o (i:Int) (rd (τ:=bc) o.2.2.2.1 (i:Int))) (fun j=>decide ((rd (τ:=bc) o.2.2.2.1 (j:Int)).1=(rd (τ:=bc) o.2.2.2.1 (i:Int)).1)) i (some ((i:Int),24)) fun j hj=> ?_]
     ·cases ft (fun j=>decide ((rd (τ:=bc) o.2.2.2.1 (j:Int)).1=(rd (τ:=bc) o.2.2.2.1 (i:Int)).1)) 0 i with
      |true=>rfl
      |false=>
       rw[mJ.c_eq,ab,decide_eq_false (Nat.lt_irrefl _),cond_false,cond_false,ah i _ hi (by omega)]
       unfold cP
       generalize (rd (τ:=bc) o.2.2.2.1 (i:Int)).2.size=n
       rw[show decide ((n:Int)<8)= !decide (8≤(n:Int)) by rw[←decide_not];congr 1;apply propext;omega,show decide ((n:Int)>64)= !decide ((n:Int)≤64) by rw[←decide_not];congr 1;apply propext;omega]
       cases decide ((n:Int).tmod 8=0)<;>cases decide (8≤(n:Int))<;>cases decide ((n:Int)≤64)<;>rfl
     ·rw[mJ.c_eq,ab,ae,decide_eq_true hj,decide_eq_true (show j<o.2.2.2.1.length by omega),ah j _ hj (by omega),aM];rfl
   ·rw[mJ.b_eq,ab,ae,decide_eq_true hj,ah j _ hj (by omega),aM];rfl
def lY (a b c d:Int):Bool:=if a=c then decide (b<d)else decide (a<c)
def ej (o:bn) (u:Int):Int:=
 if 0≤u∧u< (o.2.2.1.length:Int)then((rd (τ:=aA) o.2.2.1 u).2.2.2.size:Int).tdiv 4
 else if(o.2.2.1.length:Int)≤u∧u< (o.2.2.1.length:Int)+(o.2.2.2.1.length:Int)then((rd (τ:=bc) o.2.2.2.1 (u-(o.2.2.1.length:Int))).2.size:Int).tdiv 8 else-1
structure UnitSz (o:bn):Prop extends ObjSz o where
 fs:∀i,i<o.2.2.1.length→(rd (τ:=aA) o.2.2.1 (i:Int)).2.2.2.size≤256
 ds:∀i,i<o.2.2.2.1.length→(rd (τ:=bc) o.2.2.2.1 (i:Int)).2.size≤64
theorem fU {α:Type} (f:Nat→α):∀k i j (h:j< (bb f i k).length),(bb f i k)[j]=f (i+j)
 |0,_,_,h=>by simp[bb]at h
 |k+1,i,0,_=>by simp[bb]
 |k+1,i,j+1,h=>by
  have:=fU f k (i+1) j (by rw[az]at h⊢;omega)
  simp only[bb,List.getElem_cons_succ]
  rw[this];congr 1;omega
theorem HN (n k:Nat) (h:n≤4096):IntKind.wrap .i64 ((n:Int).tdiv (k:Int))=(n:Int).tdiv (k:Int):=by
 rw[Int.tdiv_eq_ediv_of_nonneg (by omega)]
 have h1:0≤(n:Int)/(k:Int):=Int.ediv_nonneg (by omega) (by omega)
 have h2:(n:Int)/(k:Int)≤(n:Int):=Int.ediv_le_self _ (by omega)
 exact aF (by omega) (by omega)
theorem sn (o:bn):(fg o).length=o.2.2.1.length+o.2.2.2.1.length:=by unfold fg;rw[List.length_append,az,az]
theorem F5 (o:bn) (hz:UnitSz o) (u:Nat) (hu:u<o.2.2.1.length+o.2.2.2.1.length):rd (τ:= .int .i64) (fg o) (u:Int)=ej o (u:Int):=by
 unfold ej
 have hl:=sn o
 rw[aS (τ:= .int .i64) (fg o) u (by omega)]
 by_cases h:u<o.2.2.1.length
 ·rw[if_pos ⟨by omega,by omega⟩]
  have:(fg o)[u]'(by omega)=IntKind.wrap .i64 (((rd (τ:=aA) o.2.2.1 ((0+u:Nat):Int)).2.2.2.size:Int).tdiv 4):=by
   unfold fg
   rw[List.getElem_append_left (by rw[az];exact h),fU]
  rw[this,Nat.zero_add]
  exact HN _ 4 (by have:=hz.fs u h;omega)
 ·rw[if_neg (by omega),if_pos ⟨by omega,by omega⟩]
  have:(fg o)[u]'(by omega)=IntKind.wrap .i64 (((rd (τ:=bc) o.2.2.2.1 ((0+(u-(bb (fun i=>IntKind.wrap .i64 (((rd (τ:=aA) o.2.2.1 (i:Int)).2.2.2.size:Int).tdiv 4)) 0 o.2.2.1.length).length):Nat):Int)).2.size:Int).tdiv 8):=by
   unfold fg
   rw[List.getElem_append_right (by rw[az];omega),fU]
  rw[az]at this
  rw[this,Nat.zero_add,show(u:Int)-(o.2.2.1.length:Int)=((u-o.2.2.1.length:Nat):Int) by omega]
  exact HN _ 8 (by have:=hz.ds (u-o.2.2.1.length) (by omega);omega)
theorem v7 (o:bn) (hz:UnitSz o) (u:Int): -1≤ej o u∧ej o u≤256:=by
 unfold ej
 split
 ·rename_i h
  have:=hz.fs u.toNat (by omega)
  rw[show((u.toNat:Nat):Int)=u by omega]at this
  rw[Int.tdiv_eq_ediv_of_nonneg (by omega)]
  omega
 ·split
  ·rename_i h
   have:=hz.ds (u-(o.2.2.1.length:Int)).toNat (by omega)
   rw[show(((u-(o.2.2.1.length:Int)).toNat:Nat):Int)=u-(o.2.2.1.length:Int) by omega]at this
   rw[Int.tdiv_eq_ediv_of_nonneg (by omega)]
   omega
  ·omega
theorem B9 (o:bn) (hz:UnitSz o) (u:Int) (hu: -9223372036854775808≤u∧u≤9223372036854775807):O3 o u=some (ej o u):=by
 rw[Jp]
 have h1:=hz.f
 have h2:=hz.d
 unfold ej
 by_cases h:0≤u∧u< (o.2.2.1.length:Int)
 ·have e1:decide (u≥0)=true:=decide_eq_true h.1
  have e2:decide (u< (o.2.2.1.length:Int))=true:=decide_eq_true h.2
  simp only[ax,e1,e2,cond_true,inL_true h.1 h.2,if_pos h]
  have:=hz.fs u.toNat (by omega)
  rw[show((u.toNat:Nat):Int)=u by omega]at this
  rw[show(4:Int)=((4:Nat):Int) from rfl,HN _ 4 (by omega)]
 ·have e0:(decide (u≥0)&&decide (u< (o.2.2.1.length:Int)))=false:=by simp;omega
  simp only[ax,if_neg h]
  generalize decide (u≥0)=b0 at*
  generalize decide (u< (o.2.2.1.length:Int))=b1 at*
  by_cases h3:(o.2.2.1.length:Int)≤u
  ·rw[decide_eq_true (show u≥(o.2.2.1.length:Int) from h3),aF (n:=u-(o.2.2.1.length:Int)) (by omega) (by omega)]
   by_cases h4:u< (o.2.2.1.length:Int)+(o.2.2.2.1.length:Int)
   ·rw[if_pos ⟨h3,h4⟩,decide_eq_true (show u-(o.2.2.1.length:Int)< (o.2.2.2.1.length:Int) by omega),inL_true (i:=u-(o.2.2.1.length:Int)) (n:=o.2.2.2.1.length) (by omega) (by omega)]
    have:=hz.ds (u-(o.2.2.1.length:Int)).toNat (by omega)
    rw[show(((u-(o.2.2.1.length:Int)).toNat:Nat):Int)=u-(o.2.2.1.length:Int) by omega]at this
    rw[show(8:Int)=((8:Nat):Int) from rfl,HN _ 8 (by omega)]
    cases b0<;>cases b1<;>first|rfl|(exact absurd e0 (by decide))
   ·rw[if_neg (by omega),decide_eq_false (show¬u-(o.2.2.1.length:Int)< (o.2.2.2.1.length:Int) by omega)]
    cases b0<;>cases b1<;>first|rfl|(exact absurd e0 (by decide))
  ·rw[decide_eq_false (show¬u≥(o.2.2.1.length:Int) from h3),if_neg (by omega)]
   cases b0<;>cases b1<;>first|rfl|(exact absurd e0 (by decide))
def PE (n:Int):Prop:= -9223372036854775808≤n∧n≤9223372036854775807
def so (o:bn):Prop:=∀k,k<o.2.2.2.2.1.length→PE (rd (τ:=bU) o.2.2.2.2.1 (k:Int)).1
def ii (o:bn) (r:Ic):Bool:=cP r.1 0 ((o.2.2.1.length:Int)+(o.2.2.2.1.length:Int)-1)&&cP r.2.1 0 (ej o r.1-1)
noncomputable def k8 (o:bn) (k:Nat):Int:=
 if ii o (rd (τ:=bU) o.2.2.2.2.1 (k:Int))=false then 4
 else if(cP (rd (τ:=bU) o.2.2.2.2.1 (k:Int)).2.2.1 1 9&&(decide ((rd (τ:=bU) o.2.2.2.2.1 (k:Int)).2.2.1=9)==decide ((rd (τ:=bU) o.2.2.2.2.1 (k:Int)).1≥(o.2.2.1.length:Int))))=false then 26
 else if cf (rd (τ:=bU) o.2.2.2.2.1 (k:Int)).2.2.2.1=false then 3
 else if cP (rd (τ:=bU) o.2.2.2.2.1 (k:Int)).2.2.2.2 (-2147483648) 2147483647=false then 4
 else if k=0 then 0
 else if lY (rd (τ:=bU) o.2.2.2.2.1 ((k-1:Nat):Int)).1 (rd (τ:=bU) o.2.2.2.2.1 ((k-1:Nat):Int)).2.1 (rd (τ:=bU) o.2.2.2.2.1 (k:Int)).1 (rd (τ:=bU) o.2.2.2.2.1 (k:Int)).2.1=false then 24 else 0
theorem yp (pu pa u a:Int):(bif decide (u<pu)then some (24:Int)else bif decide (u=pu)then bif decide (a≤pa)then some 24 else some 0 else some 0)=some (if lY pu pa u a=false then 24 else 0):=by
 rcases Int.lt_trichotomy u pu with h|h|h
 ·rw[decide_eq_true h,show lY pu pa u a=false by unfold lY;rw[if_neg (show¬pu=u by omega)];exact decide_eq_false (by omega)];rfl
 ·subst h
  rw[decide_eq_false (by omega),decide_eq_true rfl,cond_false,cond_true]
  have:lY u pa u a=decide (pa<a):=by unfold lY;rw[if_pos rfl]
  rw[this]
  by_cases h:a≤pa
  ·rw[decide_eq_true h,decide_eq_false (show¬pa<a by omega)];rfl
  ·rw[decide_eq_false h,decide_eq_true (show pa<a by omega)];rfl
 ·rw[decide_eq_false (by omega),decide_eq_false (by omega),show lY pu pa u a=true by unfold lY;rw[if_neg (show¬pu=u by omega)];exact decide_eq_true (by omega)];rfl
theorem yq (o:bn) (hz:UnitSz o) (r:Ic) {β:Type} (K:Bool→Option β):
  ((fY r.1 0 (IntKind.wrap .i64 (((fg o).length:Int)-1))).bind fun r2=>bif (!r2)then K true else(bif (ao r.1 (fg o).length)then((fY r.2.1 0 (IntKind.wrap .i64 ((rd (τ:= .int .i64) (fg o) r.1)-1))).bind fun r3=>K (!r3))else none))=K (!ii o r):=by
 have h1:=hz.f
 have h2:=hz.d
 rw[sn,aF (n:=((o.2.2.1.length+o.2.2.2.1.length:Nat):Int)-1) (by omega) (by omega),(bm _ _ _).1,(bm _ _ _).1]
 simp only[Option.bind_some]
 unfold ii
 rw[Int.natCast_add]
 by_cases h:0≤r.1∧r.1≤(o.2.2.1.length:Int)+(o.2.2.2.1.length:Int)-1
 ·rw[bj.2 h,inL_true (by omega) (by omega)]
  have hu:=F5 o hz r.1.toNat (by omega)
  rw[show((r.1.toNat:Nat):Int)=r.1 by omega]at hu
  have hr:=v7 o hz r.1
  simp only[Bool.not_true,cond_false,cond_true,Bool.true_and]
  rw[hu,aF (n:=ej o r.1-1) (by omega) (by omega)]
 ·rw[show cP r.1 0 ((o.2.2.1.length:Int)+(o.2.2.2.1.length:Int)-1)=false by cases h5:cP r.1 0 ((o.2.2.1.length:Int)+(o.2.2.2.1.length:Int)-1);rfl;exact absurd (bj.1 h5) h];rfl
theorem yr (o:bn) (hz:UnitSz o) (r:Ic) (hr:PE r.1) {β:Type} (K:Bool→Option β):
  (bif decide (r.2.1<0)then K true else((O3 o r.1).bind fun r1=>K (decide (r.2.1≥r1))))=K (!ii o r):=by
 rw[B9 o hz _ hr]
 simp only[Option.bind_some]
 have h1:=hz.f
 have h2:=hz.d
 have e:(decide (r.2.1<0)||decide (r.2.1≥ej o r.1))= !ii o r:=by
  unfold ii
  rw[Bool.eq_iff_iff]
  simp only[Bool.or_eq_true,decide_eq_true_eq,Bool.not_eq_true',Bool.and_eq_false_imp,bj]
  constructor
  ·intro h h3
   cases h4:cP r.2.1 0 (ej o r.1-1)with
   |false=>rfl
   |true=>rw[bj]at h4;omega
  ·intro h
   by_cases h3:0≤r.1∧r.1≤(o.2.2.1.length:Int)+(o.2.2.2.1.length:Int)-1
   ·have:=h h3
    by_cases h4:0≤r.2.1∧r.2.1≤ej o r.1-1
    ·rw[bj.2 h4]at this;cases this
    ·omega
   ·have:ej o r.1= -1:=by unfold ej;rw[if_neg (by omega),if_neg (by omega)]
    omega
 rw[←e]
 cases decide (r.2.1<0)<;>rfl
theorem Ca (o:bn) (hz:UnitSz o):gE.c o (o.2.2.2.2.1.length:Int) 0=if(aZ (k8 o) 0 o.2.2.2.2.1.length).2=0 then gE.d o o.2.2.2.2.2 (o.2.2.2.2.2.length:Int) 0 else some (aZ (k8 o) 0 o.2.2.2.2.1.length):=by
 have h3:=hz.r
 rw[c7 (L:=gE.c o (o.2.2.2.2.1.length:Int)) (k8 o) o.2.2.2.2.1.length fun i hi=> ?_]
 ·rw[gE.c_eq,ab,decide_eq_false (Nat.lt_irrefl _),cond_false]
 ·have e:QM o (i:Int)=some (k8 o i):=by
   rw[Lb,ae,decide_eq_true hi,cond_true,B4 o hz.toObjSz]
   simp only[Option.bind_some,ax]
   rw[yq o hz (rd (τ:=bU) o.2.2.2.2.1 (i:Int)) (fun r5=>bif r5 then some 4 else _)]
   unfold k8
   generalize hrel:ii o (rd (τ:=bU) o.2.2.2.2.1 (i:Int))=ra
   rw[(bm _ _ _).1,(bm _ _ _).1,(dz _).1]
   simp only[Option.bind_some]
   cases ra with
   |false=>rfl
   |true=>
    generalize cP (rd (τ:=bU) o.2.2.2.2.1 (i:Int)).2.2.1 1 9=b1
    generalize (decide ((rd (τ:=bU) o.2.2.2.2.1 (i:Int)).2.2.1=9)==decide ((rd (τ:=bU) o.2.2.2.2.1 (i:Int)).1≥(o.2.2.1.length:Int)))=b2
    cases b1 with
    |false=>rfl
    |true=>
     cases b2 with
     |false=>rfl
     |true=>
      generalize cf (rd (τ:=bU) o.2.2.2.2.1 (i:Int)).2.2.2.1=b3
      generalize cP (rd (τ:=bU) o.2.2.2.2.1 (i:Int)).2.2.2.2 (-2147483648) 2147483647=b4
      cases b3 with
      |false=>rfl
      |true=>
       cases b4 with
       |false=>rfl
       |true=>
        by_cases h0:i=0
        ·rw[show decide ((i:Int)>0)=false by simp[h0],if_pos h0];rfl
        ·rw[show decide ((i:Int)>0)=true by simp;omega,if_neg h0,eR i (by omega) (by omega),ae,decide_eq_true (show i-1<o.2.2.2.2.1.length by omega),yp];rfl
  rw[gE.c_eq,ab,decide_eq_true hi,ah i _ hi (by omega),e]
  simp only[Option.bind_some,cond_true]
  by_cases h:k8 o i=0
  ·rw[if_pos h,decide_eq_true h];rfl
  ·rw[if_neg h,decide_eq_false h];rfl
theorem Cb (o:bn) (hz:UnitSz o) (hr:so o):Cy o=some (aZ (k8 o) 0 o.2.2.2.2.1.length):=by
 have h3:=hz.r
 rw[Jq,c7 (L:=Cy.a o) (k8 o) o.2.2.2.2.1.length fun i hi=> ?_]
 ·rw[Cy.a_eq,ab,decide_eq_false (Nat.lt_irrefl _),cond_false]
  exact jF _ _ _
 ·rw[Cy.a_eq,ab,ae,decide_eq_true hi,cond_true,cond_true]
  simp only[ax]
  rw[yr o hz (rd (τ:=bU) o.2.2.2.2.1 (i:Int)) (hr i hi) (fun r5=>bif r5 then some ((i:Int),4)else _)]
  unfold k8
  generalize hrel:ii o (rd (τ:=bU) o.2.2.2.2.1 (i:Int))=ra
  rw[(bm _ _ _).2,(bm _ _ _).2,(dz _).2,ah i _ hi (by omega)]
  simp only[Option.bind_some]
  cases ra with
  |false=>rfl
  |true=>
   generalize cP (rd (τ:=bU) o.2.2.2.2.1 (i:Int)).2.2.1 1 9=b1
   generalize (decide ((rd (τ:=bU) o.2.2.2.2.1 (i:Int)).2.2.1=9)==decide ((rd (τ:=bU) o.2.2.2.2.1 (i:Int)).1≥(o.2.2.1.length:Int)))=b2
   cases b1 with
   |false=>rfl
   |true=>
    cases b2 with
    |false=>rfl
    |true=>
     generalize cf (rd (τ:=bU) o.2.2.2.2.1 (i:Int)).2.2.2.1=b3
     generalize cP (rd (τ:=bU) o.2.2.2.2.1 (i:Int)).2.2.2.2 (-2147483648) 2147483647=b4
     cases b3 with
     |false=>rfl
     |true=>
      cases b4 with
      |false=>rfl
      |true=>
       by_cases h0:i=0
       ·rw[show decide ((i:Int)>0)=false by simp[h0],if_pos h0];rfl
       ·rw[show decide ((i:Int)>0)=true by simp;omega,if_neg h0,eR i (by omega) (by omega),ae,decide_eq_true (show i-1<o.2.2.2.2.1.length by omega),sm]
        unfold lY
        simp only[Option.bind_some,cond_true,Bool.not_true,cond_false,Bool.and_self]
        generalize (if(rd (τ:=bU) o.2.2.2.2.1 ((i-1:Nat):Int)).1=(rd (τ:=bU) o.2.2.2.2.1 (i:Int)).1 then decide ((rd (τ:=bU) o.2.2.2.2.1 ((i-1:Nat):Int)).2.1< (rd (τ:=bU) o.2.2.2.2.1 (i:Int)).2.1)else decide ((rd (τ:=bU) o.2.2.2.2.1 ((i-1:Nat):Int)).1< (rd (τ:=bU) o.2.2.2.2.1 (i:Int)).1))=b5
        cases b5<;>rfl
def yu (o:bn) (k:Nat):Int:=
 if cP (rd (τ:=dj) o.2.2.2.2.2 (k:Int)).1 0 255=false then 4 else if k=0 then 0
 else if decide ((rd (τ:=dj) o.2.2.2.2.2 (k:Int)).1≤(rd (τ:=dj) o.2.2.2.2.2 ((k-1:Nat):Int)).1)=true then 24 else 0
theorem Cc (o:bn) (hz:ObjSz o):gE.d o o.2.2.2.2.2 (o.2.2.2.2.2.length:Int) 0=some (aZ (yu o) 0 o.2.2.2.2.2.length):=by
 have h3:=hz.s
 rw[c7 (L:=gE.d o o.2.2.2.2.2 (o.2.2.2.2.2.length:Int)) (yu o) o.2.2.2.2.2.length fun i hi=> ?_]
 ·rw[gE.d_eq,ab,decide_eq_false (Nat.lt_irrefl _),cond_false]
  exact jF _ _ _
 ·rw[gE.d_eq,ab,ae,decide_eq_true hi,ah i _ hi (by omega),(bm _ _ _).1]
  unfold yu
  simp only[Option.bind_some,cond_true]
  by_cases h0:i=0
  ·rw[show decide ((i:Int)>0)=false by simp[h0],if_pos h0]
   cases cP (rd (τ:=dj) o.2.2.2.2.2 (i:Int)).1 0 255<;>rfl
  ·rw[show decide ((i:Int)>0)=true by simp;omega,if_neg h0,eR i (by omega) (by omega),ae,decide_eq_true (show i-1<o.2.2.2.2.2.length by omega)]
   cases cP (rd (τ:=dj) o.2.2.2.2.2 (i:Int)).1 0 255<;>cases decide ((rd (τ:=dj) o.2.2.2.2.2 (i:Int)).1≤(rd (τ:=dj) o.2.2.2.2.2 ((i-1:Nat):Int)).1)<;>rfl
theorem Cd (o:bn) (hz:ObjSz o):Cz o=some (aZ (yu o) 0 o.2.2.2.2.2.length):=by
 have h3:=hz.s
 rw[Jr,c7 (L:=Cz.a o) (yu o) o.2.2.2.2.2.length fun i hi=> ?_]
 ·rw[Cz.a_eq,ab,decide_eq_false (Nat.lt_irrefl _),cond_false]
  exact jF _ _ _
 ·rw[Cz.a_eq,ab,ae,decide_eq_true hi,ah i _ hi (by omega),(bm _ _ _).2]
  unfold yu
  simp only[Option.bind_some,cond_true]
  by_cases h0:i=0
  ·rw[show decide ((i:Int)>0)=false by simp[h0],if_pos h0]
   cases cP (rd (τ:=dj) o.2.2.2.2.2 (i:Int)).1 0 255<;>rfl
  ·rw[show decide ((i:Int)>0)=true by simp;omega,if_neg h0,eR i (by omega) (by omega),ae,decide_eq_true (show i-1<o.2.2.2.2.2.length by omega)]
   cases cP (rd (τ:=dj) o.2.2.2.2.2 (i:Int)).1 0 255<;>cases decide ((rd (τ:=dj) o.2.2.2.2.2 (i:Int)).1≤(rd (τ:=dj) o.2.2.2.2.2 ((i-1:Nat):Int)).1)<;>rfl
noncomputable def v8 (o:bn):Int×Int:=
 if cf o.1=false then(0,3)else if cP o.2.1 0 5=false then(0,27)else if o.2.2.1.length=0 then(0,5)
 else if¬(o.2.2.1.length≤4∧o.2.2.2.1.length≤4∧o.2.2.2.2.1.length≤32∧o.2.2.2.2.2.length≤4)then(0,6)
 else if(aZ (lV o) 0 o.2.2.1.length).2≠0 then aZ (lV o) 0 o.2.2.1.length
 else if(aZ (lW o) 0 o.2.2.2.1.length).2≠0 then aZ (lW o) 0 o.2.2.2.1.length
 else if(aZ (k8 o) 0 o.2.2.2.2.1.length).2≠0 then aZ (k8 o) 0 o.2.2.2.2.1.length
 else aZ (yu o) 0 o.2.2.2.2.2.length
theorem wa {n:Nat} (h:bf n=true):n≤256:=by
 unfold bf at h
 cases h1:cj n with
 |false=>rw[h1]at h;cases h
 |true=>exact(fb h1).2
theorem jY {o:bn} {i:Nat} (h:lV o i=0):cf (rd (τ:=aA) o.2.2.1 (i:Int)).1=true∧gJ ((cx o).take i) (rd (τ:=aA) o.2.2.1 (i:Int)).1=false∧dm (rd (τ:=aA) o.2.2.1 (i:Int)).2.2.1=true∧bf (rd (τ:=aA) o.2.2.1 (i:Int)).2.2.2.size=true:=by
 unfold lV at h
 cases h1:cf (rd (τ:=aA) o.2.2.1 (i:Int)).1<;>cases h2:gJ ((cx o).take i) (rd (τ:=aA) o.2.2.1 (i:Int)).1<;>cases h3:dm (rd (τ:=aA) o.2.2.1 (i:Int)).2.2.1<;>cases h4:bf (rd (τ:=aA) o.2.2.1 (i:Int)).2.2.2.size<;>simp[h1,h2,h3,h4]at h⊢
theorem ij {o:bn} {i:Nat} (h:lW o i=0):cf (rd (τ:=bc) o.2.2.2.1 (i:Int)).1=true∧gJ ((cx o).take (o.2.2.1.length+i)) (rd (τ:=bc) o.2.2.2.1 (i:Int)).1=false∧qe (rd (τ:=bc) o.2.2.2.1 (i:Int)).2.size=true:=by
 unfold lW at h
 cases h1:cf (rd (τ:=bc) o.2.2.2.1 (i:Int)).1<;>cases h2:gJ ((cx o).take (o.2.2.1.length+i)) (rd (τ:=bc) o.2.2.2.1 (i:Int)).1<;>cases h4:qe (rd (τ:=bc) o.2.2.2.1 (i:Int)).2.size<;>simp[h1,h2,h4]at h⊢
theorem nu {n:Nat} (h:qe n=true):8≤n∧n≤64∧n%8=0:=by
 unfold qe at h
 rw[Bool.and_eq_true,bj,decide_eq_true_eq,Int.tmod_eq_emod_of_nonneg (by omega)]at h
 omega
theorem sq {o:bn} (hz:ObjSz o) (h1:(aZ (lV o) 0 o.2.2.1.length).2=0) (h2:(aZ (lW o) 0 o.2.2.2.1.length).2=0):UnitSz o:=
 ⟨hz,fun i hi=>wa (jY ((c8 _ _ _).1 h1 i (Nat.zero_le _) (by omega))).2.2.2,fun i hi=>(nu (ij ((c8 _ _ _).1 h2 i (Nat.zero_le _) (by omega))).2.2).2.1⟩
theorem sr (o:bn) (hr:so o):gE o=some (v8 o)∧Qw o=some (v8 o):=by
 rw[Lc,Js,(dz _).1,(dz _).2,(bm _ _ _).1,(bm _ _ _).2]
 unfold v8
 simp only[Option.bind_some,ax]
 cases cf o.1 with
 |false=>exact⟨rfl,rfl⟩
 |true=>
  cases cP o.2.1 0 5 with
  |false=>exact⟨rfl,rfl⟩
  |true=>
   by_cases h0:o.2.2.1.length=0
   ·rw[if_pos h0,decide_eq_true (show(o.2.2.1.length:Int)=0 by omega)];exact⟨rfl,rfl⟩
   rw[if_neg h0,decide_eq_false (show¬(o.2.2.1.length:Int)=0 by omega)]
   rcases Classical.em (o.2.2.1.length≤4∧o.2.2.2.1.length≤4∧o.2.2.2.2.1.length≤32∧o.2.2.2.2.2.length≤4)with hz|hz
   ·rw[if_neg (not_not_intro hz),decide_eq_false (show¬(o.2.2.1.length:Int)>4 by omega),decide_eq_false (show¬(o.2.2.2.1.length:Int)>4 by omega),decide_eq_false (show¬(o.2.2.2.2.1.length:Int)>32 by omega),decide_eq_false (show¬(o.2.2.2.2.2.length:Int)>4 by omega)]
    have hz':ObjSz o:=⟨hz.1,hz.2.1,hz.2.2.1,hz.2.2.2⟩
    simp only[Bool.not_true,cond_false]
    rw[B5 o hz',B7 o hz']
    simp only[Option.bind_some]
    by_cases h1:(aZ (lV o) 0 o.2.2.1.length).2=0
    ·rw[if_pos h1,if_neg (not_not_intro h1),decide_eq_true h1,B6 o hz',B8 o hz']
     simp only[Option.bind_some,Bool.not_true,cond_false]
     by_cases h2:(aZ (lW o) 0 o.2.2.2.1.length).2=0
     ·have hu:=sq hz' h1 h2
      rw[if_pos h2,if_neg (not_not_intro h2),decide_eq_true h2,Ca o hu,Cb o hu hr]
      simp only[Option.bind_some,Bool.not_true,cond_false]
      by_cases h3:(aZ (k8 o) 0 o.2.2.2.2.1.length).2=0
      ·rw[if_pos h3,if_neg (not_not_intro h3),decide_eq_true h3,Cc o hz',Cd o hz'];exact⟨rfl,rfl⟩
      ·rw[if_neg h3,if_pos h3,decide_eq_false h3];exact⟨rfl,rfl⟩
     ·rw[if_neg h2,if_pos h2,decide_eq_false h2];exact⟨rfl,rfl⟩
    ·rw[if_neg h1,if_pos h1,decide_eq_false h1];exact⟨rfl,rfl⟩
   ·rw[if_pos hz]
    have e:(decide ((o.2.2.1.length:Int)>4)||decide ((o.2.2.2.1.length:Int)>4)||decide ((o.2.2.2.2.1.length:Int)>32)||decide ((o.2.2.2.2.2.length:Int)>4))=true:=by simp;omega
    generalize decide ((o.2.2.1.length:Int)>4)=b1 at*
    generalize decide ((o.2.2.2.1.length:Int)>4)=b2 at*
    generalize decide ((o.2.2.2.2.1.length:Int)>32)=b3 at*
    generalize decide ((o.2.2.2.2.2.length:Int)>4)=b4 at*
    cases b1<;>cases b2<;>cases b3<;>cases b4<;>first|exact⟨rfl,rfl⟩|(exact absurd e (by decide))
noncomputable def qf (o:bn):Bool:=decide ((v8 o).2=0)
theorem iP (o:bn) (hr:so o):OP o=some (qf o)∧Qx o=some (qf o):=by
 rw[Ld,Jt,(sr o hr).1,(sr o hr).2];exact⟨rfl,rfl⟩
structure dT (o:bn):Prop extends UnitSz o where
 depth:0≤o.2.1∧o.2.1≤5
 pos:0<o.2.2.1.length
 fun_:∀i,i<o.2.2.1.length→lV o i=0
 dat:∀i,i<o.2.2.2.1.length→lW o i=0
 rel:∀i,i<o.2.2.2.2.1.length→k8 o i=0
theorem lZ {o:bn} (h:qf o=true):dT o:=by
 unfold qf at h
 rw[decide_eq_true_eq]at h
 unfold v8 at h
 split at h
 ·cases h
 split at h
 ·cases h
 rename_i hn hd
 split at h
 ·cases h
 split at h
 ·cases h
 rename_i h0 hz
 have hz:=Classical.not_not.1 hz
 split at h
 ·rename_i h1;exact absurd h h1
 split at h
 ·rename_i h2;exact absurd h h2
 split at h
 ·rename_i h3;exact absurd h h3
 rename_i h1 h2 h3
 have h1:=Classical.not_not.1 h1
 have h2:=Classical.not_not.1 h2
 have h3:=Classical.not_not.1 h3
 have hz':ObjSz o:=⟨hz.1,hz.2.1,hz.2.2.1,hz.2.2.2⟩
 have hd:cP o.2.1 0 5=true:=by cases h4:cP o.2.1 0 5;exact absurd h4 hd;rfl
 exact⟨sq hz' h1 h2,bj.1 hd,by omega,fun i hi=>(c8 _ _ _).1 h1 i (Nat.zero_le _) (by omega),fun i hi=>(c8 _ _ _).1 h2 i (Nat.zero_le _) (by omega),fun i hi=>(c8 _ _ _).1 h3 i (Nat.zero_le _) (by omega)⟩
theorem F6 (X:Nat) (h:X<2^64):X&&&(2^64-1-4095)=X/4096*4096:=by
 have e:(2^64-1-4095:Nat)=(2^52-1)*2^12:=by decide
 have e2:X/4096*4096=(X/2^12)*2^12:=by rfl
 rw[e,e2]
 apply Nat.eq_of_testBit_eq
 intro i
 rw[Nat.testBit_and,Nat.testBit_mul_two_pow,Nat.testBit_mul_two_pow,Nat.testBit_two_pow_sub_one,Nat.testBit_div_two_pow]
 by_cases h1:12≤i
 ·rw[show i-12+12=i by omega]
  by_cases h2:i<64
  ·simp[h1];omega
  ·have:X.testBit i=false:=Nat.testBit_lt_two_pow (Nat.lt_of_lt_of_le h (Nat.pow_le_pow_right (by decide) (by omega)))
   rw[this];simp
 ·simp[h1]
def tM (v:Int):Int:=(v+2048)-(v+2048)%4096
def HO (v:Int):Prop:= -1152921504606846976≤v∧v≤1152921504606846976
theorem mR (v:Int) (h:HO v):OQ v=some (tM v):=by
 obtain⟨h1,h2⟩:=h
 rw[Lz,aF (n:=v+2048) (by omega) (by omega)]
 congr 1
 unfold sQ
 have e1:(BitVec.ofInt IntKind.i64.bits (v+2048)&&& ~~~BitVec.ofInt IntKind.i64.bits 4095).toNat=(BitVec.ofInt IntKind.i64.bits (v+2048)).toNat/4096*4096:=by
  rw[BitVec.toNat_and,BitVec.toNat_not]
  have:(BitVec.ofInt IntKind.i64.bits (4095:Int)).toNat=4095:=by decide
  rw[this]
  exact F6 _ (BitVec.isLt _)
 rw[e1]
 have e2:=xV (v+2048)
 generalize (BitVec.ofInt IntKind.i64.bits (v+2048)).toNat=X at*
 unfold tM
 have:(((X/4096*4096:Nat)):Int)=(v+2048)%18446744073709551616/4096*4096:=by omega
 rw[this]
 refine jy (if v+2048<0 then 1 else 0) ?_ (by omega) (by omega)
 split<;>omega
theorem Mb (v:Int):ce v 12=v-tM v:=by
 unfold ce tM
 have e1:(2:Int)^12=4096:=by decide
 have e2:(2:Int)^(12-1)=2048:=by decide
 rw[e1,e2]
 split<;>omega
theorem ss (v:Int) (h:HO v):NP v=some (v-tM v):=by
 rw[LB,mR v h]
 simp only[Option.bind_some]
 rw[aF (by have:=h.1;unfold tM;omega) (by unfold tM;omega)]
theorem tG (v:Int) (h:HO v):NN v=some (v-tM v):=by
 obtain⟨h1,h2⟩:=h
 rw[JB,ia v 12 (by decide) (by decide) (by omega) (by omega)]
 simp only[Option.bind_some]
 rw[show(12:Int).toNat=12 from rfl,Mb]
theorem wb (v:Int) (h:HO v):O4 v=some (tM v):=by
 rw[JC,tG v h]
 simp only[Option.bind_some]
 have:v-(v-tM v)=tM v:=by omega
 rw[this,aF (by have:=h.1;unfold tM;omega) (by have:=h.2;unfold tM;omega)]
theorem Ce (f i:Int) (hf:1≤f∧f≤9):QR f i=some (lR f i):=by
 rw[LE]
 have t1:decide (i.tmod 4096=0)=decide (i%4096=0):=by
  congr 1;exact propext ⟨fun h=>by rw[←Int.dvd_iff_tmod_eq_zero]at h;omega,fun h=>by rw[←Int.dvd_iff_tmod_eq_zero];omega⟩
 have t2:decide (i.tmod 2=0)=decide (i%2=0):=by
  congr 1;exact propext ⟨fun h=>by rw[←Int.dvd_iff_tmod_eq_zero]at h;omega,fun h=>by rw[←Int.dvd_iff_tmod_eq_zero];omega⟩
 rw[t1,t2]
 simp only[ca,Option.bind_some,ax]
 rcases gp hf with rfl|rfl|rfl|rfl|rfl|rfl|rfl|rfl|rfl
 all_goals simp[lR,du]
 all_goals (try (split<;>simp_all))
 all_goals (try (intro q1 q2;omega))
def wc (x:iK) (k:Int):Bool:=
 if k=1 then decide (x.1=1)else if k=2∨k=5 then decide ((cS x.1).1=3)&& !decide (x.1=4)else if k=3∨k=6 then decide ((cS x.1).1=5)
 else if k=4 then decide (x.1=2)else if k=7 then decide (x.1=3)else decide ((cS x.1).1=4)
def gK (k v p:Int):Int:=
 if k=1 then tM v else if k=2∨k=3 then v-tM v else if k=4 then tM (v-p)else if k=5∨k=6 then v-p+4-tM (v-p+4)else v-p
theorem yw (n:Int) (h:1≤n) (h':n≤64):decide ((cS n).1=5)=(decide (18≤n)&&decide (n≤21)):=by
 obtain⟨k,rfl⟩:=pM (n:=n) (by omega) h'
 revert k;decide
theorem F7 (x:iK) (h:1≤x.1) (h':x.1≤64):PC x=some (decide ((cS x.1).1=3)&& !decide (x.1=4)):=by
 rw[LC,kU _ (by omega) h']
 simp only[Option.bind_some]
 cases decide ((cS x.1).1=3)<;>rfl
theorem yx {k:Int} (h:1≤k∧k≤8):k=1∨k=2∨k=3∨k=4∨k=5∨k=6∨k=7∨k=8:=by omega
def Id (v:Int):Prop:= -1099511627776≤v∧v≤1099511627776
theorem wd (x:iK) (h:1≤x.1) (h':x.1≤64) (k v p:Int) (hk:1≤k∧k≤8) (hv:Id v) (hp:Id p):QQ x k v p=some (gK k v p,wc x k):=by
 have hb:=nr x.1 h h'
 have hs:=yw x.1 h h'
 rw[LD,F7 x h h',mM,pV,←hb,←hs]
 obtain⟨v1,v2⟩:=hv
 obtain⟨p1,p2⟩:=hp
 rw[aF (n:=v-p) (by omega) (by omega),aF (n:=p-4) (by omega) (by omega),aF (n:=v-(p-4)) (by omega) (by omega),show v-(p-4)=v-p+4 by omega,
  mR v ⟨by omega,by omega⟩,ss v ⟨by omega,by omega⟩,mR (v-p) ⟨by omega,by omega⟩,ss (v-p+4) ⟨by omega,by omega⟩]
 unfold gK wc
 rcases yx hk with rfl|rfl|rfl|rfl|rfl|rfl|rfl|rfl<;>rfl
theorem F8 (x:iK) (h:1≤x.1) (h':x.1≤64) (k:Int) (hk:1≤k∧k≤8):Qy x k=some (wc x k):=by
 rw[JA,eC _ (by omega) h']
 unfold wc
 simp only[Option.bind_some,ax]
 generalize (cS x.1).1=f
 rcases yx hk with rfl|rfl|rfl|rfl|rfl|rfl|rfl|rfl<;>first|rfl|(simp only[];cases decide (f=3)<;>rfl)
theorem HP (k v p:Int) (hk:1≤k∧k≤8) (hv:Id v) (hp:Id p):Qz k v p=some (gK k v p):=by
 obtain⟨v1,v2⟩:=hv
 obtain⟨p1,p2⟩:=hp
 rw[JD,aF (n:=v-p) (by omega) (by omega),aF (n:=v-p+4) (by omega) (by omega),wb v ⟨by omega,by omega⟩,tG v ⟨by omega,by omega⟩,wb (v-p) ⟨by omega,by omega⟩,tG (v-p+4) ⟨by omega,by omega⟩]
 unfold gK
 rcases yx hk with rfl|rfl|rfl|rfl|rfl|rfl|rfl|rfl<;>rfl
theorem wg (k v p:Int) (hv:Id v) (hp:Id p):PE (gK k v p):=by
 obtain⟨v1,v2⟩:=hv
 obtain⟨p1,p2⟩:=hp
 unfold gK PE tM
 repeat' split
 all_goals omega
theorem Cf {x:iK} {i:Int} (h:eD x=true):eD (x.1,x.2.1,x.2.2.1,x.2.2.2.1,i)=lR (cS x.1).1 i:=by
 unfold eD at h⊢
 simp only[Bool.and_eq_true]at h
 simp only[h.1,Bool.and_self,Bool.true_and]
theorem HQ {i:Int} (h:lR 1 i=true):i%4096=0:=by
 unfold lR at h
 rw[if_pos rfl]at h
 simp only[Bool.and_eq_true,decide_eq_true_eq]at h
 exact h.2
theorem qZ (w k v p:Int) (hw:0≤w∧w<4294967296) (hk:1≤k∧k≤8) (hv:Id v) (hp:Id p):∃r,QS w k v p=some r∧QA w k v p=some r:=by
 obtain⟨d,h1,h2,hd⟩:=np w hw.1 hw.2
 rw[LF,JE,h1,h2]
 simp only[Option.bind_some]
 cases hb:d.2 with
 |false=>exact⟨(0,10),rfl,rfl⟩
 |true=>
  obtain⟨n1,n2,hr,hri⟩:=hd.ins hw.1 hw.2 hb
  rw[wd _ n1 n2 k v p hk hv hp,F8 _ n1 n2 k hk,HP k v p hk hv hp,kU _ (by omega) n2]
  simp only[Option.bind_some,Bool.not_true,cond_false]
  cases wc d.1 k with
  |false=>exact⟨(0,26),rfl,rfl⟩
  |true=>
   rw[Ce _ _ (ie n1 n2),jz,Cf hri]
   simp only[Option.bind_some,Bool.not_true,cond_false]
   cases hi:lR (cS d.1.1).1 (gK k v p)with
   |false=>exact⟨(0,25),rfl,rfl⟩
   |true=>
    have hR:kW (d.1.1,d.1.2.1,d.1.2.2.1,d.1.2.2.2.1,gK k v p):=⟨hr.d,hr.a,hr.b,wg k v p hv hp⟩
    rw[eX (d.1.1,d.1.2.1,d.1.2.2.1,d.1.2.2.2.1,gK k v p) n1 n2 hR,eY (d.1.1,d.1.2.1,d.1.2.2.1,d.1.2.2.2.1,gK k v p) n1 n2 hR fun h=>by
     rw[show(cS d.1.1).1=1 from h]at hi;exact HQ hi]
    exact⟨_,rfl,rfl⟩
theorem Cg (L:Int→Option Int) (c:Nat→Int) (n:Nat) (hstep:∀i:Nat,i<n→L (i:Int)=if c i=0 then L ((i+1:Nat):Int)else some (c i)):
  ∀k i:Nat,i+k=n→L (i:Int)=if(aZ c i k).2=0 then L (n:Int)else some (aZ c i k).2:=by
 intro k
 induction k with
 |zero=>
   intro i h;have:i=n:=by omega
   subst this;rfl
 |succ k ih=>
  intro i h
  rw[hstep i (by omega),ih (i+1) (by omega),aZ]
  by_cases h:c i=0
  ·rw[if_pos h,if_pos h]
  ·rw[if_neg h,if_neg h,if_neg h]
theorem iQ {L:Int→Option Int} (c:Nat→Int) (n:Nat) (hstep:∀i:Nat,i<n→L (i:Int)=if c i=0 then L ((i+1:Nat):Int)else some (c i)):L 0=if(aZ c 0 n).2=0 then L (n:Int)else some (aZ c 0 n).2:=
 Cg L c n hstep n 0 (by omega)
abbrev eT:Type:=List Int×List ByteArray×List Int×List ByteArray
abbrev Rk:Type:=eT×List da×bn
theorem dL (t:List da) (n:ByteArray):ci t n= -1∨(0≤ci t n∧ci t n< (t.length:Int)):=by
 unfold ci
 rcases cr (fun i=>decide ((rd (τ:=aT) t (i:Int)).1=n)) t.length 0 with⟨h,_⟩|⟨j,h1,_,h3,_⟩
 ·exact .inl h
 ·rw[h1];exact .inr ⟨by omega,by omega⟩
def CW (t:List da) (o:bn) (i:Nat):Int:=
 if(rd (τ:=aA) o.2.2.1 (i:Int)).2.1=true then(if ci t (rd (τ:=aA) o.2.2.1 (i:Int)).1<0 then 23 else if(rd (τ:=aT) t (ci t (rd (τ:=aA) o.2.2.1 (i:Int)).1)).2.1=1 then 0 else 26)
 else if ci t (rd (τ:=aA) o.2.2.1 (i:Int)).1≥0 then 24 else 0
def Ie (t:List da) (o:bn) (i:Nat):Int:=if ci t (rd (τ:=bc) o.2.2.2.1 (i:Int)).1≥0 then 24 else 0
def fV (t:List da) (o:bn):Int:=
 if(aZ (CW t o) 0 o.2.2.1.length).2=0 then(aZ (Ie t o) 0 o.2.2.2.1.length).2 else(aZ (CW t o) 0 o.2.2.1.length).2
theorem wh (c:Nat→Int) (i k:Nat):(if(aZ c i k).2=0 then some (0:Int)else some (aZ c i k).2)=some (aZ c i k).2:=by
 by_cases h:(aZ c i k).2=0
 ·rw[if_pos h,h]
 ·rw[if_neg h]
theorem yy (l:eT) (t:List da) (o:bn) (ht:t.length≤64) (hz:ObjSz o):qo (l,t,o)=some (fV t o):=by
 have h1:=hz.f
 have h2:=hz.d
 rw[Lu]
 show qo.a (l,t,o) o.2.2.1 (o.2.2.1.length:Int) 0=_
 rw[iQ (L:=qo.a (l,t,o) o.2.2.1 (o.2.2.1.length:Int)) (CW t o) o.2.2.1.length fun i hi=> ?_]
 ·rw[qo.a_eq,ab,decide_eq_false (Nat.lt_irrefl _),cond_false]
  show(if _ then qo.b (l,t,o) o.2.2.2.1 (o.2.2.2.1.length:Int) 0 else _)=_
  rw[iQ (L:=qo.b (l,t,o) o.2.2.2.1 (o.2.2.2.1.length:Int)) (Ie t o) o.2.2.2.1.length fun i hi=> ?_]
  ·rw[qo.b_eq,ab,decide_eq_false (Nat.lt_irrefl _),cond_false,wh]
   unfold fV
   split<;>rfl
  ·rw[qo.b_eq,ab,ae,decide_eq_true hi,ah i _ hi (by omega),(dE t _ (by omega)).1]
   unfold Ie
   simp only[cond_true,Option.bind_some]
   by_cases h:ci t (rd (τ:=bc) o.2.2.2.1 (i:Int)).1≥0
   ·rw[if_pos h,decide_eq_true h];rfl
   ·rw[if_neg h,decide_eq_false h];rfl
 ·rw[qo.a_eq,ab,ae,decide_eq_true hi,ah i _ hi (by omega),(dE t _ (by omega)).1]
  unfold CW
  simp only[cond_true,Option.bind_some,ax]
  have hr:=dL t (rd (τ:=aA) o.2.2.1 (i:Int)).1
  generalize ci t (rd (τ:=aA) o.2.2.1 (i:Int)).1=e at*
  cases (rd (τ:=aA) o.2.2.1 (i:Int)).2.1 with
  |false=>
   by_cases h:e≥0
   ·simp only[Bool.false_eq_true,if_false,if_pos h,decide_eq_true h];rfl
   ·simp only[Bool.false_eq_true,if_false,if_neg h,decide_eq_false h];rfl
  |true=>
   rcases hr with h|h
   ·simp only[if_true,if_pos (show e<0 by omega),decide_eq_true (show e<0 by omega)];rfl
   ·simp only[if_true,if_neg (show¬e<0 by omega),decide_eq_false (show¬e<0 by omega),inL_true h.1 h.2]
    by_cases h3:(rd (τ:=aT) t e).2.1=1
    ·simp only[if_pos h3,decide_eq_true h3];rfl
    ·simp only[if_neg h3,decide_eq_false h3];rfl
theorem yz (t:List da) (o:bn) (ht:t.length≤64) (hz:ObjSz o):rU t o=some (fV t o):=by
 have h1:=hz.f
 have h2:=hz.d
 rw[Jv]
 rw[iQ (L:=rU.a t o) (CW t o) o.2.2.1.length fun i hi=> ?_]
 ·rw[rU.a_eq,ab,decide_eq_false (Nat.lt_irrefl _),cond_false]
  rw[iQ (L:=rU.b t o) (Ie t o) o.2.2.2.1.length fun i hi=> ?_]
  ·rw[rU.b_eq,ab,decide_eq_false (Nat.lt_irrefl _),cond_false,wh]
   unfold fV
   split<;>rfl
  ·rw[rU.b_eq,ab,ae,decide_eq_true hi,ah i _ hi (by omega),(dE t _ (by omega)).2]
   unfold Ie
   simp only[cond_true,Option.bind_some]
   by_cases h:ci t (rd (τ:=bc) o.2.2.2.1 (i:Int)).1≥0
   ·rw[if_pos h,decide_eq_true h];rfl
   ·rw[if_neg h,decide_eq_false h];rfl
 ·rw[rU.a_eq,ab,ae,decide_eq_true hi,ah i _ hi (by omega),(dE t _ (by omega)).2]
  unfold CW
  simp only[cond_true,Option.bind_some]
  have hr:=dL t (rd (τ:=aA) o.2.2.1 (i:Int)).1
  generalize ci t (rd (τ:=aA) o.2.2.1 (i:Int)).1=e at*
  cases (rd (τ:=aA) o.2.2.1 (i:Int)).2.1 with
  |false=>
   by_cases h:e≥0
   ·simp only[Bool.false_eq_true,if_false,if_pos h,decide_eq_true h];rfl
   ·simp only[Bool.false_eq_true,if_false,if_neg h,decide_eq_false h];rfl
  |true=>
   rcases hr with h|h
   ·simp only[if_true,if_pos (show e<0 by omega),decide_eq_true (show e<0 by omega)];rfl
   ·simp only[if_true,if_neg (show¬e<0 by omega),decide_eq_false (show¬e<0 by omega),inL_true h.1 h.2]
    by_cases h3:(rd (τ:=aT) t e).2.1=1
    ·simp only[if_pos h3,decide_eq_true h3];rfl
    ·simp only[if_neg h3,decide_eq_false h3];rfl
structure cb (a:bl):Prop where
 base:0≤a.1∧a.1≤1048575∧a.1%8=0
 size:0≤a.2.1∧a.2.1≤1048576-a.1∧a.2.1%8=0
 top:a.1≤a.2.2∧a.2.2≤a.1+a.2.1∧a.2.2%8=0
theorem mS (n:Int):n.tmod 8=0↔n%8=0:=⟨fun h=>by rw[←Int.dvd_iff_tmod_eq_zero]at h;omega,fun h=>by rw[←Int.dvd_iff_tmod_eq_zero];omega⟩
theorem su {a:bl}:zu a=true↔cb a:=by
 unfold zu
 simp only[Bool.and_eq_true,bj,decide_eq_true_eq,mS]
 constructor
 ·rintro⟨⟨⟨⟨⟨h1,h2⟩,h3⟩,h4⟩,h5⟩,h6⟩
  rw[aF (n:=1048576-a.1) (by omega) (by omega)]at h2
  rw[aF (n:=a.1+a.2.1) (by omega) (by omega)]at h3
  exact⟨⟨h1.1,h1.2,h4⟩,⟨h2.1,h2.2,h5⟩,⟨h3.1,h3.2,h6⟩⟩
 ·rintro⟨⟨h1,h2,h3⟩,⟨h4,h5,h6⟩,h7,h8,h9⟩
  rw[aF (n:=1048576-a.1) (by omega) (by omega),aF (n:=a.1+a.2.1) (by omega) (by omega)]
  exact⟨⟨⟨⟨⟨⟨h1,h2⟩,h4,h5⟩,h7,h8⟩,h3⟩,h6⟩,h9⟩
def qr (n:Nat):Nat:=(n+7)/8*8
def aB (a:bl) (n:Nat):bl×Int×Bool:=if(qr n:Int)>a.1+a.2.1-a.2.2 then(a,0,false)else((a.1,a.2.1,a.2.2+(qr n:Int)),a.2.2,true)
theorem c9 {a:bl} (h:cb a) (n:Nat):cb (aB a n).1:=by
 unfold aB
 split
 ·exact h
 ·obtain⟨⟨h1,h2,h3⟩,⟨h4,h5,h6⟩,h7,h8,h9⟩:=h
  have:qr n%8=0:=by unfold qr;omega
  refine⟨⟨h1,h2,h3⟩,⟨h4,h5,h6⟩, ?_, ?_, ?_⟩<;>simp only<;>omega
theorem jG (a:bl) (h:cb a) (n:Nat) (hn:n≤256):PA a (n:Int)=some (aB a n):=by
 obtain⟨⟨h1,h2,h3⟩,⟨h4,h5,h6⟩,h7,h8,h9⟩:=h
 rw[Lv,aF (n:=(n:Int)+7) (by omega) (by omega),Int.tdiv_eq_ediv_of_nonneg (by omega),aF (n:=((n:Int)+7)/8) (by omega) (by omega),aF (n:=((n:Int)+7)/8*8) (by omega) (by omega),aF (n:=a.1+a.2.1) (by omega) (by omega),aF (n:=a.1+a.2.1-a.2.2) (by omega) (by omega),show((n:Int)+7)/8*8=(qr n:Int) by unfold qr;omega]
 have:qr n≤264:=by unfold qr;omega
 rw[aF (n:=a.2.2+(qr n:Int)) (by omega) (by omega)]
 unfold aB
 by_cases h:(qr n:Int)>a.1+a.2.1-a.2.2
 ·rw[if_pos h,decide_eq_true h];rfl
 ·rw[if_neg h,decide_eq_false h];rfl
theorem nJ (a:bl) (h:cb a) (z:bl):∀(k n:Nat),n+k=qr n→n≤256→CA.a (n:Int) a z=some (aB a n):=by
 obtain⟨⟨h1,h2,h3⟩,⟨h4,h5,h6⟩,h7,h8,h9⟩:=h
 intro k
 induction k with
 |zero=>
  intro n hn hn2
  have h0:n%8=0:=by unfold qr at hn;omega
  have e:decide ((n:Int).tmod 8=0)=true:=decide_eq_true ((mS _).2 (by omega))
  rw[CA.a_eq,e,aF (n:=a.1+a.2.1) (by omega) (by omega),aF (n:=a.1+a.2.1-a.2.2) (by omega) (by omega),aF (n:=a.2.2+(n:Int)) (by omega) (by omega)]
  unfold aB
  rw[←hn,Nat.add_zero]
  by_cases h:(n:Int)>a.1+a.2.1-a.2.2
  ·rw[if_pos h,decide_eq_true h];rfl
  ·rw[if_neg h,decide_eq_false h];rfl
 |succ k ih=>
  intro n hn hn2
  have h0:n%8≠0:=by unfold qr at hn;omega
  have h256:n≠256:=by intro h;subst h;exact h0 rfl
  have e:decide ((n:Int).tmod 8=0)=false:=decide_eq_false (fun h=>h0 (by have:=(mS _).1 h;omega))
  have hu:qr (n+1)=qr n:=by unfold qr;omega
  rw[CA.a_eq,e,aF (n:=(n:Int)+1) (by omega) (by omega)]
  simp only[Bool.not_false,cond_true]
  rw[show(n:Int)+1=((n+1:Nat):Int) by omega,ih (n+1) (by rw[hu];omega) (by omega)]
  unfold aB
  rw[hu]
theorem jH (a:bl) (h:cb a) (n:Nat) (hn:n≤256):CA a (n:Int)=some (aB a n):=by
 rw[Jw];exact nJ a h _ (qr n-n) n (by unfold qr;omega) hn
def dX (sz:Nat→Nat) (a:bl):Nat→Nat→bl×List Int×Bool
 |_,0=>(a,[],true)
 |i,k+1=>((dX sz (aB a (sz i)).1 (i+1) k).1,(aB a (sz i)).2.1::(dX sz (aB a (sz i)).1 (i+1) k).2.1,(aB a (sz i)).2.2&&(dX sz (aB a (sz i)).1 (i+1) k).2.2)
theorem dM (sz:Nat→Nat):∀k i a,(dX sz a i k).2.1.length=k
 |0,_,_=>rfl
 |k+1,i,a=>by rw[dX,List.length_cons,dM sz k]
theorem qg (sz:Nat→Nat):∀k i a,cb a→cb (dX sz a i k).1
 |0,_,_,h=>h
 |k+1,i,a,h=>by rw[dX];exact qg sz k (i+1) _ (c9 h _)
def fW (o:bn) (i:Nat):Nat:=(rd (τ:=aA) o.2.2.1 (i:Int)).2.2.2.size
def kA (o:bn) (i:Nat):Nat:=(rd (τ:=bc) o.2.2.2.1 (i:Int)).2.size
def kB (o:bn) (i:Nat):ByteArray:=(rd (τ:=aA) o.2.2.1 (i:Int)).2.2.2
def jI (o:bn) (i:Nat):ByteArray:=(rd (τ:=bc) o.2.2.2.1 (i:Int)).2
def after (f:Int) (ok:Bool):Int:=if f=0∧ok=false then 7 else f
theorem jJ (f:Int) (a b:Bool):after (after f a) b=after f (a&&b):=by
 unfold after
 cases a<;>cases b<;>by_cases h:f=0<;>simp[h]
theorem yA (o:bn) (hz:UnitSz o) (x6:bl) (x8:eT) (x9 x10:bl) (r:List da×bn) (l3:List Int) (l4:List ByteArray):∀(k i:Nat) (a:bl) (ats:List Int) (codes:List ByteArray) (f:Int),i+k=o.2.2.1.length→cb a→ats.length=i→codes.length=i→
  dV.a a x6 o x8 x9 x10 ((ats,codes,l3,l4),r) f o.2.2.1 (o.2.2.1.length:Int) (i:Int)=
   dV.b (dX (fW o) a i k).1 x6 o x8 x9 x10 ((ats++(dX (fW o) a i k).2.1,codes++bb (kB o) i k,l3,l4),r) (after f (dX (fW o) a i k).2.2) o.2.2.2.1 (o.2.2.2.1.length:Int) 0:=by
 have h4:=hz.f
 intro k
 induction k with
 |zero=>
  intro i a ats codes f hk ha h1 h2
  have:i=o.2.2.1.length:=by omega
  subst this
  rw[dV.a_eq,ab,decide_eq_false (Nat.lt_irrefl _),cond_false,dX,bb,List.append_nil,List.append_nil]
  simp[after]
 |succ k ih=>
  intro i a ats codes f hk ha h1 h2
  have hi:i<o.2.2.1.length:=by omega
  rw[dV.a_eq,ab,ae,decide_eq_true hi,ah i _ hi (by omega)]
  rw[jG a ha _ (by have:=hz.fs i hi;omega)]
  simp only[cond_true,Option.bind_some,ax]
  rw[jD _ (by simp;omega),jC _ (by simp;omega)]
  simp only[cond_true]
  have e:(bif decide (f=0)then bif !(aB a (rd (τ:=aA) o.2.2.1 (i:Int)).2.2.2.size).2.2 then dV.a (aB a (rd (τ:=aA) o.2.2.1 (i:Int)).2.2.2.size).1 x6 o x8 x9 x10 ((ats++[(aB a (rd (τ:=aA) o.2.2.1 (i:Int)).2.2.2.size).2.1],codes++[(rd (τ:=aA) o.2.2.1 (i:Int)).2.2.2],l3,l4),r) 7 o.2.2.1 (o.2.2.1.length:Int) ((i+1:Nat):Int)
    else dV.a (aB a (rd (τ:=aA) o.2.2.1 (i:Int)).2.2.2.size).1 x6 o x8 x9 x10 ((ats++[(aB a (rd (τ:=aA) o.2.2.1 (i:Int)).2.2.2.size).2.1],codes++[(rd (τ:=aA) o.2.2.1 (i:Int)).2.2.2],l3,l4),r) f o.2.2.1 (o.2.2.1.length:Int) ((i+1:Nat):Int)
    else bif false then dV.a (aB a (rd (τ:=aA) o.2.2.1 (i:Int)).2.2.2.size).1 x6 o x8 x9 x10 ((ats++[(aB a (rd (τ:=aA) o.2.2.1 (i:Int)).2.2.2.size).2.1],codes++[(rd (τ:=aA) o.2.2.1 (i:Int)).2.2.2],l3,l4),r) 7 o.2.2.1 (o.2.2.1.length:Int) ((i+1:Nat):Int)
    else dV.a (aB a (rd (τ:=aA) o.2.2.1 (i:Int)).2.2.2.size).1 x6 o x8 x9 x10 ((ats++[(aB a (rd (τ:=aA) o.2.2.1 (i:Int)).2.2.2.size).2.1],codes++[(rd (τ:=aA) o.2.2.1 (i:Int)).2.2.2],l3,l4),r) f o.2.2.1 (o.2.2.1.length:Int) ((i+1:Nat):Int))=
    dV.a (aB a (fW o i)).1 x6 o x8 x9 x10 ((ats++[(aB a (fW o i)).2.1],codes++[kB o i],l3,l4),r) (after f (aB a (fW o i)).2.2) o.2.2.1 (o.2.2.1.length:Int) ((i+1:Nat):Int):=by
   unfold after fW kB
   generalize aB a (rd (τ:=aA) o.2.2.1 (i:Int)).2.2.2.size=p
   by_cases h:f=0
   ·rw[decide_eq_true h]
    cases hp:p.2.2<;>simp[h]
   ·rw[decide_eq_false h];simp[h]
  rw[e,ih (i+1) _ _ _ _ (by omega) (c9 ha _) (by simp;omega) (by simp;omega),dX,bb,jJ,List.append_assoc,List.append_assoc]
  rfl
theorem yB (o:bn) (hz:UnitSz o) (x5:bl) (x8:eT) (x9 x10:bl) (r:List da×bn) (l1:List Int) (l2:List ByteArray):∀(k i:Nat) (a:bl) (ats:List Int) (codes:List ByteArray) (f:Int),i+k=o.2.2.2.1.length→cb a→ats.length=i→codes.length=i→
  dV.b x5 a o x8 x9 x10 ((l1,l2,ats,codes),r) f o.2.2.2.1 (o.2.2.2.1.length:Int) (i:Int)=
   dV.c x5 (dX (kA o) a i k).1 o x8 x9 x10 ((l1,l2,ats++(dX (kA o) a i k).2.1,codes++bb (jI o) i k),r) (after f (dX (kA o) a i k).2.2) o.2.2.2.2.1 (o.2.2.2.2.1.length:Int) 0:=by
 have h4:=hz.d
 intro k
 induction k with
 |zero=>
  intro i a ats codes f hk ha h1 h2
  have:i=o.2.2.2.1.length:=by omega
  subst this
  rw[dV.b_eq,ab,decide_eq_false (Nat.lt_irrefl _),cond_false,dX,bb,List.append_nil,List.append_nil]
  simp[after]
 |succ k ih=>
  intro i a ats codes f hk ha h1 h2
  have hi:i<o.2.2.2.1.length:=by omega
  rw[dV.b_eq,ab,ae,decide_eq_true hi,ah i _ hi (by omega)]
  rw[jG a ha _ (by have:=hz.ds i hi;omega)]
  simp only[cond_true,Option.bind_some,ax]
  rw[jD _ (by simp;omega),jC _ (by simp;omega)]
  simp only[cond_true]
  have e:(bif decide (f=0)then bif !(aB a (rd (τ:=bc) o.2.2.2.1 (i:Int)).2.size).2.2 then dV.b x5 (aB a (rd (τ:=bc) o.2.2.2.1 (i:Int)).2.size).1 o x8 x9 x10 ((l1,l2,ats++[(aB a (rd (τ:=bc) o.2.2.2.1 (i:Int)).2.size).2.1],codes++[(rd (τ:=bc) o.2.2.2.1 (i:Int)).2]),r) 7 o.2.2.2.1 (o.2.2.2.1.length:Int) ((i+1:Nat):Int)
    else dV.b x5 (aB a (rd (τ:=bc) o.2.2.2.1 (i:Int)).2.size).1 o x8 x9 x10 ((l1,l2,ats++[(aB a (rd (τ:=bc) o.2.2.2.1 (i:Int)).2.size).2.1],codes++[(rd (τ:=bc) o.2.2.2.1 (i:Int)).2]),r) f o.2.2.2.1 (o.2.2.2.1.length:Int) ((i+1:Nat):Int)
    else bif false then dV.b x5 (aB a (rd (τ:=bc) o.2.2.2.1 (i:Int)).2.size).1 o x8 x9 x10 ((l1,l2,ats++[(aB a (rd (τ:=bc) o.2.2.2.1 (i:Int)).2.size).2.1],codes++[(rd (τ:=bc) o.2.2.2.1 (i:Int)).2]),r) 7 o.2.2.2.1 (o.2.2.2.1.length:Int) ((i+1:Nat):Int)
    else dV.b x5 (aB a (rd (τ:=bc) o.2.2.2.1 (i:Int)).2.size).1 o x8 x9 x10 ((l1,l2,ats++[(aB a (rd (τ:=bc) o.2.2.2.1 (i:Int)).2.size).2.1],codes++[(rd (τ:=bc) o.2.2.2.1 (i:Int)).2]),r) f o.2.2.2.1 (o.2.2.2.1.length:Int) ((i+1:Nat):Int))=
    dV.b x5 (aB a (kA o i)).1 o x8 x9 x10 ((l1,l2,ats++[(aB a (kA o i)).2.1],codes++[jI o i]),r) (after f (aB a (kA o i)).2.2) o.2.2.2.1 (o.2.2.2.1.length:Int) ((i+1:Nat):Int):=by
   unfold after kA jI
   generalize aB a (rd (τ:=bc) o.2.2.2.1 (i:Int)).2.size=p
   by_cases h:f=0
   ·rw[decide_eq_true h]
    cases hp:p.2.2<;>simp[h]
   ·rw[decide_eq_false h];simp[h]
  rw[e,ih (i+1) _ _ _ _ (by omega) (c9 ha _) (by simp;omega) (by simp;omega),dX,bb,jJ,List.append_assoc,List.append_assoc]
  rfl
end Go.Proofs.YtegcfpicnjpihaaGreat.S
