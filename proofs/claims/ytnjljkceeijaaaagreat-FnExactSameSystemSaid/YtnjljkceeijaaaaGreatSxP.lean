import Derived.Test.YtnjljkceeijaaaaGreatSxI
import Derived.IntWalk
namespace Go.Proofs.YtnjljkceeijaaaaGreat.S
open Go.Ps
set_option linter.unusedVariables false
set_option maxRecDepth 100000
theorem aV {n:Int} (h: -9223372036854775808≤n) (h':n≤9223372036854775807):IntKind.wrap .i64 n=n:=IntWalk.i64_in n ⟨h,h'⟩
theorem mn (n:Int):Qo n=QW n:=by rw[Hn,Lw]
theorem wT (n:Int):Rk n=RN n:=by rw[Ho,Lx]
theorem Cw (t:ByteArray) (ht:t.size≤20):∀(k:Nat) (i:Int),0≤i→t.size≤i.toNat+k→oX.a t i=uP.a t i:=by
 intro k
 induction k with
 |zero=>
  intro i h0 hk
  have:decide (i< (t.size:Int))=false:=by simp;omega
  rw[oX.a_eq,uP.a_eq,this];rfl
 |succ k ih=>
  intro i h0 hk
  rw[oX.a_eq,uP.a_eq,mn,wT]
  by_cases hi:i< (t.size:Int)
  ·rw[aV (n:=i+1) (by omega) (by omega),ih (i+1) (by omega) (by omega)]
  ·rw[show decide (i< (t.size:Int))=false by simp;omega];rfl
theorem KF (t:ByteArray):oX t=uP t:=by
 rw[Hp,Hd,zJ]
 by_cases h1:(t.size:Int)<1
 ·rw[show decide ((1:Int)≤(t.size:Int))=false by simp;omega,show decide ((t.size:Int)<1)=true by simp;omega];rfl
 ·rw[show decide ((1:Int)≤(t.size:Int))=true by simp;omega,show decide ((t.size:Int)<1)=false by simp;omega]
  by_cases h2:(t.size:Int)>20
  ·rw[show decide ((t.size:Int)>20)=true by simp;omega,show decide ((t.size:Int)≤20)=false by simp;omega];rfl
  ·rw[show decide ((t.size:Int)>20)=false by simp;omega,show decide ((t.size:Int)≤20)=true by simp;omega]
   simp only[cond_true,cond_false,Option.bind_some,Bool.not_true]
   rw[mn,Cw t (by omega) t.size 1 (by omega) (by omega)]
theorem qy (t:ByteArray) (i:Int):0≤bt t i∧bt t i≤255:=by
 unfold bt
 have:=(t.data.getD i.toNat 0).toNat_lt
 omega
theorem Gq {n:Int} (h:0≤n) (h':n≤18446744073709551615):IntKind.wrap .u64 n=n:=by
 have:IntKind.wrap .u64 n=n%18446744073709551616:=by simp[IntKind.wrap,IntKind.bits,IntKind.signed]
 rw[this];omega
def rR {α:Type} (x y:Option α):Prop:=∃v,x=some v∧y=some v
theorem rR.mk {α:Type} (v:α):rR (some v) (some v):=⟨v,rfl,rfl⟩
theorem rR.bind {α β:Type} {x y:Option α} {f g:α→Option β} (h:rR x y) (k:∀v,x=some v→rR (f v) (g v)):rR (x.bind f) (y.bind g):=by
 obtain⟨v,h1,h2⟩:=h
 rw[h1,h2];exact k v h1
theorem rR.some {α:Type} {x y:Option α} (e:x=y) (h:∃v,x=some v):rR x y:=by obtain⟨v,h⟩:=h;exact⟨v,h,e▸h⟩
theorem n4 (n:Int):∃v,Qo n=some v:=by
 rw[Hn]
 cases decide (n≥97)<;>cases decide (n≤122)<;>cases decide (n≥65)<;>cases decide (n≤90)<;>exact⟨_,rfl⟩
theorem za (n:Int):∃v,Rk n=some v:=by
 rw[Ho];cases decide (n≥48)<;>exact⟨_,rfl⟩
theorem qz (t:ByteArray) (ht:t.size≤20):∀(k:Nat) (i:Int),0≤i→t.size≤i.toNat+k→∃v,oX.a t i=some v:=by
 intro k
 induction k with
 |zero=>
  intro i h0 hk
  have:decide (i< (t.size:Int))=false:=by simp;omega
  rw[oX.a_eq,this];exact⟨_,rfl⟩
 |succ k ih=>
  intro i h0 hk
  rw[oX.a_eq]
  by_cases hi:i< (t.size:Int)
  ·have e:aq i t.size=true:=by simp[aq];omega
   obtain⟨v1,h1⟩:=n4 (bt t i)
   obtain⟨v2,h2⟩:=za (bt t i)
   obtain⟨v3,h3⟩:=ih (i+1) (by omega) (by omega)
   rw[aV (n:=i+1) (by omega) (by omega),e,h1,h2,h3]
   simp only[decide_eq_true hi,cond_true,Option.bind_some]
   cases v1<;>cases v2<;>exact⟨_,rfl⟩
  ·rw[show decide (i< (t.size:Int))=false by simp;omega];exact⟨_,rfl⟩
theorem s8 (t:ByteArray):∃v,oX t=some v:=by
 rw[Hp,zJ]
 by_cases h1:(1:Int)≤(t.size:Int)
 ·by_cases h2:(t.size:Int)≤20
  ·obtain⟨v1,e1⟩:=n4 (bt t 0)
   obtain⟨v2,e2⟩:=qz t (by omega) t.size 1 (by omega) (by omega)
   have e:aq 0 t.size=true:=by simp[aq];omega
   simp only[decide_eq_true h1,decide_eq_true h2,cond_true,Option.bind_some,Bool.not_true,cond_false,e,e1,e2]
   cases v1<;>exact⟨_,rfl⟩
  ·simp only[decide_eq_true h1,cond_true,Option.bind_some,decide_eq_false h2,Bool.not_false];exact⟨_,rfl⟩
 ·simp only[decide_eq_false h1,cond_false,Option.bind_some,Bool.not_false,cond_true];exact⟨_,rfl⟩
theorem Cy (t:ByteArray):rR (oX t) (uP t):=rR.some (KF t) (s8 t)
theorem dD {α:Type} (c:Bool) (a b:α):cond c a b=if c=true then a else b:=by cases c<;>rfl
theorem zb (n:Int):∃q:Int,IntKind.wrap .i64 n=n-18446744073709551616*q:=by
 rw[IntKind.wrap_i64];exact⟨(n+9223372036854775808)/18446744073709551616,by omega⟩
theorem zc (x:Int):((BitVec.ofInt IntKind.i64.bits x).toNat:Int)=x%18446744073709551616:=by
 rw[BitVec.toNat_ofInt]
 have hb:((2^IntKind.i64.bits:Nat):Int)=18446744073709551616:=rfl
 rw[hb];omega
theorem wU (x:Int) (c:Nat) (hc:c≤62):x%18446744073709551616%2^c=x%2^c:=by
 apply Int.emod_emod_of_dvd
 exact⟨2^(64-c),by rw[←Int.pow_add,show c+(64-c)=64 by omega];rfl⟩
theorem iG (c:Nat) (hc:c≤62):(1:Int)≤2^c∧(2:Int)^c≤4611686018427387904:=by
 have h1:2^c≤2^62:=Nat.pow_le_pow_right (by decide) hc
 have h2:1≤2^c:=Nat.one_le_two_pow
 have e:((2^c:Nat):Int)=(2:Int)^c:=by simp
 omega
theorem Gr (x:Int) (c:Nat) (hc:c≤62):andI .i64 x (2^c-1)=x%2^c:=by
 have hp:=iG c hc
 have e:((2^c:Nat):Int)=(2:Int)^c:=by simp
 unfold andI
 have h1:(BitVec.ofInt IntKind.i64.bits x&&&BitVec.ofInt IntKind.i64.bits ((2:Int)^c-1)).toNat=(BitVec.ofInt IntKind.i64.bits x).toNat%2^c:=by
  rw[BitVec.toNat_and]
  have:(BitVec.ofInt IntKind.i64.bits ((2:Int)^c-1)).toNat=2^c-1:=by
   have:=zc ((2:Int)^c-1);omega
  rw[this,Nat.and_two_pow_sub_one_eq_mod]
 rw[h1]
 have h2:(((BitVec.ofInt IntKind.i64.bits x).toNat%2^c:Nat):Int)=x%2^c:=by
  rw[Int.natCast_emod,zc,e,wU x c hc]
 rw[h2]
 have h3:0≤x%2^c:=Int.emod_nonneg _ (by omega)
 have h4:x%2^c<2^c:=Int.emod_lt_of_pos _ (by omega)
 exact aV (by omega) (by omega)
theorem oS {x:Int} {k:Int} (h:0≤k) (h':k≤64):lZ .i64 x k=x/2^k.toNat:=by
 unfold lZ
 have hb:IntKind.i64.bits=64:=rfl
 rw[show min k.toNat IntKind.i64.bits=k.toNat by omega,Int.fdiv_eq_ediv_of_nonneg]
 have:=iG
 exact Int.le_of_lt (Int.pow_pos (by decide))
theorem s9 {x:Int} {k:Int} (h:0≤k) (h':k≤64):lZ .u64 x k=x/2^k.toNat:=by
 unfold lZ
 have hb:IntKind.u64.bits=64:=rfl
 rw[show min k.toNat IntKind.u64.bits=k.toNat by omega,Int.fdiv_eq_ediv_of_nonneg]
 exact Int.le_of_lt (Int.pow_pos (by decide))
theorem mo {x:Int} {k:Int} (h:0≤k) (h':k≤64):cJ .i64 x k=IntKind.wrap .i64 (x*2^k.toNat):=by
 unfold cJ
 have hb:IntKind.i64.bits=64:=rfl
 rw[show min k.toNat IntKind.i64.bits=k.toNat by omega]
theorem eN (v low count:Int) (h:0≤low) (h':low≤64) (hc:0≤count) (hc':count≤62):Hr v low count=some (v/2^low.toNat%2^count.toNat):=by
 rw[N1]
 have hp:=iG count.toNat (by omega)
 rw[show decide (low<0)=false by simp;omega,show decide (count<0)=false by simp;omega,mo hc (by omega),oS h h',Int.one_mul,aV (n:=2^count.toNat) (by omega) (by omega),aV (n:=2^count.toNat-1) (by omega) (by omega),Gr _ _ (by omega)]
 rfl
theorem mq (x y k c:Nat) (hy:y<2^c) (h:x/2^k%2^c=0):x|||y*2^k=x+y*2^k:=by
 have hk:0<2^k:=Nat.two_pow_pos k
 have hkc:0<2^(k+c):=Nat.two_pow_pos _
 have e1:x%2^(k+c)<2^k:=by
  rw[Nat.pow_add]
  have:x% (2^k*2^c)=x%2^k+2^k*(x/2^k%2^c):=Nat.mod_mul
  rw[this,h]
  have:=Nat.mod_lt x hk
  omega
 have e2:y*2^k+x%2^(k+c)<2^(k+c):=by
  have:(y+1)*2^k≤2^c*2^k:=Nat.mul_le_mul_right _ (by omega)
  rw[Nat.pow_add,Nat.mul_comm (2^k) (2^c)]
  rw[Nat.pow_add,Nat.mul_comm (2^k) (2^c)]at e1
  rw[Nat.add_mul]at this
  omega
 have hx:x=(x/2^(k+c))<<< (k+c)|||x%2^(k+c):=by
  rw[←Nat.shiftLeft_add_eq_or_of_lt (Nat.mod_lt x hkc),Nat.shiftLeft_eq]
  have:=Nat.div_add_mod x (2^(k+c))
  rw[Nat.mul_comm]at this;exact this.symm
 have h3:x%2^(k+c)|||y*2^k=y*2^k+x%2^(k+c):=by
  rw[Nat.or_comm,←Nat.shiftLeft_eq y k,←Nat.shiftLeft_add_eq_or_of_lt e1,Nat.shiftLeft_eq]
 calc
  x|||y*2^k=(x/2^(k+c))<<< (k+c)||| (x%2^(k+c)|||y*2^k):=by
    conv=>lhs;rw[hx]
    rw[Nat.or_assoc]
  _=(x/2^(k+c))<<< (k+c)+(y*2^k+x%2^(k+c)):=by rw[h3,Nat.shiftLeft_add_eq_or_of_lt e2]
  _=x+y*2^k:=by
    rw[Nat.shiftLeft_eq]
    have:=Nat.div_add_mod x (2^(k+c))
    rw[Nat.mul_comm]at this;omega
theorem bj {x y P Q:Int} (k c:Nat) (hP:P=2^k) (hQ:Q=2^c) (hkc:k+c≤62) (hx:0≤x) (hx':x<4611686018427387904) (hy:0≤y) (hy':y<Q) (h:x/P%Q=0):ig .i64 x (y*P)=x+y*P:=by
 subst hP hQ
 obtain⟨a,rfl⟩:=Int.eq_ofNat_of_zero_le hx
 obtain⟨b,rfl⟩:=Int.eq_ofNat_of_zero_le hy
 have hp:=iG k (by omega)
 have ek:((2^k:Nat):Int)=(2:Int)^k:=by simp
 have ec:((2^c:Nat):Int)=(2:Int)^c:=by simp
 have hb:b<2^c:=by omega
 have hlt:b*2^k<4611686018427387904:=by
  have h1:b*2^k<2^c*2^k:=Nat.mul_lt_mul_of_pos_right hb (Nat.two_pow_pos k)
  rw[←Nat.pow_add]at h1
  have h2:2^(c+k)≤2^62:=Nat.pow_le_pow_right (by decide) (by omega)
  omega
 have h0:a/2^k%2^c=0:=by
  have:((a/2^k%2^c:Nat):Int)=(a:Int)/2^k%2^c:=by
   rw[Int.natCast_emod,Int.natCast_ediv,ek,ec]
  omega
 have em:((b*2^k:Nat):Int)=(b:Int)*2^k:=by rw[Int.natCast_mul,ek]
 unfold ig
 rw[BitVec.toNat_or]
 have f1:(BitVec.ofInt IntKind.i64.bits (a:Int)).toNat=a:=by have:=zc (a:Int);omega
 have f2:(BitVec.ofInt IntKind.i64.bits ((b:Int)*2^k)).toNat=b*2^k:=by have:=zc ((b:Int)*2^k);omega
 rw[f1,f2,mq a b k c hb h0,Int.natCast_add,em]
 exact aV (by omega) (by omega)
theorem gO (v i:Int) (hv: -9223372036854775808≤v) (hv':v≤9223372036854775807) (h:0≤i) (h':i≤63):xw v i=some (v/2^i.toNat%2):=by
 rw[LG,Gq (n:=i) (by omega) (by omega),show decide (i<0)=false by simp;omega,s9 h (by omega)]
 have hu:IntKind.wrap .u64 v=v%18446744073709551616:=by simp[IntKind.wrap,IntKind.bits,IntKind.signed]
 have h0:0≤v%18446744073709551616:=by omega
 have hp:(0:Int)<2^i.toNat:=Int.pow_pos (by decide)
 have hd:0≤v%18446744073709551616/2^i.toNat:=Int.ediv_nonneg h0 (by omega)
 rw[hu,Int.tmod_eq_emod_of_nonneg hd]
 have e:v%18446744073709551616/2^i.toNat%2=v/2^i.toNat%2:=by
  have hpe:(18446744073709551616:Int)=2^i.toNat*(2^(63-i.toNat)*2):=by
   rw[←Int.pow_succ,←Int.pow_add,show i.toNat+(63-i.toNat+1)=64 by omega];rfl
  have h1:v%18446744073709551616=v-2^i.toNat*(2^(63-i.toNat)*2*(v/18446744073709551616)):=by
   rw[Int.emod_def,←Int.mul_assoc,←hpe]
  rw[h1,Int.sub_eq_add_neg,←Int.mul_neg,Int.add_mul_ediv_left _ _ (by omega)]
  rw[Int.mul_comm (2^(63-i.toNat)) 2,Int.mul_assoc,←Int.mul_neg,Int.add_mul_emod_self_left]
 rw[e]
 have:v/2^i.toNat%2=0∨v/2^i.toNat%2=1:=by omega
 rcases this with h|h<;>rw[h]<;>rfl
theorem zd (w low:Int) (hw: -9223372036854775808≤w) (hw':w≤9223372036854775807) (h:0≤low):∀(k:Nat) (x:Int),low+k≤63→k≤62→0≤x→(x+1)*2^k≤4611686018427387904→q7.a w low x ((k:Int)-1)=some (x*2^k+w/2^low.toNat%2^k):=by
 intro k
 induction k with
 |zero=>
  intro x _ _ _ _
  rw[q7.a_eq,show decide (((0:Nat):Int)-1≥0)=false by rfl]
  simp only[cond_false,Int.pow_zero,Int.emod_one,Int.mul_one,Int.add_zero]
 |succ k ih=>
  intro x h1 h2 h3 h4
  have hpk:=iG k (by omega)
  have hx:2*x+2≤4611686018427387904:=by
   rw[Int.pow_succ]at h4
   have:(x+1)*2≤(x+1)*(2^k*2):=Int.mul_le_mul_of_nonneg_left (by omega) (by omega)
   omega
  have hs:(((k+1:Nat):Int)-1)=(k:Int):=by omega
  rw[hs,q7.a_eq,show decide ((k:Int)≥0)=true by simp,aV (n:=low+k) (by omega) (by omega),gO w (low+k) hw hw' (by omega) (by omega)]
  have hb:0≤w/2^(low+k).toNat%2∧w/2^(low+k).toNat%2≤1:=by omega
  simp only[cond_true,Option.bind_some]
  rw[aV (n:=2*x) (by omega) (by omega),aV (n:=2*x+_) (by omega) (by omega),aV (n:=(k:Int)-1) (by omega) (by omega)]
  rw[ih _ (by omega) (by omega) (by omega) (by
   rw[Int.pow_succ,Int.mul_comm (2^k) 2,←Int.mul_assoc]at h4
   exact Int.le_trans (Int.mul_le_mul_of_nonneg_right (by omega) (by omega)) h4)]
  congr 1
  have e1:(low+k).toNat=low.toNat+k:=by omega
  have e2:w/2^low.toNat%2^(k+1)=w/2^low.toNat%2^k+2^k*(w/2^(low.toNat+k)%2):=by
   rw[Int.pow_succ,Int.pow_add,←Int.ediv_ediv_of_nonneg (Int.le_of_lt (Int.pow_pos (by decide)))]
   generalize w/2^low.toNat=z
   have hk:(0:Int)≤2^k:=by omega
   rw[Int.emod_def z (2^k*2),←Int.ediv_ediv_of_nonneg hk,Int.emod_def (z/2^k) 2,Int.emod_def z (2^k),Int.mul_sub]
   rw[Int.mul_assoc (2^k) 2];omega
  rw[e1,e2,Int.add_mul,Int.pow_succ,Int.mul_comm (2^k) 2,←Int.mul_assoc,Int.mul_comm x 2,Int.mul_comm (2^k) (w/2^(low.toNat+k)%2)]
  omega
theorem Cz (w low count:Int) (hw: -9223372036854775808≤w) (hw':w≤9223372036854775807) (h:0≤low) (hc:0≤count) (hlc:low+count≤62):q7 w low count=some (w/2^low.toNat%2^count.toNat):=by
 have hp:=iG count.toNat (by omega)
 rw[LN,aV (n:=count-1) (by omega) (by omega),show count-1=(count.toNat:Int)-1 by omega,zd w low hw hw' h count.toNat 0 (by omega) (by omega) (by omega) (by omega)]
 rw[Int.zero_mul,Int.zero_add]
theorem ky (a z:Int) (n i:Nat) (h:i<n):(a+2^n*z)/2^i%2=a/2^i%2:=by
 have e:(2:Int)^n=2^i*(2*2^(n-i-1)):=by
  rw[←Int.mul_assoc,←Int.pow_succ,←Int.pow_add,show i+1+(n-i-1)=n by omega]
 have hp:(0:Int)<2^i:=Int.pow_pos (by decide)
 rw[e,Int.mul_assoc,Int.add_mul_ediv_left _ _ (by omega),Int.mul_assoc,Int.add_mul_emod_self_left]
theorem mr (t:Int) (i:Nat):2*(t/2^(i+1))+t/2^i%2=t/2^i:=by
 have hp:(0:Int)≤2^i:=Int.le_of_lt (Int.pow_pos (by decide))
 rw[Int.pow_succ,←Int.ediv_ediv_of_nonneg hp];omega
def cO (w low count v:Int):Int:=w%2^low.toNat+2^low.toNat*(v%2^count.toNat+2^count.toNat*(w/2^(low.toNat+count.toNat)))
theorem jU (w low count v:Int) (h:0≤low) (hc:0≤count) (i:Nat):cO w low count v/2^i%2=if low≤i∧(i:Int)<low+count then v/2^(i-low.toNat)%2 else w/2^i%2:=by
 obtain⟨l,rfl⟩:=Int.eq_ofNat_of_zero_le h
 obtain⟨c,rfl⟩:=Int.eq_ofNat_of_zero_le hc
 have hl:(0:Int)<2^l:=Int.pow_pos (by decide)
 have hcc:(0:Int)<2^c:=Int.pow_pos (by decide)
 simp only[cO,Int.toNat_natCast]
 by_cases h1:i<l
 ·rw[ky _ _ _ _ h1,if_neg (by omega)]
  conv=>rhs;rw[←Int.emod_add_mul_ediv w (2^l)]
  rw[ky _ _ _ _ h1]
 ·have e:(2:Int)^i=2^l*2^(i-l):=by rw[←Int.pow_add,show l+(i-l)=i by omega]
  rw[e,←Int.ediv_ediv_of_nonneg (by omega:(0:Int)≤2^l),Int.add_mul_ediv_left _ _ (by omega),Int.ediv_eq_zero_of_lt (Int.emod_nonneg _ (by omega)) (Int.emod_lt_of_pos _ hl),Int.zero_add]
  by_cases h2:i<l+c
  ·rw[if_pos (by omega),ky _ _ _ _ (show i-l<c by omega)]
   conv=>rhs;rw[←Int.emod_add_mul_ediv v (2^c)]
   rw[ky _ _ _ _ (show i-l<c by omega)]
  ·have e2:(2:Int)^(i-l)=2^c*2^(i-l-c):=by rw[←Int.pow_add,show c+(i-l-c)=i-l by omega]
   rw[if_neg (by omega),e2,←Int.ediv_ediv_of_nonneg (by omega:(0:Int)≤2^c),Int.add_mul_ediv_left _ _ (by omega),Int.ediv_eq_zero_of_lt (Int.emod_nonneg _ (by omega)) (Int.emod_lt_of_pos _ hcc),Int.zero_add,Int.pow_add,←Int.ediv_ediv_of_nonneg (by omega:(0:Int)≤2^l),Int.ediv_ediv_of_nonneg (by omega:(0:Int)≤2^c),←e2,Int.ediv_ediv_of_nonneg (by omega:(0:Int)≤2^l)]
theorem bJ (w low count v:Int) (h:0≤low) (hc:0≤count) (hlc:low+count≤32) (hw:0≤w) (hw':w<4294967296):0≤cO w low count v∧cO w low count v<4294967296:=by
 obtain⟨l,rfl⟩:=Int.eq_ofNat_of_zero_le h
 obtain⟨c,rfl⟩:=Int.eq_ofNat_of_zero_le hc
 have hl:(0:Int)<2^l:=Int.pow_pos (by decide)
 have hcc:(0:Int)<2^c:=Int.pow_pos (by decide)
 simp only[cO,Int.toNat_natCast]
 have a1:=Int.emod_nonneg w (show(2:Int)^l≠0 by omega)
 have a2:=Int.emod_lt_of_pos w hl
 have b1:=Int.emod_nonneg v (show(2:Int)^c≠0 by omega)
 have b2:=Int.emod_lt_of_pos v hcc
 have hlcp:(0:Int)<2^(l+c):=Int.pow_pos (by decide)
 have c1:0≤w/2^(l+c):=Int.ediv_nonneg hw (by omega)
 have c2:w/2^(l+c)+1≤2^(32-l-c):=by
  have:w/2^(l+c)<2^(32-l-c):=by
   apply Int.ediv_lt_of_lt_mul hlcp
   rw[←Int.pow_add,show 32-l-c+(l+c)=32 by omega];exact hw'
  omega
 generalize w/2^(l+c)=z at*
 generalize w%2^l=x at*
 generalize v%2^c=y at*
 have d1:0≤2^c*z:=Int.mul_nonneg (by omega) c1
 have d2:2^c*z+2^c≤2^c*2^(32-l-c):=by
  have:=Int.mul_le_mul_of_nonneg_left c2 (show(0:Int)≤2^c by omega)
  rw[Int.mul_add,Int.mul_one]at this;exact this
 rw[←Int.pow_add,show c+(32-l-c)=32-l by omega]at d2
 have d3:0≤2^l*(y+2^c*z):=Int.mul_nonneg (by omega) (by omega)
 have d4:2^l*(y+2^c*z)+2^l≤2^l*2^(32-l):=by
  have:=Int.mul_le_mul_of_nonneg_left (show y+2^c*z+1≤2^(32-l) by omega) (show(0:Int)≤2^l by omega)
  rw[Int.mul_add (2^l) _ 1,Int.mul_one]at this;exact this
 rw[←Int.pow_add,show l+(32-l)=32 by omega,show(2:Int)^32=4294967296 by rfl]at d4
 omega
theorem Gs (w low count v:Int) (h:0≤low) (hc:0≤count) (hlc:low+count≤32) (hw:0≤w) (hw':w<4294967296) (hv: -9223372036854775808≤v) (hv':v≤9223372036854775807):
  ∀(k:Nat),k≤32→gu.a w low count v (cO w low count v/2^k) ((k:Int)-1)=some (cO w low count v):=by
 have hr:=bJ w low count v h hc hlc hw hw'
 intro k
 induction k with
 |zero=>
  intro _
  rw[gu.a_eq,show decide (((0:Nat):Int)-1≥0)=false by rfl]
  simp only[cond_false,Int.pow_zero,Int.ediv_one]
 |succ k ih=>
  intro hk
  have ih:=ih (by omega)
  have hb:=jU w low count v h hc k
  have hst:=mr (cO w low count v) k
  generalize ht:cO w low count v=T at*
  have hp:(0:Int)<2^(k+1):=Int.pow_pos (by decide)
  have q0:0≤T/2^(k+1):=Int.ediv_nonneg hr.1 (by omega)
  have q1:T/2^(k+1)≤T:=Int.ediv_le_self _ hr.1
  have hs:(((k+1:Nat):Int)-1)=(k:Int):=by omega
  rw[hs,gu.a_eq,show decide ((k:Int)≥0)=true by simp,gO w k (by omega) (by omega) (by omega) (by omega),aV (n:=low+count) (by omega) (by omega),aV (n:=2*(T/2^(k+1))) (by omega) (by omega),aV (n:=(k:Int)-1) (by omega) (by omega)]
  simp only[cond_true,Option.bind_some,Int.toNat_natCast]
  by_cases h1:low≤(k:Int)
  ·by_cases h2:(k:Int)<low+count
   ·rw[show decide ((k:Int)≥low)=true by simp;omega,show decide ((k:Int)<low+count)=true by simp;omega,aV (n:=(k:Int)-low) (by omega) (by omega),gO v _ hv hv' (by omega) (by omega)]
    rw[if_pos ⟨h1,h2⟩]at hb
    simp only[cond_true,Option.bind_some]
    rw[show((k:Int)-low).toNat=k-low.toNat by omega,←hb,aV (by omega) (by omega),hst,ih]
   ·rw[show decide ((k:Int)≥low)=true by simp;omega,show decide ((k:Int)<low+count)=false by simp;omega]
    rw[if_neg (by omega)]at hb
    simp only[cond_true,cond_false]
    rw[←hb,aV (by omega) (by omega),hst,ih]
  ·rw[show decide ((k:Int)≥low)=false by simp;omega]
   rw[if_neg (by omega)]at hb
   simp only[cond_false]
   rw[←hb,aV (by omega) (by omega),hst,ih]
theorem cp (w low count v:Int) (h:0≤low) (hc:0≤count) (hlc:low+count≤32) (hw:0≤w) (hw':w<4294967296) (hv: -9223372036854775808≤v) (hv':v≤9223372036854775807):
  gu w low count v=some (cO w low count v):=by
 have hr:=bJ w low count v h hc hlc hw hw'
 have:=Gs w low count v h hc hlc hw hw' hv hv' 32 (by omega)
 rw[LH]
 rw[Int.ediv_eq_zero_of_lt hr.1 (by rw[show(2:Int)^32=4294967296 by rfl];exact hr.2)]at this
 exact this
def cg (v:Int) (c:Nat):Int:=if v%2^c<2^(c-1)then v%2^c else v%2^c-2^c
theorem wV (c:Nat) (h:1≤c):(2:Int)^c=2*2^(c-1):=by
 obtain⟨d,rfl⟩:=Nat.exists_eq_add_of_le h
 rw[Nat.add_comm,Int.pow_succ,Int.mul_comm];rfl
theorem tc (v:Int) (c:Nat):∃q,cg v c=v+2^c*q:=by
 unfold cg
 rw[Int.emod_def]
 split
 ·exact⟨-(v/2^c),by rw[Int.mul_neg];omega⟩
 ·exact⟨-(v/2^c)-1,by rw[Int.mul_sub,Int.mul_neg];omega⟩
theorem jV (v:Int) (c:Nat) (h:1≤c): -2^(c-1)≤cg v c∧cg v c<2^(c-1):=by
 have hp:=wV c h
 have hp1:(0:Int)<2^(c-1):=Int.pow_pos (by decide)
 have a1:=Int.emod_nonneg v (show(2:Int)^c≠0 by omega)
 have a2:=Int.emod_lt_of_pos v (show(0:Int)<2^c by omega)
 unfold cg
 split<;>omega
theorem Jp (c:Nat) (h:c≤63):(2:Int)^c≤9223372036854775808:=by
 have h1:2^c≤2^63:=Nat.pow_le_pow_right (by decide) h
 have e:((2^c:Nat):Int)=(2:Int)^c:=by simp
 omega
theorem jW {n s:Int} (q:Int) (h:n=s+18446744073709551616*q) (h1: -9223372036854775808≤s) (h2:s≤9223372036854775807):IntKind.wrap .i64 n=s:=by
 rw[IntKind.wrap_i64];omega
theorem ze (v count:Int) (h:1≤count) (h':count≤64):Rq v count=some (cg v count.toNat):=by
 rw[N5,aV (n:=64-count) (by omega) (by omega),show decide (64-count<0)=false by simp;omega,mo (by omega) (by omega),oS (by omega) (by omega)]
 simp only[cond_false]
 congr 1
 obtain⟨c,rfl⟩:=Int.eq_ofNat_of_zero_le (show 0≤count by omega)
 rw[show((64:Int)-(c:Int)).toNat=64-c by omega,Int.toNat_natCast]
 have hp1:(0:Int)<2^(c-1):=Int.pow_pos (by decide)
 have hk:(0:Int)<2^(64-c):=Int.pow_pos (by decide)
 obtain⟨q,hq⟩:=tc v c
 have hr:=jV v c (by omega)
 have e64:(2:Int)^c*2^(64-c)=18446744073709551616:=by rw[←Int.pow_add,show c+(64-c)=64 by omega];rfl
 have e63:(2:Int)^(c-1)*2^(64-c)=9223372036854775808:=by rw[←Int.pow_add,show c-1+(64-c)=63 by omega];rfl
 have hv:v*2^(64-c)=cg v c*2^(64-c)+18446744073709551616*(-q):=by
  rw[hq,←e64,Int.add_mul,Int.mul_neg,Int.mul_assoc,Int.mul_comm q,←Int.mul_assoc];omega
 have l1: -9223372036854775808≤cg v c*2^(64-c):=by
  have:=Int.mul_le_mul_of_nonneg_right hr.1 (show(0:Int)≤2^(64-c) by omega)
  rw[Int.neg_mul,e63]at this;exact this
 have l2:cg v c*2^(64-c)≤9223372036854775807:=by
  have:=Int.mul_lt_mul_of_pos_right hr.2 hk
  rw[e63]at this;omega
 rw[jW (-q) hv l1 l2,Int.mul_ediv_cancel _ (by omega)]
theorem Gt (v:Int) (c i:Nat) (h:1≤c):cg v c/2^i%2=v/2^(min i (c-1))%2:=by
 obtain⟨q,hq⟩:=tc v c
 by_cases h1:i<c
 ·rw[show min i (c-1)=i by omega,hq,ky _ _ _ _ h1]
 ·have hr:=jV v c h
  rw[show min i (c-1)=c-1 by omega]
  have e:v/2^(c-1)%2=cg v c/2^(c-1)%2:=by rw[hq,ky _ _ _ _ (by omega)]
  rw[e]
  have hp1:(0:Int)<2^(c-1):=Int.pow_pos (by decide)
  have hm:(2:Int)^(c-1)≤2^i:=by
   have h9:2^(c-1)≤2^i:=Nat.pow_le_pow_right (by decide) (show c-1≤i by omega)
   have e1:((2^(c-1):Nat):Int)=(2:Int)^(c-1):=by simp
   have e2:((2^i:Nat):Int)=(2:Int)^i:=by simp
   omega
  by_cases hs:0≤cg v c
  ·rw[Int.ediv_eq_zero_of_lt hs (by omega),Int.ediv_eq_zero_of_lt hs hr.2]
  ·have f:∀P:Int,0<P→ -P≤cg v c→cg v c/P= -1:=by
    intro P hP hle
    have:cg v c/P<0:=Int.ediv_neg_of_neg_of_pos (by omega) hP
    have h2: -1≤cg v c/P:=Int.le_ediv_of_mul_le hP (by omega)
    omega
   rw[f _ (by omega) (by omega),f _ hp1 hr.1]
theorem CA (v:Int) (c:Nat) (h:1≤c) (h':c≤64) (hv: -9223372036854775808≤v) (hv':v≤9223372036854775807):
  ∀k:Nat,k≤64→xx.a v c (cg v c/2^k%2^(64-k)) ((k:Int)-1)=some (cg v c):=by
 have hr:=jV v c h
 have hp:=Jp (c-1) (by omega)
 intro k
 induction k with
 |zero=>
  intro _
  rw[xx.a_eq,show decide (((0:Nat):Int)-1≥0)=false by rfl]
  simp only[cond_false,Int.pow_zero,Int.ediv_one]
  congr 1
  rw[show(2:Int)^(64-0)=18446744073709551616 by rfl,Int.emod_def]
  exact jW (-(cg v c/18446744073709551616)) (by omega) (by omega) (by omega)
 |succ k ih=>
  intro hk
  have ih:=ih (by omega)
  have hs:(((k+1:Nat):Int)-1)=(k:Int):=by omega
  have hmin:(if IntKind.wrap .i64 ((c:Int)-1)< (k:Int)then IntKind.wrap .i64 ((c:Int)-1)else(k:Int))=((min k (c-1):Nat):Int):=by
   rw[aV (n:=(c:Int)-1) (by omega) (by omega)];split<;>omega
  rw[hs,xx.a_eq,show decide ((k:Int)≥0)=true by simp,hmin,gO v _ hv hv' (by omega) (by omega),aV (n:=(k:Int)-1) (by omega) (by omega)]
  simp only[cond_true,Option.bind_some,Int.toNat_natCast]
  rw[←Gt v c k h]
  have hst:=mr (cg v c) k
  have e:(2:Int)^(64-k)=2*2^(64-(k+1)):=by
   have:=wV (64-k) (by omega);rw[this,show 64-k-1=64-(k+1) by omega]
  have hq:(0:Int)<2^(64-(k+1)):=Int.pow_pos (by decide)
  have hq':=Jp (64-(k+1)) (by omega)
  generalize cg v c/2^(k+1)=z at*
  generalize cg v c/2^k=y at*
  rw[e]at ih
  have z1:=Int.emod_nonneg z (show(2:Int)^(64-(k+1))≠0 by omega)
  have z2:=Int.emod_lt_of_pos z hq
  have ey:2*(z%2^(64-(k+1)))+y%2=y% (2*2^(64-(k+1))):=by
   rw[Int.emod_def z,Int.emod_def y (2*_),←Int.ediv_ediv_of_nonneg (by decide),show y/2=z by omega,Int.mul_assoc];omega
  rw[Gq (n:=2*_) (by omega) (by omega),Gq (n:=y%2) (by omega) (by omega),Gq (n:=2*_+y%2) (by omega) (by omega),ey,ih]
theorem iH (v count:Int) (h:1≤count) (h':count≤64) (hv: -9223372036854775808≤v) (hv':v≤9223372036854775807):xx v count=some (cg v count.toNat):=by
 obtain⟨c,rfl⟩:=Int.eq_ofNat_of_zero_le (show 0≤count by omega)
 have:=CA v c (by omega) (by omega) hv hv' 64 (by omega)
 rw[show(64-64:Nat)=0 by rfl,Int.pow_zero,Int.emod_one]at this
 rw[LO,Int.toNat_natCast]
 exact this
def RL:List (Int×Int×Int×Int):=[(0,0,0,0),(1,55,0,0),(1,23,0,0),(2,111,0,0),(3,103,0,0),(4,99,0,0),(4,99,1,0),(4,99,4,0),(4,99,5,0),(4,99,6,0),(4,99,7,0),(3,3,0,0),(3,3,1,0),(3,3,2,0),(3,3,3,0),(3,3,4,0),(3,3,5,0),(3,3,6,0),(5,35,0,0),(5,35,1,0),(5,35,2,0),(5,35,3,0),(3,19,0,0),(3,19,2,0),(3,19,3,0),(3,19,4,0),(3,19,6,0),(3,19,7,0),(6,19,1,0),(6,19,5,0),(6,19,5,32),(8,51,0,0),(8,51,0,32),(8,51,1,0),(8,51,2,0),(8,51,3,0),(8,51,4,0),(8,51,5,0),(8,51,5,32),(8,51,6,0),(8,51,7,0),(3,27,0,0),(7,27,1,0),(7,27,5,0),(7,27,5,32),(8,59,0,0),(8,59,0,32),(8,59,1,0),(8,59,5,0),(8,59,5,32),(8,51,0,1),(8,51,1,1),(8,51,2,1),(8,51,3,1),(8,51,4,1),(8,51,5,1),(8,51,6,1),(8,51,7,1),(8,59,0,1),(8,59,4,1),(8,59,5,1),(8,59,6,1),(8,59,7,1),(9,115,0,0),(9,115,0,1)]
def da (n:Int):Int×Int×Int×Int:=RL.getD n.toNat (0,0,0,0)
theorem td {n:Int} (h:0≤n) (h':n≤64):∃k:Fin 65,n=(k.val:Int):=⟨⟨n.toNat,by omega⟩,by simp;omega⟩
theorem lF (n:Int) (h:0≤n) (h':n≤64):Qq n=some (da n):=by
 rw[NZ,Hq]
 simp only[Option.bind_some]
 obtain⟨k,rfl⟩:=td h h'
 clear h h';revert k
 decide+kernel
theorem eO (n:Int) (h:0≤n) (h':n≤64):Ju n=some (da n):=by
 rw[LF]
 obtain⟨k,rfl⟩:=td h h'
 clear h h';revert k
 decide+kernel
def Aw (s:Int×Int×Int×Int):Bool:=decide (1≤s.1)&&decide (s.1≤9)&&decide (0≤s.2.1)&&decide (s.2.1<128)&&decide (0≤s.2.2.1)&&decide (s.2.2.1<8)&&decide (0≤s.2.2.2)&&decide (s.2.2.2<64)&&(!decide (s.1=6)||decide (s.2.2.2%2=0))&&(!decide (s.1=9)|| (decide (s.2.2.2<2)&&decide (s.2.2.1=0)))
theorem nl (n:Int) (h:1≤n) (h':n≤64):Aw (da n)=true:=by
 obtain⟨k,rfl⟩:=td (show 0≤n by omega) h'
 clear h';revert k
 decide+kernel
theorem KG {x y:Int} (hx:0≤x) (hx':x<4611686018427387904) (hy:0≤y) (hy':y<2) (h:x/128%2=0):ig .i64 x (y*128)=x+y*128:=bj 7 1 rfl rfl (by decide) hx hx' hy hy' h
theorem lG {x y:Int} (hx:0≤x) (hx':x<4611686018427387904) (hy:0≤y) (hy':y<32) (h:x/128%32=0):ig .i64 x (y*128)=x+y*128:=bj 7 5 rfl rfl (by decide) hx hx' hy hy' h
theorem KH {x y:Int} (hx:0≤x) (hx':x<4611686018427387904) (hy:0≤y) (hy':y<16) (h:x/256%16=0):ig .i64 x (y*256)=x+y*256:=bj 8 4 rfl rfl (by decide) hx hx' hy hy' h
theorem kz {x y:Int} (hx:0≤x) (hx':x<4611686018427387904) (hy:0≤y) (hy':y<8) (h:x/4096%8=0):ig .i64 x (y*4096)=x+y*4096:=bj 12 3 rfl rfl (by decide) hx hx' hy hy' h
theorem Ax {x y:Int} (hx:0≤x) (hx':x<4611686018427387904) (hy:0≤y) (hy':y<256) (h:x/4096%256=0):ig .i64 x (y*4096)=x+y*4096:=bj 12 8 rfl rfl (by decide) hx hx' hy hy' h
theorem wW {x y:Int} (hx:0≤x) (hx':x<4611686018427387904) (hy:0≤y) (hy':y<1048576) (h:x/4096%1048576=0):ig .i64 x (y*4096)=x+y*4096:=bj 12 20 rfl rfl (by decide) hx hx' hy hy' h
theorem uG {x y:Int} (hx:0≤x) (hx':x<4611686018427387904) (hy:0≤y) (hy':y<2) (h:x/1048576%2=0):ig .i64 x (y*1048576)=x+y*1048576:=bj 20 1 rfl rfl (by decide) hx hx' hy hy' h
theorem oT {x y:Int} (hx:0≤x) (hx':x<4611686018427387904) (hy:0≤y) (hy':y<32) (h:x/1048576%32=0):ig .i64 x (y*1048576)=x+y*1048576:=bj 20 5 rfl rfl (by decide) hx hx' hy hy' h
theorem IJ {x y:Int} (hx:0≤x) (hx':x<4611686018427387904) (hy:0≤y) (hy':y<64) (h:x/1048576%64=0):ig .i64 x (y*1048576)=x+y*1048576:=bj 20 6 rfl rfl (by decide) hx hx' hy hy' h
theorem Gu {x y:Int} (hx:0≤x) (hx':x<4611686018427387904) (hy:0≤y) (hy':y<4096) (h:x/1048576%4096=0):ig .i64 x (y*1048576)=x+y*1048576:=bj 20 12 rfl rfl (by decide) hx hx' hy hy' h
theorem Gw {x y:Int} (hx:0≤x) (hx':x<4611686018427387904) (hy:0≤y) (hy':y<1024) (h:x/2097152%1024=0):ig .i64 x (y*2097152)=x+y*2097152:=bj 21 10 rfl rfl (by decide) hx hx' hy hy' h
theorem IK {x y:Int} (hx:0≤x) (hx':x<4611686018427387904) (hy:0≤y) (hy':y<64) (h:x/33554432%64=0):ig .i64 x (y*33554432)=x+y*33554432:=bj 25 6 rfl rfl (by decide) hx hx' hy hy' h
theorem uH {x y:Int} (hx:0≤x) (hx':x<4611686018427387904) (hy:0≤y) (hy':y<128) (h:x/33554432%128=0):ig .i64 x (y*33554432)=x+y*33554432:=bj 25 7 rfl rfl (by decide) hx hx' hy hy' h
theorem IL {x y:Int} (hx:0≤x) (hx':x<4611686018427387904) (hy:0≤y) (hy':y<64) (h:x/67108864%64=0):ig .i64 x (y*67108864)=x+y*67108864:=bj 26 6 rfl rfl (by decide) hx hx' hy hy' h
theorem Ay {x y:Int} (hx:0≤x) (hx':x<4611686018427387904) (hy:0≤y) (hy':y<2) (h:x/2147483648%2=0):ig .i64 x (y*2147483648)=x+y*2147483648:=bj 31 1 rfl rfl (by decide) hx hx' hy hy' h
theorem KI {x y:Int} (hx:0≤x) (hx':x<4611686018427387904) (hy:0≤y) (hy':y<16) (h:x/2%16=0):ig .i64 x (y*2)=x+y*2:=bj 1 4 rfl rfl (by decide) hx hx' hy hy' h
theorem IM {x y:Int} (hx:0≤x) (hx':x<4611686018427387904) (hy:0≤y) (hy':y<1024) (h:x/2%1024=0):ig .i64 x (y*2)=x+y*2:=bj 1 10 rfl rfl (by decide) hx hx' hy hy' h
theorem KJ {x y:Int} (hx:0≤x) (hx':x<4611686018427387904) (hy:0≤y) (hy':y<64) (h:x/32%64=0):ig .i64 x (y*32)=x+y*32:=bj 5 6 rfl rfl (by decide) hx hx' hy hy' h
theorem KK {x y:Int} (hx:0≤x) (hx':x<4611686018427387904) (hy:0≤y) (hy':y<128) (h:x/32%128=0):ig .i64 x (y*32)=x+y*32:=bj 5 7 rfl rfl (by decide) hx hx' hy hy' h
theorem Az {x y:Int} (hx:0≤x) (hx':x<4611686018427387904) (hy:0≤y) (hy':y<2) (h:x/2048%2=0):ig .i64 x (y*2048)=x+y*2048:=bj 11 1 rfl rfl (by decide) hx hx' hy hy' h
theorem IN {x y:Int} (hx:0≤x) (hx':x<4611686018427387904) (hy:0≤y) (hy':y<2) (h:x/4096%2=0):ig .i64 x (y*4096)=x+y*4096:=bj 12 1 rfl rfl (by decide) hx hx' hy hy' h
theorem te {w a b:Int} (hw:0≤w) (hw':w<4611686018427387904) (ha:0≤a) (ha':a<32) (hb:0≤b) (hb':b<8) (h:w/4096%256=0):ig .i64 w (a*32768+b*4096)=w+(a*32768+b*4096):=by
 have:=bj (x:=w) (y:=a*8+b) (P:=4096) (Q:=256) 12 8 rfl rfl (by decide) hw hw' (by omega) (by omega) h
 rw[show a*32768+b*4096=(a*8+b)*4096 by omega];exact this
def ef (s:Int×Int×Int×Int) (x:Int×Int×Int×Int×Int):Int:=
 if s.1=1 then s.2.1+x.2.1*128+x.2.2.2.2/4096%1048576*4096
 else if s.1=2 then s.2.1+x.2.1*128+x.2.2.2.2/4096%256*4096+x.2.2.2.2/2048%2*1048576+x.2.2.2.2/2%1024*2097152+x.2.2.2.2/1048576%2*2147483648
 else if s.1=3 then s.2.1+x.2.1*128+s.2.2.1*4096+x.2.2.1*32768+x.2.2.2.2%4096*1048576
 else if s.1=4 then s.2.1+x.2.2.2.2/2048%2*128+x.2.2.2.2/2%16*256+s.2.2.1*4096+x.2.2.1*32768+x.2.2.2.1*1048576+x.2.2.2.2/32%64*33554432+x.2.2.2.2/4096%2*2147483648
 else if s.1=5 then s.2.1+x.2.2.2.2%32*128+s.2.2.1*4096+x.2.2.1*32768+x.2.2.2.1*1048576+x.2.2.2.2/32%128*33554432
 else if s.1=6 then s.2.1+x.2.1*128+s.2.2.1*4096+x.2.2.1*32768+x.2.2.2.2%64*1048576+s.2.2.2/2*67108864
 else if s.1=7 then s.2.1+x.2.1*128+s.2.2.1*4096+x.2.2.1*32768+x.2.2.2.2%32*1048576+s.2.2.2*33554432
 else if s.1=8 then s.2.1+x.2.1*128+s.2.2.1*4096+x.2.2.1*32768+x.2.2.2.1*1048576+s.2.2.2*33554432
 else s.2.1+s.2.2.2*1048576
structure lH (x:Int×Int×Int×Int×Int):Prop where
 d:0≤x.2.1∧x.2.1≤31
 a:0≤x.2.2.1∧x.2.2.1≤31
 b:0≤x.2.2.2.1∧x.2.2.2.1≤31
 i: -9223372036854775808≤x.2.2.2.2∧x.2.2.2.2≤9223372036854775807
theorem fK {f c f3 f7:Int} (h:Aw (f,c,f3,f7)=true):(1≤f∧f≤9)∧(0≤c∧c<128)∧(0≤f3∧f3<8)∧(0≤f7∧f7<64)∧(f=6→f7%2=0)∧(f=9→f7<2∧f3=0):=by
 simp only[Aw,Bool.and_eq_true,Bool.or_eq_true,Bool.not_eq_true',decide_eq_true_eq,decide_eq_false_iff_not]at h
 omega
theorem gP {f:Int} (h:1≤f∧f≤9):f=1∨f=2∨f=3∨f=4∨f=5∨f=6∨f=7∨f=8∨f=9:=by omega
theorem ae (j n:Nat):aq (j:Int) n=decide (j<n):=by
 unfold aq;rw[show decide (0≤(j:Int))=true by simp,Bool.true_and];congr 1;simp
theorem aQ {τ:Ty} (xs:List τ.den) (j:Nat) (h:j<xs.length):rd (τ:=τ) xs (j:Int)=xs[j]:=by
 unfold rd;rw[Int.toNat_natCast,List.getD_eq_getElem?_getD,List.getElem?_eq_getElem h];rfl
theorem ah (j n:Nat) (h:j<n) (h':n≤9223372036854775807):IntKind.wrap .i64 ((j:Int)+1)=((j+1:Nat):Int):=by
 rw[aV (by omega) (by omega)];omega
theorem ab (j n:Nat):decide ((j:Int)< (n:Int))=decide (j<n):=by congr 1;simp
def wX (imm:Int) (w:Int) (p:Int×Int×Int):Int:=ig .i64 w (cJ .i64 (imm/2^p.1.toNat%2^p.2.1.toNat) p.2.2)
def mt (ps:List (Int×Int×Int)):Prop:=ps.length≤4∧∀p∈ps,0≤p.1∧p.1≤62∧0≤p.2.1∧p.2.1≤62∧0≤p.2.2∧p.2.2≤62
theorem Gx (x:Int×Int×Int×Int×Int) (s:Int×Int×Int×Int) (ps:List (Int×Int×Int)) (hp:mt ps):
  ∀(k j:Nat) (w:Int),j+k=ps.length→xB.a x s w ps (ps.length:Int) (j:Int)=xB.a x s ((ps.drop j).foldl (wX x.2.2.2.2) w) ps (ps.length:Int) (ps.length:Int):=by
 intro k
 induction k with
 |zero=>
   intro j w h;have:j=ps.length:=by omega
   subst this;simp
 |succ k ih=>
  intro j w h
  have hj:j<ps.length:=by omega
  obtain⟨p1,p2,p3,p4,p5,p6⟩:=hp.2 ps[j] (List.getElem_mem hj)
  have e:=aQ (τ:= .pair (.int .i64) (.pair (.int .i64) (.int .i64))) ps j hj
  rw[xB.a_eq,ab,ae,e,ah j ps.length hj (by have:=hp.1;omega)]
  simp only[decide_eq_true hj,cond_true]
  rw[eN _ _ _ (by omega) (by omega) (by omega) (by omega)]
  simp only[Option.bind_some]
  rw[show decide (ps[j].2.2<0)=false by simp;omega]
  simp only[cond_false]
  rw[ih (j+1) _ (by omega),List.drop_eq_getElem_cons hj,List.foldl_cons]
  rfl
def bM (f:Int):List (Int×Int×Int):=
 if f=1 then[(12,20,12)]else if f=2 then[(12,8,12),(11,1,20),(1,10,21),(20,1,31)]else if f=3 then[(0,12,20)]else if f=4 then[(11,1,7),(1,4,8),(5,6,25),(12,1,31)]
 else if f=5 then[(0,5,7),(5,7,25)]else if f=6 then[(0,6,20)]else if f=7 then[(0,5,20)]else[]
theorem qA {f:Int} (h:1≤f∧f≤9):Ro f=some (bM f)∧mt (bM f):=by
 rw[N0]
 rcases gP h with rfl|rfl|rfl|rfl|rfl|rfl|rfl|rfl|rfl<;>exact⟨rfl,by unfold mt;decide⟩
theorem dL {y:Int} (k:Nat) (P:Int) (hP:P=2^k) (hk:k≤62) (h0:0≤y) (h:y*P≤9223372036854775807):cJ .i64 y (k:Int)=y*P:=by
 rw[mo (by omega) (by omega),Int.toNat_natCast,←hP]
 have:0≤y*P:=Int.mul_nonneg h0 (by rw[hP];exact Int.le_of_lt (Int.pow_pos (by decide)))
 exact aV (by omega) (by omega)
theorem n5 {y:Int} (h0:0≤y) (h:y≤2147483647):cJ .i64 y 7=y*128:=dL 7 128 rfl (by decide) h0 (by omega)
theorem P7 {y:Int} (h0:0≤y) (h:y≤2147483647):cJ .i64 y 8=y*256:=dL 8 256 rfl (by decide) h0 (by omega)
theorem gg {y:Int} (h0:0≤y) (h:y≤2147483647):cJ .i64 y 12=y*4096:=dL 12 4096 rfl (by decide) h0 (by omega)
theorem nn {y:Int} (h0:0≤y) (h:y≤2147483647):cJ .i64 y 15=y*32768:=dL 15 32768 rfl (by decide) h0 (by omega)
theorem je {y:Int} (h0:0≤y) (h:y≤2147483647):cJ .i64 y 20=y*1048576:=dL 20 1048576 rfl (by decide) h0 (by omega)
theorem KL {y:Int} (h0:0≤y) (h:y≤2147483647):cJ .i64 y 21=y*2097152:=dL 21 2097152 rfl (by decide) h0 (by omega)
theorem uI {y:Int} (h0:0≤y) (h:y≤2147483647):cJ .i64 y 25=y*33554432:=dL 25 33554432 rfl (by decide) h0 (by omega)
theorem KM {y:Int} (h0:0≤y) (h:y≤2147483647):cJ .i64 y 26=y*67108864:=dL 26 67108864 rfl (by decide) h0 (by omega)
theorem Gy {y:Int} (h0:0≤y) (h:y≤2147483647):cJ .i64 y 31=y*2147483648:=dL 31 2147483648 rfl (by decide) h0 (by omega)
theorem IO {x:Int}:lZ .i64 x 1=x/2:=by rw[oS (by decide) (by decide)];rfl
def aY (f:Int):Bool×Bool×Bool:=
 if f=1∨f=2 then(true,false,false)else if f=3∨f=6∨f=7 then(true,true,false)else if f=4∨f=5 then(false,true,true)else if f=8 then(true,true,true)else(false,false,false)
theorem qB {f:Int} (h:1≤f∧f≤9):Rp f=some (aY f):=by
 rw[N2]
 rcases gP h with rfl|rfl|rfl|rfl|rfl|rfl|rfl|rfl|rfl<;>rfl
theorem fq (x:Int×Int×Int×Int×Int) (h:1≤x.1) (h':x.1≤64) (hr:lH x):xB x=some (ef (da x.1) x):=by
 rw[N3,lF _ (by omega) h']
 have hs:=nl x.1 h h'
 generalize da x.1=s at*
 obtain⟨n,rd',rs1,rs2,imm⟩:=x
 obtain⟨f,c,f3,f7⟩:=s
 obtain⟨⟨d1,d2⟩,⟨a1,a2⟩,⟨b1,b2⟩,⟨i1,i2⟩⟩:=hr
 obtain⟨s1,⟨s2,s2'⟩,⟨s3,s3'⟩,⟨s4,s4'⟩,s5,s6⟩:=fK hs
 clear hs
 dsimp only at*
 obtain⟨hp,hpo⟩:=qA s1
 have hf:=qB s1
 simp only[Option.bind_some,hp]
 rw[show(0:Int)=((0:Nat):Int) by rfl,Gx _ _ _ hpo (bM f).length 0 _ (by omega),xB.a_eq,ab]
 simp only[Nat.lt_irrefl,decide_false,cond_false,hf,List.drop_zero,Option.bind_some,aA]
 clear hp hpo hf
 rcases gP s1 with rfl|rfl|rfl|rfl|rfl|rfl|rfl|rfl|rfl
 ·simp[bM,aY,wX,ef]
  have hb0:0≤imm/4096%1048576∧imm/4096%1048576<1048576:=by omega
  generalize imm/4096%1048576=y0 at*
  simp(disch:=omega) only[gg,n5,wW,lG]
  try omega
 ·simp[bM,aY,wX,ef]
  have hb0:0≤imm/4096%256∧imm/4096%256<256:=by omega
  generalize imm/4096%256=y0 at*
  have hb1:0≤imm/2048%2∧imm/2048%2<2:=by omega
  generalize imm/2048%2=y1 at*
  have hb2:0≤imm/2%1024∧imm/2%1024<1024:=by omega
  generalize imm/2%1024=y2 at*
  have hb3:0≤imm/1048576%2∧imm/1048576%2<2:=by omega
  generalize imm/1048576%2=y3 at*
  simp(disch:=omega) only[gg,je,KL,Gy,n5,Ax,uG,Gw,Ay,lG]
  try omega
 ·simp[bM,aY,wX,ef]
  have hb0:0≤imm%4096∧imm%4096<4096:=by omega
  generalize imm%4096=y0 at*
  simp(disch:=omega) only[je,n5,nn,gg,Gu,lG,kz,te]
  try omega
 ·simp[bM,aY,wX,ef]
  have hb0:0≤imm/2048%2∧imm/2048%2<2:=by omega
  generalize imm/2048%2=y0 at*
  have hb1:0≤imm/2%16∧imm/2%16<16:=by omega
  generalize imm/2%16=y1 at*
  have hb2:0≤imm/32%64∧imm/32%64<64:=by omega
  generalize imm/32%64=y2 at*
  have hb3:0≤imm/4096%2∧imm/4096%2<2:=by omega
  generalize imm/4096%2=y3 at*
  simp(disch:=omega) only[n5,P7,uI,Gy,nn,gg,je,KG,KH,IK,Ay,kz,te,oT]
  try omega
 ·simp[bM,aY,wX,ef]
  have hb0:0≤imm%32∧imm%32<32:=by omega
  generalize imm%32=y0 at*
  have hb1:0≤imm/32%128∧imm/32%128<128:=by omega
  generalize imm/32%128=y1 at*
  simp(disch:=omega) only[n5,uI,nn,gg,je,lG,uH,kz,te,oT]
  try omega
 ·simp[bM,aY,wX,ef,IO]
  have hb0:0≤imm%64∧imm%64<64:=by omega
  generalize imm%64=y0 at*
  have hs:0≤f7/2∧f7/2<64:=by omega
  generalize f7/2=z at*
  simp(disch:=omega) only[je,n5,nn,gg,KM,IJ,lG,kz,te,IL]
  try omega
 ·simp[bM,aY,wX,ef]
  have hb0:0≤imm%32∧imm%32<32:=by omega
  generalize imm%32=y0 at*
  simp(disch:=omega) only[je,n5,nn,gg,uI,oT,lG,kz,te,uH]
  try omega
 ·simp[bM,aY,ef]
  simp(disch:=omega) only[n5,nn,gg,je,uI,lG,kz,te,oT,uH]
  try omega
 ·simp[bM,aY,ef]
  simp(disch:=omega) only[je,uG]
  try omega
theorem wY {a b:Int} (ha:0≤a∧a<4294967296) (hb:0≤b∧b<4294967296) (h:∀i:Nat,i<32→a/2^i%2=b/2^i%2):a=b:=by
 have:∀k:Nat,k≤32→a/2^(32-k)=b/2^(32-k):=by
  intro k
  induction k with
  |zero=>intro _;rw[show(2:Int)^(32-0)=4294967296 by rfl];omega
  |succ k ih=>
   intro hk
   have ih:=ih (by omega)
   have h1:=h (32-(k+1)) (by omega)
   have e:32-k=32-(k+1)+1:=by omega
   rw[e]at ih
   have ea:=mr a (32-(k+1))
   have eb:=mr b (32-(k+1))
   omega
 have:=this 32 (by omega)
 simpa using this
theorem CB (w low v:Int) (c:Nat) (h:0≤low) (hlc:low+c+1≤32) (hw:0≤w) (hw':w<4294967296):cO (cO w low c v) (low+c) 1 (v/2^c%2)=cO w low ((c+1:Nat):Int) v:=by
 have r1:=bJ w low c v h (by omega) (by omega) hw hw'
 apply wY (bJ _ _ _ _ (by omega) (by omega) (by omega) r1.1 r1.2) (bJ _ _ _ _ h (by omega) (by omega) hw hw')
 intro i hi
 rw[jU _ _ _ _ (by omega) (by omega),jU _ _ _ _ h (by omega),jU _ _ _ _ h (by omega)]
 by_cases h1:low+c≤(i:Int)∧(i:Int)<low+c+1
 ·rw[if_pos h1,if_pos (by omega),show i-(low+(c:Int)).toNat=0 by omega,show i-low.toNat=c by omega,Int.pow_zero,Int.ediv_one];omega
 ·rw[if_neg h1]
  by_cases h2:low≤(i:Int)∧(i:Int)<low+c
  ·rw[if_pos h2,if_pos (by omega)]
  ·rw[if_neg h2,if_neg (by omega)]
theorem CC (w low v:Int) (h:0≤low) (hl:low≤31) (hw:0≤w) (hw':w<4294967296):cO w low 0 v=w:=by
 apply wY (bJ _ _ _ _ h (by omega) (by omega) hw hw') ⟨hw,hw'⟩
 intro i hi
 rw[jU _ _ _ _ h (by omega),if_neg (by omega)]
theorem bo {w v:Int} (k c:Nat) (P Q:Int) (hP:P=2^k) (hQ:Q=2^c) (h:w/P%Q=0):cO w (k:Int) (c:Int) v=w+v%Q*P:=by
 subst hP hQ
 simp only[cO,Int.toNat_natCast]
 have hk:(0:Int)<2^k:=Int.pow_pos (by decide)
 have hc:(0:Int)<2^c:=Int.pow_pos (by decide)
 have e1:=Int.emod_add_mul_ediv w (2^k)
 have e2:=Int.emod_add_mul_ediv (w/2^k) (2^c)
 rw[h,Int.zero_add,Int.ediv_ediv_of_nonneg (by omega),←Int.pow_add]at e2
 rw[e2,Int.mul_add]
 rw[Int.mul_comm (v%2^c)]
 omega
theorem CD (x:Int×Int×Int×Int×Int) (hx: -9223372036854775808≤x.2.2.2.2) (hx':x.2.2.2.2≤9223372036854775807) (w:Int) (hw:0≤w) (hw':w<4294967296) (i:Nat) (h:1≤i) (h':i≤20):
  ii.a x w (i:Int)=ii.a x (cO w (if i=20 then 31 else if 11<i then i else if 10<i then 9+i else 20+i:Nat) 1 (x.2.2.2.2/2^i%2)) ((i+1:Nat):Int):=by
 rw[ii.a_eq,show decide ((i:Int)<21)=true by simp;omega,gO _ _ hx hx' (by omega) (by omega),aV (n:=9+(i:Int)) (by omega) (by omega),aV (n:=20+(i:Int)) (by omega) (by omega),aV (n:=(i:Int)+1) (by omega) (by omega)]
 simp only[aA,cond_true,Int.toNat_natCast,Option.bind_some]
 have e0:((i+1:Nat):Int)=(i:Int)+1:=by omega
 rw[e0]
 by_cases h1:i=20
 ·subst h1;rw[show decide (((20:Nat):Int)=20)=true by rfl,cp _ _ _ _ (by omega) (by omega) (by omega) hw hw' (by omega) (by omega)];rfl
 ·by_cases h2:11<i
  ·rw[show decide ((i:Int)=20)=false by simp;omega,show decide ((i:Int)>11)=true by simp;omega,show decide ((i:Int)>10)=true by simp;omega,if_neg h1,if_pos h2]
   simp only[cond_true,cond_false]
   rw[cp _ _ _ _ (by omega) (by omega) (by omega) hw hw' (by omega) (by omega)];rfl
  ·by_cases h3:10<i
   ·rw[show decide ((i:Int)=20)=false by simp;omega,show decide ((i:Int)>11)=false by simp;omega,show decide ((i:Int)>10)=true by simp;omega,if_neg h1,if_neg h2,if_pos h3]
    simp only[cond_true,cond_false]
    rw[cp _ _ _ _ (by omega) (by omega) (by omega) hw hw' (by omega) (by omega),show((9+i:Nat):Int)=9+(i:Int) by omega];rfl
   ·rw[show decide ((i:Int)=20)=false by simp;omega,show decide ((i:Int)>11)=false by simp;omega,show decide ((i:Int)>10)=false by simp;omega,if_neg h1,if_neg h2,if_neg h3]
    simp only[cond_false]
    rw[cp _ _ _ _ (by omega) (by omega) (by omega) hw hw' (by omega) (by omega),show((20+i:Nat):Int)=20+(i:Int) by omega];rfl
theorem qC (L:Int→Nat→Option Int) (v:Int) (pl:Nat→Nat) (lo hi:Nat) (step:∀(w:Int) (i:Nat),0≤w→w<4294967296→lo≤i→i<hi→L w i=L (cO w (pl i:Nat) 1 (v/2^i%2)) (i+1))
  (a p:Nat) (ha:lo≤a) (w:Int) (hw:0≤w) (hw':w<4294967296) (n:Nat) (hn:a+n≤hi) (hp1:p≤31) (hpn:p+n≤32) (hp:∀c:Nat,c<n→pl (a+c)=p+c):
  ∀c:Nat,c≤n→L w a=L (cO w (p:Int) (c:Int) (v/2^a)) (a+c):=by
 intro c
 induction c with
 |zero=>intro _;rw[show((0:Nat):Int)=0 by rfl,CC _ _ _ (by omega) (by omega) hw hw',Nat.add_zero]
 |succ c ih=>
  intro hc
  have r:=bJ w p c (v/2^a) (by omega) (by omega) (by omega) hw hw'
  rw[ih (by omega),step _ (a+c) r.1 r.2 (by omega) (by omega),hp c (by omega)]
  have e:v/2^(a+c)=v/2^a/2^c:=by rw[Int.pow_add,Int.ediv_ediv_of_nonneg (Int.le_of_lt (Int.pow_pos (by decide)))]
  rw[e,show((p+c:Nat):Int)=(p:Int)+(c:Int) by omega,CB _ _ _ _ (by omega) (by omega) hw hw']
  rfl
def KN (i:Nat):Nat:=if i=20 then 31 else if 11<i then i else if 10<i then 9+i else 20+i
def qD (i:Nat):Nat:=if i=12 then 31 else if i=11 then 7 else if 4<i then 20+i else 7+i
theorem Gz (x:Int×Int×Int×Int×Int) (hx: -9223372036854775808≤x.2.2.2.2) (hx':x.2.2.2.2≤9223372036854775807) (w:Int) (hw:0≤w) (hw':w<4294967296):
  ii.a x w 1=some (cO (cO (cO (cO w 21 10 (x.2.2.2.2/2)) 20 1 (x.2.2.2.2/2048)) 12 8 (x.2.2.2.2/4096)) 31 1 (x.2.2.2.2/1048576)):=by
 have st:=qC (fun w i=>ii.a x w (i:Int)) x.2.2.2.2 KN 1 21 (fun w i h1 h2 h3 h4=>CD x hx hx' w h1 h2 i h3 (by omega))
 have r1:=bJ w 21 10 (x.2.2.2.2/2) (by decide) (by decide) (by decide) hw hw'
 have r2:=bJ _ 20 1 (x.2.2.2.2/2048) (by decide) (by decide) (by decide) r1.1 r1.2
 have r3:=bJ _ 12 8 (x.2.2.2.2/4096) (by decide) (by decide) (by decide) r2.1 r2.2
 refine(st 1 21 (by decide) w hw hw' 10 (by decide) (by decide) (by decide) (by decide) 10 (by decide)).trans ?_
 refine(st 11 20 (by decide) _ r1.1 r1.2 1 (by decide) (by decide) (by decide) (by decide) 1 (by decide)).trans ?_
 refine(st 12 12 (by decide) _ r2.1 r2.2 8 (by decide) (by decide) (by decide) (by decide) 8 (by decide)).trans ?_
 refine(st 20 31 (by decide) _ r3.1 r3.2 1 (by decide) (by decide) (by decide) (by decide) 1 (by decide)).trans ?_
 exact ii.a_eq _ _ _
theorem wZ (x:Int×Int×Int×Int×Int) (hx: -9223372036854775808≤x.2.2.2.2) (hx':x.2.2.2.2≤9223372036854775807) (w:Int) (hw:0≤w) (hw':w<4294967296) (i:Nat) (h:1≤i) (h':i≤12):
  ii.b x w (i:Int)=ii.b x (cO w (qD i:Nat) 1 (x.2.2.2.2/2^i%2)) ((i+1:Nat):Int):=by
 rw[ii.b_eq,show decide ((i:Int)<13)=true by simp;omega,gO _ _ hx hx' (by omega) (by omega),aV (n:=7+(i:Int)) (by omega) (by omega),aV (n:=20+(i:Int)) (by omega) (by omega),aV (n:=(i:Int)+1) (by omega) (by omega)]
 simp only[aA,cond_true,Int.toNat_natCast,Option.bind_some,qD]
 have e0:((i+1:Nat):Int)=(i:Int)+1:=by omega
 rw[e0]
 by_cases h1:i=12
 ·subst h1;rw[show decide (((12:Nat):Int)=12)=true by rfl,cp _ _ _ _ (by omega) (by omega) (by omega) hw hw' (by omega) (by omega)];rfl
 ·by_cases h2:i=11
  ·subst h2
   rw[show decide (((11:Nat):Int)=12)=false by rfl,show decide (((11:Nat):Int)>4)=true by rfl,show decide (((11:Nat):Int)=11)=true by rfl]
   simp only[cond_true,cond_false]
   rw[cp _ _ _ _ (by omega) (by omega) (by omega) hw hw' (by omega) (by omega)];rfl
  ·by_cases h3:4<i
   ·rw[show decide ((i:Int)=12)=false by simp;omega,show decide ((i:Int)=11)=false by simp;omega,show decide ((i:Int)>4)=true by simp;omega,if_neg h1,if_neg h2,if_pos h3]
    simp only[cond_true,cond_false]
    rw[cp _ _ _ _ (by omega) (by omega) (by omega) hw hw' (by omega) (by omega),show((20+i:Nat):Int)=20+(i:Int) by omega];rfl
   ·rw[show decide ((i:Int)=12)=false by simp;omega,show decide ((i:Int)=11)=false by simp;omega,show decide ((i:Int)>4)=false by simp;omega,if_neg h1,if_neg h2,if_neg h3]
    simp only[cond_false]
    rw[cp _ _ _ _ (by omega) (by omega) (by omega) hw hw' (by omega) (by omega),show((7+i:Nat):Int)=7+(i:Int) by omega];rfl
theorem zf (x:Int×Int×Int×Int×Int) (hx: -9223372036854775808≤x.2.2.2.2) (hx':x.2.2.2.2≤9223372036854775807) (w:Int) (hw:0≤w) (hw':w<4294967296):
  ii.b x w 1=some (cO (cO (cO (cO w 8 4 (x.2.2.2.2/2)) 25 6 (x.2.2.2.2/32)) 7 1 (x.2.2.2.2/2048)) 31 1 (x.2.2.2.2/4096)):=by
 have st:=qC (fun w i=>ii.b x w (i:Int)) x.2.2.2.2 qD 1 13 (fun w i h1 h2 h3 h4=>wZ x hx hx' w h1 h2 i h3 (by omega))
 have r1:=bJ w 8 4 (x.2.2.2.2/2) (by decide) (by decide) (by decide) hw hw'
 have r2:=bJ _ 25 6 (x.2.2.2.2/32) (by decide) (by decide) (by decide) r1.1 r1.2
 have r3:=bJ _ 7 1 (x.2.2.2.2/2048) (by decide) (by decide) (by decide) r2.1 r2.2
 refine(st 1 8 (by decide) w hw hw' 4 (by decide) (by decide) (by decide) (by decide) 4 (by decide)).trans ?_
 refine(st 5 25 (by decide) _ r1.1 r1.2 6 (by decide) (by decide) (by decide) (by decide) 6 (by decide)).trans ?_
 refine(st 11 7 (by decide) _ r2.1 r2.2 1 (by decide) (by decide) (by decide) (by decide) 1 (by decide)).trans ?_
 refine(st 12 31 (by decide) _ r3.1 r3.2 1 (by decide) (by decide) (by decide) (by decide) 1 (by decide)).trans ?_
 exact ii.b_eq _ _ _
theorem zg (x:Int×Int×Int×Int×Int) (hx: -9223372036854775808≤x.2.2.2.2) (hx':x.2.2.2.2≤9223372036854775807) (w:Int) (hw:0≤w) (hw':w<4294967296) (i:Nat) (h:5≤i) (h':i≤11):
  ii.c x w (i:Int)=ii.c x (cO w (20+i:Nat) 1 (x.2.2.2.2/2^i%2)) ((i+1:Nat):Int):=by
 rw[ii.c_eq,show decide ((i:Int)<12)=true by simp;omega,gO _ _ hx hx' (by omega) (by omega),aV (n:=20+(i:Int)) (by omega) (by omega),aV (n:=(i:Int)+1) (by omega) (by omega)]
 simp only[cond_true,Int.toNat_natCast,Option.bind_some]
 rw[cp _ _ _ _ (by omega) (by omega) (by omega) hw hw' (by omega) (by omega),show((20+i:Nat):Int)=20+(i:Int) by omega];rfl
theorem CE (x:Int×Int×Int×Int×Int) (hx: -9223372036854775808≤x.2.2.2.2) (hx':x.2.2.2.2≤9223372036854775807) (w:Int) (hw:0≤w) (hw':w<4294967296):
  ii.c x w 5=some (cO w 25 7 (x.2.2.2.2/32)):=by
 have st:=qC (fun w i=>ii.c x w (i:Int)) x.2.2.2.2 (fun i=>20+i) 5 12 (fun w i h1 h2 h3 h4=>zg x hx hx' w h1 h2 i h3 (by omega))
 refine(st 5 25 (by decide) w hw hw' 7 (by decide) (by decide) (by decide) (by decide) 7 (by decide)).trans ?_
 exact ii.c_eq _ _ _
theorem jf {w v:Int} (hw:0≤w) (hw':w<4294967296) (h:w/128%32=0) (hv: -9223372036854775808≤v) (hv':v≤9223372036854775807):gu w 7 5 v=some (w+v%32*128):=
 (cp w 7 5 v (by decide) (by decide) (by decide) hw hw' hv hv').trans (congrArg some (bo 7 5 128 32 rfl rfl h))
theorem CF {w v:Int} (hw:0≤w) (hw':w<4294967296) (h:w/4096%1048576=0) (hv: -9223372036854775808≤v) (hv':v≤9223372036854775807):gu w 12 20 v=some (w+v%1048576*4096):=
 (cp w 12 20 v (by decide) (by decide) (by decide) hw hw' hv hv').trans (congrArg some (bo 12 20 4096 1048576 rfl rfl h))
theorem iI {w v:Int} (hw:0≤w) (hw':w<4294967296) (h:w/4096%8=0) (hv: -9223372036854775808≤v) (hv':v≤9223372036854775807):gu w 12 3 v=some (w+v%8*4096):=
 (cp w 12 3 v (by decide) (by decide) (by decide) hw hw' hv hv').trans (congrArg some (bo 12 3 4096 8 rfl rfl h))
theorem iJ {w v:Int} (hw:0≤w) (hw':w<4294967296) (h:w/32768%32=0) (hv: -9223372036854775808≤v) (hv':v≤9223372036854775807):gu w 15 5 v=some (w+v%32*32768):=
 (cp w 15 5 v (by decide) (by decide) (by decide) hw hw' hv hv').trans (congrArg some (bo 15 5 32768 32 rfl rfl h))
theorem tf {w v:Int} (hw:0≤w) (hw':w<4294967296) (h:w/1048576%4096=0) (hv: -9223372036854775808≤v) (hv':v≤9223372036854775807):gu w 20 12 v=some (w+v%4096*1048576):=
 (cp w 20 12 v (by decide) (by decide) (by decide) hw hw' hv hv').trans (congrArg some (bo 20 12 1048576 4096 rfl rfl h))
theorem mu {w v:Int} (hw:0≤w) (hw':w<4294967296) (h:w/1048576%32=0) (hv: -9223372036854775808≤v) (hv':v≤9223372036854775807):gu w 20 5 v=some (w+v%32*1048576):=
 (cp w 20 5 v (by decide) (by decide) (by decide) hw hw' hv hv').trans (congrArg some (bo 20 5 1048576 32 rfl rfl h))
theorem GA {w v:Int} (hw:0≤w) (hw':w<4294967296) (h:w/1048576%64=0) (hv: -9223372036854775808≤v) (hv':v≤9223372036854775807):gu w 20 6 v=some (w+v%64*1048576):=
 (cp w 20 6 v (by decide) (by decide) (by decide) hw hw' hv hv').trans (congrArg some (bo 20 6 1048576 64 rfl rfl h))
theorem qE {w v:Int} (hw:0≤w) (hw':w<4294967296) (h:w/33554432%128=0) (hv: -9223372036854775808≤v) (hv':v≤9223372036854775807):gu w 25 7 v=some (w+v%128*33554432):=
 (cp w 25 7 v (by decide) (by decide) (by decide) hw hw' hv hv').trans (congrArg some (bo 25 7 33554432 128 rfl rfl h))
theorem zh {w v:Int} (h:w/2097152%1024=0):cO w 21 10 v=w+v%1024*2097152:=bo 21 10 2097152 1024 rfl rfl h
theorem CG {w v:Int} (h:w/1048576%2=0):cO w 20 1 v=w+v%2*1048576:=bo 20 1 1048576 2 rfl rfl h
theorem CH {w v:Int} (h:w/4096%256=0):cO w 12 8 v=w+v%256*4096:=bo 12 8 4096 256 rfl rfl h
theorem tg {w v:Int} (h:w/2147483648%2=0):cO w 31 1 v=w+v%2*2147483648:=bo 31 1 2147483648 2 rfl rfl h
theorem GB {w v:Int} (h:w/256%16=0):cO w 8 4 v=w+v%16*256:=bo 8 4 256 16 rfl rfl h
theorem CI {w v:Int} (h:w/33554432%64=0):cO w 25 6 v=w+v%64*33554432:=bo 25 6 33554432 64 rfl rfl h
theorem GC {w v:Int} (h:w/128%2=0):cO w 7 1 v=w+v%2*128:=bo 7 1 128 2 rfl rfl h
theorem CJ {w v:Int} (h:w/33554432%128=0):cO w 25 7 v=w+v%128*33554432:=bo 25 7 33554432 128 rfl rfl h
theorem ft (x:Int×Int×Int×Int×Int) (h:1≤x.1) (h':x.1≤64) (hr:lH x) (hu:(da x.1).1=1→x.2.2.2.2%4096=0):ii x=some (ef (da x.1) x):=by
 rw[LI,eO _ (by omega) h']
 have hs:=nl x.1 h h'
 generalize da x.1=s at*
 obtain⟨n,rd',rs1,rs2,imm⟩:=x
 obtain⟨f,c,f3,f7⟩:=s
 obtain⟨⟨d1,d2⟩,⟨a1,a2⟩,⟨b1,b2⟩,⟨i1,i2⟩⟩:=hr
 obtain⟨s1,⟨s2,s2'⟩,⟨s3,s3'⟩,⟨s4,s4'⟩,s5,s6⟩:=fK hs
 clear hs
 dsimp only at*
 simp only[Option.bind_some,aA]
 rcases gP s1 with rfl|rfl|rfl|rfl|rfl|rfl|rfl|rfl|rfl
 ·have hu:=hu rfl
  have ht:imm.tdiv 4096=imm/4096:=by
   rw[Int.tdiv_eq_ediv_of_dvd];exact Int.dvd_of_emod_eq_zero hu
  simp only[dD,↓reduceIte,decide_true,ht]
  rw[aV (n:=imm/4096) (by omega) (by omega),jf (by omega) (by omega) (by omega) (by omega) (by omega)]
  simp only[Option.bind_some]
  rw[CF (by omega) (by omega) (by omega) (by omega) (by omega)]
  simp[ef];omega
 ·simp(disch:=omega) [jf,Gz,ef]
  rw[zh (by omega)]
  have hb0:0≤imm/2%1024∧imm/2%1024<1024:=by omega
  generalize imm/2%1024=y0 at*
  rw[CG (by omega)]
  have hb1:0≤imm/2048%2∧imm/2048%2<2:=by omega
  generalize imm/2048%2=y1 at*
  rw[CH (by omega)]
  have hb2:0≤imm/4096%256∧imm/4096%256<256:=by omega
  generalize imm/4096%256=y2 at*
  rw[tg (by omega)]
  have hb3:0≤imm/1048576%2∧imm/1048576%2<2:=by omega
  generalize imm/1048576%2=y3 at*
  omega
 ·simp(disch:=omega) [jf,iI,iJ,tf,ef]
  omega
 ·simp(disch:=omega) [iI,iJ,mu,zf,ef]
  rw[GB (by omega)]
  have hb0:0≤imm/2%16∧imm/2%16<16:=by omega
  generalize imm/2%16=y0 at*
  rw[CI (by omega)]
  have hb1:0≤imm/32%64∧imm/32%64<64:=by omega
  generalize imm/32%64=y1 at*
  rw[GC (by omega)]
  have hb2:0≤imm/2048%2∧imm/2048%2<2:=by omega
  generalize imm/2048%2=y2 at*
  rw[tg (by omega)]
  have hb3:0≤imm/4096%2∧imm/4096%2<2:=by omega
  generalize imm/4096%2=y3 at*
  omega
 ·simp(disch:=omega) [jf,iI,iJ,mu,CE,ef]
  have hb0:0≤imm%32∧imm%32<32:=by omega
  generalize imm%32=y0 at*
  rw[CJ (by omega)]
  have hb1:0≤imm/32%128∧imm/32%128<128:=by omega
  generalize imm/32%128=y1 at*
  omega
 ·have hf:=s5 rfl
  simp(disch:=omega) [jf,iI,iJ,qE,GA,ef]
  omega
 ·simp(disch:=omega) [jf,iI,iJ,qE,mu,ef]
  omega
 ·simp(disch:=omega) [jf,iI,iJ,qE,mu,ef]
  omega
 ·simp(disch:=omega) [tf,ef]
  omega
def fu (f w:Int):Int:=
 if f=1 then w/4096%1048576*4096
 else if f=2 then w/4096%256*4096+w/1048576%2*2048+w/2097152%1024*2+w/2147483648%2*1048576
 else if f=3 then w/1048576%4096
 else if f=4 then w/128%2*2048+w/256%16*2+w/33554432%64*32+w/2147483648%2*4096
 else if f=5 then w/128%32+w/33554432%128*32
 else if f=6 then w/1048576%64
 else if f=7 then w/1048576%32
 else 0
def et (f:Int):Nat:=if f=1 then 32 else if f=2 then 21 else if f=3∨f=5 then 12 else if f=4 then 13 else 0
def ot (f w:Int):Int:=if 0<et f then cg (fu f w) (et f)else fu f w
def ez (n f w:Int):Int×Int×Int×Int×Int:=
 (n,(if(aY f).1 then w/128%32 else 0),(if(aY f).2.1 then w/32768%32 else 0),(if(aY f).2.2 then w/1048576%32 else 0),ot f w)
theorem w4 {f:Int} (h:1≤f∧f≤9):Sj f=some ((et f:Nat):Int):=by
 rw[N4]
 rcases gP h with rfl|rfl|rfl|rfl|rfl|rfl|rfl|rfl|rfl<;>rfl
theorem zi {f w:Int} (hf:1≤f∧f≤9) (h:0≤w) (h':w<4294967296): -2147483648≤ot f w∧ot f w≤2147483647:=by
 rcases gP hf with rfl|rfl|rfl|rfl|rfl|rfl|rfl|rfl|rfl<;>simp[ot,et,fu,cg]<;>omega
theorem gh {n f w:Int} (hf:1≤f∧f≤9) (h:0≤w) (h':w<4294967296):lH (ez n f w):=by
 have hi:=zi hf h h'
 refine⟨?_, ?_, ?_, ?_⟩
 ·simp only[ez];split<;>omega
 ·simp only[ez];split<;>omega
 ·simp only[ez];split<;>omega
 ·simp only[ez];omega
def mw (w:Int) (i:Int) (p:Int×Int×Int):Int:=ig .i64 i (cJ .i64 (w/2^p.2.2.toNat%2^p.2.1.toNat) p.1)
theorem GD (w:Int) (z:Int×Int×Int×Int×Int) (s:Int×Int×Int×Int) (os:List (ByteArray×Int×Int×Int×Int)) (ln n:Int) (op rd' r1 r2:Int) (ps:List (Int×Int×Int)) (hp:mt ps):
  ∀(k j:Nat) (i:Int),j+k=ps.length→mH.b w z s (op,rd',r1,r2,i) os ln n ps (ps.length:Int) (j:Int)=mH.b w z s (op,rd',r1,r2,(ps.drop j).foldl (mw w) i) os ln n ps (ps.length:Int) (ps.length:Int):=by
 intro k
 induction k with
 |zero=>
   intro j i h;have:j=ps.length:=by omega
   subst this;simp
 |succ k ih=>
  intro j i h
  have hj:j<ps.length:=by omega
  obtain⟨p1,p2,p3,p4,p5,p6⟩:=hp.2 ps[j] (List.getElem_mem hj)
  have e:=aQ (τ:= .pair (.int .i64) (.pair (.int .i64) (.int .i64))) ps j hj
  rw[mH.b_eq,ab,ae,e,ah j ps.length hj (by have:=hp.1;omega)]
  simp only[decide_eq_true hj,cond_true]
  rw[eN _ _ _ (by omega) (by omega) (by omega) (by omega)]
  simp only[Option.bind_some]
  rw[show decide (ps[j].1<0)=false by simp;omega]
  simp only[cond_false]
  rw[ih (j+1) _ (by omega),List.drop_eq_getElem_cons hj,List.foldl_cons]
  rfl
theorem GE {y:Int} (h0:0≤y) (h:y≤2147483647):cJ .i64 y 11=y*2048:=dL 11 2048 rfl (by decide) h0 (by omega)
theorem Jq {y:Int} (h0:0≤y) (h:y≤2147483647):cJ .i64 y 1=y*2:=dL 1 2 rfl (by decide) h0 (by omega)
theorem Jr {y:Int} (h0:0≤y) (h:y≤2147483647):cJ .i64 y 5=y*32:=dL 5 32 rfl (by decide) h0 (by omega)
theorem AA {y:Int} (h0:0≤y) (h:y≤2147483647):cJ .i64 y 0=y:=by
 rw[mo (by decide) (by decide)];simp;exact aV (by omega) (by omega)
theorem oU {y:Int} (h0:0≤y) (h:y≤2147483647):ig .i64 0 y=y:=by
 have:=bj (x:=0) (y:=y) (P:=1) (Q:=2147483648) 0 31 rfl rfl (by decide) (by decide) (by decide) h0 (by omega) (by omega)
 simpa using this
theorem w5 {f w:Int} (hf:1≤f∧f≤9) (h:0≤w) (h':w<4294967296):(bM f).foldl (mw w) 0=fu f w:=by
 rcases gP hf with rfl|rfl|rfl|rfl|rfl|rfl|rfl|rfl|rfl
 ·simp[bM,mw,fu]
  have hb0:0≤w/4096%1048576∧w/4096%1048576<1048576:=by omega
  generalize w/4096%1048576=y0 at*
  simp(disch:=omega) only[gg,wW]
  omega
 ·simp[bM,mw,fu]
  have hb0:0≤w/4096%256∧w/4096%256<256:=by omega
  generalize w/4096%256=y0 at*
  have hb1:0≤w/1048576%2∧w/1048576%2<2:=by omega
  generalize w/1048576%2=y1 at*
  have hb2:0≤w/2097152%1024∧w/2097152%1024<1024:=by omega
  generalize w/2097152%1024=y2 at*
  have hb3:0≤w/2147483648%2∧w/2147483648%2<2:=by omega
  generalize w/2147483648%2=y3 at*
  simp(disch:=omega) only[gg,GE,Jq,je,Ax,Az,IM,uG]
  omega
 ·simp[bM,mw,fu]
  have hb0:0≤w/1048576%4096∧w/1048576%4096<4096:=by omega
  generalize w/1048576%4096=y0 at*
  simp(disch:=omega) only[AA,oU]
 ·simp[bM,mw,fu]
  have hb0:0≤w/128%2∧w/128%2<2:=by omega
  generalize w/128%2=y0 at*
  have hb1:0≤w/256%16∧w/256%16<16:=by omega
  generalize w/256%16=y1 at*
  have hb2:0≤w/33554432%64∧w/33554432%64<64:=by omega
  generalize w/33554432%64=y2 at*
  have hb3:0≤w/2147483648%2∧w/2147483648%2<2:=by omega
  generalize w/2147483648%2=y3 at*
  simp(disch:=omega) only[GE,Jq,Jr,gg,Az,KI,KJ,IN]
  omega
 ·simp[bM,mw,fu]
  have hb0:0≤w/128%32∧w/128%32<32:=by omega
  generalize w/128%32=y0 at*
  have hb1:0≤w/33554432%128∧w/33554432%128<128:=by omega
  generalize w/33554432%128=y1 at*
  simp(disch:=omega) only[AA,Jr,oU,KK]
 ·simp[bM,mw,fu]
  have hb0:0≤w/1048576%64∧w/1048576%64<64:=by omega
  generalize w/1048576%64=y0 at*
  simp(disch:=omega) only[AA,oU]
 ·simp[bM,mw,fu]
  have hb0:0≤w/1048576%32∧w/1048576%32<32:=by omega
  generalize w/1048576%32=y0 at*
  simp(disch:=omega) only[AA,oU]
 ·rfl
 ·rfl
theorem IP {f w:Int} (hf:1≤f∧f≤9):(if 0<et f then Rq (fu f w) ((et f:Nat):Int)else some (fu f w))=some (ot f w):=by
 unfold ot
 rcases gP hf with rfl|rfl|rfl|rfl|rfl|rfl|rfl|rfl|rfl<;>simp[et]<;>rw[ze _ _ (by decide) (by decide)]<;>rfl
theorem KO (n:Int) (h:0≤n) (h':n≤64):∃os:List (ByteArray×Int×Int×Int×Int),Rn=some os∧os.length=65∧∀m:Nat,m≤64→((rd (τ:=(.pair .str (.pair (.int .i64) (.pair (.int .i64) (.pair (.int .i64) (.int .i64)))))) os m).2)=da m:=by
 refine⟨_,Hq,rfl,fun m hm=> ?_⟩
 obtain⟨k,rfl⟩:∃k:Fin 65,m=k.val:=⟨⟨m,by omega⟩,rfl⟩
 clear hm;revert k
 decide+kernel
theorem rT (w:Int) (h:0≤w) (h':w<4294967296) (z:Int×Int×Int×Int×Int) (os:List (ByteArray×Int×Int×Int×Int)) (ho:os.length=65) (hs:∀m:Nat,m≤64→((rd (τ:=(.pair .str (.pair (.int .i64) (.pair (.int .i64) (.pair (.int .i64) (.int .i64)))))) os m).2)=da m) (n:Nat) (h1:1≤n) (hn:n≤64):
  mH.a w z os 65 n=if(da n).2.1=w%128∧ef (da n) (ez n (da n).1 w)=w then some (ez n (da n).1 w,true)else mH.a w z os 65 ((n+1:Nat):Int):=by
 have hsf:=nl n (by omega) (by omega)
 rw[mH.a_eq,show decide ((n:Int)<65)=true by simp;omega,ho,show aq (n:Int) 65=true by rw[ae];simp;omega,hs n hn,show decide ((n:Int)=0)=false by simp;omega,eN w 0 7 (by decide) (by decide) (by decide) (by decide),aV (n:=(n:Int)+1) (by omega) (by omega)]
 have e0:((n+1:Nat):Int)=(n:Int)+1:=by omega
 rw[e0]
 simp only[cond_true,cond_false,aA,Option.bind_some]
 rw[show w/2^(0:Int).toNat%2^(7:Int).toNat=w%128 by simp]
 by_cases hc:(da n).2.1=w%128
 ·have henc:∀x:Int×Int×Int×Int×Int,x.1=(n:Int)→lH x→xB x=some (ef (da n) x):=fun x hx hr=>by rw[←hx];exact fq x (by omega) (by omega) hr
  generalize hS:da n=s at*
  obtain⟨f,c,f3,f7⟩:=s
  obtain⟨s1,⟨s2,s2'⟩,⟨s3,s3'⟩,⟨s4,s4'⟩,s5,s6⟩:=fK hsf
  obtain⟨hp,hpo⟩:=qA s1
  dsimp only at*
  rw[decide_eq_true hc,hp]
  simp only[eq_true hc,true_and,Bool.not_true,cond_false,Option.bind_some]
  clear hc
  rw[show(0:Int)=((0:Nat):Int) by rfl,GD _ _ _ _ _ _ _ _ _ _ _ hpo (bM f).length 0 _ (by omega),List.drop_zero,show(((0:Nat):Int))=0 by rfl,w5 s1 h h',mH.b_eq,ab]
  simp only[Nat.lt_irrefl,decide_false,cond_false,w4 s1,qB s1,Option.bind_some,aA]
  have hi:=IP (w:=w) s1
  have he:=henc (ez n f w) rfl (gh s1 h h')
  have b1:Hr w 7 5=some (w/128%32):=eN w 7 5 (by decide) (by decide) (by decide) (by decide)
  have b2:Hr w 15 5=some (w/32768%32):=eN w 15 5 (by decide) (by decide) (by decide) (by decide)
  have b3:Hr w 20 5=some (w/1048576%32):=eN w 20 5 (by decide) (by decide) (by decide) (by decide)
  rw[aV (n:=(n:Int)+1) (by omega) (by omega)]
  clear henc hS hs ho hp hpo s5 s6 hsf
  unfold ez at he⊢
  generalize mH.a w z os 65 (↑n+1)=nx
  generalize fu f w=iu at*
  generalize ot f w=im at*
  simp only[b1,b2,b3,Option.bind_some]
  rcases gP s1 with rfl|rfl|rfl|rfl|rfl|rfl|rfl|rfl|rfl<;>simp[et,aY]at hi he⊢ <;>first|(rw[hi,Option.bind_some,he];simp[dD])|(rw[hi,he];simp[dD])
 ·rw[if_neg (fun hh=>hc hh.1),show decide ((da n).2.1=w%128)=false by simpa using hc]
  rfl
theorem w6 (n:Int):RP n=some (decide (1≤n)&&decide (n≤64)):=by
 rw[LJ,zH]
 by_cases h:n≥1<;>simp[h]
theorem uJ (n:Int):Qm n=some (decide (0≤n)&&decide (n≤31)):=by
 rw[LL,zH]
 by_cases h:n≥0<;>simp[h]
theorem fb (n a b:Int):oc n a b=some (decide (a≤n)&&decide (n≤b)):=by
 rw[zH]
 by_cases h:n≥a<;>simp[h]
theorem cd (n a b:Int):gA n a b=some (decide (a≤n)&&decide (n≤b)):=by
 rw[zJ]
 by_cases h:a≤n<;>simp[h]
def my (f i:Int):Bool:=
 if f=1 then decide (-2147483648≤i)&&decide (i≤2147479552)&&decide (i%4096=0)
 else if f=2 then decide (-1048576≤i)&&decide (i≤1048574)&&decide (i%2=0)
 else if f=3∨f=5 then decide (-2048≤i)&&decide (i≤2047)
 else if f=4 then decide (-4096≤i)&&decide (i≤4094)&&decide (i%2=0)
 else if f=6 then decide (0≤i)&&decide (i≤63)
 else if f=7 then decide (0≤i)&&decide (i≤31)
 else decide (i=0)
def fw (x:Int×Int×Int×Int×Int):Bool:=
 decide (1≤x.1)&&decide (x.1≤64)&&decide (0≤x.2.1)&&decide (x.2.1≤31)&&decide (0≤x.2.2.1)&&decide (x.2.2.1≤31)&&decide (0≤x.2.2.2.1)&&decide (x.2.2.2.1≤31)
  &&((aY (da x.1).1).1||decide (x.2.1=0))&&((aY (da x.1).1).2.1||decide (x.2.2.1=0))&&((aY (da x.1).1).2.2||decide (x.2.2.2.1=0))&&my (da x.1).1 x.2.2.2.2
theorem jX (x:Int×Int×Int×Int×Int):QX x=some (fw x):=by
 rw[LM]
 obtain⟨n,d,a,b,i⟩:=x
 simp only[aA,w6,uJ,fb,Option.bind_some,fw]
 by_cases hn:1≤n∧n≤64
 ·by_cases hd:0≤d∧d≤31
  ·by_cases ha:0≤a∧a≤31
   ·by_cases hb:0≤b∧b≤31
    ·have hs:=nl n hn.1 hn.2
     rw[eO n (by omega) hn.2]
     generalize da n=s at*
     obtain⟨f,c,f3,f7⟩:=s
     have s1:=(fK hs).1
     simp only[hn,hd,ha,hb,decide_true,Bool.and_self,Bool.not_true,cond_false,Option.bind_some,Bool.true_and]
     clear hs
     have t1:decide (i.tmod 4096=0)=decide (i%4096=0):=by
      congr 1;exact propext ⟨fun h=>by rw[←Int.dvd_iff_tmod_eq_zero]at h;omega,fun h=>by rw[←Int.dvd_iff_tmod_eq_zero];omega⟩
     have t2:decide (i.tmod 2=0)=decide (i%2=0):=by
      congr 1;exact propext ⟨fun h=>by rw[←Int.dvd_iff_tmod_eq_zero]at h;omega,fun h=>by rw[←Int.dvd_iff_tmod_eq_zero];omega⟩
     rw[t1,t2]
     rcases gP s1 with rfl|rfl|rfl|rfl|rfl|rfl|rfl|rfl|rfl<;>simp[aY,my]<;>by_cases e1:d=0<;>by_cases e2:a=0<;>by_cases e3:b=0<;>simp[e1,e2,e3,dD]<;>(first|done|(split<;>first|(simp_all;done)|(simp;intro q1 q2;omega)))
    ·have:(decide (0≤b)&&decide (b≤31))=false:=by simpa using hb
     have h2:¬(0≤b∧b≤31):=hb
     rw[this]
     simp[hn,hd,ha]
     by_cases q:0≤b<;>simp[q]<;>intros<;>omega
   ·have:(decide (0≤a)&&decide (a≤31))=false:=by simpa using ha
    rw[this]
    simp[hn,hd]
    by_cases q:0≤a<;>simp[q]<;>intros<;>omega
  ·have:(decide (0≤d)&&decide (d≤31))=false:=by simpa using hd
   rw[this]
   simp[hn]
   by_cases q:0≤d<;>simp[q]<;>intros<;>omega
 ·have:(decide (1≤n)&&decide (n≤64))=false:=by simpa using hn
  rw[this]
  simp
theorem iK {n:Int} (h:1≤n) (h':n≤64):1≤(da n).1∧(da n).1≤9:=by
 have:=nl n h h'
 generalize da n=s at*
 exact(fK this).1
theorem th {n f w:Int} (hn:1≤n) (hn':n≤64) (hf:f=(da n).1) (h:0≤w) (h':w<4294967296):fw (ez n f w)=true:=by
 have s1:=iK hn hn'
 obtain⟨⟨d1,d2⟩,⟨a1,a2⟩,⟨b1,b2⟩,⟨i1,i2⟩⟩:=gh (n:=n) (hf▸s1) h h'
 have hi:my f (ot f w)=true:=by
  subst hf
  rcases gP s1 with e|e|e|e|e|e|e|e|e<;>rw[e]<;>simp[my,ot,et,fu,cg]<;>omega
 subst hf
 unfold fw
 simp only[Bool.and_eq_true,Bool.or_eq_true,decide_eq_true_eq]
 simp only[ez]at d1 d2 a1 a2 b1 b2⊢
 refine⟨⟨⟨⟨⟨⟨⟨⟨⟨⟨⟨hn,hn'⟩,d1⟩,d2⟩,a1⟩,a2⟩,b1⟩,b2⟩, ?_⟩, ?_⟩, ?_⟩,hi⟩
 ·cases (aY (da n).1).1<;>simp
 ·cases (aY (da n).1).2.1<;>simp
 ·cases (aY (da n).1).2.2<;>simp
theorem qF (w:Int) (h:0≤w) (h':w<4294967296) (n:Int) (h1:1≤n) (hn:n≤64):RQ n w=some (ez n (da n).1 w):=by
 have s1:=iK h1 hn
 have fv:∀l c:Int,0≤l→0≤c→l+c≤62→q7 w l c=some (w/2^l.toNat%2^c.toNat):=fun l c a b d=>Cz w l c (by omega) (by omega) a b d
 have bv:∀l:Int,0≤l→l≤63→xw w l=some (w/2^l.toNat%2):=fun l a b=>gO w l (by omega) (by omega) a b
 rw[LP,fv 7 5 (by decide) (by decide) (by decide),fv 15 5 (by decide) (by decide) (by decide),fv 20 5 (by decide) (by decide) (by decide),fv 12 20 (by decide) (by decide) (by decide),fv 21 10 (by decide) (by decide) (by decide),fv 12 8 (by decide) (by decide) (by decide),fv 20 12 (by decide) (by decide) (by decide),fv 8 4 (by decide) (by decide) (by decide),fv 25 6 (by decide) (by decide) (by decide),fv 25 7 (by decide) (by decide) (by decide),fv 20 6 (by decide) (by decide) (by decide),bv 20 (by decide) (by decide),bv 31 (by decide) (by decide),bv 7 (by decide) (by decide),eO n (by omega) hn]
 generalize da n=s at*
 obtain⟨f,c,f3,f7⟩:=s
 dsimp only at*
 simp only[Option.bind_some,ez,ot]
 rcases gP s1 with rfl|rfl|rfl|rfl|rfl|rfl|rfl|rfl|rfl
 ·simp[aY,et,fu]
  rw[iH _ 20 (by decide) (by decide) (by omega) (by omega)]
  simp[cg]
  rw[aV (by omega) (by omega)]
  omega
 ·simp[aY,et,fu]
  rw[aV (n:=w/2097152%1024*2) (by omega) (by omega),aV (n:=w/1048576%2*2048) (by omega) (by omega),aV (n:=w/4096%256*4096) (by omega) (by omega),aV (n:=w/2147483648%2*1048576) (by omega) (by omega),aV (n:=w/2097152%1024*2+w/1048576%2*2048) (by omega) (by omega),aV (n:=w/2097152%1024*2+w/1048576%2*2048+w/4096%256*4096) (by omega) (by omega),aV (by omega) (by omega),iH _ 21 (by decide) (by decide) (by omega) (by omega)]
  simp
  congr 1;omega
 ·simp[aY,et,fu]
  rw[iH _ 12 (by decide) (by decide) (by omega) (by omega)]
  simp
 ·simp[aY,et,fu]
  rw[aV (n:=w/256%16*2) (by omega) (by omega),aV (n:=w/33554432%64*32) (by omega) (by omega),aV (n:=w/128%2*2048) (by omega) (by omega),aV (n:=w/2147483648%2*4096) (by omega) (by omega),aV (n:=w/256%16*2+w/33554432%64*32) (by omega) (by omega),aV (n:=w/256%16*2+w/33554432%64*32+w/128%2*2048) (by omega) (by omega),aV (by omega) (by omega),iH _ 13 (by decide) (by decide) (by omega) (by omega)]
  simp
  congr 1;omega
 ·simp[aY,et,fu]
  rw[aV (n:=w/33554432%128*32) (by omega) (by omega),aV (by omega) (by omega),iH _ 12 (by decide) (by decide) (by omega) (by omega)]
  simp
 ·simp[aY,et,fu]
 ·simp[aY,et,fu]
 ·simp[aY,et,fu]
 ·simp[aY,et,fu]
theorem KP {n f c f3 f7 w:Int} (hs:Aw (f,c,f3,f7)=true) (h:0≤w) (h':w<4294967296) (hc:c=w%128) (h3:3≤f) (h8:f≤8) (he:ef (f,c,f3,f7) (ez n f w)=w):f3=w/4096%8:=by
 obtain⟨s1,⟨s2,s2'⟩,⟨s3,s3'⟩,⟨s4,s4'⟩,s5,s6⟩:=fK hs
 clear hs
 have hd:=(gh (n:=n) s1 h h').d
 have ha:=(gh (n:=n) s1 h h').a
 have hb:=(gh (n:=n) s1 h h').b
 have:f=3∨f=4∨f=5∨f=6∨f=7∨f=8:=by omega
 generalize ez n f w=x at*
 obtain⟨n',d,a,b,i⟩:=x
 dsimp only at*
 rcases this with rfl|rfl|rfl|rfl|rfl|rfl<;>simp only[ef,Int.reduceEq,↓reduceIte]at he
 ·have hb0:0≤i%4096∧i%4096<4096:=by omega
  generalize i%4096=y0 at*;omega
 ·have hb0:0≤i/2048%2∧i/2048%2<2:=by omega
  generalize i/2048%2=y0 at*
  have hb1:0≤i/2%16∧i/2%16<16:=by omega
  generalize i/2%16=y1 at*
  have hb2:0≤i/32%64∧i/32%64<64:=by omega
  generalize i/32%64=y2 at*
  have hb3:0≤i/4096%2∧i/4096%2<2:=by omega
  generalize i/4096%2=y3 at*;omega
 ·have hb0:0≤i%32∧i%32<32:=by omega
  generalize i%32=y0 at*
  have hb1:0≤i/32%128∧i/32%128<128:=by omega
  generalize i/32%128=y1 at*;omega
 ·have hb0:0≤i%64∧i%64<64:=by omega
  generalize i%64=y0 at*;omega
 ·have hb0:0≤i%32∧i%32<32:=by omega
  generalize i%32=y0 at*;omega
 ·omega
theorem rU (w:Int) (h:0≤w) (h':w<4294967296) (z:Int×Int×Int×Int×Int) (n:Nat) (h1:1≤n) (hn:n≤64):
  xy.a w z n=if(da n).2.1=w%128∧ef (da n) (ez n (da n).1 w)=w then some (ez n (da n).1 w,true)else xy.a w z ((n+1:Nat):Int):=by
 have hsf:=nl n (by omega) (by omega)
 have s1:=iK (n:=n) (by omega) (by omega)
 have hr:=th (n:=n) (by omega) (by omega) rfl h h'
 have he:ii (ez n (da n).1 w)=some (ef (da n) (ez n (da n).1 w)):=ft (ez n (da n).1 w) (by simp only[ez];omega) (by simp only[ez];omega) (gh s1 h h') (fun hf=>by
  have hf:(da n).1=1:=hf
  show ot (da n).1 w%4096=0
  rw[hf];simp[ot,et,fu,cg];omega)
 have e0:((n+1:Nat):Int)=(n:Int)+1:=by omega
 rw[xy.a_eq,show decide ((n:Int)≤64)=true by simp;omega,eO n (by omega) (by omega),aV (n:=(n:Int)+1) (by omega) (by omega),e0]
 simp only[cond_true,aA,Option.bind_some,fb,qF w h h' n (by omega) (by omega),jX,hr,he]
 have t1:w.tmod 128=w%128:=Int.tmod_eq_emod_of_nonneg h
 have t2:(w.tdiv 4096).tmod 8=w/4096%8:=by rw[Int.tdiv_eq_ediv_of_nonneg h,Int.tmod_eq_emod_of_nonneg (by omega)]
 have w1:IntKind.wrap .i64 (w.tdiv 4096)=w.tdiv 4096:=by rw[Int.tdiv_eq_ediv_of_nonneg h];exact aV (by omega) (by omega)
 rw[w1,t1,t2]
 have h3:=fun(hc:(da n).2.1=w%128) (h3:3≤(da n).1) (h8:(da n).1≤8) (he:ef (da n) (ez n (da n).1 w)=w)=>KP (n:=n) (f:=(da n).1) (c:=(da n).2.1) (f3:=(da n).2.2.1) (f7:=(da n).2.2.2) hsf h h' hc h3 h8 he
 clear hsf hr he
 generalize da n=s at*
 by_cases hc:s.2.1=w%128
 ·by_cases hf:3≤s.1∧s.1≤8
  ·by_cases hg:s.2.2.1=w/4096%8
   ·simp[hc,hf,hg,dD]
   ·have:¬ef s (ez n s.1 w)=w:=fun he=>hg (h3 hc hf.1 hf.2 he)
    simp[hc,hf,hg,this]
  ·have:(decide (3≤s.1)&&decide (s.1≤8))=false:=by simpa using hf
   simp[hc,this,dD]
 ·simp[hc]
def GF (w:Int) (v:(Int×Int×Int×Int×Int)×Bool):Prop:=(v.2=true→1≤v.1.1∧v.1.1≤64∧v.1=ez v.1.1 (da v.1.1).1 w∧ef (da v.1.1) v.1=w)∧(v.2=false→v.1=(0,0,0,0,0))
theorem n6 (w:Int) (h:0≤w) (h':w<4294967296):∃v,mH w=some v∧xy w=some v∧GF w v:=by
 obtain⟨os,ho,hl,hs⟩:=KO 0 (by decide) (by decide)
 rw[N6,LQ,ho]
 simp only[Option.bind_some,hl]
 have hz:mH.a w (0,0,0,0,0) os 65 0=mH.a w (0,0,0,0,0) os 65 1:=by
  rw[mH.a_eq,hl];rfl
 have key:∀(k n:Nat),n+k=65→1≤n→∃v,mH.a w (0,0,0,0,0) os 65 (n:Int)=some v∧xy.a w (0,0,0,0,0) (n:Int)=some v∧GF w v:=by
  intro k
  induction k with
  |zero=>
   intro n hn h1
   have:n=65:=by omega
   subst this
   rw[mH.a_eq,xy.a_eq]
   exact⟨_,rfl,rfl,(fun hh=>by cases hh),fun _=>rfl⟩
  |succ k ih=>
   intro n hn h1
   obtain⟨v,e1,e2,e3⟩:=ih (n+1) (by omega) (by omega)
   rw[rT w h h' _ os hl hs n h1 (by omega),rU w h h' _ n h1 (by omega),e1,e2]
   by_cases hc:(da n).2.1=w%128∧ef (da n) (ez n (da n).1 w)=w
   ·rw[if_pos hc]
    exact⟨_,rfl,rfl,fun _=>⟨by simp only[ez];omega,by simp only[ez];omega,rfl,hc.2⟩,(fun hh=>by cases hh)⟩
   ·rw[if_neg hc]
    exact⟨v,rfl,rfl,e3⟩
 rw[show(((65:Nat)):Int)=65 by rfl,hz]
 exact key 64 1 (by omega) (by omega)
abbrev dE:Ty:= .pair (.int .i64) (.pair (.int .i64) (.pair (.int .i64) (.pair (.int .i64) (.int .i64))))
abbrev jg:Type:=Int×Int×Int×Int×Int
theorem CK (a b:ByteArray):(bh a b=true)=(a=b):=by
 unfold bh
 rw[beq_iff_eq]
 refine propext ⟨fun h=> ?_,fun h=>by rw[h]⟩
 have e:∀x:ByteArray,x.toList=x.data.toList:=by
  intro x
  have:∀(n i:Nat) (r:List UInt8),n=x.size-i→ByteArray.toList.loop x i r=r.reverse++x.data.toList.drop i:=by
   intro n
   induction n with
   |zero=>
     intro i r hn
     rw[ByteArray.toList.loop,if_neg (by omega),List.drop_eq_nil_of_le (by have:x.size=x.data.size:=rfl;simp;omega),List.append_nil]
   |succ n ih=>
    intro i r hn
    have hi:i<x.data.toList.length:=by have:x.size=x.data.size:=rfl;simp;omega
    rw[ByteArray.toList.loop,if_pos (by omega),ih (i+1) _ (by omega),List.drop_eq_getElem_cons hi]
    have:x.get! i=x.data.toList[i]:=by
     have h2:i<x.data.size:=by simpa using hi
     rw[ByteArray.get!,getElem!_pos x.data i h2];simp
    rw[this];simp
  have:=this (x.size-0) 0 [] rfl
  rw[ByteArray.toList,this];simp
 rw[e,e]at h
 have:a.data=b.data:=Array.toList_inj.mp h
 cases a;cases b;simp_all
theorem aF (a b:ByteArray):bh a b=decide (a=b):=by
 have:=CK a b
 by_cases h:a=b
 ·rw[decide_eq_true h,this.mpr h]
 ·rw[decide_eq_false h]
  cases e:bh a b
  ·rfl
  ·exact absurd (this.mp e) h
theorem oV (a b:jg):d9 dE a b=decide (a=b):=by
 obtain⟨a1,a2,a3,a4,a5⟩:=a
 obtain⟨b1,b2,b3,b4,b5⟩:=b
 simp[d9]
def kG (t:ByteArray) (a:Nat):Nat→Nat
 |0=>0
 |n+1=>(t.data.getD a 0).toNat+256*kG t (a+1) n
theorem KQ (t:ByteArray):∀(n a:Nat),kG t a n<256^n:=by
 intro n
 induction n with
 |zero=>intro a;simp[kG]
 |succ n ih=>
  intro a
  have h1:=ih (a+1)
  have h2:=(t.data.getD a 0).toNat_lt
  rw[kG,Nat.pow_succ];omega
theorem n7 (t:ByteArray) (a b:Nat) (hb:b≤t.size):∀(n i:Nat),i+n≤b-a→kG (t.extract a b) i n=kG t (a+i) n:=by
 intro n
 induction n with
 |zero=>intro i _;rfl
 |succ n ih=>
  intro i h
  rw[kG,kG,ih (i+1) (by omega)]
  congr 2
  rw[ByteArray.data_extract]
  have hs:t.size=t.data.size:=rfl
  simp[Array.getD]
  rw[dif_pos (by omega),dif_pos (by omega)]
theorem IQ (V b:Int) (hV:0≤V) (hb:0≤b) (hb':b≤255):ig .i64 (cJ .i64 (IntKind.wrap .i64 V) 8) b=IntKind.wrap .i64 (256*V+b):=by
 have h1:cJ .i64 (IntKind.wrap .i64 V) 8=IntKind.wrap .i64 (V*256):=by
  rw[mo (by decide) (by decide)]
  obtain⟨q,hq⟩:=zb V
  have e8:(2:Int)^(8:Int).toNat=256:=by decide
  rw[hq,e8,IntKind.wrap_i64,IntKind.wrap_i64];omega
 rw[h1]
 obtain⟨y,rfl⟩:=Int.eq_ofNat_of_zero_le hb
 unfold ig
 rw[BitVec.toNat_or]
 have f1:=zc (IntKind.wrap .i64 (V*256))
 have f2:(BitVec.ofInt IntKind.i64.bits (y:Int)).toNat=y:=by have:=zc (y:Int);omega
 have f3:IntKind.wrap .i64 (V*256)%18446744073709551616=V*256%18446744073709551616:=by
  rw[IntKind.wrap_i64];omega
 rw[f3]at f1
 rw[f2]
 generalize (BitVec.ofInt IntKind.i64.bits (IntKind.wrap .i64 (V*256))).toNat=x at*
 have h0:=mq x y 0 8 (by omega) (by omega)
 simp only[Nat.pow_zero,Nat.mul_one]at h0
 rw[h0,IntKind.wrap_i64,IntKind.wrap_i64]
 omega
theorem mz (n:Int):IntKind.wrap .u64 n=n%18446744073709551616:=by simp[IntKind.wrap,IntKind.bits,IntKind.signed]
theorem gj (t:ByteArray) (i:Nat):bt t (i:Int)=((t.data.getD i 0).toNat:Int):=by unfold bt;rw[Int.toNat_natCast]
theorem qG (t:ByteArray) (hz:t.size≤9223372036854775807):∀(k:Nat),k≤t.size→AN.a t (IntKind.wrap .i64 (kG t k (t.size-k))) ((k:Int)-1)=some (IntKind.wrap .i64 (kG t 0 t.size)):=by
 intro k
 induction k with
 |zero=>
  intro _
  rw[AN.a_eq];rfl
 |succ k ih=>
  intro hk
  have hs:(((k+1:Nat):Int)-1)=(k:Int):=by omega
  have hb:=qy t (k:Int)
  rw[hs,AN.a_eq,show decide ((k:Int)≥0)=true by simp,ae,decide_eq_true (show k<t.size by omega),aV (n:=bt t (k:Int)) (by omega) (by omega),IQ _ _ (by omega) hb.1 hb.2,aV (n:=(k:Int)-1) (by omega) (by omega)]
  simp only[cond_true]
  have e:kG t k (t.size-k)=(t.data.getD k 0).toNat+256*kG t (k+1) (t.size-(k+1)):=by
   rw[show t.size-k=(t.size-(k+1))+1 by omega,kG]
  have ih:=ih (by omega)
  rw[e]at ih
  rw[gj,show(256:Int)*(kG t (k+1) (t.size-(k+1)):Nat)+((t.data.getD k 0).toNat:Nat)=(((t.data.getD k 0).toNat+256*kG t (k+1) (t.size-(k+1)):Nat):Int) by omega]
  exact ih
theorem hJ (t:ByteArray) (hz:t.size≤9223372036854775807):AN t=some (IntKind.wrap .i64 (kG t 0 t.size)):=by
 have:=qG t hz t.size (by omega)
 rw[Nat.sub_self,show IntKind.wrap .i64 (kG t t.size 0:Nat)=0 by rfl]at this
 rw[NY,aV (n:=(t.size:Int)-1) (by omega) (by omega)]
 exact this
theorem qH (t:ByteArray) (a n:Nat) (hz:t.size≤4611686018427387904) (han:a+n≤t.size):∀(k:Nat),k≤n→xu.a t (a:Int) (((kG t (a+k) (n-k):Nat):Int)%18446744073709551616) ((k:Int)-1)=some (IntKind.wrap .i64 (kG t a n)):=by
 intro k
 induction k with
 |zero=>
  intro _
  rw[xu.a_eq,show decide (((0:Nat):Int)-1≥0)=false by rfl]
  simp only[cond_false,Nat.add_zero,Nat.sub_zero]
  congr 1
  rw[IntKind.wrap_i64,IntKind.wrap_i64];omega
 |succ k ih=>
  intro hk
  have hs:(((k+1:Nat):Int)-1)=(k:Int):=by omega
  have hi:((a:Int)+(k:Int))=((a+k:Nat):Int):=by omega
  rw[hs,xu.a_eq,show decide ((k:Int)≥0)=true by simp,hi,aV (n:=((a+k:Nat):Int)) (by omega) (by omega),ae,decide_eq_true (show a+k<t.size by omega),aV (n:=(k:Int)-1) (by omega) (by omega)]
  simp only[cond_true]
  have e:kG t (a+k) (n-k)=(t.data.getD (a+k) 0).toNat+256*kG t (a+(k+1)) (n-(k+1)):=by
   rw[show n-k=(n-(k+1))+1 by omega,kG];rfl
  have ih:=ih (by omega)
  rw[e]at ih
  rw[gj]
  have hb:=(t.data.getD (a+k) 0).toNat_lt
  refine Eq.trans ?_ ih
  congr 1
  rw[mz,mz,mz]
  generalize (t.data.getD (a+k) 0).toNat=b at*
  generalize kG t (a+(k+1)) (n-(k+1))=L at*
  omega
theorem hY (t:ByteArray) (a n:Nat) (hz:t.size≤4611686018427387904) (han:a+n≤t.size):xu t (a:Int) (n:Int)=some (IntKind.wrap .i64 (kG t a n)):=by
 have:=qH t a n hz han n (by omega)
 rw[Nat.sub_self,show((kG t (a+n) 0:Nat):Int)%18446744073709551616=0 by rfl]at this
 rw[LE,aV (n:=(n:Int)-1) (by omega) (by omega)]
 exact this
theorem SH (t:ByteArray) (a:Nat):0≤((kG t a 4:Nat):Int)∧((kG t a 4:Nat):Int)<4294967296:=by
 have:=KQ t 4 a
 have e:256^4=4294967296:=by decide
 omega
def uK (x:jg):Prop:=1≤x.1∧x.1≤64∧lH x∧fw x=true
theorem GF.ins {w:Int} (h:0≤w) (h':w<4294967296) {v:jg×Bool} (hv:GF w v) (hb:v.2=true):uK v.1:=by
 obtain⟨h1,h2,h3,h4⟩:=hv.1 hb
 refine⟨h1,h2, ?_, ?_⟩
 ·rw[h3];exact gh (iK h1 h2) h h'
 ·rw[h3];exact th h1 h2 rfl h h'
theorem oW {n b:Nat} (h:n*b≤140737488355328) (h':n≤140737488355328):ay n b=true:=by
 simp only[ay,Bool.and_eq_true,decide_eq_true_eq];omega
inductive P8 (code:ByteArray):Prop where
 |ok (l:List jg) (hi:Dp code=some (l,0,true)) (hs:Dg code=some (l,-1)) (hl:4*l.length=code.size) (hr:∀x∈l,uK x)
 |bad (k:Int) (hi:Dp code=some ([],k,false)) (hs:Dg code=some ([],k)) (h0:0≤k)
theorem w7 (code:ByteArray) (h4:code.size%4=0) (hz:code.size≤1048576):P8 code:=by
 have key:∀(k i:Nat) (l:List jg),4*(i+k)=code.size→l.length=i→(∀x∈l,uK x)→
   (∃l',Dp.a code l (4*i:Nat)=some (l',0,true)∧Dg.a code l (i:Int)=some (l',-1)∧4*l'.length=code.size∧∀x∈l',uK x)∨
   (∃b:Int,Dp.a code l (4*i:Nat)=some ([],b,false)∧Dg.a code l (i:Int)=some ([],b)∧0≤b):=by
  intro k
  induction k with
  |zero=>
   intro i l hk hl hr
   rw[Dp.a_eq,Dg.a_eq,aV (n:=4*(i:Int)) (by omega) (by omega),show decide (((4*i:Nat):Int)< (code.size:Int))=false by simp;omega,show decide (4*(i:Int)< (code.size:Int))=false by simp;omega]
   exact Or.inl ⟨l,rfl,rfl,by omega,hr⟩
  |succ k ih=>
   intro i l hk hl hr
   have hw:=SH code (4*i)
   obtain⟨v,e1,e2,e3⟩:=n6 _ hw.1 hw.2
   have t1:AN (code.extract (4*i) (4*i+4))=some ((kG code (4*i) 4:Nat):Int):=by
    have hsz:(code.extract (4*i) (4*i+4)).size=4:=by rw[ByteArray.size_extract];omega
    rw[hJ _ (by omega),hsz,n7 code (4*i) (4*i+4) (by omega) 4 0 (by omega),Nat.add_zero,aV (by omega) (by omega)]
   have t2:xu code ((4*i:Nat):Int) 4=some ((kG code (4*i) 4:Nat):Int):=by
    rw[show(4:Int)=((4:Nat):Int) by rfl,hY _ _ _ (by omega) (by omega),aV (by omega) (by omega)]
   rw[Dp.a_eq,Dg.a_eq,aV (n:=4*(i:Int)) (by omega) (by omega),aV (n:=(i:Int)+1) (by omega) (by omega),aV (n:=((4*i:Nat):Int)+4) (by omega) (by omega),show 4*(i:Int)=((4*i:Nat):Int) by omega,Int.toNat_natCast,show(((4*i:Nat):Int)+4).toNat=4*i+4 by omega,t1,t2]
   rw[show decide (((4*i:Nat):Int)< (code.size:Int))=true by simp;omega,show decide ((0:Int)≤((4*i:Nat):Int))=true by simp;omega,show decide (((4*i:Nat):Int)≤((4*i:Nat):Int)+4)=true by simp;omega,show decide (((4*i:Nat):Int)+4≤(code.size:Int))=true by simp;omega]
   simp only[cond_true,Bool.and_self,Option.bind_some,e1,e2]
   cases hb:v.2 with
   |false=>
    refine Or.inr ⟨(i:Int), ?_,rfl,by omega⟩
    rw[show(((4*i:Nat):Int)).tdiv 4=(i:Int) by rw[Int.tdiv_eq_ediv_of_nonneg (by omega)];omega,aV (by omega) (by omega)];rfl
   |true=>
    have hx:=GF.ins hw.1 hw.2 e3 hb
    rw[oW (by simp;omega) (by simp;omega)]
    simp only[Bool.not_true,cond_false,cond_true]
    have ih:=ih (i+1) (l++[v.1]) (by omega) (by simp;omega) (by
     intro x hx'
     rcases List.mem_append.mp hx' with h|h
     ·exact hr x h
     ·rw[List.mem_singleton.mp h];exact hx)
    rw[show((4*(i+1):Nat):Int)=((4*i:Nat):Int)+4 by omega,show((i+1:Nat):Int)=(i:Int)+1 by omega]at ih
    exact ih
 rcases key (code.size/4) 0 [] (by omega) rfl (by simp)with⟨l,a1,a2,a3,a4⟩|⟨b,a1,a2,a3⟩
 ·exact .ok l ((Hs code).trans a1) ((Hf code).trans a2) a3 a4
 ·exact .bad b ((Hs code).trans a1) ((Hf code).trans a2) a3
theorem dM {α:Type} {c d:Prop} [Decidable c] [Decidable d] {a b b':α} (h:c↔d) (hb:b=b'):(if c then a else b)=(if d then a else b'):=by
 subst hb
 by_cases hc:c
 ·rw[if_pos hc,if_pos (h.mp hc)]
 ·rw[if_neg hc,if_neg (fun hd=>hc (h.mpr hd))]
theorem GG (f:Int) (h:16≤f∧f≤128):Sk f=some [(14,1,2,0,f-8),(22,2,2,0,f),(4,0,1,0,0)]∧RS f=some [(14,1,2,0,f-8),(22,2,2,0,f),(4,0,1,0,0)]:=by
 rw[N9,LT,aV (n:=f-8) (by omega) (by omega)];exact⟨rfl,rfl⟩
def bA (l:List jg) (f k:Int):Bool:=
 decide (2≤k)&&decide (k+2< (l.length:Int))&&decide (rd (τ:=dE) l k=((14,1,2,0,f-8):jg))&&decide (rd (τ:=dE) l (k+1)=((22,2,2,0,f):jg))&&decide (rd (τ:=dE) l (k+2)=((4,0,1,0,0):jg))
theorem IR (i:Int) (n:Nat):(aq i n=true)=(0≤i∧i< (n:Int)):=by simp[aq]
theorem inL_true {i:Int} {n:Nat} (h:0≤i) (h':i< (n:Int)):aq i n=true:=by rw[IR];exact⟨h,h'⟩
theorem dF (l:List jg) (f k:Int) (hf:16≤f∧f≤128) (hl:l.length≤1048576) (hk: -4611686018427387904≤k) (hk':k≤4611686018427387904):I3 l k f=some (bA l f k):=by
 rw[LU,(GG f hf).2,aV (n:=k+1) (by omega) (by omega),aV (n:=k+2) (by omega) (by omega)]
 simp only[Option.bind_some]
 unfold bA
 by_cases h1:2≤k
 ·by_cases h2:k+2< (l.length:Int)
  ·rw[inL_true (i:=k) (by omega) (by omega),inL_true (i:=k+1) (by omega) (by omega),inL_true (i:=k+2) (by omega) (by omega),oV,oV,oV]
   simp only[h1,h2,decide_true,cond_true,Bool.true_and]
   have e0:∀a b c:jg,rd (τ:=dE) [a,b,c] 0=a:=fun _ _ _=>rfl
   have e1:∀a b c:jg,rd (τ:=dE) [a,b,c] 1=b:=fun _ _ _=>rfl
   have e2:∀a b c:jg,rd (τ:=dE) [a,b,c] 2=c:=fun _ _ _=>rfl
   rw[e0,e1,e2]
   show(bif true then bif decide _ then(bif true then bif decide _ then(bif true then some (decide _)else none)else some false else none)else some false else none)=_
   cases decide (rd (τ:=dE) l k=((14,1,2,0,f-8):jg))<;>cases decide (rd (τ:=dE) l (k+1)=((22,2,2,0,f):jg))<;>rfl
  ·simp[h1,h2]
 ·simp[h1]
theorem IS (l:List jg) (f k:Int):(bA l f k=true→bA l f (k-1)=false)∧(bA l f k=true→bA l f (k-2)=false)∧(bA l f (k-1)=true→bA l f (k-2)=false):=by
 have e1:k-1+1=k:=by omega
 have e2:k-2+2=k:=by omega
 have e3:k-2+1=k-1:=by omega
 have e4:k-1+2=k+1:=by omega
 unfold bA
 rw[e1,e2,e3,e4]
 simp only[Bool.and_eq_true,decide_eq_true_eq]
 refine⟨?_, ?_, ?_⟩
 ·rintro⟨⟨⟨_,h⟩,_⟩,_⟩
  rw[h];simp
 ·rintro⟨⟨⟨_,h⟩,_⟩,_⟩
  rw[h];simp
 ·rintro⟨⟨⟨_,h⟩,h2⟩,_⟩
  rw[h2];simp
def rV (l:List jg) (f:Int) (n j:Int):Int:=
 if j<n∧bA l f j=true then 1 else if j-1<n∧bA l f (j-1)=true then 2 else if j-2<n∧bA l f (j-2)=true then 3 else 0
def gQ (l:List jg) (f:Int) (n:Int) (E:List Int):Prop:=E.length=l.length∧∀j:Nat,j<l.length→E[j]? =some (rV l f n (j:Int))
theorem zj (a b:List jg) (hl:a.length=b.length) (hz:a.length≤1048576):∀(k j:Nat),j+k=a.length→Ht.a a b (a.length:Int) (j:Int)=some (decide (a.drop j=b.drop j)):=by
 intro k
 induction k with
 |zero=>
  intro j hj
  rw[Ht.a_eq,ab,show decide (j<a.length)=false by simp;omega,List.drop_eq_nil_of_le (by omega),List.drop_eq_nil_of_le (by omega)];rfl
 |succ k ih=>
  intro j hj
  have h1:j<a.length:=by omega
  have h2:j<b.length:=by omega
  rw[Ht.a_eq,ab,ae,ae,decide_eq_true h1,decide_eq_true h2,ah j a.length h1 (by omega),ih (j+1) (by omega)]
  simp only[cond_true]
  rw[aQ (τ:=dE) a j h1,aQ (τ:=dE) b j h2,oV,List.drop_eq_getElem_cons h1,List.drop_eq_getElem_cons h2]
  simp only[List.cons.injEq]
  by_cases h:a[j]=b[j]<;>simp[h]
theorem CL (a b:List jg) (hz:a.length≤1048576):Ht a b=some (decide (a=b)):=by
 rw[N8]
 by_cases h:a.length=b.length
 ·rw[show decide ((a.length:Int)=(b.length:Int))=true by simp[h]]
  have:=zj a b h hz a.length 0 (by omega)
  rw[show((0:Nat):Int)=0 by rfl]at this
  simp only[Bool.not_true,cond_false,this,List.drop_zero]
 ·rw[show decide ((a.length:Int)=(b.length:Int))=false by simp;omega]
  simp only[Bool.not_false,cond_true]
  rw[decide_eq_false];rintro rfl;exact h rfl
theorem GH (l:List jg) (k:Nat) (hk:k+3≤l.length) (a b c:jg):decide ((l.take (k+3)).drop k=[a,b,c])=(decide (rd (τ:=dE) l k=a)&&decide (rd (τ:=dE) l ((k:Int)+1)=b)&&decide (rd (τ:=dE) l ((k:Int)+2)=c)):=by
 rw[show(k:Int)+1=((k+1:Nat):Int) by omega,show(k:Int)+2=((k+2:Nat):Int) by omega,aQ (τ:=dE) l k (by omega),aQ (τ:=dE) l (k+1) (by omega),aQ (τ:=dE) l (k+2) (by omega)]
 rw[List.drop_take,show k+3-k=3 by omega,List.drop_eq_getElem_cons (show k<l.length by omega),List.drop_eq_getElem_cons (show k+1<l.length by omega),List.drop_eq_getElem_cons (show k+1+1<l.length by omega)]
 simp[List.take]
 rw[Bool.and_assoc]
theorem CM (at_:Int) (calls:List Int) (l:List jg) (f:Int) (hf:16≤f∧f≤128) (hl:l.length≤1048576) (h2:2≤l.length):
  ∀(k i:Nat) (E:List Int),2≤i→i+k+2=l.length→gQ l f i E→∃E',gQ l f l.length E'∧km.b f l (l,f,at_,calls,E) i=km.c l (l,f,at_,calls,E') 2:=by
 intro k
 induction k with
 |zero=>
  intro i E h2i hk hE
  refine⟨E,⟨hE.1,fun j hj=> ?_⟩, ?_⟩
  ·rw[hE.2 j hj]
   congr 1
   have out:∀m:Int,(i:Int)≤m→bA l f m=false:=by
    intro m hm
    unfold bA
    rw[show decide (m+2< (l.length:Int))=false by simp;omega];simp
   have r:∀m:Int,m< (l.length:Int)→((m< (i:Int)∧bA l f m=true)↔(m< (l.length:Int)∧bA l f m=true)):=by
    intro m hm
    constructor
    ·rintro⟨_,h⟩;exact⟨hm,h⟩
    ·rintro⟨_,h⟩
     refine⟨?_,h⟩
     by_cases hmi:m< (i:Int)
     ·exact hmi
     ·rw[out m (by omega)]at h;cases h
   unfold rV
   exact dM (r j (by omega)) (dM (r (j-1) (by omega)) (dM (r (j-2) (by omega)) rfl))
  ·rw[km.b_eq,aV (n:=(i:Int)+3) (by omega) (by omega),show decide ((i:Int)+3≤(l.length:Int))=false by simp;omega]
   rfl
 |succ k ih=>
  intro i E h2i hk hE
  have hstep:∀E':List Int,E'.length=l.length→(∀j:Nat,j<l.length→E'[j]? =some (rV l f ((i:Int)+1) j))→∃E'',gQ l f l.length E''∧km.b f l (l,f,at_,calls,E') (((i+1:Nat)):Int)=km.c l (l,f,at_,calls,E'') 2:=by
   intro E' h1 h2'
   exact ih (i+1) E' (by omega) (by omega) ⟨h1,fun j hj=>by rw[h2' j hj];rfl⟩
  have hEl:=hE.1
  rw[km.b_eq,aV (n:=(i:Int)+3) (by omega) (by omega),aV (n:=(i:Int)+1) (by omega) (by omega),aV (n:=(i:Int)+2) (by omega) (by omega),(GG f hf).1,show decide ((i:Int)+3≤(l.length:Int))=true by simp;omega,show decide ((0:Int)≤(i:Int))=true by simp,show decide ((i:Int)≤(i:Int)+3)=true by simp;omega,show((i:Int)+3).toNat=i+3 by omega,Int.toNat_natCast,show((i:Int)+1).toNat=i+1 by omega,show((i:Int)+2).toNat=i+2 by omega]
  simp only[cond_true,Bool.and_self,Option.bind_some]
  rw[CL _ _ (by simp;omega),GH l i (by omega)]
  have hB:bA l f i=(decide (rd (τ:=dE) l i=((14,1,2,0,f-8):jg))&&decide (rd (τ:=dE) l ((i:Int)+1)=((22,2,2,0,f):jg))&&decide (rd (τ:=dE) l ((i:Int)+2)=((4,0,1,0,0):jg))):=by
   unfold bA
   rw[show decide (2≤(i:Int))=true by simp;omega,show decide ((i:Int)+2< (l.length:Int))=true by simp;omega];simp
  rw[←hB]
  simp only[Option.bind_some]
  cases hb:bA l f i with
  |true=>
   simp only[cond_true,letB]
   rw[inL_true (by omega) (by rw[hEl];omega),inL_true (by omega) (by rw[List.length_set,hEl];omega),inL_true (by omega) (by rw[List.length_set,List.length_set,hEl];omega)]
   simp only[cond_true]
   rw[show(i:Int)+1=((i+1:Nat):Int) by omega]
   refine hstep _ (by simp[hEl]) (fun j hj=> ?_)
   have hj':=hE.2 j hj
   rw[List.getElem?_set,List.getElem?_set,List.getElem?_set]
   simp only[List.length_set,hEl]
   unfold rV
   by_cases c2:i+2=j
   ·rw[if_pos c2,if_pos (by omega),if_neg (by omega),if_neg (by omega),if_pos ⟨by omega,by rw[show(j:Int)-2=(i:Int) by omega];exact hb⟩]
   ·rw[if_neg c2]
    by_cases c1:i+1=j
    ·rw[if_pos c1,if_pos (by omega),if_neg (by omega),if_pos ⟨by omega,by rw[show(j:Int)-1=(i:Int) by omega];exact hb⟩]
    ·rw[if_neg c1]
     by_cases c0:i=j
     ·rw[if_pos c0,if_pos (by omega),if_pos ⟨by omega,by rw[show(j:Int)=(i:Int) by omega];exact hb⟩]
     ·rw[if_neg c0,hj']
      unfold rV
      congr 1
      have r:∀m:Int,m≠(i:Int)→((m< (i:Int)∧bA l f m=true)↔(m< (i:Int)+1∧bA l f m=true)):=by
       intro m hm
       constructor
       ·rintro⟨_,h⟩;exact⟨by omega,h⟩
       ·rintro⟨_,h⟩;exact⟨by omega,h⟩
      exact dM (r j (by omega)) (dM (r (j-1) (by omega)) (dM (r (j-2) (by omega)) rfl))
  |false=>
   simp only[cond_false]
   rw[show(i:Int)+1=((i+1:Nat):Int) by omega]
   refine hstep _ hEl (fun j hj=> ?_)
   rw[hE.2 j hj]
   unfold rV
   congr 1
   have r:∀m:Int,((m< (i:Int)∧bA l f m=true)↔(m< (i:Int)+1∧bA l f m=true)):=by
    intro m
    constructor
    ·rintro⟨_,h⟩;exact⟨by omega,h⟩
    ·rintro⟨_,h⟩
     refine⟨?_,h⟩
     by_cases hmi:m=(i:Int)
     ·rw[hmi,hb]at h;cases h
     ·omega
   exact dM (r j) (dM (r (j-1)) (dM (r (j-2)) rfl))
theorem zk (l:List Int) (n:Int) (hz:l.length≤1048576):∀(k j:Nat),j+k=l.length→∃r:Int,Hy.a l n (l.length:Int) (j:Int)=some r∧decide (r≥0)=decide (n∈l.drop j)∧Hg.a l n (j:Int)=some (decide (n∈l.drop j)):=by
 intro k
 induction k with
 |zero=>
  intro j hj
  rw[Hy.a_eq,Hg.a_eq,ab,show decide (j<l.length)=false by simp;omega,List.drop_eq_nil_of_le (by omega)]
  exact⟨-1,rfl,by simp,by simp⟩
 |succ k ih=>
  intro j hj
  have h1:j<l.length:=by omega
  obtain⟨r,i1,i2,i3⟩:=ih (j+1) (by omega)
  rw[Hy.a_eq,Hg.a_eq,ab,ae,decide_eq_true h1,ah j l.length h1 (by omega),aQ (τ:= .int .i64) l j h1,List.drop_eq_getElem_cons h1]
  simp only[cond_true]
  by_cases h:n=l[j]
  ·rw[decide_eq_true h,decide_eq_true h.symm,decide_eq_true (show n∈l[j]::l.drop (j+1) by rw[h];exact List.mem_cons_self)]
   exact⟨(j:Int),rfl,by simp,rfl⟩
  ·have e:decide (n∈l[j]::l.drop (j+1))=decide (n∈l.drop (j+1)):=by simp only[List.mem_cons,h,false_or]
   rw[e,decide_eq_false h,decide_eq_false (fun q:l[j]=n=>h q.symm)]
   exact⟨r,i1,i2,i3⟩
theorem AB (l:List Int) (n:Int) (hz:l.length≤1048576):Sl l n=some (decide (n∈l))∧Hg l n=some (decide (n∈l)):=by
 obtain⟨r,i1,i2,i3⟩:=zk l n hz l.length 0 (by omega)
 rw[show((0:Nat):Int)=0 by rfl]at i1 i3
 rw[Ob,Oa,i1,LV,i3]
 rw[Option.bind_some,i2,List.drop_zero]
 exact⟨rfl,rfl⟩
theorem qJ (n:Int):Rs n=some (decide (5≤n)&&decide (n≤10)):=by rw[Od,cd];rfl
theorem GI (n:Int):Sm n=some (decide (11≤n)&&decide (n≤17)):=by rw[Oe,cd];rfl
theorem np (n:Int):Ph n=some (decide (18≤n)&&decide (n≤21)):=by rw[Of,cd];rfl
def jY (n:Int):Int×Bool:=
 if n=11 then(1,true)else if n=12 then(2,true)else if n=13 then(4,true)else if n=14 then(8,true)else if n=15 then(1,false)else if n=16 then(2,false)else if n=17 then(4,false)
 else if n=18 then(1,false)else if n=19 then(2,false)else if n=20 then(4,false)else if n=21 then(8,false)else(0,false)
theorem GJ (n:Int) (h:1≤n) (h':n≤64):RR n=some (jY n):=by
 rw[LS]
 obtain⟨k,rfl⟩:=td (show 0≤n by omega) h'
 clear h h';revert k
 decide+kernel
theorem GK (n:Int) (h:11≤n) (h':n≤21):Sn n=some (jY n):=by
 rw[Og,np]
 have:n=11∨n=12∨n=13∨n=14∨n=15∨n=16∨n=17∨n=18∨n=19∨n=20∨n=21:=by omega
 rcases this with rfl|rfl|rfl|rfl|rfl|rfl|rfl|rfl|rfl|rfl|rfl<;>decide+kernel
theorem IT (n:Int) (h:11≤n) (h':n≤21):1≤(jY n).1∧(jY n).1≤8:=by
 have:n=11∨n=12∨n=13∨n=14∨n=15∨n=16∨n=17∨n=18∨n=19∨n=20∨n=21:=by omega
 rcases this with rfl|rfl|rfl|rfl|rfl|rfl|rfl|rfl|rfl|rfl|rfl<;>decide
theorem GL (n:Int) (h:¬(11≤n∧n≤21)):(jY n).1=0:=by
 unfold jY
 repeat rw[if_neg (by omega)]
theorem n8 (n:Int) (h:1≤n) (h':n≤64):decide ((da n).1=4)=(decide (5≤n)&&decide (n≤10)):=by
 obtain⟨k,rfl⟩:=td (show 0≤n by omega) h'
 clear h';revert k
 decide+kernel
theorem IU {l:List jg} {f:Int} {E:List Int} (hE:gQ l f l.length E) (i:Int) (h:0≤i) (h':i< (l.length:Int)):rd (τ:= .int .i64) E i=rV l f l.length i:=by
 obtain⟨j,rfl⟩:=Int.eq_ofNat_of_zero_le h
 have:=hE.2 j (by omega)
 unfold rd
 rw[Int.toNat_natCast,List.getD_eq_getElem?_getD,this];rfl
theorem CN (l:List jg) (f i:Int) (h:i< (l.length:Int)):rV l f l.length i=if bA l f i=true then 1 else if bA l f (i-1)=true then 2 else if bA l f (i-2)=true then 3 else 0:=by
 unfold rV
 exact dM ⟨fun h=>h.2,fun hh=>⟨h,hh⟩⟩ (dM ⟨fun h=>h.2,fun hh=>⟨by omega,hh⟩⟩ (dM ⟨fun h=>h.2,fun hh=>⟨by omega,hh⟩⟩ rfl))
theorem tj {l:List jg} {f:Int} {E:List Int} (hE:gQ l f l.length E) (i:Int) (h:0≤i) (h':i< (l.length:Int)):
  decide (rd (τ:= .int .i64) E i=1)=bA l f i∧decide (rd (τ:= .int .i64) E i=2)=bA l f (i-1)∧decide (rd (τ:= .int .i64) E i=3)=bA l f (i-2)∧decide (rd (τ:= .int .i64) E i<2)=(!bA l f (i-1)&& !bA l f (i-2)):=by
 have hx:=IS l f i
 rw[IU hE i h h',CN l f i h']
 cases h0:bA l f i<;>cases h1:bA l f (i-1)<;>cases h2:bA l f (i-2)<;>simp_all
theorem CO (n:Int) (h: -9223372036854775808≤n) (h':n≤9223372036854775807):IntKind.wrap .i64 (n.tdiv 4)=n.tdiv 4:=by
 have: -9223372036854775808≤n.tdiv 4∧n.tdiv 4≤9223372036854775807:=by
  rcases Int.le_total 0 n with h0|h0
  ·rw[Int.tdiv_eq_ediv_of_nonneg h0];omega
  ·have:n.tdiv 4= -((-n).tdiv 4):=by rw[Int.neg_tdiv,Int.neg_neg]
   rw[this,Int.tdiv_eq_ediv_of_nonneg (by omega)];omega
 exact aV this.1 this.2
theorem P9 (n:Int) (h:n.tmod 4=0):n.tdiv 4=n/4:=by
 rw[Int.tdiv_eq_ediv_of_dvd];exact Int.dvd_iff_tmod_eq_zero.mpr h
theorem uK.imm {x:jg} (h:uK x): -2147483648≤x.2.2.2.2∧x.2.2.2.2≤2147483647:=by
 have hrv:=h.2.2.2
 have hsf:=iK h.1 h.2.1
 unfold fw at hrv
 simp only[Bool.and_eq_true]at hrv
 have hrv:=hrv.2
 generalize (da x.1).1=ff at*
 unfold my at hrv
 rcases gP hsf with rfl|rfl|rfl|rfl|rfl|rfl|rfl|rfl|rfl<;>simp at hrv<;>omega
theorem CP (l:List jg) (f at_:Int) (calls E:List Int) (hE:gQ l f l.length E) (hf:16≤f∧f≤128) (hl:l.length≤1048576) (i:Int) (h:0≤i) (h':i< (l.length:Int)) (hr:uK (rd (τ:=dE) l i)):
  ∃b,Rr (l,f,at_,calls,E) i=some b∧QY l i (rd (τ:=dE) l i).2.2.2.2 f=some b:=by
 have hi:=hr.imm
 rw[Oc,LW]
 dsimp only
 rw[inL_true h h']
 generalize (rd (τ:=dE) l i).2.2.2.2=m at*
 rw[CO m (by omega) (by omega)]
 by_cases h4:m.tmod 4=0
 ·rw[P9 m h4,aV (n:=i+m/4) (by omega) (by omega),aV (n:=(l.length:Int)-1) (by omega) (by omega),aV (n:=i+m/4-1) (by omega) (by omega),aV (n:=i+m/4-2) (by omega) (by omega),cd,dF l f _ hf hl (by omega) (by omega),dF l f _ hf hl (by omega) (by omega)]
  simp only[h4,decide_true,cond_true,Option.bind_some]
  by_cases ha:2≤i+m/4
  ·by_cases hb:i+m/4< (l.length:Int)
   ·have he:=tj hE (i+m/4) (by omega) hb
    rw[inL_true (by omega) (by rw[hE.1];exact hb),he.2.2.2,decide_eq_true ha,show decide (i+m/4≤(l.length:Int)-1)=true by simp;omega,decide_eq_true hb]
    simp only[Bool.and_self,cond_true]
    cases bA l f (i+m/4-1)<;>exact⟨_,rfl,rfl⟩
   ·rw[show decide (i+m/4≤(l.length:Int)-1)=false by simp;omega,decide_eq_false hb]
    rw[decide_eq_true ha]
    exact⟨_,rfl,rfl⟩
  ·rw[decide_eq_false ha]
   exact⟨_,rfl,rfl⟩
 ·rw[decide_eq_false h4]
  exact⟨_,rfl,rfl⟩
theorem zl (l:List jg) (f at_:Int) (calls E:List Int) (hE:gQ l f l.length E) (hf:16≤f∧f≤128) (ha:0≤at_∧at_≤1048575) (hl:l.length≤1048576) (hc:calls.length≤1048576) (i:Int) (h:2≤i) (h':i< (l.length:Int)) (hr:uK (rd (τ:=dE) l i)):
  ∃b,So (l,f,at_,calls,E) i=some b∧RT l i at_ f calls=some b:=by
 obtain⟨g,g1,g2⟩:=CP l f at_ calls E hE hf hl i (by omega) h' hr
 have he:=tj hE i (by omega) h'
 rw[Oh,LX]
 dsimp only
 rw[inL_true (by omega) h',inL_true (by omega) (by rw[hE.1];exact h'),g1,g2,he.1,he.2.1,he.2.2.1,aV (n:=i-2) (by omega) (by omega),aV (n:=i-1) (by omega) (by omega),dF l f i hf hl (by omega) (by omega),dF l f (i-1) hf hl (by omega) (by omega),dF l f (i-2) hf hl (by omega) (by omega),(AB calls _ hc).1,(AB calls _ hc).2,GJ _ hr.1 hr.2.1,eO _ (by have:=hr.1;omega) hr.2.1,qJ,GI,np]
 have hbf:=n8 _ hr.1 hr.2.1
 simp only[Option.bind_some,cond_true,aA,hbf,cd]
 clear g1 g2 he hr hE hbf
 generalize bA l f i=B0 at*
 generalize bA l f (i-1)=B1 at*
 generalize bA l f (i-2)=B2 at*
 obtain⟨x,hx⟩:∃x:jg,rd (τ:=dE) l i=x:=⟨_,rfl⟩
 rw[hx]at*
 clear hx
 obtain⟨n,d,a,b,m⟩:=x
 dsimp only at*
 have hw:=GK n
 have hwp:=IT n
 have hwz:=GL n
 by_cases h4:n=4
 ·subst h4
  simp only[decide_true,cond_true]
  cases B2<;>exact⟨_,rfl,rfl⟩
 ·rw[decide_eq_false h4]
  simp only[cond_false]
  by_cases h3:n=3
  ·subst h3
   simp only[decide_true,cond_true]
   by_cases hd:d=1
   ·rw[decide_eq_true hd]
    cases decide (IntKind.wrap .i64 (IntKind.wrap .i64 (at_+IntKind.wrap .i64 (4*i))+m)∈calls)<;>exact⟨_,rfl,rfl⟩
   ·rw[decide_eq_false hd]
    cases decide (d=0)<;>cases g<;>exact⟨_,rfl,rfl⟩
  ·rw[decide_eq_false h3]
   simp only[cond_false]
   cases hb:(decide (5≤n)&&decide (n≤10))with
   |true=>cases g<;>exact⟨_,rfl,rfl⟩
   |false=>
    simp only[cond_false]
    have hm:0≤(jY n).1∧(jY n).1≤8:=by
     by_cases q:11≤n∧n≤21
     ·have:=hwp q.1 q.2;omega
     ·rw[hwz q];decide
    rw[aV (n:=f-8) (by omega) (by omega),aV (n:=f-8-(jY n).1) (by omega) (by omega)]
    by_cases q:11≤n∧n≤21
    ·have hwn:=hwp q.1 q.2
     rw[hw q.1 q.2]
     simp only[Option.bind_some]
     rw[aV (n:=f-8-(jY n).1) (by omega) (by omega),show decide ((jY n).1>0)=true by simp;omega,show decide ((jY n).1=0)=false by simp;omega]
     have hls:(bif (decide (11≤n)&&decide (n≤17))then true else(decide (18≤n)&&decide (n≤21)))=true:=by
      by_cases q2:n≤17
      ·simp[q.1,q2]
      ·rw[decide_eq_false q2,show decide (18≤n)=true by simp;omega,decide_eq_true q.2];simp
     have hm2:(decide (0≤m)&&decide (m≤f-8-(jY n).1))=(!decide (m<0)&& !decide (m>f-8-(jY n).1)):=by
      by_cases z1:m<0<;>by_cases z2:m>f-8-(jY n).1<;>simp[z1,z2]<;>omega
     rw[hm2]
     clear hm hw hwp hwz hwn hm2 hb
     generalize (decide (11≤n)&&decide (n≤17))=L at*
     generalize (decide (18≤n)&&decide (n≤21))=S at*
     generalize decide (m<0)=z1
     generalize decide (m>f-8-(jY n).1)=z2
     generalize decide (m.tmod (jY n).1=0)=z3
     generalize decide (d=1)=z4
     generalize decide (d=2)=z5
     generalize decide (a=2)=z6
     cases L<;>cases S<;>first|(cases hls;done)|(cases z4<;>cases z5<;>cases B0<;>cases B1<;>first|exact⟨_,rfl,rfl⟩|(cases z6<;>first|exact⟨_,rfl,rfl⟩|(cases z1<;>cases z2<;>cases z3<;>exact⟨_,rfl,rfl⟩)))
    ·have hls1:(decide (11≤n)&&decide (n≤17))=false:=by
      by_cases q1:11≤n
      ·rw[show decide (n≤17)=false by simp;omega];simp
      ·simp[q1]
     have hls2:(decide (18≤n)&&decide (n≤21))=false:=by
      by_cases q1:18≤n
      ·rw[show decide (n≤21)=false by simp;omega];simp
      ·simp[q1]
     rw[hls1,hls2,hwz q]
     cases decide (d=1)<;>cases decide (d=2)<;>cases B0<;>cases B1<;>exact⟨_,rfl,rfl⟩
def cS (f:Int):Bool:=bif decide (16≤f)&&decide (f≤128)then decide (f.tmod 16=0)else false
theorem eP (f:Int):Qp f=some (cS f)∧Ql f=some (cS f):=by
 rw[NU,LC,cd,fb]
 simp only[Option.bind_some,cS]
 cases (decide (16≤f)&&decide (f≤128))<;>exact⟨rfl,rfl⟩
theorem uL {f:Int} (h:cS f=true):16≤f∧f≤128:=by
 unfold cS at h
 cases hb:(decide (16≤f)&&decide (f≤128))with
 |true=>simpa using hb
 |false=>rw[hb]at h;cases h
def bV (a:Int):Bool:=bif decide (0≤a)&&decide (a≤1048575)then decide (a.tmod 4=0)else false
theorem lI (a:Int):Rm a=some (bV a):=by
 rw[NX,cd]
 simp only[Option.bind_some,bV]
 cases (decide (0≤a)&&decide (a≤1048575))<;>rfl
theorem kZ {a:Int} (h:bV a=true):0≤a∧a≤1048575:=by
 unfold bV at h
 cases hb:(decide (0≤a)&&decide (a≤1048575))with
 |true=>simpa using hb
 |false=>rw[hb]at h;cases h
def bZ (n:Nat):Bool:=bif decide ((n:Int).tmod 4=0)then decide ((n:Int)≤256)else false
theorem mA (t:ByteArray):Si t=some (bZ t.size)∧RO t=some (bZ t.size):=by
 rw[NV,LD]
 unfold bZ
 cases decide ((t.size:Int).tmod 4=0)<;>exact⟨rfl,rfl⟩
theorem dN {n:Nat} (h:bZ n=true):n%4=0∧n≤256:=by
 unfold bZ at h
 cases hb:decide ((n:Int).tmod 4=0)with
 |true=>
  rw[hb]at h
  simp only[cond_true,decide_eq_true_eq]at h hb
  rw[Int.tmod_eq_emod_of_nonneg (by omega)]at hb
  omega
 |false=>rw[hb]at h;cases h
def bf (n:Nat):Bool:=bif bZ n then decide ((n:Int)≥20)else false
theorem jh (t:ByteArray):Rl t=some (bf t.size):=by
 rw[NW,(mA t).1]
 simp only[Option.bind_some,bf]
 cases bZ t.size<;>rfl
theorem zm (l:List jg) (f at_:Int) (calls E:List Int) (hE:gQ l f l.length E) (hf:16≤f∧f≤128) (ha:0≤at_∧at_≤1048575) (hl:l.length≤1048576) (hc:calls.length≤1048576) (hr:∀x∈l,uK x):
  ∀(k i:Nat),2≤i→i+k=l.length→∃v,km.c l (l,f,at_,calls,E) i=some v∧q8.b at_ f calls l ((l.length:Int)-1) i=some v:=by
 intro k
 induction k with
 |zero=>
  intro i h2 hk
  rw[km.c_eq,q8.b_eq,ab,show decide (i<l.length)=false by simp;omega,show decide ((i:Int)≤(l.length:Int)-1)=false by simp;omega]
  exact⟨_,rfl,rfl⟩
 |succ k ih=>
  intro i h2 hk
  obtain⟨v,v1,v2⟩:=ih (i+1) (by omega) (by omega)
  have hi:i<l.length:=by omega
  obtain⟨b,b1,b2⟩:=zl l f at_ calls E hE hf ha hl hc i (by omega) (by omega) (by rw[aQ (τ:=dE) l i hi];exact hr _ (List.getElem_mem hi))
  rw[km.c_eq,q8.b_eq,ab,decide_eq_true hi,show decide ((i:Int)≤(l.length:Int)-1)=true by simp;omega,b1,b2,ah i l.length hi (by omega),v1,v2]
  simp only[cond_true,Option.bind_some]
  cases decide (b=0)<;>exact⟨_,rfl,rfl⟩
theorem tk (code:ByteArray) (at_ f:Int) (calls:List Int) (hz:code.size≤1048576) (hc:calls.length≤1048576):∃v,km code at_ f calls=some v∧q8 code at_ f calls=some v:=by
 rw[Hu,LY,lI,fb,(eP f).1,(eP f).2,jh,(mA code).2]
 simp only[Option.bind_some,aA]
 have ec:(bif !(decide (0≤at_)&&decide (at_≤1048575))then true else !decide (at_.tmod 4=0))= !bV at_:=by
  unfold bV;cases (decide (0≤at_)&&decide (at_≤1048575))<;>rfl
 cases hA:bV at_ with
 |false=>
  unfold bV at hA
  cases hq:(decide (0≤at_)&&decide (at_≤1048575))with
  |false=>exact⟨_,rfl,rfl⟩
  |true=>rw[hq]at hA;simp only[cond_true]at hA;rw[hA];exact⟨_,rfl,rfl⟩
 |true=>
  have ha:=kZ hA
  have hq:(decide (0≤at_)&&decide (at_≤1048575))=true:=by simp[ha]
  have h4:decide (at_.tmod 4=0)=true:=by unfold bV at hA;rw[hq]at hA;exact hA
  rw[hq,h4]
  simp only[Bool.not_true,cond_false]
  cases hF:cS f with
  |false=>exact⟨_,rfl,rfl⟩
  |true=>
   have hf:=uL hF
   simp only[Bool.not_true,cond_false]
   cases hS:bZ code.size with
   |false=>unfold bf;rw[hS];exact⟨_,rfl,rfl⟩
   |true=>
    have hs:=dN hS
    unfold bf
    rw[hS]
    simp only[Bool.not_true,cond_false,cond_true]
    by_cases h20:(code.size:Int)≥20
    ·rw[decide_eq_true h20,show decide ((code.size:Int)<20)=false by simp;omega]
     simp only[Bool.not_true,cond_false]
     cases w7 code hs.1 (by omega)with
     |bad k hi hsp h0=>
      rw[hi,hsp]
      simp only[Option.bind_some,Bool.not_false,cond_true]
      rw[decide_eq_true (show k≥0 from h0)]
      exact⟨_,rfl,rfl⟩
     |ok l hi hsp hll hr=>
      rw[hi,hsp,N7]
      simp only[Option.bind_some,Bool.not_true,cond_false]
      rw[show decide ((-1:Int)≥0)=false by rfl]
      simp only[cond_false]
      have hl5:5≤l.length:=by omega
      have hl64:l.length≤64:=by omega
      have last:∃v,km.a at_ f calls l [(22,2,2,0,(IntKind.wrap .i64 (0-f))),(21,0,2,1,(IntKind.wrap .i64 (f-8)))] 2 2=some v∧q8.a at_ f calls l 2=some v:=by
       rw[km.a_eq,q8.a_eq]
       rw[show decide ((2:Int)<2)=false by rfl]
       simp only[cond_false,aA]
       rw[aV (n:=(l.length:Int)-1) (by omega) (by omega),inL_true (by omega) (by omega),oW (by rw[Int.toNat_natCast];omega) (by rw[Int.toNat_natCast];omega),show decide ((0:Int)≤(l.length:Int))=true by simp,Int.toNat_natCast]
       simp only[cond_true,Bool.and_self]
       obtain⟨E,hE,e⟩:=CM at_ calls l f hf (by omega) (by omega) (l.length-4) 2 (List.replicate l.length 0) (by omega) (by omega) ⟨by simp,fun j hj=>by
        rw[List.getElem?_replicate,if_pos hj]
        unfold rV
        have z:∀m:Int,m< ((2:Nat):Int)→bA l f m=false:=by
         intro m hm
         unfold bA
         rw[show decide (2≤m)=false by simp;omega];simp
        rw[if_neg (fun h=>by rw[z _ h.1]at h;cases h.2),if_neg (fun h=>by rw[z _ h.1]at h;cases h.2),if_neg (fun h=>by rw[z _ h.1]at h;cases h.2)]⟩
       rw[show((2:Nat):Int)=2 by rfl]at e
       rw[e]
       obtain⟨v,v1,v2⟩:=zm l f at_ calls E hE hf ha (by omega) (by omega) hr (l.length-2) 2 (by omega) (by omega)
       rw[show((2:Nat):Int)=2 by rfl]at v1 v2
       rw[v1,v2]
       cases decide ((rd (τ:=dE) l ((l.length:Int)-1)).1=4)<;>cases decide ((rd (τ:=dE) l ((l.length:Int)-1)).1=3)<;>cases decide ((rd (τ:=dE) l ((l.length:Int)-1)).2.1=0)<;>exact⟨_,rfl,rfl⟩
      have step:∀(j:Nat),j<2→(∃v,km.a at_ f calls l [(22,2,2,0,(IntKind.wrap .i64 (0-f))),(21,0,2,1,(IntKind.wrap .i64 (f-8)))] 2 ((j+1:Nat):Int)=some v∧q8.a at_ f calls l ((j+1:Nat):Int)=some v)→
        ∃v,km.a at_ f calls l [(22,2,2,0,(IntKind.wrap .i64 (0-f))),(21,0,2,1,(IntKind.wrap .i64 (f-8)))] 2 (j:Int)=some v∧q8.a at_ f calls l (j:Int)=some v:=by
       rintro j hj ⟨v,v1,v2⟩
       rw[km.a_eq,q8.a_eq,show decide ((j:Int)<2)=true by simp;omega,inL_true (i:=(j:Int)) (by omega) (by simp;omega),inL_true (i:=(j:Int)) (by omega) (by omega),aV (n:=(j:Int)+1) (by omega) (by omega),show(j:Int)+1=((j+1:Nat):Int) by omega,v1,v2,LR]
       simp only[cond_true,Option.bind_some]
       rw[inL_true (i:=(j:Int)) (by omega) (by simp;omega)]
       simp only[cond_true]
       cases d9 dE (rd (τ:=dE) l (j:Int)) (rd (τ:=dE) [(22,2,2,0,(IntKind.wrap .i64 (0-f))),(21,0,2,1,(IntKind.wrap .i64 (f-8)))] (j:Int))<;>exact⟨_,rfl,rfl⟩
      exact step 0 (by omega) (step 1 (by omega) last)
    ·rw[decide_eq_false h20,show decide ((code.size:Int)<20)=true by simp;omega]
     exact⟨_,rfl,rfl⟩
abbrev bE:Ty:= .pair .str (.pair (.int .i64) (.pair (.int .i64) (.pair (.int .i64) (.int .i64))))
abbrev k6:Type:=ByteArray×Int×Int×Int×Int
abbrev fj:Type:=ByteArray×ByteArray×List k6
noncomputable def bY (t:ByteArray):Bool:=(oX t).getD false
theorem KR (t:ByteArray):oX t=some (bY t):=by
 obtain⟨v,h1⟩:=s8 t
 unfold bY
 rw[h1];rfl
theorem db (t:ByteArray):oX t=some (bY t)∧uP t=some (bY t):=by
 obtain⟨v,h1,h2⟩:=Cy t
 unfold bY
 rw[h1,h2];exact⟨rfl,rfl⟩
def lJ (l:List k6) (name:ByteArray):Bool:=l.any fun y=>decide (y.1=name)
theorem w8 {y:k6} {l:List k6} {n:ByteArray} (h:y.1=n):lJ (y::l) n=true:=by simp[lJ,h]
theorem w9 {y:k6} {l:List k6} {n:ByteArray} (h:¬y.1=n):lJ (y::l) n=lJ l n:=by simp[lJ,h]
theorem GM (e:Int×Int) (im:fj) (s:k6) (l:List k6) (hl:l.length≤16):∀(k j:Nat),j+k=l.length→Es.a e im s l (l.length:Int) (j:Int)=if lJ (l.drop j) s.1=true then some (24,e)else Es.a e im s l (l.length:Int) (l.length:Int):=by
 intro k
 induction k with
 |zero=>
   intro j h;have:j=l.length:=by omega
   subst this;simp[lJ]
 |succ k ih=>
  intro j h
  have hj:j<l.length:=by omega
  rw[Es.a_eq,ab,ae,decide_eq_true hj,ah j l.length hj (by omega),ih (j+1) (by omega),aQ (τ:=bE) l j hj,aF,List.drop_eq_getElem_cons hj]
  by_cases hn:l[j].1=s.1
  ·rw[w8 hn,decide_eq_true hn];rfl
  ·rw[w9 hn,decide_eq_false hn];rfl
theorem GN (im:fj) (c d:Int) (i:Nat) (s:k6) (hi:i≤im.2.2.length) (hl:im.2.2.length≤16):∀(k j:Nat),j+k=i→ox.b im c d (i:Int) s (j:Int)=if lJ ((im.2.2.take i).drop j) s.1=true then some ((i:Int),24)else ox.b im c d (i:Int) s (i:Int):=by
 intro k
 induction k with
 |zero=>
   intro j h;have:j=i:=by omega
   subst this;simp[lJ]
 |succ k ih=>
  intro j h
  have hj:j<i:=by omega
  rw[ox.b_eq,ab,ae,decide_eq_true hj,decide_eq_true (show j<im.2.2.length by omega),ah j i hj (by omega),ih (j+1) (by omega),aQ (τ:=bE) im.2.2 j (by omega),aF,List.drop_eq_getElem_cons (show j< (im.2.2.take i).length by simp;omega)]
  have hg:(im.2.2.take i)[j]'(by simp;omega)=im.2.2[j]:=List.getElem_take
  rw[hg]
  by_cases hn:im.2.2[j].1=s.1
  ·rw[w8 hn,decide_eq_true hn];rfl
  ·rw[w9 hn,decide_eq_false hn];rfl
noncomputable def fe (im:fj) (i:Nat) (s:k6) (e:Int×Int):Int×Int×Int:=
 if bY s.1=false then(3,e)
 else if lJ (im.2.2.take i) s.1=true then(24,e)
 else if s.2.1=1 then
  if s.2.2.1=e.1∧1≤s.2.2.2.1∧s.2.2.2.1≤(im.1.size:Int)-e.1 then(0,s.2.2.1+s.2.2.2.1,e.2)else(4,e)
 else if s.2.1=2 then
  if e.2≤s.2.2.1∧s.2.2.1≤(im.2.1.size:Int)∧s.2.2.1%8=0∧s.2.2.2.1%8=0∧1≤s.2.2.2.1∧s.2.2.2.1≤(im.2.1.size:Int)-s.2.2.1 then
   if s.2.2.2.2=0 then(0,e.1,s.2.2.1+s.2.2.2.1)else(17,e.1,s.2.2.1+s.2.2.2.1)
  else(4,e)
 else(26,e)
structure tl (im:fj) (e:Int×Int):Prop where
 c:0≤e.1∧e.1≤(im.1.size:Int)
 d:0≤e.2∧e.2≤(im.2.1.size:Int)
structure k7 (im:fj):Prop where
 n:im.2.2.length≤16
 c:im.1.size≤1024
 d:im.2.1.size≤256
theorem GO {n:Int}:decide (n.tmod 8=0)=decide (n%8=0):=by
 congr 1;exact propext ⟨fun h=>by rw[←Int.dvd_iff_tmod_eq_zero]at h;omega,fun h=>by rw[←Int.dvd_iff_tmod_eq_zero];omega⟩
theorem zn (im:fj) (hz:k7 im) (i:Nat) (hi:i<im.2.2.length) (e:Int×Int) (he:tl im e):Es im i e=some (fe im i im.2.2[i] e):=by
 obtain⟨hn,hc,hd⟩:=hz
 rw[NR,ae,decide_eq_true hi,aQ (τ:=bE) im.2.2 i hi,KR _,Int.toNat_natCast,show(Int.toNat 0)=0 by rfl,List.drop_zero,show decide ((0:Int)≤(i:Int))=true by simp,show decide ((i:Int)≤(im.2.2.length:Int))=true by simp;omega]
 simp only[cond_true,Bool.and_self,Nat.le_refl,decide_true,Option.bind_some]
 have hlt:(im.2.2.take i).length=i:=by simp;omega
 have hd':=GM e im im.2.2[i] (im.2.2.take i) (by omega) i 0 (by omega)
 rw[hlt,show((0:Nat):Int)=0 by rfl,List.drop_zero]at hd'
 rw[hlt,hd',Es.a_eq,show decide ((i:Int)< (i:Int))=false by simp]
 obtain⟨s,hs⟩:∃s:k6,im.2.2[i]=s:=⟨_,rfl⟩
 rw[hs]
 obtain⟨nm,kd,at_,sz,fr⟩:=s
 obtain⟨ec,ed⟩:=e
 obtain⟨⟨hc1,hc2⟩,⟨hd1,hd2⟩⟩:=he
 dsimp only at*
 unfold fe
 dsimp only
 simp only[cond_false,cd,Option.bind_some,aA]
 cases bY nm with
 |false=>rfl
 |true=>
  simp only[Bool.not_true,cond_false,Bool.true_eq_false,↓reduceIte]
  by_cases hdup:lJ (im.2.2.take i) nm=true
  ·rw[if_pos hdup,if_pos hdup]
  ·rw[if_neg hdup,if_neg hdup]
   by_cases k1:kd=1
   ·rw[decide_eq_true k1,if_pos k1]
    simp only[cond_true]
    by_cases h1:at_=ec
    ·subst h1
     rw[aV (n:=(im.1.size:Int)-at_) (by omega) (by omega)]
     simp only[decide_true,Bool.not_true,cond_false]
     by_cases h2:1≤sz∧sz≤(im.1.size:Int)-at_
     ·rw[if_pos ⟨trivial,h2⟩,decide_eq_true h2.1,decide_eq_true h2.2,aV (n:=at_+sz) (by omega) (by omega)];rfl
     ·rw[if_neg (fun hh=>h2 hh.2),show(decide (1≤sz)&&decide (sz≤(im.1.size:Int)-at_))=false by simpa using h2];rfl
    ·rw[decide_eq_false h1,if_neg (fun hh=>h1 hh.1)];rfl
   ·rw[decide_eq_false k1,if_neg k1]
    simp only[cond_false]
    by_cases k2:kd=2
    ·rw[decide_eq_true k2,if_pos k2,GO,GO]
     simp only[cond_true]
     by_cases h1:ed≤at_∧at_≤(im.2.1.size:Int)
     ·rw[aV (n:=(im.2.1.size:Int)-at_) (by omega) (by omega),decide_eq_true h1.1,decide_eq_true h1.2]
      simp only[Bool.and_self,Bool.not_true,cond_false]
      by_cases h2:at_%8=0
      ·by_cases h3:sz%8=0
       ·by_cases h4:1≤sz∧sz≤(im.2.1.size:Int)-at_
        ·rw[if_pos ⟨h1.1,h1.2,h2,h3,h4⟩,decide_eq_true h2,decide_eq_true h3,decide_eq_true h4.1,decide_eq_true h4.2,aV (n:=at_+sz) (by omega) (by omega)]
         by_cases h5:fr=0
         ·rw[decide_eq_true h5,if_pos h5];rfl
         ·rw[decide_eq_false h5,if_neg h5];rfl
        ·rw[if_neg (fun hh=>h4 hh.2.2.2.2),decide_eq_true h2,decide_eq_true h3,show(decide (1≤sz)&&decide (sz≤(im.2.1.size:Int)-at_))=false by simpa using h4];rfl
       ·rw[if_neg (fun hh=>h3 hh.2.2.2.1),decide_eq_true h2,decide_eq_false h3];rfl
      ·rw[if_neg (fun hh=>h2 hh.2.2.1),decide_eq_false h2];rfl
     ·rw[if_neg (fun hh=>h1 ⟨hh.1,hh.2.1⟩),show(decide (ed≤at_)&&decide (at_≤(im.2.1.size:Int)))=false by simpa using h1];rfl
    ·rw[decide_eq_false k2,if_neg k2];rfl
theorem zo (im:fj) (hz:k7 im) (i:Nat) (hi:i<im.2.2.length) (e:Int×Int) (he:tl im e):ox.a im e.1 e.2 i=if(fe im i im.2.2[i] e).1=0 then ox.a im (fe im i im.2.2[i] e).2.1 (fe im i im.2.2[i] e).2.2 ((i+1:Nat):Int)else some ((i:Int),(fe im i im.2.2[i] e).1):=by
 obtain⟨hn,hc,hd⟩:=hz
 rw[ox.a_eq,ae,ab,decide_eq_true hi,aQ (τ:=bE) im.2.2 i hi,(db _).2]
 simp only[cond_true,Option.bind_some]
 have hd':=GN im e.1 e.2 i im.2.2[i] (by omega) hn i 0 (by omega)
 rw[show((0:Nat):Int)=0 by rfl,List.drop_zero]at hd'
 rw[hd',ox.b_eq,show decide ((i:Int)< (i:Int))=false by simp,ah i im.2.2.length hi (by omega)]
 obtain⟨s,hs⟩:∃s:k6,im.2.2[i]=s:=⟨_,rfl⟩
 rw[hs]
 obtain⟨nm,kd,at_,sz,fr⟩:=s
 obtain⟨ec,ed⟩:=e
 obtain⟨⟨hc1,hc2⟩,⟨hd1,hd2⟩⟩:=he
 dsimp only at*
 unfold fe
 dsimp only
 simp only[cond_false]
 cases bY nm with
 |false=>rfl
 |true=>
  simp only[Bool.not_true,cond_false]
  by_cases hdup:lJ (im.2.2.take i) nm=true
  ·simp[hdup]
  ·simp only[hdup,if_false,Bool.false_eq_true]
   by_cases k1:kd=1
   ·simp only[k1,decide_true,cond_true,if_true]
    by_cases h1:at_=ec
    ·rw[←h1,aV (n:=(im.1.size:Int)-at_) (by omega) (by omega)]
     by_cases h2:1≤sz
     ·by_cases h3:sz≤(im.1.size:Int)-at_
      ·rw[aV (n:=at_+sz) (by omega) (by omega)]
       simp[h2,h3,show¬sz<1 by omega,show¬(im.1.size:Int)-at_<sz by omega]
      ·simp[h3,show¬sz<1 by omega,show(im.1.size:Int)-at_<sz by omega]
     ·simp[h2,show sz<1 by omega]
    ·simp[h1]
   ·simp only[k1,decide_false,cond_false,if_false]
    by_cases k2:kd=2
    ·simp only[k2,decide_true,cond_true,if_true,GO]
     by_cases h1:ed≤at_
     ·by_cases h1':at_≤(im.2.1.size:Int)
      ·rw[aV (n:=(im.2.1.size:Int)-at_) (by omega) (by omega),show decide (at_<ed)=false by simp;omega,show decide (at_>(im.2.1.size:Int))=false by simp;omega]
       simp only[cond_false]
       by_cases h4:1≤sz
       ·by_cases h5:sz≤(im.2.1.size:Int)-at_
        ·rw[show decide (sz<1)=false by simp;omega,show decide (sz>(im.2.1.size:Int)-at_)=false by simp;omega,aV (n:=at_+sz) (by omega) (by omega)]
         by_cases h2:at_%8=0
         ·by_cases h3:sz%8=0
          ·by_cases h6:fr=0<;>simp[h1,h1',h2,h3,h4,h5,h6]
          ·simp[h2,h3]
         ·simp[h2]
        ·simp[h5,show¬sz<1 by omega,show(im.2.1.size:Int)-at_<sz by omega]
       ·simp[h4,show sz<1 by omega]
      ·simp[h1',show¬at_<ed by omega,show(im.2.1.size:Int)<at_ by omega]
     ·simp[h1,show at_<ed by omega]
    ·simp[k2]
theorem zp {im:fj} {i:Nat} {s:k6} {e:Int×Int} (he:tl im e) (h:(fe im i s e).1=0):tl im (fe im i s e).2:=by
 obtain⟨nm,kd,at_,sz,fr⟩:=s
 obtain⟨ec,ed⟩:=e
 obtain⟨⟨c1,c2⟩,⟨d1,d2⟩⟩:=he
 dsimp only at*
 unfold fe at h⊢
 dsimp only at*
 split at h<;>(try (cases h;done))
 split at h<;>(try (cases h;done))
 rename_i n1 n2
 rw[if_neg n1,if_neg n2]
 split at h
 ·rename_i k1
  rw[if_pos k1]
  split at h<;>(try (cases h;done))
  rename_i hh
  rw[if_pos hh]
  exact⟨⟨by dsimp only;omega,by dsimp only;omega⟩,⟨d1,d2⟩⟩
 ·rename_i k1
  rw[if_neg k1]
  split at h
  ·rename_i k2
   rw[if_pos k2]
   split at h<;>(try (cases h;done))
   rename_i hh
   rw[if_pos hh]
   split at h<;>(try (cases h;done))
   rename_i h3
   rw[if_pos h3]
   exact⟨⟨c1,c2⟩,⟨by dsimp only;omega,by dsimp only;omega⟩⟩
  ·cases h
def kA (im:fj) (n:Nat) (E:Nat→Int×Int):Prop:=E 0=(0,0)∧(∀i,i≤n→tl im (E i))∧∀(i:Nat) (h:i<im.2.2.length),i<n→fe im i im.2.2[i] (E i)=(0,E (i+1))
def KS (im:fj) (e:Int×Int):Int:=if im.2.2.length=0 then 23 else if(rd (τ:=bE) im.2.2 0).2.1≠1 then 23 else if e.1≠(im.1.size:Int)then 22 else 0
theorem CQ (im:fj) (hz:k7 im):∀(k i:Nat) (E:Nat→Int×Int),i+k=im.2.2.length→kA im i E→
  (∃n c:Int,c≠0∧oY.a im (E i) (im.2.2.length:Int) i=some (n,0,c)∧ox.a im (E i).1 (E i).2 i=some (n,c))∨
  (∃E',kA im im.2.2.length E'∧oY.a im (E i) (im.2.2.length:Int) i=oY.a im (E' im.2.2.length) (im.2.2.length:Int) (im.2.2.length:Int)∧ox.a im (E i).1 (E i).2 i=some (0,KS im (E' im.2.2.length))):=by
 intro k
 induction k with
 |zero=>
  intro i E hk hE
  have:i=im.2.2.length:=by omega
  subst this
  refine Or.inr ⟨E,hE,rfl, ?_⟩
  rw[ox.a_eq,ab]
  simp only[Nat.lt_irrefl,decide_false,cond_false,KS]
  by_cases h0:im.2.2.length=0
  ·simp[h0]
  ·rw[inL_true (i:=0) (by omega) (by omega),show decide ((im.2.2.length:Int)=0)=false from decide_eq_false (by omega),if_neg h0]
   simp only[cond_false,cond_true]
   by_cases h1:(rd (τ:=bE) im.2.2 0).2.1=1
   ·simp only[h1,decide_true,Bool.not_true,cond_false,ne_eq,not_true_eq_false,↓reduceIte]
    by_cases h2:(E im.2.2.length).1=(im.1.size:Int)
    ·simp[h2]
    ·simp[h2]
   ·simp[h1]
 |succ k ih=>
  intro i E hk hE
  have hi:i<im.2.2.length:=by omega
  have he:=hE.2.1 i (Nat.le_refl _)
  rw[oY.a_eq,ab,decide_eq_true hi,zn im hz i hi (E i) he,zo im hz i hi (E i) he,ah i im.2.2.length hi (by have:=hz.n;omega)]
  simp only[cond_true,Option.bind_some]
  by_cases h0:(fe im i im.2.2[i] (E i)).1=0
  ·rw[decide_eq_true h0,if_pos h0]
   simp only[Bool.not_true,cond_false]
   have hends:=zp he h0
   have hch:kA im (i+1) (fun j=>if j=i+1 then(fe im i im.2.2[i] (E i)).2 else E j):=by
    have ev:∀(j:Nat),(fun j=>if j=i+1 then(fe im i im.2.2[i] (E i)).2 else E j) j=if j=i+1 then(fe im i im.2.2[i] (E i)).2 else E j:=fun _=>rfl
    refine⟨by rw[ev,if_neg (by omega)];exact hE.1,fun j hj=> ?_,fun j hj hj'=> ?_⟩<;>simp only
    ·by_cases hji:j=i+1
     ·rw[if_pos hji];exact hends
     ·rw[if_neg hji];exact hE.2.1 j (by omega)
    ·rw[if_neg (by omega)]
     by_cases hji:j=i
     ·subst hji
      rw[if_pos rfl,←h0]
     ·rw[if_neg (by omega)];exact hE.2.2 j hj (by omega)
   have:=ih (i+1) _ (by omega) hch
   simp only[↓reduceIte]at this
   exact this
  ·rw[decide_eq_false h0,if_neg h0]
   exact Or.inl ⟨_,_,h0,rfl,rfl⟩
theorem qK (s:k6):∃v,NS s=some v∧Lz s=some v:=by
 rw[zK,He]
 cases decide (s.2.1=1)<;>exact⟨_,rfl,rfl⟩
theorem qL (im:fj) (hz:k7 im):∃l,Et im=some l∧DP im.2.2=some l∧l.length≤16:=by
 have key:∀(k i:Nat) (l:List Int),i+k=im.2.2.length→l.length≤i→∃l',Et.a l im.2.2 (im.2.2.length:Int) i=some l'∧DP.a im.2.2 l i=some l'∧l'.length≤im.2.2.length:=by
  intro k
  induction k with
  |zero=>
   intro i l hk hl
   rw[Et.a_eq,DP.a_eq,ab,decide_eq_false (show¬i<im.2.2.length by omega)]
   exact⟨l,rfl,rfl,by omega⟩
  |succ k ih=>
   intro i l hk hl
   have hi:i<im.2.2.length:=by omega
   have hn:=hz.n
   rw[Et.a_eq,DP.a_eq,ab,ae,decide_eq_true hi,ah i _ hi (by omega)]
   simp only[cond_true]
   obtain⟨v,v1,v2⟩:=qK (rd (τ:=bE) im.2.2 i)
   obtain⟨l1,a1,a2,a3⟩:=ih (i+1) l (by omega) (by omega)
   obtain⟨l2,b1,b2,b3⟩:=ih (i+1) (l++[v]) (by omega) (by simp;omega)
   rw[v1,v2]
   simp only[Option.bind_some]
   rw[oW (by simp;omega) (by simp;omega),a1,a2,b1,b2]
   cases decide ((rd (τ:=bE) im.2.2 i).2.1=1)
   ·exact⟨l1,rfl,rfl,a3⟩
   ·exact⟨l2,rfl,rfl,b3⟩
 obtain⟨l,h1,h2,h3⟩:=key im.2.2.length 0 [] (by omega) (by simp)
 exact⟨l,(NT im).trans h1,(LB im.2.2).trans h2,by have:=hz.n;omega⟩
structure qM (im:fj) (s:k6):Prop where
 name:bY s.1=true
 kind:s.2.1=1∨s.2.1=2
 at0:0≤s.2.2.1
 size:1≤s.2.2.2.1
 func:s.2.1=1→s.2.2.1+s.2.2.2.1≤(im.1.size:Int)
 data:s.2.1=2→s.2.2.1+s.2.2.2.1≤(im.2.1.size:Int)∧s.2.2.1%8=0∧s.2.2.2.1%8=0∧s.2.2.2.2=0
theorem GP {im:fj} {i:Nat} {s:k6} {e:Int×Int} (he:tl im e) (h:(fe im i s e).1=0):qM im s∧lJ (im.2.2.take i) s.1=false:=by
 obtain⟨nm,kd,at_,sz,fr⟩:=s
 obtain⟨ec,ed⟩:=e
 obtain⟨⟨c1,c2⟩,⟨d1,d2⟩⟩:=he
 dsimp only at*
 unfold fe at h
 dsimp only at*
 split at h<;>(try (cases h;done))
 split at h<;>(try (cases h;done))
 rename_i n1 n2
 refine⟨?_,by simpa using n2⟩
 have n1:bY nm=true:=by simpa using n1
 split at h
 ·rename_i k1
  split at h<;>(try (cases h;done))
  rename_i hh
  exact⟨n1,Or.inl k1,by dsimp only;omega,by dsimp only;omega,fun _=>by dsimp only;omega,fun h=>by dsimp only at h;omega⟩
 ·rename_i k1
  split at h
  ·rename_i k2
   split at h<;>(try (cases h;done))
   rename_i hh
   split at h<;>(try (cases h;done))
   rename_i h3
   exact⟨n1,Or.inr k2,by dsimp only;omega,by dsimp only;omega,fun h=>absurd h k1,fun _=>by dsimp only;omega⟩
  ·cases h
theorem nq {im:fj} {E:Nat→Int×Int} (h:kA im im.2.2.length E) (i:Nat) (hi:i<im.2.2.length):qM im im.2.2[i]∧lJ (im.2.2.take i) im.2.2[i].1=false:=
 GP (h.2.1 i (by omega)) (by rw[h.2.2 i hi hi])
def GQ (s:k6):Prop:=s.2.1=1→bV (4096+s.2.2.1)=true∧cS s.2.2.2.2=true∧bf s.2.2.2.1.toNat=true
theorem IV {code:ByteArray} {at_ f:Int} {calls:List Int} {v:Int×Int} (h:km code at_ f calls=some v) (hv:v.2=0):bV at_=true∧cS f=true∧bf code.size=true:=by
 rw[Hu,lI,(eP f).1,jh]at h
 simp only[Option.bind_some]at h
 cases h1:bV at_ with
 |false=>
  rw[h1]at h
  have e:(0,4)=v:=Option.some.inj h
  rw[←e]at hv;cases hv
 |true=>
  rw[h1]at h
  cases h2:cS f with
  |false=>
   rw[h2]at h
   have e:(0,17)=v:=Option.some.inj h
   rw[←e]at hv;cases hv
  |true=>
   rw[h2]at h
   cases h3:bf code.size with
   |false=>
    rw[h3]at h
    have e:(0,8)=v:=Option.some.inj h
    rw[←e]at hv;cases hv
   |true=>exact⟨rfl,rfl,rfl⟩
theorem zq (im:fj) (hz:k7 im) (hs:∀s∈im.2.2,qM im s) (calls:List Int) (hc:calls.length≤16):∀(k i:Nat),i+k=im.2.2.length→∃v,oY.b im calls im.2.2 (im.2.2.length:Int) i=some v∧DQ.a im calls i=some v∧(v.2.2=0→∀j (hj:j<im.2.2.length),i≤j→GQ im.2.2[j]):=by
 intro k
 induction k with
 |zero=>
  intro i hk
  rw[oY.b_eq,DQ.a_eq,ab,decide_eq_false (show¬i<im.2.2.length by omega)]
  exact⟨_,rfl,rfl,fun _ j hj h=>by omega⟩
 |succ k ih=>
  intro i hk
  have hi:i<im.2.2.length:=by omega
  obtain⟨v,v1,v2,v3⟩:=ih (i+1) (by omega)
  obtain⟨hn,hcz,hdz⟩:=hz
  rw[oY.b_eq,DQ.a_eq,ab,ae,decide_eq_true hi,ah i _ hi (by omega),aQ (τ:=bE) im.2.2 i hi,v1,v2]
  simp only[cond_true]
  have hS:=hs _ (List.getElem_mem hi)
  have next:GQ im.2.2[i]→(v.2.2=0→∀j (hj:j<im.2.2.length),i≤j→GQ im.2.2[j]):=fun hg hv j hj hij=>by
   by_cases e:j=i
   ·subst e;exact hg
   ·exact v3 hv j hj (by omega)
  obtain⟨s,hse⟩:∃s:k6,im.2.2[i]=s:=⟨_,rfl⟩
  rw[hse]at hS next⊢
  obtain⟨p,p1,p2⟩:=qK s
  rw[p1,p2]
  by_cases k1:s.2.1=1
  ·have hf:=hS.func k1
   have h0:=hS.at0
   have h1:=hS.size
   rw[aV (n:=s.2.2.1+s.2.2.2.1) (by omega) (by omega),decide_eq_true k1,decide_eq_true h0,decide_eq_true hf,decide_eq_true (show s.2.2.1≤s.2.2.1+s.2.2.2.1 by omega)]
   obtain⟨b,b1,b2⟩:=tk (im.1.extract s.2.2.1.toNat (s.2.2.1+s.2.2.2.1).toNat) p s.2.2.2.2 calls (by rw[ByteArray.size_extract];omega) (by omega)
   simp only[Bool.and_self,Bool.not_true,cond_true,cond_false,Option.bind_some,b1,b2]
   have hp:p=4096+s.2.2.1:=by
    rw[zK,decide_eq_true k1,cond_true,aV (n:=4096+s.2.2.1) (by omega) (by omega)]at p1
    exact(Option.some.inj p1).symm
   by_cases hb:b.2=0
   ·rw[decide_eq_true hb]
    refine⟨_,rfl,rfl,next fun _=> ?_⟩
    have hl:=IV b1 hb
    rw[hp,ByteArray.size_extract]at hl
    rw[show min (s.2.2.1+s.2.2.2.1).toNat im.1.size-s.2.2.1.toNat=s.2.2.2.1.toNat by omega]at hl
    exact hl
   ·rw[decide_eq_false hb];exact⟨_,rfl,rfl,fun h=>absurd h hb⟩
  ·rw[decide_eq_false k1];exact⟨_,rfl,rfl,next fun h=>absurd h k1⟩
structure xa (im:fj):Prop where
 sz:k7 im
 chain:∃E,kA im im.2.2.length E∧(E im.2.2.length).1=(im.1.size:Int)
 pos:1≤im.2.2.length
 first:(rd (τ:=bE) im.2.2 0).2.1=1
 funs:∀j (hj:j<im.2.2.length),GQ im.2.2[j]
theorem zr (im:fj):∃v,oY im=some v∧DQ im=some v∧(v.2.2=0→xa im):=by
 rw[Oi,LZ]
 simp only[aA]
 by_cases h1:(im.2.2.length:Int)>16
 ·rw[decide_eq_true h1];exact⟨_,rfl,rfl,fun h=>by cases h⟩
 ·rw[decide_eq_false h1]
  by_cases h2:(im.1.size:Int)>1024
  ·rw[decide_eq_true h2];exact⟨_,rfl,rfl,fun h=>by cases h⟩
  ·rw[decide_eq_false h2]
   by_cases h3:(im.2.1.size:Int)>256
   ·rw[decide_eq_true h3];exact⟨_,rfl,rfl,fun h=>by cases h⟩
   ·rw[decide_eq_false h3]
    simp only[cond_false]
    have hz:k7 im:=⟨by omega,by omega,by omega⟩
    rw[Ly]
    have hE0:kA im 0 (fun _=>(0,0)):=⟨rfl,fun i _=>⟨⟨by simp,by simp⟩,⟨by simp,by simp⟩⟩,fun i _ h=>by omega⟩
    rcases CQ im hz im.2.2.length 0 _ (by omega) hE0 with⟨n,c,hc,a1,a2⟩|⟨E,hE,a1,a2⟩
    ·have a1':oY.a im (0,0) (im.2.2.length:Int) 0=some (n,0,c):=a1
     have a2':ox.a im 0 0 0=some (n,c):=a2
     rw[a1',a2']
     simp only[Option.bind_some]
     rw[decide_eq_false hc]
     exact⟨_,rfl,rfl,fun h=>absurd h hc⟩
    ·have a1':oY.a im (0,0) (im.2.2.length:Int) 0=_:=a1
     have a2':ox.a im 0 0 0=_:=a2
     rw[a1',a2',oY.a_eq,ab]
     simp only[Nat.lt_irrefl,decide_false,cond_false,Option.bind_some,KS]
     by_cases h0:im.2.2.length=0
     ·rw[if_pos h0,show decide ((im.2.2.length:Int)=0)=true by simp[h0]]
      exact⟨_,rfl,rfl,fun h=>by cases h⟩
     ·rw[if_neg h0,show decide ((im.2.2.length:Int)=0)=false from decide_eq_false (by omega),inL_true (i:=0) (by omega) (by omega)]
      simp only[cond_false,cond_true]
      by_cases k1:(rd (τ:=bE) im.2.2 0).2.1=1
      ·rw[decide_eq_true k1]
       by_cases k2:(E im.2.2.length).1=(im.1.size:Int)
       ·rw[decide_eq_true k2]
        obtain⟨fs,f1,f2,f3⟩:=qL im hz
        have hs:∀s∈im.2.2,qM im s:=fun s hs=>by
         obtain⟨i,hi,rfl⟩:=List.getElem_of_mem hs
         exact(nq hE i hi).1
        obtain⟨v,v1,v2,v3⟩:=zq im hz hs fs f3 im.2.2.length 0 (by omega)
        rw[f1,f2]
        simp only[k1,k2,ne_eq,not_true_eq_false,↓reduceIte,Bool.not_true,cond_false,decide_true,Option.bind_some]
        exact⟨v,v1,v2,fun h=>⟨hz,⟨E,hE,k2⟩,by omega,k1,fun j hj=>v3 h j hj (Nat.zero_le _)⟩⟩
       ·simp only[k1,k2,ne_eq,not_true_eq_false,not_false_eq_true,↓reduceIte,Bool.not_true,Bool.not_false,cond_false,cond_true,decide_false]
        exact⟨_,rfl,rfl,fun h=>by cases h⟩
      ·simp only[k1,ne_eq,not_false_eq_true,↓reduceIte,Bool.not_false,cond_true,decide_false]
       exact⟨_,rfl,rfl,fun h=>by cases h⟩
noncomputable def mB (im:fj):Bool:=(Pi im).getD false
theorem cF (im:fj):Pi im=some (mB im)∧QZ im=some (mB im)∧(mB im=true→xa im):=by
 obtain⟨v,v1,v2,v3⟩:=zr im
 have e:Pi im=some (decide (v.2.2=0)):=by rw[Oj,v1];rfl
 unfold mB
 rw[e,L8,v2]
 exact⟨rfl,rfl,fun h=>v3 (by simpa using h)⟩
def fk (v:Int):Nat→List Int
 |0=>[]
 |n+1=>v%256::fk (v/256) n
theorem aI (n:Nat):∀v,(fk v n).length=n:=by
 induction n with
 |zero=>intro v;rfl
 |succ n ih=>intro v;simp[fk,ih]
theorem uM (n:Int):IntKind.wrap .u8 n=n%256:=by simp[IntKind.wrap,IntKind.bits,IntKind.signed]
theorem ou (n:Nat):∀(v:Int) (xs:List Int),n≤1000→xs.length+n≤1000→xC.a v n xs=some (av (xs++fk v n)):=by
 induction n with
 |zero=>intro v xs _ _;rw[xC.a_eq];simp[fk]
 |succ n ih=>
  intro v xs hn hx
  rw[xC.a_eq,show decide (((n+1:Nat):Int)>0)=true from decide_eq_true (by omega),oW (by simp;omega) (by simp;omega),aV (n:=((n+1:Nat):Int)-1) (by omega) (by omega),oS (by decide) (by decide),uM,show((n+1:Nat):Int)-1=(n:Int) by omega]
  simp only[cond_true]
  rw[ih _ _ (by omega) (by simp;omega),fk,List.append_assoc]
  rfl
theorem lK (v:Int) (n:Nat) (h:n≤1000):xC v n=some (av (fk v n)):=by
 rw[OV,ou n v [] h (by simpa using h)];rfl
theorem aB (xs:List Int):(av xs).size=xs.length:=by simp[av,ByteArray.size]
theorem ji (xs:List Int) (i:Nat) (h:∀x∈xs,0≤x∧x≤255) (hi:i<xs.length):(((av xs).data.getD i 0).toNat:Int)=xs[i]:=by
 have hx:=h _ (List.getElem_mem hi)
 unfold av
 simp[Array.getD,hi]
 omega
theorem tn (n:Nat):∀v:Int,∀x∈fk v n,0≤x∧x≤255:=by
 induction n with
 |zero=>intro v x hx;cases hx
 |succ n ih=>
  intro v x hx
  rw[fk]at hx
  rcases List.mem_cons.mp hx with h|h
  ·omega
  ·exact ih _ x h
theorem GR {a b:ByteArray} (hs:a.size=b.size) (h:∀i,i<a.size→a.data.getD i 0=b.data.getD i 0):a=b:=by
 cases a with|mk x=>cases b with|mk y=>
 congr 1
 have hs:x.size=y.size:=hs
 apply Array.ext hs
 intro i h1 h2
 have:=h i h1
 simpa[Array.getD,h1,h2]using this
theorem GS (t:ByteArray) (ht:t.size≤1048576):∀(k i:Nat) (x:Int),i+k=t.size→0≤x→x<65521→∃v,Dk.a t x i=some v∧0≤v∧v<65521:=by
 intro k
 induction k with
 |zero=>
  intro i x hi h0 h1
  rw[Dk.a_eq,ab,decide_eq_false (by omega)]
  exact⟨x,rfl,h0,h1⟩
 |succ k ih=>
  intro i x hi h0 h1
  have hb:=qy t (i:Int)
  rw[Dk.a_eq,ab,ae,decide_eq_true (show i<t.size by omega),aV (n:=bt t (i:Int)) (by omega) (by omega),aV (n:=31*x) (by omega) (by omega),aV (n:=31*x+bt t (i:Int)) (by omega) (by omega),ah i t.size (by omega) (by omega),Int.tmod_eq_emod_of_nonneg (by omega)]
  simp only[cond_true]
  exact ih (i+1) _ (by omega) (by omega) (by omega)
def fG (p:Nat→Bool):Nat→Nat→Bool
 |_,0=>true
 |i,k+1=>bif p i then fG p (i+1) k else false
theorem dc (p:Nat→Bool):∀k i,fG p i k=true↔∀j,i≤j→j<i+k→p j=true
 |0,i=>by simp[fG];omega
 |k+1,i=>by
  rw[fG,dD]
  by_cases h:p i=true
  ·rw[if_pos h,dc p k (i+1)]
   refine⟨fun H j h1 h2=> ?_,fun H j h1 h2=>H j (by omega) (by omega)⟩
   by_cases e:j=i
   ·rw[e];exact h
   ·exact H j (by omega) (by omega)
  ·rw[if_neg h]
   refine⟨fun H=>(by cases H),fun H=>absurd (H i (Nat.le_refl _) (by omega)) h⟩
theorem GT (L:Int→Option Bool) (p:Nat→Bool) (n:Nat) (hend:L (n:Int)=some true) (hstep:∀i:Nat,i<n→L (i:Int)=bif p i then L ((i+1:Nat):Int)else some false):
  ∀k i:Nat,i+k=n→L (i:Int)=some (fG p i k):=by
 intro k
 induction k with
 |zero=>
   intro i h;have:i=n:=by omega
   subst this;exact hend
 |succ k ih=>
  intro i h
  rw[hstep i (by omega),ih (i+1) (by omega),fG]
  cases p i<;>rfl
theorem ck {L:Int→Option Bool} (p:Nat→Bool) (n:Nat) (hend:L (n:Int)=some true) (hstep:∀i:Nat,i<n→L (i:Int)=bif p i then L ((i+1:Nat):Int)else some false):L 0=some (fG p 0 n):=
 GT L p n hend hstep n 0 (by omega)
def d8 (p:Nat→Bool):Nat→Nat→Int
 |_,0=> -1
 |i,k+1=>bif p i then(i:Int)else d8 p (i+1) k
theorem CR (L:Int→Option Int) (p:Nat→Bool) (n:Nat) (hend:L (n:Int)=some (-1)) (hstep:∀i:Nat,i<n→L (i:Int)=bif p i then some (i:Int)else L ((i+1:Nat):Int)):
  ∀k i:Nat,i+k=n→L (i:Int)=some (d8 p i k):=by
 intro k
 induction k with
 |zero=>
   intro i h;have:i=n:=by omega
   subst this;exact hend
 |succ k ih=>
  intro i h
  rw[hstep i (by omega),ih (i+1) (by omega),d8]
  cases p i<;>rfl
theorem dd {L:Int→Option Int} (p:Nat→Bool) (n:Nat) (hend:L (n:Int)=some (-1)) (hstep:∀i:Nat,i<n→L (i:Int)=bif p i then some (i:Int)else L ((i+1:Nat):Int)):L 0=some (d8 p 0 n):=
 CR L p n hend hstep n 0 (by omega)
theorem ct (p:Nat→Bool):∀k i,(d8 p i k= -1∧∀j,i≤j→j<i+k→p j=false)∨∃j:Nat,d8 p i k=(j:Int)∧i≤j∧j<i+k∧p j=true∧∀q,i≤q→q<j→p q=false
 |0,i=> .inl ⟨rfl,fun j h1 h2=>by omega⟩
 |k+1,i=>by
  rw[d8]
  cases h:p i with
  |true=>exact .inr ⟨i,rfl,Nat.le_refl _,by omega,h,fun q h1 h2=>by omega⟩
  |false=>
   rw[cond_false]
   rcases ct p k (i+1)with⟨h1,h2⟩|⟨j,h1,h2,h3,h4,h5⟩
   ·refine .inl ⟨h1,fun j h3 h4=> ?_⟩
    by_cases e:j=i
    ·rw[e];exact h
    ·exact h2 j (by omega) (by omega)
   ·refine .inr ⟨j,h1,by omega,by omega,h4,fun q h6 h7=> ?_⟩
    by_cases e:q=i
    ·rw[e];exact h
    ·exact h5 q (by omega) (by omega)
theorem fg (i:Nat) (h:0<i) (h':i≤1048576):IntKind.wrap .i64 ((i:Int)-1)=((i-1:Nat):Int):=by
 rw[aV (by omega) (by omega)];omega
theorem kB (a b:Int):decide (a<b)= !decide (a≥b):=by
 rw[←decide_not];congr 1;apply propext;omega
abbrev aO:Ty:= .pair (.int .i64) (.pair (.int .i64) .str)
abbrev fH:Type:=Int×Int×ByteArray
def cP (n a b:Int):Bool:=decide (a≤n)&&decide (n≤b)
theorem IW (n a b:Int):gA n a b=some (cP n a b):=cd n a b
theorem bq (n a b:Int):gA n a b=some (cP n a b)∧oc n a b=some (cP n a b):=⟨cd n a b,fb n a b⟩
theorem bd {n a b:Int}:cP n a b=true↔a≤n∧n≤b:=by simp[cP]
def k8 (b:Int):Bool:=bif cP b 0 1048575 then decide (b.tmod 128=0)else false
theorem KT (b:Int):Zf b=some (k8 b):=by
 rw[Jl,IW]
 unfold k8
 simp only[Option.bind_some]
 cases cP b 0 1048575<;>rfl
theorem KU (p:Int):Zg p=some (cP p 0 15):=by rw[Jm,IW];rfl
theorem GU (b:Int):Zf b=some (k8 b)∧RU b=some (k8 b):=by
 rw[Jl,L9,(bq _ _ _).1,(bq _ _ _).2]
 unfold k8
 simp only[Option.bind_some]
 cases cP b 0 1048575<;>exact⟨rfl,rfl⟩
theorem GV (p:Int):Zg p=some (cP p 0 15)∧RV p=some (cP p 0 15):=by
 rw[Jm,Ma,(bq _ _ _).1,(bq _ _ _).2];exact⟨rfl,rfl⟩
def GW (m:List fH) (i:Nat):Bool:=
 bif k8 (rd (τ:=aO) m i).1 then bif cP (rd (τ:=aO) m i).2.1 0 15 then bif decide (((rd (τ:=aO) m i).2.2.size:Int)=128)then
  (decide (i=0)||decide ((rd (τ:=aO) m ((i-1:Nat):Int)).1< (rd (τ:=aO) m i).1))else false else false else false
def qN (m:List fH):Bool:=decide (m.length≤64)&&fG (GW m) 0 m.length
theorem GX (m:List fH):Zh m=some (qN m):=by
 rw[PN]
 unfold qN
 rcases Nat.lt_or_ge 64 m.length with h|h
 ·rw[show decide ((m.length:Int)>64)=true by simp;omega,decide_eq_false (by omega)];rfl
 rw[show decide ((m.length:Int)>64)=false by simp;omega,decide_eq_true h,cond_false,Bool.true_and]
 refine ck (L:=Zh.a m m (m.length:Int)) (GW m) m.length ?_ fun i hi=> ?_
 ·rw[Zh.a_eq,ab];simp
 ·rw[Zh.a_eq,ab,ae,decide_eq_true hi,ah i m.length hi (by omega),KT,KU]
  unfold GW
  simp only[cond_true,Option.bind_some]
  by_cases h0:i=0
  ·rw[show decide ((i:Int)>0)=false by simp[h0],decide_eq_true h0]
   cases k8 (rd (τ:=aO) m i).1<;>cases cP (rd (τ:=aO) m i).2.1 0 15<;>cases decide (((rd (τ:=aO) m i).2.2.size:Int)=128)<;>rfl
  ·rw[show decide ((i:Int)>0)=true by simp;omega,decide_eq_false h0,fg i (by omega) (by omega),ae,decide_eq_true (show i-1<m.length by omega)]
   rw[show decide ((rd (τ:=aO) m ((i-1:Nat):Int)).1< (rd (τ:=aO) m i).1)= !decide ((rd (τ:=aO) m ((i-1:Nat):Int)).1≥(rd (τ:=aO) m i).1) from kB _ _]
   cases k8 (rd (τ:=aO) m i).1<;>cases cP (rd (τ:=aO) m i).2.1 0 15<;>cases decide (((rd (τ:=aO) m i).2.2.size:Int)=128)<;>cases decide ((rd (τ:=aO) m ((i-1:Nat):Int)).1≥(rd (τ:=aO) m i).1)<;>rfl
theorem qO (m:List fH):Zh m=some (qN m)∧DR m=some (qN m):=by
 refine⟨GX m, ?_⟩
 rw[Mb]
 unfold qN
 rcases Nat.lt_or_ge 64 m.length with h|h
 ·rw[show decide ((m.length:Int)>64)=true by simp;omega,decide_eq_false (by omega)];rfl
 rw[show decide ((m.length:Int)>64)=false by simp;omega,decide_eq_true h,cond_false,Bool.true_and]
 refine ck (L:=DR.a m) (GW m) m.length ?_ fun i hi=> ?_
 ·rw[DR.a_eq,ab];simp
 ·rw[DR.a_eq,ab,ae,decide_eq_true hi,ah i m.length hi (by omega),(GU _).2,(GV _).2]
  unfold GW
  simp only[cond_true,Option.bind_some]
  by_cases h0:i=0
  ·rw[show decide ((i:Int)>0)=false by simp[h0],decide_eq_true h0]
   cases k8 (rd (τ:=aO) m i).1<;>cases cP (rd (τ:=aO) m i).2.1 0 15<;>cases decide (((rd (τ:=aO) m i).2.2.size:Int)=128)<;>rfl
  ·rw[show decide ((i:Int)>0)=true by simp;omega,decide_eq_false h0,fg i (by omega) (by omega),ae,decide_eq_true (show i-1<m.length by omega)]
   rw[show decide ((rd (τ:=aO) m ((i-1:Nat):Int)).1< (rd (τ:=aO) m i).1)= !decide ((rd (τ:=aO) m i).1≤(rd (τ:=aO) m ((i-1:Nat):Int)).1) from kB _ _]
   cases k8 (rd (τ:=aO) m i).1<;>cases cP (rd (τ:=aO) m i).2.1 0 15<;>cases decide (((rd (τ:=aO) m i).2.2.size:Int)=128)<;>cases decide ((rd (τ:=aO) m i).1≤(rd (τ:=aO) m ((i-1:Nat):Int)).1)<;>rfl
abbrev a6:Ty:= .pair .str (.pair (.int .i64) (.pair (.int .i64) (.pair (.int .i64) (.pair (.int .i64) (.int .i64)))))
abbrev cW:Type:=ByteArray×Int×Int×Int×Int×Int
def cj (l:List cW) (name:ByteArray):Int:=d8 (fun i=>decide ((rd (τ:=a6) l (i:Int)).1=name)) 0 l.length
theorem dO (l:List cW) (name:ByteArray) (hl:l.length≤1048576):Jv l name=some (cj l name)∧xz l name=some (cj l name):=by
 rw[OP,OO,Md]
 unfold cj
 constructor
 ·rw[dd (L:=HE.a name l (l.length:Int)) (fun i=>decide ((rd (τ:=a6) l (i:Int)).1=name)) l.length ?_ fun i hi=> ?_]
  ·rfl
  ·rw[HE.a_eq,ab];simp
  ·rw[HE.a_eq,ab,ae,decide_eq_true hi,ah i l.length hi (by omega),ON,aF]
   simp only[cond_true,Option.bind_some]
 ·refine dd (L:=xz.a l name) (fun i=>decide ((rd (τ:=a6) l (i:Int)).1=name)) l.length ?_ fun i hi=> ?_
  ·rw[xz.a_eq,ab];simp
  ·rw[xz.a_eq,ab,ae,decide_eq_true hi,ah i l.length hi (by omega),aF]
   simp only[cond_true]
def xb (k f:Int):Bool:=bif decide (k=1)then(bif cS f then true else bif decide (k=2)then decide (f=0)else false)else bif decide (k=2)then decide (f=0)else false
noncomputable def du (e:cW):Bool:=
 bif bY e.1 then bif bV e.2.2.1 then bif cP e.2.2.2.1 1 1024 then bif cP e.2.2.2.2.2 0 6 then xb e.2.1 e.2.2.2.2.1 else false else false else false else false
theorem tr (e:cW):Sw e=some (du e)∧RW e=some (du e):=by
 rw[OQ,Mc]
 unfold du
 rw[(db _).1,(db _).2,lI,(bq _ _ _).1,(bq _ _ _).1,(bq _ _ _).2,(bq _ _ _).2,(bq _ _ _).2,(eP _).1,(eP _).2]
 unfold bV xb aA
 simp only[Option.bind_some]
 rw[show(decide ((0:Int)≤e.2.2.1)&&decide (e.2.2.1≤1048575))=cP e.2.2.1 0 1048575 from rfl]
 cases bY e.1<;>cases cP e.2.2.1 0 1048575<;>cases decide (e.2.2.1.tmod 4=0)<;>cases cP e.2.2.2.1 1 1024<;>cases cP e.2.2.2.2.2 0 6<;>cases decide (e.2.1=1)<;>cases cS e.2.2.2.2.1<;>cases decide (e.2.1=2)<;>exact⟨rfl,rfl⟩
noncomputable def xc (l:List cW) (i:Nat):Bool:=bif du (rd (τ:=a6) l i)then decide (cj (l.take i) (rd (τ:=a6) l i).1<0)else false
noncomputable def ov (l:List cW):Bool:=decide (l.length≤64)&&fG (xc l) 0 l.length
theorem gk {α:Type} (l:List α) (i:Nat):(l.take (Int.toNat (i:Int))).drop (Int.toNat 0)=l.take i:=by
 rw[Int.toNat_natCast,show(Int.toNat 0)=0 from rfl,List.drop_zero]
theorem gm (i n:Nat) (h:i≤n):(decide (0≤0)&&decide (0≤(i:Int))&&decide ((i:Int)≤(n:Int)))=true:=by simp;omega
theorem iL (l:List cW):AO l=some (ov l)∧Hh l=some (ov l):=by
 rw[OR,Me]
 unfold ov
 rcases Nat.lt_or_ge 64 l.length with h|h
 ·rw[show decide ((l.length:Int)>64)=true by simp;omega,decide_eq_false (show¬l.length≤64 by omega)]
  cases decide ((l.length:Int)>4096)<;>exact⟨rfl,rfl⟩
 rw[show decide ((l.length:Int)>64)=false by simp;omega,show decide ((l.length:Int)>4096)=false by simp;omega,decide_eq_true h,cond_false,cond_false,cond_false,Bool.true_and]
 constructor
 ·refine ck (L:=AO.a l l (l.length:Int)) (xc l) l.length ?_ fun i hi=> ?_
  ·rw[AO.a_eq,ab];simp
  ·rw[AO.a_eq,ab,ae,decide_eq_true hi,ah i l.length hi (by omega),(tr _).1,gk,gm i _ (by omega),(dO _ _ (by simp;omega)).1]
   unfold xc
   rw[kB]
   simp only[cond_true,Option.bind_some]
   cases du (rd (τ:=a6) l i)<;>cases decide (cj (l.take i) (rd (τ:=a6) l i).1≥0)<;>rfl
 ·refine ck (L:=Hh.a l) (xc l) l.length ?_ fun i hi=> ?_
  ·rw[Hh.a_eq,ab];simp
  ·rw[Hh.a_eq,ab,ae,decide_eq_true hi,ah i l.length hi (by omega),(tr _).2,gk,gm i _ (by omega),(dO _ _ (by simp;omega)).2]
   unfold xc
   rw[kB]
   simp only[cond_true,Option.bind_some]
   cases du (rd (τ:=a6) l i)<;>cases decide (cj (l.take i) (rd (τ:=a6) l i).1≥0)<;>rfl
abbrev bm:Type:=Int×Int×Int
def AC (a:bm):Bool:=
 cP a.1 0 1048575&&cP a.2.1 0 (IntKind.wrap .i64 (1048576-a.1))&&cP a.2.2 a.1 (IntKind.wrap .i64 (a.1+a.2.1))&&decide (a.1.tmod 8=0)&&decide (a.2.1.tmod 8=0)&&decide (a.2.2.tmod 8=0)
theorem tt (a:bm):Ru a=some (AC a):=by
 rw[OS,(bq _ _ _).1,(bq _ _ _).1,(bq _ _ _).1]
 unfold AC
 simp only[Option.bind_some]
 cases cP a.1 0 1048575<;>cases cP a.2.1 0 (IntKind.wrap .i64 (1048576-a.1))<;>cases cP a.2.2 a.1 (IntKind.wrap .i64 (a.1+a.2.1))<;>cases decide (a.1.tmod 8=0)<;>cases decide (a.2.1.tmod 8=0)<;>cases decide (a.2.2.tmod 8=0)<;>rfl
abbrev kH:Ty:= .pair (.int .i64) (.pair (.int .i64) (.int .i64))
abbrev Sh:Type:=Int×Int×Int
def CS (a b:Int):Int:=bif decide (a<b)then-1 else bif decide (a>b)then 1 else 0
def CT (a b:Sh):Int:=if CS a.1 b.1=0 then CS a.2.1 b.2.1 else CS a.1 b.1
theorem AD (a b:Int):Zk a b=some (CS a b):=by
 rw[PP,Jn,Jn]
 unfold CS
 simp only[Option.bind_some,decide_true,Bool.not_true,cond_false]
 cases decide (a<b)<;>cases decide (a>b)<;>rfl
theorem IX (x y:Int):Zi [x,y]=some (if x=0 then y else x):=by
 rw[PO,show(([x,y]:List Int).length:Int)=2 from rfl,Zi.a_eq,Zi.a_eq,Zi.a_eq]
 show(bif !decide (x=0)then some x else bif !decide (y=0)then some y else some 0)=_
 by_cases hx:x=0
 ·by_cases hy:y=0
  ·simp[hx,hy]
  ·simp[hx,hy]
 ·simp[hx]
theorem CU (a b:Sh):Zl a b=some (CT a b):=by
 rw[PQ,AD,AD]
 simp only[Option.bind_some]
 rw[IX];rfl
theorem tu (a b c d:Int):DS [a,b] [c,d]=some (if a=c then decide (b<d)else decide (a<c)):=by
 rw[Mg,DS.a_eq,DS.a_eq,DS.a_eq]
 show(bif !decide (a=c)then some (decide (a<c))else bif !decide (b=d)then some (decide (b<d))else some false)=_
 by_cases h:a=c
 ·by_cases h2:b=d
  ·simp[h,h2]
  ·simp[h,h2]
 ·simp[h]
theorem GY (a b:Sh):(if a.1=b.1 then decide (a.2.1<b.2.1)else decide (a.1<b.1))= !decide (CT a b≥0):=by
 obtain⟨a1,a2,a3⟩:=a
 obtain⟨b1,b2,b3⟩:=b
 simp only[CT,CS,dD,decide_eq_true_eq]
 rcases Int.lt_trichotomy a1 b1 with h|h|h
 ·rw[if_neg (by omega),if_pos h];simp[h]
 ·subst h
  rw[if_pos rfl]
  rcases Int.lt_trichotomy a2 b2 with h2|h2|h2
  ·simp[h2]
  ·simp[h2]
  ·simp[show¬a2<b2 by omega,h2]
 ·rw[if_neg (by omega),if_neg (by omega),if_pos h];simp[show¬a1<b1 by omega]
theorem KV (n:Int):RX n=some (cP n 0 255):=by rw[Mf,(bq _ _ _).2];rfl
def Qa (l:List Sh) (i:Nat):Bool:=
 bif cP (rd (τ:=kH) l i).2.1 0 255 then(decide (i=0)|| !decide (CT (rd (τ:=kH) l ((i-1:Nat):Int)) (rd (τ:=kH) l i)≥0))else false
def KW (l:List Sh):Bool:=decide (l.length≤16)&&fG (Qa l) 0 l.length
theorem n9 (l:List Sh):Zm l=some (KW l)∧DT l=some (KW l):=by
 rw[PR,Mh]
 unfold KW
 rcases Nat.lt_or_ge 16 l.length with h|h
 ·rw[show decide ((l.length:Int)>16)=true by simp;omega,decide_eq_false (show¬l.length≤16 by omega)]
  cases decide ((l.length:Int)>4096)<;>exact⟨rfl,rfl⟩
 rw[show decide ((l.length:Int)>16)=false by simp;omega,show decide ((l.length:Int)>4096)=false by simp;omega,decide_eq_true h,cond_false,cond_false,cond_false,Bool.true_and]
 constructor
 ·refine ck (L:=Zm.a l l (l.length:Int)) (Qa l) l.length ?_ fun i hi=> ?_
  ·rw[Zm.a_eq,ab];simp
  ·rw[Zm.a_eq,ab,ae,decide_eq_true hi,ah i l.length hi (by omega),(bq _ _ _).1]
   unfold Qa
   simp only[cond_true,Option.bind_some]
   by_cases h0:i=0
   ·rw[show decide ((i:Int)>0)=false by simp[h0],decide_eq_true h0]
    cases cP (rd (τ:=kH) l i).2.1 0 255<;>rfl
   ·rw[show decide ((i:Int)>0)=true by simp;omega,decide_eq_false h0,fg i (by omega) (by omega),ae,decide_eq_true (show i-1<l.length by omega),CU]
    simp only[Option.bind_some]
    cases cP (rd (τ:=kH) l i).2.1 0 255<;>cases decide (CT (rd (τ:=kH) l ((i-1:Nat):Int)) (rd (τ:=kH) l i)≥0)<;>rfl
 ·refine ck (L:=DT.a l) (Qa l) l.length ?_ fun i hi=> ?_
  ·rw[DT.a_eq,ab];simp
  ·rw[DT.a_eq,ab,ae,decide_eq_true hi,ah i l.length hi (by omega),KV]
   unfold Qa
   simp only[cond_true,Option.bind_some]
   by_cases h0:i=0
   ·rw[show decide ((i:Int)>0)=false by simp[h0],decide_eq_true h0]
    cases cP (rd (τ:=kH) l i).2.1 0 255<;>rfl
   ·rw[show decide ((i:Int)>0)=true by simp;omega,decide_eq_false h0,fg i (by omega) (by omega),ae,decide_eq_true (show i-1<l.length by omega),tu,GY]
    simp only[Option.bind_some]
    cases cP (rd (τ:=kH) l i).2.1 0 255<;>cases decide (CT (rd (τ:=kH) l ((i-1:Nat):Int)) (rd (τ:=kH) l i)≥0)<;>rfl
abbrev xd:Ty:= .pair (.arr (.int .i64) 32) (.int .i64)
abbrev eA:Ty:= .pair (.int .i64) (.pair xd (.pair (.list (.int .i64)) (.int .i64)))
abbrev IY:Type:=Int×(List Int×Int)×List Int×Int
abbrev Pb:Type:=List fH×List IY×List cW×List Sh
def xe (h:List Int×Int):Bool:=decide ((rd (τ:= .int .i64) h.1 0)=(0:Int))
theorem xf (h:List Int×Int):Zn h=some (xe h)∧RY h=some (xe h):=by
 rw[PS,Mi];exact⟨rfl,rfl⟩
def xg (t:IY):Bool:=
 bif cP t.1 1 3 then bif xe t.2.1 then bif decide ((t.2.2.1.length:Int)≤32)then(bif decide (t.1=3)then cP t.2.2.2 1 31 else decide (t.2.2.2=0))else false else false else false
theorem AE (t:IY):Zo t=some (xg t)∧RZ t=some (xg t):=by
 rw[PT,Mj,(bq _ _ _).1,(bq _ _ _).1,(bq _ _ _).2,(bq _ _ _).2,(xf _).1,(xf _).2]
 unfold xg aA
 rw[show decide ((t.2.2.1.length:Int)>32)= !decide ((t.2.2.1.length:Int)≤32) by rw[←decide_not];congr 1;apply propext;omega]
 simp only[Option.bind_some]
 cases cP t.1 1 3<;>cases xe t.2.1<;>cases decide ((t.2.2.1.length:Int)≤32)<;>cases decide (t.1=3)<;>exact⟨rfl,rfl⟩
def xh (l:List IY):Bool:=cP l.length 1 4&&fG (fun i=>xg (rd (τ:=eA) l (i:Int))) 0 l.length
theorem GZ (p:Nat→Bool) (n:Nat):decide (d8 (fun i=> !p i) 0 n≥0)= !fG p 0 n:=by
 rcases ct (fun i=> !p i) n 0 with⟨h1,h2⟩|⟨j,h1,h2,h3,h4,h5⟩
 ·rw[h1,(dc p n 0).2 fun j h3 h4=>by simpa using h2 j h3 h4];rfl
 ·rw[h1]
  have:fG p 0 n=false:=by
   cases h:fG p 0 n with
   |false=>rfl
   |true=>have:=(dc p n 0).1 h j h2 h3;rw[this]at h4;cases h4
  rw[this];simp
theorem xi (l:List IY):Zs l=some (xh l):=by
 rw[PY,(bq _ _ _).1]
 unfold xh
 simp only[Option.bind_some]
 cases h:cP (l.length:Int) 1 4 with
 |false=>rfl
 |true=>
  have hl:l.length≤4:=by rw[bd]at h;omega
  rw[PX,PW,dd (L:=Zq.a l (l.length:Int)) (fun i=> !xg (rd (τ:=eA) l (i:Int))) l.length ?_ fun i hi=> ?_]
  ·simp only[Option.bind_some,cond_true,Bool.true_and]
   rw[GZ];simp
  ·rw[Zq.a_eq,ab];simp
  ·rw[Zq.a_eq,ab,ae,decide_eq_true hi,ah i l.length hi (by omega),PU,(AE _).1]
   simp only[cond_true,Option.bind_some]
noncomputable def uN (m:Pb):Bool:=qN m.1&&(ov m.2.2.1&&(KW m.2.2.2&&xh m.2.1))
theorem xj (m:Pb):Zt m=some (uN m)∧Hi m=some (uN m):=by
 rw[PZ,Mk,(qO _).1,(qO _).2,(iL _).1,(iL _).2,(n9 _).1,(n9 _).2,xi]
 unfold uN
 simp only[Option.bind_some]
 constructor
 ·cases qN m.1<;>cases ov m.2.2.1<;>cases KW m.2.2.2<;>rfl
 ·unfold xh
  by_cases h1:(m.2.1.length:Int)<1
  ·rw[decide_eq_true h1,show cP (m.2.1.length:Int) 1 4=false by simp[cP];omega]
   cases qN m.1<;>simp
  rw[decide_eq_false h1]
  by_cases h2:(m.2.1.length:Int)>4
  ·rw[decide_eq_true h2,show cP (m.2.1.length:Int) 1 4=false by simp[cP];omega]
   cases qN m.1<;>simp
  rw[decide_eq_false h2,show cP (m.2.1.length:Int) 1 4=true by simp[cP];omega]
  rw[ck (L:=Hi.a m) (fun i=>xg (rd (τ:=eA) m.2.1 (i:Int))) m.2.1.length ?_ fun i hi=> ?_]
  ·cases qN m.1<;>cases ov m.2.2.1<;>cases KW m.2.2.2<;>rfl
  ·rw[Hi.a_eq,ab];simp
  ·rw[Hi.a_eq,ab,ae,decide_eq_true hi,ah i m.2.1.length hi (by omega),(AE _).2]
   simp only[cond_true,Option.bind_some]
   cases xg (rd (τ:=eA) m.2.1 (i:Int))<;>rfl
def fI (p:Nat→Bool):Nat→Nat→Bool
 |_,0=>false
 |i,k+1=>bif p i then true else fI p (i+1) k
theorem jZ (p:Nat→Bool):∀k i,fI p i k=true↔∃j,i≤j∧j<i+k∧p j=true
 |0,i=>by simp[fI];omega
 |k+1,i=>by
  rw[fI,dD]
  by_cases h:p i=true
  ·rw[if_pos h];simp only[true_iff];exact⟨i,Nat.le_refl _,by omega,h⟩
  ·rw[if_neg h,jZ p k (i+1)]
   refine⟨fun⟨j,h1,h2,h3⟩=>⟨j,by omega,by omega,h3⟩,fun⟨j,h1,h2,h3⟩=>⟨j, ?_,by omega,h3⟩⟩
   rcases Nat.lt_or_ge i j with h4|h4
   ·exact h4
   ·have:j=i:=by omega
    subst this;exact absurd h3 h
theorem G4 {β:Type} (L:Int→Option β) (p:Nat→Bool) (n:Nat) (r:Option β) (hstep:∀i:Nat,i<n→L (i:Int)=bif p i then r else L ((i+1:Nat):Int)):
  ∀k i:Nat,i+k=n→L (i:Int)=bif fI p i k then r else L (n:Int):=by
 intro k
 induction k with
 |zero=>
   intro i h;have:i=n:=by omega
   subst this;rfl
 |succ k ih=>
  intro i h
  rw[hstep i (by omega),ih (i+1) (by omega),fI]
  cases p i<;>rfl
theorem dm {β:Type} {L:Int→Option β} (p:Nat→Bool) (n:Nat) (r:Option β) (hstep:∀i:Nat,i<n→L (i:Int)=bif p i then r else L ((i+1:Nat):Int)):L 0=bif fI p 0 n then r else L (n:Int):=
 G4 L p n r hstep n 0 (by omega)
theorem qP (p:Nat→Bool) (n:Nat):decide (d8 p 0 n≥0)=fI p 0 n:=by
 rcases ct p n 0 with⟨h1,h2⟩|⟨j,h1,h2,h3,h4,h5⟩
 ·rw[h1]
  cases h:fI p 0 n with
  |false=>rfl
  |true=>obtain⟨j,h3,h4,h5⟩:=(jZ p n 0).1 h;rw[h2 j h3 h4]at h5;cases h5
 ·rw[h1,(jZ p n 0).2 ⟨j,h2,h3,h4⟩];simp
def bc {α:Type} (f:Nat→α):Nat→Nat→List α
 |_,0=>[]
 |i,k+1=>f i::bc f (i+1) k
theorem aD {α:Type} (f:Nat→α):∀k i,(bc f i k).length=k
 |0,_=>rfl
 |k+1,i=>by rw[bc,List.length_cons,aD f k]
theorem G5 {α β:Type} (L:List α→Int→Option β) (f:Nat→α) (n A:Nat) (hstep:∀acc (i:Nat),i<n→acc.length=A+i→L acc (i:Int)=L (acc++[f i]) ((i+1:Nat):Int)):
  ∀(k i:Nat) (acc:List α),i+k=n→acc.length=A+i→L acc (i:Int)=L (acc++bc f i k) (n:Int):=by
 intro k
 induction k with
 |zero=>
   intro i acc h _;have:i=n:=by omega
   subst this;rw[bc,List.append_nil]
 |succ k ih=>
  intro i acc h ha
  rw[hstep acc i (by omega) ha,ih (i+1) _ (by omega) (by simp;omega),bc,List.append_assoc];rfl
theorem cm {α β:Type} {L:List α→Int→Option β} (f:Nat→α) (n:Nat) (acc:List α) (hstep:∀acc' (i:Nat),i<n→acc'.length=acc.length+i→L acc' (i:Int)=L (acc'++[f i]) ((i+1:Nat):Int)):L acc 0=L (acc++bc f 0 n) (n:Int):=
 G5 L f n acc.length hstep n 0 acc (by omega) (by omega)
def ba (c:Nat→Int):Nat→Nat→Int×Int
 |_,0=>(0,0)
 |i,k+1=>if c i=0 then ba c (i+1) k else((i:Int),c i)
theorem CV (L:Int→Option (Int×Int)) (c:Nat→Int) (n:Nat) (hstep:∀i:Nat,i<n→L (i:Int)=if c i=0 then L ((i+1:Nat):Int)else some ((i:Int),c i)):
  ∀k i:Nat,i+k=n→L (i:Int)=if(ba c i k).2=0 then L (n:Int)else some (ba c i k):=by
 intro k
 induction k with
 |zero=>
   intro i h;have:i=n:=by omega
   subst this;rfl
 |succ k ih=>
  intro i h
  rw[hstep i (by omega),ih (i+1) (by omega),ba]
  by_cases h:c i=0
  ·rw[if_pos h,if_pos h]
  ·rw[if_neg h,if_neg h,if_neg h]
theorem de {L:Int→Option (Int×Int)} (c:Nat→Int) (n:Nat) (hstep:∀i:Nat,i<n→L (i:Int)=if c i=0 then L ((i+1:Nat):Int)else some ((i:Int),c i)):L 0=if(ba c 0 n).2=0 then L (n:Int)else some (ba c 0 n):=
 CV L c n hstep n 0 (by omega)
theorem cK (c:Nat→Int):∀k i,(ba c i k).2=0↔∀j,i≤j→j<i+k→c j=0
 |0,i=>by simp[ba];omega
 |k+1,i=>by
  rw[ba]
  by_cases h:c i=0
  ·rw[if_pos h,cK c k (i+1)]
   refine⟨fun H j h1 h2=> ?_,fun H j h1 h2=>H j (by omega) (by omega)⟩
   by_cases e:j=i
   ·rw[e];exact h
   ·exact H j (by omega) (by omega)
  ·rw[if_neg h]
   exact⟨fun H=>absurd H h,fun H=>absurd (H i (Nat.le_refl _) (by omega)) h⟩
abbrev aC:Ty:= .pair .str (.pair .bool (.pair (.int .i64) .str))
abbrev Pd:Type:=ByteArray×Bool×Int×ByteArray
abbrev aW:Ty:= .pair .str .str
abbrev Pe:Type:=ByteArray×ByteArray
abbrev bH:Ty:= .pair (.int .i64) (.pair (.int .i64) (.pair (.int .i64) (.pair .str (.int .i64))))
abbrev AF:Type:=Int×Int×Int×ByteArray×Int
abbrev cz:Ty:= .pair (.int .i64) .bool
abbrev SZ:Type:=Int×Bool
abbrev bl:Type:=ByteArray×Int×List Pd×List Pe×List AF×List SZ
structure ObjSz (o:bl):Prop where
 f:o.2.2.1.length≤4
 d:o.2.2.2.1.length≤4
 r:o.2.2.2.2.1.length≤32
 s:o.2.2.2.2.2.length≤4
def cx (o:bl):List ByteArray:=bc (fun i=>(rd (τ:=aC) o.2.2.1 (i:Int)).1) 0 o.2.2.1.length++bc (fun i=>(rd (τ:=aW) o.2.2.2.1 (i:Int)).1) 0 o.2.2.2.1.length
def fy (o:bl):List Int:=bc (fun i=>IntKind.wrap .i64 (((rd (τ:=aC) o.2.2.1 (i:Int)).2.2.2.size:Int).tdiv 4)) 0 o.2.2.1.length++bc (fun i=>IntKind.wrap .i64 (((rd (τ:=aW) o.2.2.2.1 (i:Int)).2.size:Int).tdiv 8)) 0 o.2.2.2.1.length
theorem ka (n:Nat) (h:n≤4096):ay n 16=true:=by simp[ay];omega
theorem k9 (n:Nat) (h:n≤4096):ay n 8=true:=by simp[ay];omega
theorem CW (o:bl) (hz:ObjSz o) (u:Nat) (hu:u≤(cx o).length):re o (u:Int)=some ((cx o).take u):=by
 obtain⟨hf,hd,_,_⟩:=hz
 rw[Oy]
 rw[cm (L:=fun acc i=>re.a (u:Int) o acc o.2.2.1 (o.2.2.1.length:Int) i) (fun i=>(rd (τ:=aC) o.2.2.1 (i:Int)).1) o.2.2.1.length [] fun acc i hi ha=> ?_]
 ·rw[re.a_eq,ab,decide_eq_false (Nat.lt_irrefl _),cond_false,List.nil_append]
  rw[cm (L:=fun acc i=>re.b (u:Int) acc o.2.2.2.1 (o.2.2.2.1.length:Int) i) (fun i=>(rd (τ:=aW) o.2.2.2.1 (i:Int)).1) o.2.2.2.1.length (bc (fun i=>(rd (τ:=aC) o.2.2.1 (i:Int)).1) 0 o.2.2.1.length) fun acc i hi ha=> ?_]
  ·show re.b (u:Int) (cx o) o.2.2.2.1 (o.2.2.2.1.length:Int) (o.2.2.2.1.length:Int)=_
   rw[re.b_eq,ab,decide_eq_false (Nat.lt_irrefl _),cond_false,gm u _ hu,cond_true,gk]
  ·rw[aD]at ha
   show re.b (u:Int) acc o.2.2.2.1 (o.2.2.2.1.length:Int) (i:Int)=_
   rw[re.b_eq,ab,ae,decide_eq_true hi,ah i _ hi (by omega),ka _ (by simp;omega)];rfl
 ·show re.a (u:Int) o acc o.2.2.1 (o.2.2.1.length:Int) (i:Int)=_
  rw[re.a_eq,ab,ae,decide_eq_true hi,ah i _ hi (by omega),ka _ (by simp at ha⊢;omega)];rfl
theorem CX (o:bl) (hz:ObjSz o):rX o=some (fy o):=by
 obtain⟨hf,hd,_,_⟩:=hz
 rw[OA]
 rw[cm (L:=fun acc i=>rX.a o acc o.2.2.1 (o.2.2.1.length:Int) i) (fun i=>IntKind.wrap .i64 (((rd (τ:=aC) o.2.2.1 (i:Int)).2.2.2.size:Int).tdiv 4)) o.2.2.1.length [] fun acc i hi ha=> ?_]
 ·rw[rX.a_eq,ab,decide_eq_false (Nat.lt_irrefl _),cond_false,List.nil_append]
  rw[cm (L:=fun acc i=>rX.b acc o.2.2.2.1 (o.2.2.2.1.length:Int) i) (fun i=>IntKind.wrap .i64 (((rd (τ:=aW) o.2.2.2.1 (i:Int)).2.size:Int).tdiv 8)) o.2.2.2.1.length (bc (fun i=>IntKind.wrap .i64 (((rd (τ:=aC) o.2.2.1 (i:Int)).2.2.2.size:Int).tdiv 4)) 0 o.2.2.1.length) fun acc i hi ha=> ?_]
  ·rw[rX.b_eq,ab,decide_eq_false (Nat.lt_irrefl _),cond_false];rfl
  ·rw[aD]at ha
   show rX.b acc o.2.2.2.1 (o.2.2.2.1.length:Int) (i:Int)=_
   rw[rX.b_eq,ab,ae,decide_eq_true hi,ah i _ hi (by omega),k9 _ (by simp;omega)];rfl
 ·show rX.a o acc o.2.2.1 (o.2.2.1.length:Int) (i:Int)=_
  rw[rX.a_eq,ab,ae,decide_eq_true hi,ah i _ hi (by omega),k9 _ (by simp at ha⊢;omega)];rfl
def hZ (l:List ByteArray) (n:ByteArray):Bool:=l.any fun y=>decide (y=n)
theorem kb {l:List ByteArray} {n:ByteArray}:hZ l n=true↔n∈l:=by simp[hZ]
theorem zt (l:List ByteArray) (n:ByteArray) (hl:l.length≤4096):Sq l n=some (hZ l n):=by
 rw[Ox,Ow,dd (L:=Hz.a l n (l.length:Int)) (fun i=>decide (n=rd (τ:= .str) l (i:Int))) l.length ?_ fun i hi=> ?_]
 ·simp only[Option.bind_some]
  rw[qP]
  congr 1
  rw[Bool.eq_iff_iff,jZ,kb,List.mem_iff_getElem]
  refine⟨fun⟨j,h1,h2,h3⟩=>⟨j,by omega, ?_⟩,fun⟨j,h1,h2⟩=>⟨j,by omega,by omega, ?_⟩⟩
  ·rw[decide_eq_true_iff,aQ (τ:= .str) l j (by omega)]at h3;exact h3.symm
  ·rw[decide_eq_true_iff,aQ (τ:= .str) l j h1];exact h2.symm
 ·rw[Hz.a_eq,ab];simp
 ·rw[Hz.a_eq,ab,ae,decide_eq_true hi,ah i _ hi (by omega),aF];rfl
theorem cy {α:Type} (f:Nat→α) (x:α):∀k i,x∈bc f i k↔∃j,i≤j∧j<i+k∧f j=x
 |0,i=>by simp[bc];omega
 |k+1,i=>by
  rw[bc,List.mem_cons,cy f x k (i+1)]
  constructor
  ·rintro(h|⟨j,h1,h2,h3⟩)
   ·exact⟨i,Nat.le_refl _,by omega,h.symm⟩
   ·exact⟨j,by omega,by omega,h3⟩
  ·rintro⟨j,h1,h2,h3⟩
   by_cases e:j=i
   ·subst e;exact .inl h3.symm
   ·exact .inr ⟨j,by omega,by omega,h3⟩
theorem nr {α:Type} (f:Nat→α):∀k i n,(bc f i k).take n=bc f i (min n k)
 |0,i,n=>by simp[bc]
 |k+1,i,0=>by simp[bc]
 |k+1,i,n+1=>by rw[bc,List.take_succ_cons,nr f k (i+1) n,Nat.add_min_add_right,bc]
theorem mC (o:bl) (i:Nat) (hi:i≤o.2.2.1.length):(cx o).take i=bc (fun i=>(rd (τ:=aC) o.2.2.1 (i:Int)).1) 0 i:=by
 unfold cx
 rw[List.take_append_of_le_length (by rw[aD];exact hi),nr,Nat.min_eq_left hi]
theorem jj (o:bl) (i:Nat) (hi:i≤o.2.2.2.1.length):(cx o).take (o.2.2.1.length+i)=bc (fun i=>(rd (τ:=aC) o.2.2.1 (i:Int)).1) 0 o.2.2.1.length++bc (fun i=>(rd (τ:=aW) o.2.2.2.1 (i:Int)).1) 0 i:=by
 unfold cx
 rw[List.take_append,aD,List.take_of_length_le (by rw[aD];omega),nr,show o.2.2.1.length+i-o.2.2.1.length=i by omega,Nat.min_eq_left hi]
theorem ns (o:bl):(cx o).length=o.2.2.1.length+o.2.2.2.1.length:=by unfold cx;rw[List.length_append,aD,aD]
theorem nt (f:Nat→ByteArray) (n:ByteArray) (k:Nat):hZ (bc f 0 k) n=fI (fun j=>decide (f j=n)) 0 k:=by
 rw[Bool.eq_iff_iff,kb,cy,jZ];simp
theorem qQ (a b:List ByteArray) (n:ByteArray):hZ (a++b) n=(hZ a n||hZ b n):=by simp[hZ]
theorem qR (c:Nat→Int):∀k i,(ba c i k).2=0→ba c i k=(0,0)
 |0,_,_=>rfl
 |k+1,i,h=>by
  rw[ba]at h⊢
  by_cases e:c i=0
  ·rw[if_pos e]at h⊢;exact qR c k (i+1) h
  ·rw[if_neg e]at h;exact absurd h e
theorem ke (c:Nat→Int) (i k:Nat):(if(ba c i k).2=0 then some ((0,0):Int×Int)else some (ba c i k))=some (ba c i k):=by
 by_cases h:(ba c i k).2=0
 ·rw[if_pos h,qR c k i h]
 ·rw[if_neg h]
noncomputable def mD (o:bl) (i:Nat):Int:=
 if bY (rd (τ:=aC) o.2.2.1 (i:Int)).1=false then 3 else if hZ ((cx o).take i) (rd (τ:=aC) o.2.2.1 (i:Int)).1=true then 24
 else if cS (rd (τ:=aC) o.2.2.1 (i:Int)).2.2.1=false then 17 else if bf (rd (τ:=aC) o.2.2.1 (i:Int)).2.2.2.size=false then 8 else 0
def qT (n:Nat):Bool:=cP (n:Int) 8 64&&decide ((n:Int).tmod 8=0)
noncomputable def mE (o:bl) (i:Nat):Int:=
 if bY (rd (τ:=aW) o.2.2.2.1 (i:Int)).1=false then 3 else if hZ ((cx o).take (o.2.2.1.length+i)) (rd (τ:=aW) o.2.2.2.1 (i:Int)).1=true then 24
 else if qT (rd (τ:=aW) o.2.2.2.1 (i:Int)).2.size=false then 8 else 0
theorem mF (o:bl) (hz:ObjSz o) (n:ByteArray) (u:Nat) (hu:u≤(cx o).length):Rt o n (u:Int)=some (if bY n=false then 3 else if hZ ((cx o).take u) n=true then 24 else 0):=by
 have:=hz.f;have:=hz.d;have:=ns o
 rw[Oz,(db _).1,CW o hz u hu]
 simp only[Option.bind_some]
 rw[zt _ _ (by simp;omega)]
 cases bY n<;>cases hZ ((cx o).take u) n<;>rfl
theorem G6 (t:ByteArray):R4 t=some (bf t.size):=by
 rw[Mw]
 unfold bf bZ
 cases decide ((t.size:Int).tmod 4=0)<;>cases decide ((t.size:Int)≥20)<;>cases decide ((t.size:Int)≤256)<;>rfl
theorem CY (o:bl) (hz:ObjSz o):ie.a o o.2.2.1 (o.2.2.1.length:Int) 0=if(ba (mD o) 0 o.2.2.1.length).2=0 then ie.b o o.2.2.2.1 (o.2.2.2.1.length:Int) 0 else some (ba (mD o) 0 o.2.2.1.length):=by
 have:=hz.f
 rw[de (L:=ie.a o o.2.2.1 (o.2.2.1.length:Int)) (mD o) o.2.2.1.length fun i hi=> ?_]
 ·rw[ie.a_eq,ab,decide_eq_false (Nat.lt_irrefl _),cond_false]
 ·rw[ie.a_eq,ab,ae,decide_eq_true hi,ah i _ hi (by omega),mF o hz _ i (by rw[ns];omega),(eP _).1,jh]
  unfold mD
  simp only[cond_true,Option.bind_some]
  cases bY (rd (τ:=aC) o.2.2.1 (i:Int)).1 with
  |false=>rfl
  |true=>
   cases hZ ((cx o).take i) (rd (τ:=aC) o.2.2.1 (i:Int)).1 with
   |true=>rfl
   |false=>cases cS (rd (τ:=aC) o.2.2.1 (i:Int)).2.2.1<;>cases bf (rd (τ:=aC) o.2.2.1 (i:Int)).2.2.2.size<;>rfl
theorem CZ (o:bl) (hz:ObjSz o):ie.b o o.2.2.2.1 (o.2.2.2.1.length:Int) 0=if(ba (mE o) 0 o.2.2.2.1.length).2=0 then ie.c o (o.2.2.2.2.1.length:Int) 0 else some (ba (mE o) 0 o.2.2.2.1.length):=by
 have h1:=hz.f
 have h2:=hz.d
 rw[de (L:=ie.b o o.2.2.2.1 (o.2.2.2.1.length:Int)) (mE o) o.2.2.2.1.length fun i hi=> ?_]
 ·rw[ie.b_eq,ab,decide_eq_false (Nat.lt_irrefl _),cond_false]
 ·rw[ie.b_eq,ab,ae,decide_eq_true hi,ah i _ hi (by omega),aV (n:=(o.2.2.1.length:Int)+(i:Int)) (by omega) (by omega),←Int.natCast_add,mF o hz _ (o.2.2.1.length+i) (by rw[ns];omega),(bq _ _ _).1]
  unfold mE qT
  simp only[cond_true,Option.bind_some]
  cases bY (rd (τ:=aW) o.2.2.2.1 (i:Int)).1 with
  |false=>rfl
  |true=>
   cases hZ ((cx o).take (o.2.2.1.length+i)) (rd (τ:=aW) o.2.2.2.1 (i:Int)).1 with
   |true=>rfl
   |false=>cases cP ((rd (τ:=aW) o.2.2.2.1 (i:Int)).2.size:Int) 8 64<;>cases decide (((rd (τ:=aW) o.2.2.2.1 (i:Int)).2.size:Int).tmod 8=0)<;>rfl
theorem C0 (o:bl) (hz:ObjSz o):uQ o=some (ba (mD o) 0 o.2.2.1.length):=by
 have h1:=hz.f
 rw[Mx,de (L:=uQ.a o) (mD o) o.2.2.1.length fun i hi=> ?_]
 ·rw[uQ.a_eq,ab,decide_eq_false (Nat.lt_irrefl _),cond_false]
  exact ke _ _ _
 ·rw[uQ.a_eq,ab,ae,decide_eq_true hi,(db _).2]
  unfold mD
  simp only[cond_true,Option.bind_some]
  cases bY (rd (τ:=aC) o.2.2.1 (i:Int)).1 with
  |false=>rfl
  |true=>
   rw[show(!true)=false from rfl,cond_false,dm (L:=uQ.b o (i:Int) (rd (τ:=aC) o.2.2.1 (i:Int))) (fun j=>decide ((rd (τ:=aC) o.2.2.1 (j:Int)).1=(rd (τ:=aC) o.2.2.1 (i:Int)).1)) i (some ((i:Int),24)) fun j hj=> ?_]
   ·rw[mC o i (by omega),nt]
    cases fI (fun j=>decide ((rd (τ:=aC) o.2.2.1 (j:Int)).1=(rd (τ:=aC) o.2.2.1 (i:Int)).1)) 0 i with
    |true=>rfl
    |false=>
     rw[uQ.b_eq,ab,decide_eq_false (Nat.lt_irrefl _),cond_false,cond_false,(eP _).2,G6,ah i _ hi (by omega)]
     simp only[Option.bind_some]
     cases cS (rd (τ:=aC) o.2.2.1 (i:Int)).2.2.1<;>cases bf (rd (τ:=aC) o.2.2.1 (i:Int)).2.2.2.size<;>rfl
   ·rw[uQ.b_eq,ab,ae,decide_eq_true hj,decide_eq_true (show j<o.2.2.1.length by omega),ah j _ hj (by omega),aF];rfl
theorem C3 (o:bl) (hz:ObjSz o):ny o=some (ba (mE o) 0 o.2.2.2.1.length):=by
 have h1:=hz.f
 have h2:=hz.d
 rw[My,de (L:=ny.a o) (mE o) o.2.2.2.1.length fun i hi=> ?_]
 ·rw[ny.a_eq,ab,decide_eq_false (Nat.lt_irrefl _),cond_false]
  exact ke _ _ _
 ·rw[ny.a_eq,ab,ae,decide_eq_true hi,(db _).2]
  unfold mE qT
  simp only[cond_true,Option.bind_some]
  cases bY (rd (τ:=aW) o.2.2.2.1 (i:Int)).1 with
  |false=>rfl
  |true=>
   rw[show(!true)=false from rfl,cond_false,dm (L:=ny.b o (i:Int) (rd (τ:=aW) o.2.2.2.1 (i:Int))) (fun j=>decide ((rd (τ:=aC) o.2.2.1 (j:Int)).1=(rd (τ:=aW) o.2.2.2.1 (i:Int)).1)) o.2.2.1.length (some ((i:Int),24)) fun j hj=> ?_]
   ·rw[jj o i (by omega),qQ,nt,nt]
    cases fI (fun j=>decide ((rd (τ:=aC) o.2.2.1 (j:Int)).1=(rd (τ:=aW) o.2.2.2.1 (i:Int)).1)) 0 o.2.2.1.length with
    |true=>rfl
    |false=>
     rw[ny.b_eq,ab,decide_eq_false (Nat.lt_irrefl _),cond_false,cond_false,dm (L:=ny.c o (i:Int) (rd (τ:=aW) o.2.2.2.1 (i:Int))) (fun j=>decide ((rd (τ:=aW) o.2.2.2.1 (j:Int)).1=(rd (τ:=aW) o.2.2.2.1 (i:Int)).1)) i (some ((i:Int),24)) fun j hj=> ?_]
     ·cases fI (fun j=>decide ((rd (τ:=aW) o.2.2.2.1 (j:Int)).1=(rd (τ:=aW) o.2.2.2.1 (i:Int)).1)) 0 i with
      |true=>rfl
      |false=>
       rw[ny.c_eq,ab,decide_eq_false (Nat.lt_irrefl _),cond_false,cond_false,ah i _ hi (by omega)]
       unfold cP
       generalize (rd (τ:=aW) o.2.2.2.1 (i:Int)).2.size=n
       rw[show decide ((n:Int)<8)= !decide (8≤(n:Int)) by rw[←decide_not];congr 1;apply propext;omega,show decide ((n:Int)>64)= !decide ((n:Int)≤64) by rw[←decide_not];congr 1;apply propext;omega]
       cases decide ((n:Int).tmod 8=0)<;>cases decide (8≤(n:Int))<;>cases decide ((n:Int)≤64)<;>rfl
     ·rw[ny.c_eq,ab,ae,decide_eq_true hj,decide_eq_true (show j<o.2.2.2.1.length by omega),ah j _ hj (by omega),aF];rfl
   ·rw[ny.b_eq,ab,ae,decide_eq_true hj,ah j _ hj (by omega),aF];rfl
def mG (a b c d:Int):Bool:=if a=c then decide (b<d)else decide (a<c)
def eE (o:bl) (u:Int):Int:=
 if 0≤u∧u< (o.2.2.1.length:Int)then((rd (τ:=aC) o.2.2.1 u).2.2.2.size:Int).tdiv 4
 else if(o.2.2.1.length:Int)≤u∧u< (o.2.2.1.length:Int)+(o.2.2.2.1.length:Int)then((rd (τ:=aW) o.2.2.2.1 (u-(o.2.2.1.length:Int))).2.size:Int).tdiv 8 else-1
structure UnitSz (o:bl):Prop extends ObjSz o where
 fs:∀i,i<o.2.2.1.length→(rd (τ:=aC) o.2.2.1 (i:Int)).2.2.2.size≤256
 ds:∀i,i<o.2.2.2.1.length→(rd (τ:=aW) o.2.2.2.1 (i:Int)).2.size≤64
theorem go {α:Type} (f:Nat→α):∀k i j (h:j< (bc f i k).length),(bc f i k)[j]=f (i+j)
 |0,_,_,h=>by simp[bc]at h
 |k+1,i,0,_=>by simp[bc]
 |k+1,i,j+1,h=>by
  have:=go f k (i+1) j (by rw[aD]at h⊢;omega)
  simp only[bc,List.getElem_cons_succ]
  rw[this];congr 1;omega
theorem IZ (n k:Nat) (h:n≤4096):IntKind.wrap .i64 ((n:Int).tdiv (k:Int))=(n:Int).tdiv (k:Int):=by
 rw[Int.tdiv_eq_ediv_of_nonneg (by omega)]
 have h1:0≤(n:Int)/(k:Int):=Int.ediv_nonneg (by omega) (by omega)
 have h2:(n:Int)/(k:Int)≤(n:Int):=Int.ediv_le_self _ (by omega)
 exact aV (by omega) (by omega)
theorem tv (o:bl):(fy o).length=o.2.2.1.length+o.2.2.2.1.length:=by unfold fy;rw[List.length_append,aD,aD]
theorem G7 (o:bl) (hz:UnitSz o) (u:Nat) (hu:u<o.2.2.1.length+o.2.2.2.1.length):rd (τ:= .int .i64) (fy o) (u:Int)=eE o (u:Int):=by
 unfold eE
 have hl:=tv o
 rw[aQ (τ:= .int .i64) (fy o) u (by omega)]
 by_cases h:u<o.2.2.1.length
 ·rw[if_pos ⟨by omega,by omega⟩]
  have:(fy o)[u]'(by omega)=IntKind.wrap .i64 (((rd (τ:=aC) o.2.2.1 ((0+u:Nat):Int)).2.2.2.size:Int).tdiv 4):=by
   unfold fy
   rw[List.getElem_append_left (by rw[aD];exact h),go]
  rw[this,Nat.zero_add]
  exact IZ _ 4 (by have:=hz.fs u h;omega)
 ·rw[if_neg (by omega),if_pos ⟨by omega,by omega⟩]
  have:(fy o)[u]'(by omega)=IntKind.wrap .i64 (((rd (τ:=aW) o.2.2.2.1 ((0+(u-(bc (fun i=>IntKind.wrap .i64 (((rd (τ:=aC) o.2.2.1 (i:Int)).2.2.2.size:Int).tdiv 4)) 0 o.2.2.1.length).length):Nat):Int)).2.size:Int).tdiv 8):=by
   unfold fy
   rw[List.getElem_append_right (by rw[aD];omega),go]
  rw[aD]at this
  rw[this,Nat.zero_add,show(u:Int)-(o.2.2.1.length:Int)=((u-o.2.2.1.length:Nat):Int) by omega]
  exact IZ _ 8 (by have:=hz.ds (u-o.2.2.1.length) (by omega);omega)
theorem oa (o:bl) (hz:UnitSz o) (u:Int): -1≤eE o u∧eE o u≤256:=by
 unfold eE
 split
 ·rename_i h
  have:=hz.fs u.toNat (by omega)
  rw[show((u.toNat:Nat):Int)=u by omega]at this
  rw[Int.tdiv_eq_ediv_of_nonneg (by omega)]
  omega
 ·split
  ·rename_i h
   have:=hz.ds (u-(o.2.2.1.length:Int)).toNat (by omega)
   rw[show(((u-(o.2.2.1.length:Int)).toNat:Nat):Int)=u-(o.2.2.1.length:Int) by omega]at this
   rw[Int.tdiv_eq_ediv_of_nonneg (by omega)]
   omega
  ·omega
theorem C4 (o:bl) (hz:UnitSz o) (u:Int) (hu: -9223372036854775808≤u∧u≤9223372036854775807):Q0 o u=some (eE o u):=by
 rw[Mz]
 have h1:=hz.f
 have h2:=hz.d
 unfold eE
 by_cases h:0≤u∧u< (o.2.2.1.length:Int)
 ·have e1:decide (u≥0)=true:=decide_eq_true h.1
  have e2:decide (u< (o.2.2.1.length:Int))=true:=decide_eq_true h.2
  simp only[aA,e1,e2,cond_true,inL_true h.1 h.2,if_pos h]
  have:=hz.fs u.toNat (by omega)
  rw[show((u.toNat:Nat):Int)=u by omega]at this
  rw[show(4:Int)=((4:Nat):Int) from rfl,IZ _ 4 (by omega)]
 ·have e0:(decide (u≥0)&&decide (u< (o.2.2.1.length:Int)))=false:=by simp;omega
  simp only[aA,if_neg h]
  generalize decide (u≥0)=b0 at*
  generalize decide (u< (o.2.2.1.length:Int))=b1 at*
  by_cases h3:(o.2.2.1.length:Int)≤u
  ·rw[decide_eq_true (show u≥(o.2.2.1.length:Int) from h3),aV (n:=u-(o.2.2.1.length:Int)) (by omega) (by omega)]
   by_cases h4:u< (o.2.2.1.length:Int)+(o.2.2.2.1.length:Int)
   ·rw[if_pos ⟨h3,h4⟩,decide_eq_true (show u-(o.2.2.1.length:Int)< (o.2.2.2.1.length:Int) by omega),inL_true (i:=u-(o.2.2.1.length:Int)) (n:=o.2.2.2.1.length) (by omega) (by omega)]
    have:=hz.ds (u-(o.2.2.1.length:Int)).toNat (by omega)
    rw[show(((u-(o.2.2.1.length:Int)).toNat:Nat):Int)=u-(o.2.2.1.length:Int) by omega]at this
    rw[show(8:Int)=((8:Nat):Int) from rfl,IZ _ 8 (by omega)]
    cases b0<;>cases b1<;>first|rfl|(exact absurd e0 (by decide))
   ·rw[if_neg (by omega),decide_eq_false (show¬u-(o.2.2.1.length:Int)< (o.2.2.2.1.length:Int) by omega)]
    cases b0<;>cases b1<;>first|rfl|(exact absurd e0 (by decide))
  ·rw[decide_eq_false (show¬u≥(o.2.2.1.length:Int) from h3),if_neg (by omega)]
   cases b0<;>cases b1<;>first|rfl|(exact absurd e0 (by decide))
def QN (n:Int):Prop:= -9223372036854775808≤n∧n≤9223372036854775807
def tw (o:bl):Prop:=∀k,k<o.2.2.2.2.1.length→QN (rd (τ:=bH) o.2.2.2.2.1 (k:Int)).1
def gp (o:bl) (r:AF):Bool:=cP r.1 0 ((o.2.2.1.length:Int)+(o.2.2.2.1.length:Int)-1)&&cP r.2.1 0 (eE o r.1-1)
noncomputable def kI (o:bl) (k:Nat):Int:=
 if gp o (rd (τ:=bH) o.2.2.2.2.1 (k:Int))=false then 4
 else if(cP (rd (τ:=bH) o.2.2.2.2.1 (k:Int)).2.2.1 1 9&&(decide ((rd (τ:=bH) o.2.2.2.2.1 (k:Int)).2.2.1=9)==decide ((rd (τ:=bH) o.2.2.2.2.1 (k:Int)).1≥(o.2.2.1.length:Int))))=false then 26
 else if bY (rd (τ:=bH) o.2.2.2.2.1 (k:Int)).2.2.2.1=false then 3
 else if cP (rd (τ:=bH) o.2.2.2.2.1 (k:Int)).2.2.2.2 (-2147483648) 2147483647=false then 4
 else if k=0 then 0
 else if mG (rd (τ:=bH) o.2.2.2.2.1 ((k-1:Nat):Int)).1 (rd (τ:=bH) o.2.2.2.2.1 ((k-1:Nat):Int)).2.1 (rd (τ:=bH) o.2.2.2.2.1 (k:Int)).1 (rd (τ:=bH) o.2.2.2.2.1 (k:Int)).2.1=false then 24 else 0
theorem zu (pu pa u a:Int):(bif decide (u<pu)then some (24:Int)else bif decide (u=pu)then bif decide (a≤pa)then some 24 else some 0 else some 0)=some (if mG pu pa u a=false then 24 else 0):=by
 rcases Int.lt_trichotomy u pu with h|h|h
 ·rw[decide_eq_true h,show mG pu pa u a=false by unfold mG;rw[if_neg (show¬pu=u by omega)];exact decide_eq_false (by omega)];rfl
 ·subst h
  rw[decide_eq_false (by omega),decide_eq_true rfl,cond_false,cond_true]
  have:mG u pa u a=decide (pa<a):=by unfold mG;rw[if_pos rfl]
  rw[this]
  by_cases h:a≤pa
  ·rw[decide_eq_true h,decide_eq_false (show¬pa<a by omega)];rfl
  ·rw[decide_eq_false h,decide_eq_true (show pa<a by omega)];rfl
 ·rw[decide_eq_false (by omega),decide_eq_false (by omega),show mG pu pa u a=true by unfold mG;rw[if_neg (show¬pu=u by omega)];exact decide_eq_true (by omega)];rfl
theorem zw (o:bl) (hz:UnitSz o) (r:AF) {β:Type} (K:Bool→Option β):
  ((gA r.1 0 (IntKind.wrap .i64 (((fy o).length:Int)-1))).bind fun r2=>bif (!r2)then K true else(bif (aq r.1 (fy o).length)then((gA r.2.1 0 (IntKind.wrap .i64 ((rd (τ:= .int .i64) (fy o) r.1)-1))).bind fun r3=>K (!r3))else none))=K (!gp o r):=by
 have h1:=hz.f
 have h2:=hz.d
 rw[tv,aV (n:=((o.2.2.1.length+o.2.2.2.1.length:Nat):Int)-1) (by omega) (by omega),(bq _ _ _).1,(bq _ _ _).1]
 simp only[Option.bind_some]
 unfold gp
 rw[Int.natCast_add]
 by_cases h:0≤r.1∧r.1≤(o.2.2.1.length:Int)+(o.2.2.2.1.length:Int)-1
 ·rw[bd.2 h,inL_true (by omega) (by omega)]
  have hu:=G7 o hz r.1.toNat (by omega)
  rw[show((r.1.toNat:Nat):Int)=r.1 by omega]at hu
  have hr:=oa o hz r.1
  simp only[Bool.not_true,cond_false,cond_true,Bool.true_and]
  rw[hu,aV (n:=eE o r.1-1) (by omega) (by omega)]
 ·rw[show cP r.1 0 ((o.2.2.1.length:Int)+(o.2.2.2.1.length:Int)-1)=false by cases h5:cP r.1 0 ((o.2.2.1.length:Int)+(o.2.2.2.1.length:Int)-1);rfl;exact absurd (bd.1 h5) h];rfl
theorem zx (o:bl) (hz:UnitSz o) (r:AF) (hr:QN r.1) {β:Type} (K:Bool→Option β):
  (bif decide (r.2.1<0)then K true else((Q0 o r.1).bind fun r1=>K (decide (r.2.1≥r1))))=K (!gp o r):=by
 rw[C4 o hz _ hr]
 simp only[Option.bind_some]
 have h1:=hz.f
 have h2:=hz.d
 have e:(decide (r.2.1<0)||decide (r.2.1≥eE o r.1))= !gp o r:=by
  unfold gp
  rw[Bool.eq_iff_iff]
  simp only[Bool.or_eq_true,decide_eq_true_eq,Bool.not_eq_true',Bool.and_eq_false_imp,bd]
  constructor
  ·intro h h3
   cases h4:cP r.2.1 0 (eE o r.1-1)with
   |false=>rfl
   |true=>rw[bd]at h4;omega
  ·intro h
   by_cases h3:0≤r.1∧r.1≤(o.2.2.1.length:Int)+(o.2.2.2.1.length:Int)-1
   ·have:=h h3
    by_cases h4:0≤r.2.1∧r.2.1≤eE o r.1-1
    ·rw[bd.2 h4]at this;cases this
    ·omega
   ·have:eE o r.1= -1:=by unfold eE;rw[if_neg (by omega),if_neg (by omega)]
    omega
 rw[←e]
 cases decide (r.2.1<0)<;>rfl
theorem C5 (o:bl) (hz:UnitSz o):ie.c o (o.2.2.2.2.1.length:Int) 0=if(ba (kI o) 0 o.2.2.2.2.1.length).2=0 then ie.d o o.2.2.2.2.2 (o.2.2.2.2.2.length:Int) 0 else some (ba (kI o) 0 o.2.2.2.2.1.length):=by
 have h3:=hz.r
 rw[de (L:=ie.c o (o.2.2.2.2.1.length:Int)) (kI o) o.2.2.2.2.1.length fun i hi=> ?_]
 ·rw[ie.c_eq,ab,decide_eq_false (Nat.lt_irrefl _),cond_false]
 ·have e:Sr o (i:Int)=some (kI o i):=by
   rw[OB,ae,decide_eq_true hi,cond_true,CX o hz.toObjSz]
   simp only[Option.bind_some,aA]
   rw[zw o hz (rd (τ:=bH) o.2.2.2.2.1 (i:Int)) (fun r5=>bif r5 then some 4 else _)]
   unfold kI
   generalize hrel:gp o (rd (τ:=bH) o.2.2.2.2.1 (i:Int))=ra
   rw[(bq _ _ _).1,(bq _ _ _).1,(db _).1]
   simp only[Option.bind_some]
   cases ra with
   |false=>rfl
   |true=>
    generalize cP (rd (τ:=bH) o.2.2.2.2.1 (i:Int)).2.2.1 1 9=b1
    generalize (decide ((rd (τ:=bH) o.2.2.2.2.1 (i:Int)).2.2.1=9)==decide ((rd (τ:=bH) o.2.2.2.2.1 (i:Int)).1≥(o.2.2.1.length:Int)))=b2
    cases b1 with
    |false=>rfl
    |true=>
     cases b2 with
     |false=>rfl
     |true=>
      generalize bY (rd (τ:=bH) o.2.2.2.2.1 (i:Int)).2.2.2.1=b3
      generalize cP (rd (τ:=bH) o.2.2.2.2.1 (i:Int)).2.2.2.2 (-2147483648) 2147483647=b4
      cases b3 with
      |false=>rfl
      |true=>
       cases b4 with
       |false=>rfl
       |true=>
        by_cases h0:i=0
        ·rw[show decide ((i:Int)>0)=false by simp[h0],if_pos h0];rfl
        ·rw[show decide ((i:Int)>0)=true by simp;omega,if_neg h0,fg i (by omega) (by omega),ae,decide_eq_true (show i-1<o.2.2.2.2.1.length by omega),zu];rfl
  rw[ie.c_eq,ab,decide_eq_true hi,ah i _ hi (by omega),e]
  simp only[Option.bind_some,cond_true]
  by_cases h:kI o i=0
  ·rw[if_pos h,decide_eq_true h];rfl
  ·rw[if_neg h,decide_eq_false h];rfl
theorem C6 (o:bl) (hz:UnitSz o) (hr:tw o):DW o=some (ba (kI o) 0 o.2.2.2.2.1.length):=by
 have h3:=hz.r
 rw[MA,de (L:=DW.a o) (kI o) o.2.2.2.2.1.length fun i hi=> ?_]
 ·rw[DW.a_eq,ab,decide_eq_false (Nat.lt_irrefl _),cond_false]
  exact ke _ _ _
 ·rw[DW.a_eq,ab,ae,decide_eq_true hi,cond_true,cond_true]
  simp only[aA]
  rw[zx o hz (rd (τ:=bH) o.2.2.2.2.1 (i:Int)) (hr i hi) (fun r5=>bif r5 then some ((i:Int),4)else _)]
  unfold kI
  generalize hrel:gp o (rd (τ:=bH) o.2.2.2.2.1 (i:Int))=ra
  rw[(bq _ _ _).2,(bq _ _ _).2,(db _).2,ah i _ hi (by omega)]
  simp only[Option.bind_some]
  cases ra with
  |false=>rfl
  |true=>
   generalize cP (rd (τ:=bH) o.2.2.2.2.1 (i:Int)).2.2.1 1 9=b1
   generalize (decide ((rd (τ:=bH) o.2.2.2.2.1 (i:Int)).2.2.1=9)==decide ((rd (τ:=bH) o.2.2.2.2.1 (i:Int)).1≥(o.2.2.1.length:Int)))=b2
   cases b1 with
   |false=>rfl
   |true=>
    cases b2 with
    |false=>rfl
    |true=>
     generalize bY (rd (τ:=bH) o.2.2.2.2.1 (i:Int)).2.2.2.1=b3
     generalize cP (rd (τ:=bH) o.2.2.2.2.1 (i:Int)).2.2.2.2 (-2147483648) 2147483647=b4
     cases b3 with
     |false=>rfl
     |true=>
      cases b4 with
      |false=>rfl
      |true=>
       by_cases h0:i=0
       ·rw[show decide ((i:Int)>0)=false by simp[h0],if_pos h0];rfl
       ·rw[show decide ((i:Int)>0)=true by simp;omega,if_neg h0,fg i (by omega) (by omega),ae,decide_eq_true (show i-1<o.2.2.2.2.1.length by omega),tu]
        unfold mG
        simp only[Option.bind_some,cond_true,Bool.not_true,cond_false,Bool.and_self]
        generalize (if(rd (τ:=bH) o.2.2.2.2.1 ((i-1:Nat):Int)).1=(rd (τ:=bH) o.2.2.2.2.1 (i:Int)).1 then decide ((rd (τ:=bH) o.2.2.2.2.1 ((i-1:Nat):Int)).2.1< (rd (τ:=bH) o.2.2.2.2.1 (i:Int)).2.1)else decide ((rd (τ:=bH) o.2.2.2.2.1 ((i-1:Nat):Int)).1< (rd (τ:=bH) o.2.2.2.2.1 (i:Int)).1))=b5
        cases b5<;>rfl
def xk (o:bl) (k:Nat):Int:=
 if cP (rd (τ:=cz) o.2.2.2.2.2 (k:Int)).1 0 255=false then 4 else if k=0 then 0
 else if decide ((rd (τ:=cz) o.2.2.2.2.2 (k:Int)).1≤(rd (τ:=cz) o.2.2.2.2.2 ((k-1:Nat):Int)).1)=true then 24 else 0
theorem C7 (o:bl) (hz:ObjSz o):ie.d o o.2.2.2.2.2 (o.2.2.2.2.2.length:Int) 0=some (ba (xk o) 0 o.2.2.2.2.2.length):=by
 have h3:=hz.s
 rw[de (L:=ie.d o o.2.2.2.2.2 (o.2.2.2.2.2.length:Int)) (xk o) o.2.2.2.2.2.length fun i hi=> ?_]
 ·rw[ie.d_eq,ab,decide_eq_false (Nat.lt_irrefl _),cond_false]
  exact ke _ _ _
 ·rw[ie.d_eq,ab,ae,decide_eq_true hi,ah i _ hi (by omega),(bq _ _ _).1]
  unfold xk
  simp only[Option.bind_some,cond_true]
  by_cases h0:i=0
  ·rw[show decide ((i:Int)>0)=false by simp[h0],if_pos h0]
   cases cP (rd (τ:=cz) o.2.2.2.2.2 (i:Int)).1 0 255<;>rfl
  ·rw[show decide ((i:Int)>0)=true by simp;omega,if_neg h0,fg i (by omega) (by omega),ae,decide_eq_true (show i-1<o.2.2.2.2.2.length by omega)]
   cases cP (rd (τ:=cz) o.2.2.2.2.2 (i:Int)).1 0 255<;>cases decide ((rd (τ:=cz) o.2.2.2.2.2 (i:Int)).1≤(rd (τ:=cz) o.2.2.2.2.2 ((i-1:Nat):Int)).1)<;>rfl
theorem C8 (o:bl) (hz:ObjSz o):DX o=some (ba (xk o) 0 o.2.2.2.2.2.length):=by
 have h3:=hz.s
 rw[MB,de (L:=DX.a o) (xk o) o.2.2.2.2.2.length fun i hi=> ?_]
 ·rw[DX.a_eq,ab,decide_eq_false (Nat.lt_irrefl _),cond_false]
  exact ke _ _ _
 ·rw[DX.a_eq,ab,ae,decide_eq_true hi,ah i _ hi (by omega),(bq _ _ _).2]
  unfold xk
  simp only[Option.bind_some,cond_true]
  by_cases h0:i=0
  ·rw[show decide ((i:Int)>0)=false by simp[h0],if_pos h0]
   cases cP (rd (τ:=cz) o.2.2.2.2.2 (i:Int)).1 0 255<;>rfl
  ·rw[show decide ((i:Int)>0)=true by simp;omega,if_neg h0,fg i (by omega) (by omega),ae,decide_eq_true (show i-1<o.2.2.2.2.2.length by omega)]
   cases cP (rd (τ:=cz) o.2.2.2.2.2 (i:Int)).1 0 255<;>cases decide ((rd (τ:=cz) o.2.2.2.2.2 (i:Int)).1≤(rd (τ:=cz) o.2.2.2.2.2 ((i-1:Nat):Int)).1)<;>rfl
noncomputable def qU (o:bl):Int×Int:=
 if bY o.1=false then(0,3)else if cP o.2.1 0 5=false then(0,27)else if o.2.2.1.length=0 then(0,5)
 else if¬(o.2.2.1.length≤4∧o.2.2.2.1.length≤4∧o.2.2.2.2.1.length≤32∧o.2.2.2.2.2.length≤4)then(0,6)
 else if(ba (mD o) 0 o.2.2.1.length).2≠0 then ba (mD o) 0 o.2.2.1.length
 else if(ba (mE o) 0 o.2.2.2.1.length).2≠0 then ba (mE o) 0 o.2.2.2.1.length
 else if(ba (kI o) 0 o.2.2.2.2.1.length).2≠0 then ba (kI o) 0 o.2.2.2.2.1.length
 else ba (xk o) 0 o.2.2.2.2.2.length
theorem ob {n:Nat} (h:bf n=true):n≤256:=by
 unfold bf at h
 cases h1:bZ n with
 |false=>rw[h1]at h;cases h
 |true=>exact(dN h1).2
theorem fL {o:bl} {i:Nat} (h:mD o i=0):bY (rd (τ:=aC) o.2.2.1 (i:Int)).1=true∧hZ ((cx o).take i) (rd (τ:=aC) o.2.2.1 (i:Int)).1=false∧cS (rd (τ:=aC) o.2.2.1 (i:Int)).2.2.1=true∧bf (rd (τ:=aC) o.2.2.1 (i:Int)).2.2.2.size=true:=by
 unfold mD at h
 cases h1:bY (rd (τ:=aC) o.2.2.1 (i:Int)).1<;>cases h2:hZ ((cx o).take i) (rd (τ:=aC) o.2.2.1 (i:Int)).1<;>cases h3:cS (rd (τ:=aC) o.2.2.1 (i:Int)).2.2.1<;>cases h4:bf (rd (τ:=aC) o.2.2.1 (i:Int)).2.2.2.size<;>simp[h1,h2,h3,h4]at h⊢
theorem eQ {o:bl} {i:Nat} (h:mE o i=0):bY (rd (τ:=aW) o.2.2.2.1 (i:Int)).1=true∧hZ ((cx o).take (o.2.2.1.length+i)) (rd (τ:=aW) o.2.2.2.1 (i:Int)).1=false∧qT (rd (τ:=aW) o.2.2.2.1 (i:Int)).2.size=true:=by
 unfold mE at h
 cases h1:bY (rd (τ:=aW) o.2.2.2.1 (i:Int)).1<;>cases h2:hZ ((cx o).take (o.2.2.1.length+i)) (rd (τ:=aW) o.2.2.2.1 (i:Int)).1<;>cases h4:qT (rd (τ:=aW) o.2.2.2.1 (i:Int)).2.size<;>simp[h1,h2,h4]at h⊢
theorem kf {n:Nat} (h:qT n=true):8≤n∧n≤64∧n%8=0:=by
 unfold qT at h
 rw[Bool.and_eq_true,bd,decide_eq_true_eq,Int.tmod_eq_emod_of_nonneg (by omega)]at h
 omega
theorem tz {o:bl} (hz:ObjSz o) (h1:(ba (mD o) 0 o.2.2.1.length).2=0) (h2:(ba (mE o) 0 o.2.2.2.1.length).2=0):UnitSz o:=
 ⟨hz,fun i hi=>ob (fL ((cK _ _ _).1 h1 i (Nat.zero_le _) (by omega))).2.2.2,fun i hi=>(kf (eQ ((cK _ _ _).1 h2 i (Nat.zero_le _) (by omega))).2.2).2.1⟩
theorem tC (o:bl) (hr:tw o):ie o=some (qU o)∧R5 o=some (qU o):=by
 rw[OC,MC,(db _).1,(db _).2,(bq _ _ _).1,(bq _ _ _).2]
 unfold qU
 simp only[Option.bind_some,aA]
 cases bY o.1 with
 |false=>exact⟨rfl,rfl⟩
 |true=>
  cases cP o.2.1 0 5 with
  |false=>exact⟨rfl,rfl⟩
  |true=>
   by_cases h0:o.2.2.1.length=0
   ·rw[if_pos h0,decide_eq_true (show(o.2.2.1.length:Int)=0 by omega)];exact⟨rfl,rfl⟩
   rw[if_neg h0,decide_eq_false (show¬(o.2.2.1.length:Int)=0 by omega)]
   rcases Classical.em (o.2.2.1.length≤4∧o.2.2.2.1.length≤4∧o.2.2.2.2.1.length≤32∧o.2.2.2.2.2.length≤4)with hz|hz
   ·rw[if_neg (not_not_intro hz),decide_eq_false (show¬(o.2.2.1.length:Int)>4 by omega),decide_eq_false (show¬(o.2.2.2.1.length:Int)>4 by omega),decide_eq_false (show¬(o.2.2.2.2.1.length:Int)>32 by omega),decide_eq_false (show¬(o.2.2.2.2.2.length:Int)>4 by omega)]
    have hz':ObjSz o:=⟨hz.1,hz.2.1,hz.2.2.1,hz.2.2.2⟩
    simp only[Bool.not_true,cond_false]
    rw[CY o hz',C0 o hz']
    simp only[Option.bind_some]
    by_cases h1:(ba (mD o) 0 o.2.2.1.length).2=0
    ·rw[if_pos h1,if_neg (not_not_intro h1),decide_eq_true h1,CZ o hz',C3 o hz']
     simp only[Option.bind_some,Bool.not_true,cond_false]
     by_cases h2:(ba (mE o) 0 o.2.2.2.1.length).2=0
     ·have hu:=tz hz' h1 h2
      rw[if_pos h2,if_neg (not_not_intro h2),decide_eq_true h2,C5 o hu,C6 o hu hr]
      simp only[Option.bind_some,Bool.not_true,cond_false]
      by_cases h3:(ba (kI o) 0 o.2.2.2.2.1.length).2=0
      ·rw[if_pos h3,if_neg (not_not_intro h3),decide_eq_true h3,C7 o hz',C8 o hz'];exact⟨rfl,rfl⟩
      ·rw[if_neg h3,if_pos h3,decide_eq_false h3];exact⟨rfl,rfl⟩
     ·rw[if_neg h2,if_pos h2,decide_eq_false h2];exact⟨rfl,rfl⟩
    ·rw[if_neg h1,if_pos h1,decide_eq_false h1];exact⟨rfl,rfl⟩
   ·rw[if_pos hz]
    have e:(decide ((o.2.2.1.length:Int)>4)||decide ((o.2.2.2.1.length:Int)>4)||decide ((o.2.2.2.2.1.length:Int)>32)||decide ((o.2.2.2.2.2.length:Int)>4))=true:=by simp;omega
    generalize decide ((o.2.2.1.length:Int)>4)=b1 at*
    generalize decide ((o.2.2.2.1.length:Int)>4)=b2 at*
    generalize decide ((o.2.2.2.2.1.length:Int)>32)=b3 at*
    generalize decide ((o.2.2.2.2.2.length:Int)>4)=b4 at*
    cases b1<;>cases b2<;>cases b3<;>cases b4<;>first|exact⟨rfl,rfl⟩|(exact absurd e (by decide))
noncomputable def ia (o:bl):Bool:=decide ((qU o).2=0)
theorem gq (o:bl) (hr:tw o):Qr o=some (ia o)∧R6 o=some (ia o):=by
 rw[OD,MD,(tC o hr).1,(tC o hr).2];exact⟨rfl,rfl⟩
structure dG (o:bl):Prop extends UnitSz o where
 depth:0≤o.2.1∧o.2.1≤5
 pos:0<o.2.2.1.length
 fun_:∀i,i<o.2.2.1.length→mD o i=0
 dat:∀i,i<o.2.2.2.1.length→mE o i=0
 rel:∀i,i<o.2.2.2.2.1.length→kI o i=0
theorem dH {o:bl} (h:ia o=true):dG o:=by
 unfold ia at h
 rw[decide_eq_true_eq]at h
 unfold qU at h
 split at h
 ·cases h
 split at h
 ·cases h
 rename_i hn hd
 split at h
 ·cases h
 split at h
 ·cases h
 rename_i h0 hz
 have hz:=Classical.not_not.1 hz
 split at h
 ·rename_i h1;exact absurd h h1
 split at h
 ·rename_i h2;exact absurd h h2
 split at h
 ·rename_i h3;exact absurd h h3
 rename_i h1 h2 h3
 have h1:=Classical.not_not.1 h1
 have h2:=Classical.not_not.1 h2
 have h3:=Classical.not_not.1 h3
 have hz':ObjSz o:=⟨hz.1,hz.2.1,hz.2.2.1,hz.2.2.2⟩
 have hd:cP o.2.1 0 5=true:=by cases h4:cP o.2.1 0 5;exact absurd h4 hd;rfl
 exact⟨tz hz' h1 h2,bd.1 hd,by omega,fun i hi=>(cK _ _ _).1 h1 i (Nat.zero_le _) (by omega),fun i hi=>(cK _ _ _).1 h2 i (Nat.zero_le _) (by omega),fun i hi=>(cK _ _ _).1 h3 i (Nat.zero_le _) (by omega)⟩
theorem G8 (X:Nat) (h:X<2^64):X&&&(2^64-1-4095)=X/4096*4096:=by
 have e:(2^64-1-4095:Nat)=(2^52-1)*2^12:=by decide
 have e2:X/4096*4096=(X/2^12)*2^12:=by rfl
 rw[e,e2]
 apply Nat.eq_of_testBit_eq
 intro i
 rw[Nat.testBit_and,Nat.testBit_mul_two_pow,Nat.testBit_mul_two_pow,Nat.testBit_two_pow_sub_one,Nat.testBit_div_two_pow]
 by_cases h1:12≤i
 ·rw[show i-12+12=i by omega]
  by_cases h2:i<64
  ·simp[h1];omega
  ·have:X.testBit i=false:=Nat.testBit_lt_two_pow (Nat.lt_of_lt_of_le h (Nat.pow_le_pow_right (by decide) (by omega)))
   rw[this];simp
 ·simp[h1]
def uS (v:Int):Int:=(v+2048)-(v+2048)%4096
def I0 (v:Int):Prop:= -1152921504606846976≤v∧v≤1152921504606846976
theorem nu (v:Int) (h:I0 v):Qs v=some (uS v):=by
 obtain⟨h1,h2⟩:=h
 rw[OY,aV (n:=v+2048) (by omega) (by omega)]
 congr 1
 unfold tY
 have e1:(BitVec.ofInt IntKind.i64.bits (v+2048)&&& ~~~BitVec.ofInt IntKind.i64.bits 4095).toNat=(BitVec.ofInt IntKind.i64.bits (v+2048)).toNat/4096*4096:=by
  rw[BitVec.toNat_and,BitVec.toNat_not]
  have:(BitVec.ofInt IntKind.i64.bits (4095:Int)).toNat=4095:=by decide
  rw[this]
  exact G8 _ (BitVec.isLt _)
 rw[e1]
 have e2:=zc (v+2048)
 generalize (BitVec.ofInt IntKind.i64.bits (v+2048)).toNat=X at*
 unfold uS
 have:(((X/4096*4096:Nat)):Int)=(v+2048)%18446744073709551616/4096*4096:=by omega
 rw[this]
 refine jW (if v+2048<0 then 1 else 0) ?_ (by omega) (by omega)
 split<;>omega
theorem KX (v:Int):cg v 12=v-uS v:=by
 unfold cg uS
 have e1:(2:Int)^12=4096:=by decide
 have e2:(2:Int)^(12-1)=2048:=by decide
 rw[e1,e2]
 split<;>omega
theorem tD (v:Int) (h:I0 v):Pj v=some (v-uS v):=by
 rw[OZ,nu v h]
 simp only[Option.bind_some]
 rw[aV (by have:=h.1;unfold uS;omega) (by unfold uS;omega)]
theorem uO (v:Int) (h:I0 v):Pg v=some (v-uS v):=by
 obtain⟨h1,h2⟩:=h
 rw[ML,iH v 12 (by decide) (by decide) (by omega) (by omega)]
 simp only[Option.bind_some]
 rw[show(12:Int).toNat=12 from rfl,KX]
theorem xl (v:Int) (h:I0 v):Q1 v=some (uS v):=by
 rw[MM,uO v h]
 simp only[Option.bind_some]
 have:v-(v-uS v)=uS v:=by omega
 rw[this,aV (by have:=h.1;unfold uS;omega) (by have:=h.2;unfold uS;omega)]
theorem C9 (f i:Int) (hf:1≤f∧f≤9):Z0 f i=some (my f i):=by
 rw[Pz]
 have t1:decide (i.tmod 4096=0)=decide (i%4096=0):=by
  congr 1;exact propext ⟨fun h=>by rw[←Int.dvd_iff_tmod_eq_zero]at h;omega,fun h=>by rw[←Int.dvd_iff_tmod_eq_zero];omega⟩
 have t2:decide (i.tmod 2=0)=decide (i%2=0):=by
  congr 1;exact propext ⟨fun h=>by rw[←Int.dvd_iff_tmod_eq_zero]at h;omega,fun h=>by rw[←Int.dvd_iff_tmod_eq_zero];omega⟩
 rw[t1,t2]
 simp only[cd,Option.bind_some,aA]
 rcases gP hf with rfl|rfl|rfl|rfl|rfl|rfl|rfl|rfl|rfl
 all_goals simp[my,dD]
 all_goals (try (split<;>simp_all))
 all_goals (try (intro q1 q2;omega))
def xm (x:jg) (k:Int):Bool:=
 if k=1 then decide (x.1=1)else if k=2∨k=5 then decide ((da x.1).1=3)&& !decide (x.1=4)else if k=3∨k=6 then decide ((da x.1).1=5)
 else if k=4 then decide (x.1=2)else if k=7 then decide (x.1=3)else decide ((da x.1).1=4)
def ib (k v p:Int):Int:=
 if k=1 then uS v else if k=2∨k=3 then v-uS v else if k=4 then uS (v-p)else if k=5∨k=6 then v-p+4-uS (v-p+4)else v-p
theorem zy (n:Int) (h:1≤n) (h':n≤64):decide ((da n).1=5)=(decide (18≤n)&&decide (n≤21)):=by
 obtain⟨k,rfl⟩:=td (n:=n) (by omega) h'
 revert k;decide
theorem G9 (x:jg) (h:1≤x.1) (h':x.1≤64):Rx x=some (decide ((da x.1).1=3)&& !decide (x.1=4)):=by
 rw[O0,lF _ (by omega) h']
 simp only[Option.bind_some]
 cases decide ((da x.1).1=3)<;>rfl
theorem zz {k:Int} (h:1≤k∧k≤8):k=1∨k=2∨k=3∨k=4∨k=5∨k=6∨k=7∨k=8:=by omega
def Js (v:Int):Prop:= -1099511627776≤v∧v≤1099511627776
theorem xn (x:jg) (h:1≤x.1) (h':x.1≤64) (k v p:Int) (hk:1≤k∧k≤8) (hv:Js v) (hp:Js p):Sx x k v p=some (ib k v p,xm x k):=by
 have hb:=n8 x.1 h h'
 have hs:=zy x.1 h h'
 rw[O1,G9 x h h',np,qJ,←hb,←hs]
 obtain⟨v1,v2⟩:=hv
 obtain⟨p1,p2⟩:=hp
 rw[aV (n:=v-p) (by omega) (by omega),aV (n:=p-4) (by omega) (by omega),aV (n:=v-(p-4)) (by omega) (by omega),show v-(p-4)=v-p+4 by omega,
  nu v ⟨by omega,by omega⟩,tD v ⟨by omega,by omega⟩,nu (v-p) ⟨by omega,by omega⟩,tD (v-p+4) ⟨by omega,by omega⟩]
 unfold ib xm
 rcases zz hk with rfl|rfl|rfl|rfl|rfl|rfl|rfl|rfl<;>rfl
theorem Ha (x:jg) (h:1≤x.1) (h':x.1≤64) (k:Int) (hk:1≤k∧k≤8):R7 x k=some (xm x k):=by
 rw[MK,eO _ (by omega) h']
 unfold xm
 simp only[Option.bind_some,aA]
 generalize (da x.1).1=f
 rcases zz hk with rfl|rfl|rfl|rfl|rfl|rfl|rfl|rfl<;>first|rfl|(simp only[];cases decide (f=3)<;>rfl)
theorem I1 (k v p:Int) (hk:1≤k∧k≤8) (hv:Js v) (hp:Js p):R8 k v p=some (ib k v p):=by
 obtain⟨v1,v2⟩:=hv
 obtain⟨p1,p2⟩:=hp
 rw[MN,aV (n:=v-p) (by omega) (by omega),aV (n:=v-p+4) (by omega) (by omega),xl v ⟨by omega,by omega⟩,uO v ⟨by omega,by omega⟩,xl (v-p) ⟨by omega,by omega⟩,uO (v-p+4) ⟨by omega,by omega⟩]
 unfold ib
 rcases zz hk with rfl|rfl|rfl|rfl|rfl|rfl|rfl|rfl<;>rfl
theorem xp (k v p:Int) (hv:Js v) (hp:Js p):QN (ib k v p):=by
 obtain⟨v1,v2⟩:=hv
 obtain⟨p1,p2⟩:=hp
 unfold ib QN uS
 repeat' split
 all_goals omega
theorem Da {x:jg} {i:Int} (h:fw x=true):fw (x.1,x.2.1,x.2.2.1,x.2.2.2.1,i)=my (da x.1).1 i:=by
 unfold fw at h⊢
 simp only[Bool.and_eq_true]at h
 simp only[h.1,Bool.and_self,Bool.true_and]
theorem I2 {i:Int} (h:my 1 i=true):i%4096=0:=by
 unfold my at h
 rw[if_pos rfl]at h
 simp only[Bool.and_eq_true,decide_eq_true_eq]at h
 exact h.2
theorem rW (w k v p:Int) (hw:0≤w∧w<4294967296) (hk:1≤k∧k≤8) (hv:Js v) (hp:Js p):∃r,Z1 w k v p=some r∧R9 w k v p=some r:=by
 obtain⟨d,h1,h2,hd⟩:=n6 w hw.1 hw.2
 rw[PA,MO,h1,h2]
 simp only[Option.bind_some]
 cases hb:d.2 with
 |false=>exact⟨(0,10),rfl,rfl⟩
 |true=>
  obtain⟨n1,n2,hr,hri⟩:=hd.ins hw.1 hw.2 hb
  rw[xn _ n1 n2 k v p hk hv hp,Ha _ n1 n2 k hk,I1 k v p hk hv hp,lF _ (by omega) n2]
  simp only[Option.bind_some,Bool.not_true,cond_false]
  cases xm d.1 k with
  |false=>exact⟨(0,26),rfl,rfl⟩
  |true=>
   rw[C9 _ _ (iK n1 n2),jX,Da hri]
   simp only[Option.bind_some,Bool.not_true,cond_false]
   cases hi:my (da d.1.1).1 (ib k v p)with
   |false=>exact⟨(0,25),rfl,rfl⟩
   |true=>
    have hR:lH (d.1.1,d.1.2.1,d.1.2.2.1,d.1.2.2.2.1,ib k v p):=⟨hr.d,hr.a,hr.b,xp k v p hv hp⟩
    rw[fq (d.1.1,d.1.2.1,d.1.2.2.1,d.1.2.2.2.1,ib k v p) n1 n2 hR,ft (d.1.1,d.1.2.1,d.1.2.2.1,d.1.2.2.2.1,ib k v p) n1 n2 hR fun h=>by
     rw[show(da d.1.1).1=1 from h]at hi;exact I2 hi]
    exact⟨_,rfl,rfl⟩
theorem Db (L:Int→Option Int) (c:Nat→Int) (n:Nat) (hstep:∀i:Nat,i<n→L (i:Int)=if c i=0 then L ((i+1:Nat):Int)else some (c i)):
  ∀k i:Nat,i+k=n→L (i:Int)=if(ba c i k).2=0 then L (n:Int)else some (ba c i k).2:=by
 intro k
 induction k with
 |zero=>
   intro i h;have:i=n:=by omega
   subst this;rfl
 |succ k ih=>
  intro i h
  rw[hstep i (by omega),ih (i+1) (by omega),ba]
  by_cases h:c i=0
  ·rw[if_pos h,if_pos h]
  ·rw[if_neg h,if_neg h,if_neg h]
theorem jk {L:Int→Option Int} (c:Nat→Int) (n:Nat) (hstep:∀i:Nat,i<n→L (i:Int)=if c i=0 then L ((i+1:Nat):Int)else some (c i)):L 0=if(ba c 0 n).2=0 then L (n:Int)else some (ba c 0 n).2:=
 Db L c n hstep n 0 (by omega)
abbrev eX:Type:=List Int×List ByteArray×List Int×List ByteArray
abbrev SI:Type:=eX×List cW×bl
theorem dW (t:List cW) (n:ByteArray):cj t n= -1∨(0≤cj t n∧cj t n< (t.length:Int)):=by
 unfold cj
 rcases ct (fun i=>decide ((rd (τ:=a6) t (i:Int)).1=n)) t.length 0 with⟨h,_⟩|⟨j,h1,_,h3,_⟩
 ·exact .inl h
 ·rw[h1];exact .inr ⟨by omega,by omega⟩
def DK (t:List cW) (o:bl) (i:Nat):Int:=
 if(rd (τ:=aC) o.2.2.1 (i:Int)).2.1=true then(if cj t (rd (τ:=aC) o.2.2.1 (i:Int)).1<0 then 23 else if(rd (τ:=a6) t (cj t (rd (τ:=aC) o.2.2.1 (i:Int)).1)).2.1=1 then 0 else 26)
 else if cj t (rd (τ:=aC) o.2.2.1 (i:Int)).1≥0 then 24 else 0
def Jt (t:List cW) (o:bl) (i:Nat):Int:=if cj t (rd (τ:=aW) o.2.2.2.1 (i:Int)).1≥0 then 24 else 0
def gt (t:List cW) (o:bl):Int:=
 if(ba (DK t o) 0 o.2.2.1.length).2=0 then(ba (Jt t o) 0 o.2.2.2.1.length).2 else(ba (DK t o) 0 o.2.2.1.length).2
theorem xq (c:Nat→Int) (i k:Nat):(if(ba c i k).2=0 then some (0:Int)else some (ba c i k).2)=some (ba c i k).2:=by
 by_cases h:(ba c i k).2=0
 ·rw[if_pos h,h]
 ·rw[if_neg h]
theorem zA (l:eX) (t:List cW) (o:bl) (ht:t.length≤64) (hz:ObjSz o):rf (l,t,o)=some (gt t o):=by
 have h1:=hz.f
 have h2:=hz.d
 rw[OT]
 show rf.a (l,t,o) o.2.2.1 (o.2.2.1.length:Int) 0=_
 rw[jk (L:=rf.a (l,t,o) o.2.2.1 (o.2.2.1.length:Int)) (DK t o) o.2.2.1.length fun i hi=> ?_]
 ·rw[rf.a_eq,ab,decide_eq_false (Nat.lt_irrefl _),cond_false]
  show(if _ then rf.b (l,t,o) o.2.2.2.1 (o.2.2.2.1.length:Int) 0 else _)=_
  rw[jk (L:=rf.b (l,t,o) o.2.2.2.1 (o.2.2.2.1.length:Int)) (Jt t o) o.2.2.2.1.length fun i hi=> ?_]
  ·rw[rf.b_eq,ab,decide_eq_false (Nat.lt_irrefl _),cond_false,xq]
   unfold gt
   split<;>rfl
  ·rw[rf.b_eq,ab,ae,decide_eq_true hi,ah i _ hi (by omega),(dO t _ (by omega)).1]
   unfold Jt
   simp only[cond_true,Option.bind_some]
   by_cases h:cj t (rd (τ:=aW) o.2.2.2.1 (i:Int)).1≥0
   ·rw[if_pos h,decide_eq_true h];rfl
   ·rw[if_neg h,decide_eq_false h];rfl
 ·rw[rf.a_eq,ab,ae,decide_eq_true hi,ah i _ hi (by omega),(dO t _ (by omega)).1]
  unfold DK
  simp only[cond_true,Option.bind_some,aA]
  have hr:=dW t (rd (τ:=aC) o.2.2.1 (i:Int)).1
  generalize cj t (rd (τ:=aC) o.2.2.1 (i:Int)).1=e at*
  cases (rd (τ:=aC) o.2.2.1 (i:Int)).2.1 with
  |false=>
   by_cases h:e≥0
   ·simp only[Bool.false_eq_true,if_false,if_pos h,decide_eq_true h];rfl
   ·simp only[Bool.false_eq_true,if_false,if_neg h,decide_eq_false h];rfl
  |true=>
   rcases hr with h|h
   ·simp only[if_true,if_pos (show e<0 by omega),decide_eq_true (show e<0 by omega)];rfl
   ·simp only[if_true,if_neg (show¬e<0 by omega),decide_eq_false (show¬e<0 by omega),inL_true h.1 h.2]
    by_cases h3:(rd (τ:=a6) t e).2.1=1
    ·simp only[if_pos h3,decide_eq_true h3];rfl
    ·simp only[if_neg h3,decide_eq_false h3];rfl
theorem zB (t:List cW) (o:bl) (ht:t.length≤64) (hz:ObjSz o):tF t o=some (gt t o):=by
 have h1:=hz.f
 have h2:=hz.d
 rw[MF]
 rw[jk (L:=tF.a t o) (DK t o) o.2.2.1.length fun i hi=> ?_]
 ·rw[tF.a_eq,ab,decide_eq_false (Nat.lt_irrefl _),cond_false]
  rw[jk (L:=tF.b t o) (Jt t o) o.2.2.2.1.length fun i hi=> ?_]
  ·rw[tF.b_eq,ab,decide_eq_false (Nat.lt_irrefl _),cond_false,xq]
   unfold gt
   split<;>rfl
  ·rw[tF.b_eq,ab,ae,decide_eq_true hi,ah i _ hi (by omega),(dO t _ (by omega)).2]
   unfold Jt
   simp only[cond_true,Option.bind_some]
   by_cases h:cj t (rd (τ:=aW) o.2.2.2.1 (i:Int)).1≥0
   ·rw[if_pos h,decide_eq_true h];rfl
   ·rw[if_neg h,decide_eq_false h];rfl
 ·rw[tF.a_eq,ab,ae,decide_eq_true hi,ah i _ hi (by omega),(dO t _ (by omega)).2]
  unfold DK
  simp only[cond_true,Option.bind_some]
  have hr:=dW t (rd (τ:=aC) o.2.2.1 (i:Int)).1
  generalize cj t (rd (τ:=aC) o.2.2.1 (i:Int)).1=e at*
  cases (rd (τ:=aC) o.2.2.1 (i:Int)).2.1 with
  |false=>
   by_cases h:e≥0
   ·simp only[Bool.false_eq_true,if_false,if_pos h,decide_eq_true h];rfl
   ·simp only[Bool.false_eq_true,if_false,if_neg h,decide_eq_false h];rfl
  |true=>
   rcases hr with h|h
   ·simp only[if_true,if_pos (show e<0 by omega),decide_eq_true (show e<0 by omega)];rfl
   ·simp only[if_true,if_neg (show¬e<0 by omega),decide_eq_false (show¬e<0 by omega),inL_true h.1 h.2]
    by_cases h3:(rd (τ:=a6) t e).2.1=1
    ·simp only[if_pos h3,decide_eq_true h3];rfl
    ·simp only[if_neg h3,decide_eq_false h3];rfl
structure ce (a:bm):Prop where
 base:0≤a.1∧a.1≤1048575∧a.1%8=0
 size:0≤a.2.1∧a.2.1≤1048576-a.1∧a.2.1%8=0
 top:a.1≤a.2.2∧a.2.2≤a.1+a.2.1∧a.2.2%8=0
theorem nv (n:Int):n.tmod 8=0↔n%8=0:=⟨fun h=>by rw[←Int.dvd_iff_tmod_eq_zero]at h;omega,fun h=>by rw[←Int.dvd_iff_tmod_eq_zero];omega⟩
theorem tE {a:bm}:AC a=true↔ce a:=by
 unfold AC
 simp only[Bool.and_eq_true,bd,decide_eq_true_eq,nv]
 constructor
 ·rintro⟨⟨⟨⟨⟨h1,h2⟩,h3⟩,h4⟩,h5⟩,h6⟩
  rw[aV (n:=1048576-a.1) (by omega) (by omega)]at h2
  rw[aV (n:=a.1+a.2.1) (by omega) (by omega)]at h3
  exact⟨⟨h1.1,h1.2,h4⟩,⟨h2.1,h2.2,h5⟩,⟨h3.1,h3.2,h6⟩⟩
 ·rintro⟨⟨h1,h2,h3⟩,⟨h4,h5,h6⟩,h7,h8,h9⟩
  rw[aV (n:=1048576-a.1) (by omega) (by omega),aV (n:=a.1+a.2.1) (by omega) (by omega)]
  exact⟨⟨⟨⟨⟨⟨h1,h2⟩,h4,h5⟩,h7,h8⟩,h3⟩,h6⟩,h9⟩
def qZ (n:Nat):Nat:=(n+7)/8*8
def aE (a:bm) (n:Nat):bm×Int×Bool:=if(qZ n:Int)>a.1+a.2.1-a.2.2 then(a,0,false)else((a.1,a.2.1,a.2.2+(qZ n:Int)),a.2.2,true)
theorem df {a:bm} (h:ce a) (n:Nat):ce (aE a n).1:=by
 unfold aE
 split
 ·exact h
 ·obtain⟨⟨h1,h2,h3⟩,⟨h4,h5,h6⟩,h7,h8,h9⟩:=h
  have:qZ n%8=0:=by unfold qZ;omega
  refine⟨⟨h1,h2,h3⟩,⟨h4,h5,h6⟩, ?_, ?_, ?_⟩<;>simp only<;>omega
theorem kg (a:bm) (h:ce a) (n:Nat) (hn:n≤256):Rv a (n:Int)=some (aE a n):=by
 obtain⟨⟨h1,h2,h3⟩,⟨h4,h5,h6⟩,h7,h8,h9⟩:=h
 rw[OU,aV (n:=(n:Int)+7) (by omega) (by omega),Int.tdiv_eq_ediv_of_nonneg (by omega),aV (n:=((n:Int)+7)/8) (by omega) (by omega),aV (n:=((n:Int)+7)/8*8) (by omega) (by omega),aV (n:=a.1+a.2.1) (by omega) (by omega),aV (n:=a.1+a.2.1-a.2.2) (by omega) (by omega),show((n:Int)+7)/8*8=(qZ n:Int) by unfold qZ;omega]
 have:qZ n≤264:=by unfold qZ;omega
 rw[aV (n:=a.2.2+(qZ n:Int)) (by omega) (by omega)]
 unfold aE
 by_cases h:(qZ n:Int)>a.1+a.2.1-a.2.2
 ·rw[if_pos h,decide_eq_true h];rfl
 ·rw[if_neg h,decide_eq_false h];rfl
theorem ow (a:bm) (h:ce a) (z:bm):∀(k n:Nat),n+k=qZ n→n≤256→DY.a (n:Int) a z=some (aE a n):=by
 obtain⟨⟨h1,h2,h3⟩,⟨h4,h5,h6⟩,h7,h8,h9⟩:=h
 intro k
 induction k with
 |zero=>
  intro n hn hn2
  have h0:n%8=0:=by unfold qZ at hn;omega
  have e:decide ((n:Int).tmod 8=0)=true:=decide_eq_true ((nv _).2 (by omega))
  rw[DY.a_eq,e,aV (n:=a.1+a.2.1) (by omega) (by omega),aV (n:=a.1+a.2.1-a.2.2) (by omega) (by omega),aV (n:=a.2.2+(n:Int)) (by omega) (by omega)]
  unfold aE
  rw[←hn,Nat.add_zero]
  by_cases h:(n:Int)>a.1+a.2.1-a.2.2
  ·rw[if_pos h,decide_eq_true h];rfl
  ·rw[if_neg h,decide_eq_false h];rfl
 |succ k ih=>
  intro n hn hn2
  have h0:n%8≠0:=by unfold qZ at hn;omega
  have h256:n≠256:=by intro h;subst h;exact h0 rfl
  have e:decide ((n:Int).tmod 8=0)=false:=decide_eq_false (fun h=>h0 (by have:=(nv _).1 h;omega))
  have hu:qZ (n+1)=qZ n:=by unfold qZ;omega
  rw[DY.a_eq,e,aV (n:=(n:Int)+1) (by omega) (by omega)]
  simp only[Bool.not_false,cond_true]
  rw[show(n:Int)+1=((n+1:Nat):Int) by omega,ih (n+1) (by rw[hu];omega) (by omega)]
  unfold aE
  rw[hu]
theorem ki (a:bm) (h:ce a) (n:Nat) (hn:n≤256):DY a (n:Int)=some (aE a n):=by
 rw[MG];exact ow a h _ (qZ n-n) n (by unfold qZ;omega) hn
def eg (sz:Nat→Nat) (a:bm):Nat→Nat→bm×List Int×Bool
 |_,0=>(a,[],true)
 |i,k+1=>((eg sz (aE a (sz i)).1 (i+1) k).1,(aE a (sz i)).2.1::(eg sz (aE a (sz i)).1 (i+1) k).2.1,(aE a (sz i)).2.2&&(eg sz (aE a (sz i)).1 (i+1) k).2.2)
theorem dX (sz:Nat→Nat):∀k i a,(eg sz a i k).2.1.length=k
 |0,_,_=>rfl
 |k+1,i,a=>by rw[eg,List.length_cons,dX sz k]
theorem qV (sz:Nat→Nat):∀k i a,ce a→ce (eg sz a i k).1
 |0,_,_,h=>h
 |k+1,i,a,h=>by rw[eg];exact qV sz k (i+1) _ (df h _)
def gw (o:bl) (i:Nat):Nat:=(rd (τ:=aC) o.2.2.1 (i:Int)).2.2.2.size
def la (o:bl) (i:Nat):Nat:=(rd (τ:=aW) o.2.2.2.1 (i:Int)).2.size
def lb (o:bl) (i:Nat):ByteArray:=(rd (τ:=aC) o.2.2.1 (i:Int)).2.2.2
def kj (o:bl) (i:Nat):ByteArray:=(rd (τ:=aW) o.2.2.2.1 (i:Int)).2
def after (f:Int) (ok:Bool):Int:=if f=0∧ok=false then 7 else f
theorem kk (f:Int) (a b:Bool):after (after f a) b=after f (a&&b):=by
 unfold after
 cases a<;>cases b<;>by_cases h:f=0<;>simp[h]
theorem zC (o:bl) (hz:UnitSz o) (x6:bm) (x8:eX) (x9 x10:bm) (r:List cW×bl) (l3:List Int) (l4:List ByteArray):∀(k i:Nat) (a:bm) (ats:List Int) (codes:List ByteArray) (f:Int),i+k=o.2.2.1.length→ce a→ats.length=i→codes.length=i→
  Z4.a a x6 o x8 x9 x10 ((ats,codes,l3,l4),r) f o.2.2.1 (o.2.2.1.length:Int) (i:Int)=
   Z4.b (eg (gw o) a i k).1 x6 o x8 x9 x10 ((ats++(eg (gw o) a i k).2.1,codes++bc (lb o) i k,l3,l4),r) (after f (eg (gw o) a i k).2.2) o.2.2.2.1 (o.2.2.2.1.length:Int) 0:=by
 have h4:=hz.f
 intro k
 induction k with
 |zero=>
  intro i a ats codes f hk ha h1 h2
  have:i=o.2.2.1.length:=by omega
  subst this
  rw[Z4.a_eq,ab,decide_eq_false (Nat.lt_irrefl _),cond_false,eg,bc,List.append_nil,List.append_nil]
  simp[after]
 |succ k ih=>
  intro i a ats codes f hk ha h1 h2
  have hi:i<o.2.2.1.length:=by omega
  rw[Z4.a_eq,ab,ae,decide_eq_true hi,ah i _ hi (by omega)]
  rw[kg a ha _ (by have:=hz.fs i hi;omega)]
  simp only[cond_true,Option.bind_some,aA]
  rw[k9 _ (by simp;omega),ka _ (by simp;omega)]
  simp only[cond_true]
  have e:(bif decide (f=0)then bif !(aE a (rd (τ:=aC) o.2.2.1 (i:Int)).2.2.2.size).2.2 then Z4.a (aE a (rd (τ:=aC) o.2.2.1 (i:Int)).2.2.2.size).1 x6 o x8 x9 x10 ((ats++[(aE a (rd (τ:=aC) o.2.2.1 (i:Int)).2.2.2.size).2.1],codes++[(rd (τ:=aC) o.2.2.1 (i:Int)).2.2.2],l3,l4),r) 7 o.2.2.1 (o.2.2.1.length:Int) ((i+1:Nat):Int)
    else Z4.a (aE a (rd (τ:=aC) o.2.2.1 (i:Int)).2.2.2.size).1 x6 o x8 x9 x10 ((ats++[(aE a (rd (τ:=aC) o.2.2.1 (i:Int)).2.2.2.size).2.1],codes++[(rd (τ:=aC) o.2.2.1 (i:Int)).2.2.2],l3,l4),r) f o.2.2.1 (o.2.2.1.length:Int) ((i+1:Nat):Int)
    else bif false then Z4.a (aE a (rd (τ:=aC) o.2.2.1 (i:Int)).2.2.2.size).1 x6 o x8 x9 x10 ((ats++[(aE a (rd (τ:=aC) o.2.2.1 (i:Int)).2.2.2.size).2.1],codes++[(rd (τ:=aC) o.2.2.1 (i:Int)).2.2.2],l3,l4),r) 7 o.2.2.1 (o.2.2.1.length:Int) ((i+1:Nat):Int)
    else Z4.a (aE a (rd (τ:=aC) o.2.2.1 (i:Int)).2.2.2.size).1 x6 o x8 x9 x10 ((ats++[(aE a (rd (τ:=aC) o.2.2.1 (i:Int)).2.2.2.size).2.1],codes++[(rd (τ:=aC) o.2.2.1 (i:Int)).2.2.2],l3,l4),r) f o.2.2.1 (o.2.2.1.length:Int) ((i+1:Nat):Int))=
    Z4.a (aE a (gw o i)).1 x6 o x8 x9 x10 ((ats++[(aE a (gw o i)).2.1],codes++[lb o i],l3,l4),r) (after f (aE a (gw o i)).2.2) o.2.2.1 (o.2.2.1.length:Int) ((i+1:Nat):Int):=by
   unfold after gw lb
   generalize aE a (rd (τ:=aC) o.2.2.1 (i:Int)).2.2.2.size=p
   by_cases h:f=0
   ·rw[decide_eq_true h]
    cases hp:p.2.2<;>simp[h]
   ·rw[decide_eq_false h];simp[h]
  rw[e,ih (i+1) _ _ _ _ (by omega) (df ha _) (by simp;omega) (by simp;omega),eg,bc,kk,List.append_assoc,List.append_assoc]
  rfl
theorem zD (o:bl) (hz:UnitSz o) (x5:bm) (x8:eX) (x9 x10:bm) (r:List cW×bl) (l1:List Int) (l2:List ByteArray):∀(k i:Nat) (a:bm) (ats:List Int) (codes:List ByteArray) (f:Int),i+k=o.2.2.2.1.length→ce a→ats.length=i→codes.length=i→
  Z4.b x5 a o x8 x9 x10 ((l1,l2,ats,codes),r) f o.2.2.2.1 (o.2.2.2.1.length:Int) (i:Int)=
   Z4.c x5 (eg (la o) a i k).1 o x8 x9 x10 ((l1,l2,ats++(eg (la o) a i k).2.1,codes++bc (kj o) i k),r) (after f (eg (la o) a i k).2.2) o.2.2.2.2.1 (o.2.2.2.2.1.length:Int) 0:=by
 have h4:=hz.d
 intro k
 induction k with
 |zero=>
  intro i a ats codes f hk ha h1 h2
  have:i=o.2.2.2.1.length:=by omega
  subst this
  rw[Z4.b_eq,ab,decide_eq_false (Nat.lt_irrefl _),cond_false,eg,bc,List.append_nil,List.append_nil]
  simp[after]
 |succ k ih=>
  intro i a ats codes f hk ha h1 h2
  have hi:i<o.2.2.2.1.length:=by omega
  rw[Z4.b_eq,ab,ae,decide_eq_true hi,ah i _ hi (by omega)]
  rw[kg a ha _ (by have:=hz.ds i hi;omega)]
  simp only[cond_true,Option.bind_some,aA]
  rw[k9 _ (by simp;omega),ka _ (by simp;omega)]
  simp only[cond_true]
  have e:(bif decide (f=0)then bif !(aE a (rd (τ:=aW) o.2.2.2.1 (i:Int)).2.size).2.2 then Z4.b x5 (aE a (rd (τ:=aW) o.2.2.2.1 (i:Int)).2.size).1 o x8 x9 x10 ((l1,l2,ats++[(aE a (rd (τ:=aW) o.2.2.2.1 (i:Int)).2.size).2.1],codes++[(rd (τ:=aW) o.2.2.2.1 (i:Int)).2]),r) 7 o.2.2.2.1 (o.2.2.2.1.length:Int) ((i+1:Nat):Int)
    else Z4.b x5 (aE a (rd (τ:=aW) o.2.2.2.1 (i:Int)).2.size).1 o x8 x9 x10 ((l1,l2,ats++[(aE a (rd (τ:=aW) o.2.2.2.1 (i:Int)).2.size).2.1],codes++[(rd (τ:=aW) o.2.2.2.1 (i:Int)).2]),r) f o.2.2.2.1 (o.2.2.2.1.length:Int) ((i+1:Nat):Int)
    else bif false then Z4.b x5 (aE a (rd (τ:=aW) o.2.2.2.1 (i:Int)).2.size).1 o x8 x9 x10 ((l1,l2,ats++[(aE a (rd (τ:=aW) o.2.2.2.1 (i:Int)).2.size).2.1],codes++[(rd (τ:=aW) o.2.2.2.1 (i:Int)).2]),r) 7 o.2.2.2.1 (o.2.2.2.1.length:Int) ((i+1:Nat):Int)
    else Z4.b x5 (aE a (rd (τ:=aW) o.2.2.2.1 (i:Int)).2.size).1 o x8 x9 x10 ((l1,l2,ats++[(aE a (rd (τ:=aW) o.2.2.2.1 (i:Int)).2.size).2.1],codes++[(rd (τ:=aW) o.2.2.2.1 (i:Int)).2]),r) f o.2.2.2.1 (o.2.2.2.1.length:Int) ((i+1:Nat):Int))=
    Z4.b x5 (aE a (la o i)).1 o x8 x9 x10 ((l1,l2,ats++[(aE a (la o i)).2.1],codes++[kj o i]),r) (after f (aE a (la o i)).2.2) o.2.2.2.1 (o.2.2.2.1.length:Int) ((i+1:Nat):Int):=by
   unfold after la kj
   generalize aE a (rd (τ:=aW) o.2.2.2.1 (i:Int)).2.size=p
   by_cases h:f=0
   ·rw[decide_eq_true h]
    cases hp:p.2.2<;>simp[h]
   ·rw[decide_eq_false h];simp[h]
  rw[e,ih (i+1) _ _ _ _ (by omega) (df ha _) (by simp;omega) (by simp;omega),eg,bc,kk,List.append_assoc,List.append_assoc]
  rfl
theorem zE (o:bl) (hz:UnitSz o) (x4:bm) (x6:eX) (x7 x8:bm) (l3:List Int) (l4:List ByteArray):∀(k i:Nat) (a:bm) (ats:List Int) (codes:List ByteArray),i+k=o.2.2.1.length→ce a→ats.length=i→codes.length=i→
  ((eg (gw o) a i k).2.2=true→qX.a a x4 o x6 x7 x8 (ats,codes,l3,l4) (i:Int)=qX.b (eg (gw o) a i k).1 x4 o x6 x7 x8 (ats++(eg (gw o) a i k).2.1,codes++bc (lb o) i k,l3,l4) 0)∧
  ((eg (gw o) a i k).2.2=false→∃r,qX.a a x4 o x6 x7 x8 (ats,codes,l3,l4) (i:Int)=some r∧r.2.2.2=false):=by
 have h4:=hz.f
 intro k
 induction k with
 |zero=>
  intro i a ats codes hk ha h1 h2
  have:i=o.2.2.1.length:=by omega
  subst this
  rw[qX.a_eq,ab,decide_eq_false (Nat.lt_irrefl _),cond_false,eg,bc,List.append_nil,List.append_nil]
  exact⟨fun _=>rfl,fun h=>by cases h⟩
 |succ k ih=>
  intro i a ats codes hk ha h1 h2
  have hi:i<o.2.2.1.length:=by omega
  rw[qX.a_eq,ab,ae,decide_eq_true hi,ah i _ hi (by omega)]
  rw[ki a ha _ (by have:=hz.fs i hi;omega)]
  simp only[cond_true,Option.bind_some]
  rw[k9 _ (by simp;omega),ka _ (by simp;omega)]
  simp only[cond_true]
  obtain⟨i1,i2⟩:=ih (i+1) (aE a (gw o i)).1 (ats++[(aE a (gw o i)).2.1]) (codes++[lb o i]) (by omega) (df ha _) (by simp;omega) (by simp;omega)
  rw[eg,bc]
  rw[show aE a (rd (τ:=aC) o.2.2.1 (i:Int)).2.2.2.size=aE a (gw o i) from rfl]
  cases hp:(aE a (gw o i)).2.2 with
  |false=>exact⟨fun h=>by simp at h,fun _=>⟨_,rfl,rfl⟩⟩
  |true=>
   simp only[Bool.true_and,Bool.not_true,cond_false]
   refine⟨fun h=> ?_,fun h=>i2 h⟩
   have:=i1 h
   rw[List.append_assoc,List.append_assoc]at this
   exact this
theorem zG (o:bl) (hz:UnitSz o) (x3:bm) (x6:eX) (x7 x8:bm) (l1:List Int) (l2:List ByteArray):∀(k i:Nat) (a:bm) (ats:List Int) (codes:List ByteArray),i+k=o.2.2.2.1.length→ce a→ats.length=i→codes.length=i→
  ((eg (la o) a i k).2.2=true→qX.b x3 a o x6 x7 x8 (l1,l2,ats,codes) (i:Int)=some ((l1,l2,ats++(eg (la o) a i k).2.1,codes++bc (kj o) i k),x3,(eg (la o) a i k).1,true))∧
  ((eg (la o) a i k).2.2=false→∃r,qX.b x3 a o x6 x7 x8 (l1,l2,ats,codes) (i:Int)=some r∧r.2.2.2=false):=by
 have h4:=hz.d
 intro k
 induction k with
 |zero=>
  intro i a ats codes hk ha h1 h2
  have:i=o.2.2.2.1.length:=by omega
  subst this
  rw[qX.b_eq,ab,decide_eq_false (Nat.lt_irrefl _),cond_false,eg,bc,List.append_nil,List.append_nil]
  exact⟨fun _=>rfl,fun h=>by cases h⟩
 |succ k ih=>
  intro i a ats codes hk ha h1 h2
  have hi:i<o.2.2.2.1.length:=by omega
  rw[qX.b_eq,ab,ae,decide_eq_true hi,ah i _ hi (by omega)]
  rw[ki a ha _ (by have:=hz.ds i hi;omega)]
  simp only[cond_true,Option.bind_some]
  rw[k9 _ (by simp;omega),ka _ (by simp;omega)]
  simp only[cond_true]
  obtain⟨i1,i2⟩:=ih (i+1) (aE a (la o i)).1 (ats++[(aE a (la o i)).2.1]) (codes++[kj o i]) (by omega) (df ha _) (by simp;omega) (by simp;omega)
  rw[eg,bc]
  rw[show aE a (rd (τ:=aW) o.2.2.2.1 (i:Int)).2.size=aE a (la o i) from rfl]
  cases hp:(aE a (la o i)).2.2 with
  |false=>exact⟨fun h=>by simp at h,fun _=>⟨_,rfl,rfl⟩⟩
  |true=>
   simp only[Bool.true_and,Bool.not_true,cond_false]
   refine⟨fun h=> ?_,fun h=>i2 h⟩
   have:=i1 h
   rw[List.append_assoc,List.append_assoc]at this
   exact this
def dp (o:bl) (a b:bm):eX×bm×bm×Bool:=
 (((eg (gw o) a 0 o.2.2.1.length).2.1,bc (lb o) 0 o.2.2.1.length,(eg (la o) b 0 o.2.2.2.1.length).2.1,bc (kj o) 0 o.2.2.2.1.length),
  (eg (gw o) a 0 o.2.2.1.length).1,(eg (la o) b 0 o.2.2.2.1.length).1,(eg (gw o) a 0 o.2.2.1.length).2.2&&(eg (la o) b 0 o.2.2.2.1.length).2.2)
theorem Hb (o:bl) (hz:UnitSz o) (a b:bm) (ha:ce a) (hb:ce b):((dp o a b).2.2.2=true→qX a b o=some (dp o a b))∧((dp o a b).2.2.2=false→∃r,qX a b o=some r∧r.2.2.2=false):=by
 rw[MH]
 obtain⟨f1,f2⟩:=zE o hz b ([],[],[],[]) (0,0,0) (0,0,0) [] [] o.2.2.1.length 0 a [] [] (by omega) ha rfl rfl
 obtain⟨d1,d2⟩:=zG o hz (eg (gw o) a 0 o.2.2.1.length).1 ([],[],[],[]) (0,0,0) (0,0,0) (eg (gw o) a 0 o.2.2.1.length).2.1 (bc (lb o) 0 o.2.2.1.length) o.2.2.2.1.length 0 b [] [] (by omega) hb rfl rfl
 simp only[List.nil_append]at f1 d1
 unfold dp
 simp only
 cases h1:(eg (gw o) a 0 o.2.2.1.length).2.2 with
 |false=>exact⟨fun h=>(by cases h),fun _=>f2 h1⟩
 |true=>
  rw[Bool.true_and]
  refine⟨fun h=> ?_,fun h=> ?_⟩
  ·rw[h]
   exact(f1 h1).trans (d1 h)
  ·obtain⟨r,h3,h4⟩:=d2 h
   exact⟨r,(f1 h1).trans h3,h4⟩
end Go.Proofs.YtnjljkceeijaaaaGreat.S
