import Derived.Test.YtijpmnicihmoaaaGreatDoorSxI
import Derived.IntWalk
import Derived.Lib.AtoiAllCases
import Derived.Lib.IndexBytes
import Derived.Lib.IndexLaws
import Derived.Lib.SplitLaws
namespace Go.Proofs.YtijpmnicihmoaaaGreatDoor.S
open Go.Ps
set_option linter.unusedVariables false
set_option maxRecDepth 100000
theorem aT {n:Int} (h: -9223372036854775808≤n) (h':n≤9223372036854775807):IntKind.wrap .i64 n=n:=IntWalk.i64_in n ⟨h,h'⟩
theorem mA (n:Int):Rn n=Sm n:=by rw[Gr,Mj]
theorem xd (n:Int):Ss n=SY n:=by rw[Gs,Mk]
theorem Cw (t:ByteArray) (ht:t.size≤20):∀(k:Nat) (i:Int),0≤i→t.size≤i.toNat+k→o9.a t i=uV.a t i:=by
 intro k
 induction k with
 |zero=>
  intro i h0 hk
  have:decide (i< (t.size:Int))=false:=by simp;omega
  rw[o9.a_eq,uV.a_eq,this];rfl
 |succ k ih=>
  intro i h0 hk
  rw[o9.a_eq,uV.a_eq,mA,xd]
  by_cases hi:i< (t.size:Int)
  ·rw[aT (n:=i+1) (by omega) (by omega),ih (i+1) (by omega) (by omega)]
  ·rw[show decide (i< (t.size:Int))=false by simp;omega];rfl
theorem Ov (t:ByteArray):o9 t=uV t:=by
 rw[Gt,Gf,ze]
 by_cases h1:(t.size:Int)<1
 ·rw[show decide ((1:Int)≤(t.size:Int))=false by simp;omega,show decide ((t.size:Int)<1)=true by simp;omega];rfl
 ·rw[show decide ((1:Int)≤(t.size:Int))=true by simp;omega,show decide ((t.size:Int)<1)=false by simp;omega]
  by_cases h2:(t.size:Int)>20
  ·rw[show decide ((t.size:Int)>20)=true by simp;omega,show decide ((t.size:Int)≤20)=false by simp;omega];rfl
  ·rw[show decide ((t.size:Int)>20)=false by simp;omega,show decide ((t.size:Int)≤20)=true by simp;omega]
   simp only[ae,ac,af,aD]
   rw[mA,Cw t (by omega) t.size 1 (by omega) (by omega)]
theorem xe (t:ByteArray) (i:Int):0≤bt t i∧bt t i≤255:=by
 unfold bt
 have:=(t.data.getD i.toNat 0).toNat_lt
 omega
theorem GB {n:Int} (h:0≤n) (h':n≤18446744073709551615):IntKind.wrap .u64 n=n:=by
 have:IntKind.wrap .u64 n=n%18446744073709551616:=by simp[IntKind.wrap,IntKind.bits,IntKind.signed]
 rw[this];omega
def sA {α:Type} (x y:Option α):Prop:=∃v,x=some v∧y=some v
theorem sA.mk {α:Type} (v:α):sA (some v) (some v):=⟨v,rfl,rfl⟩
theorem sA.bind {α β:Type} {x y:Option α} {f g:α→Option β} (h:sA x y) (k:∀v,x=some v→sA (f v) (g v)):sA (x.bind f) (y.bind g):=by
 obtain⟨v,h1,h2⟩:=h
 rw[h1,h2];exact k v h1
theorem sA.some {α:Type} {x y:Option α} (e:x=y) (h:∃v,x=some v):sA x y:=by obtain⟨v,h⟩:=h;exact⟨v,h,e▸h⟩
theorem oo (n:Int):∃v,Rn n=some v:=by
 rw[Gr]
 cases decide (n≥97)<;>cases decide (n≤122)<;>cases decide (n≥65)<;>cases decide (n≤90)<;>exact⟨_,rfl⟩
theorem zm (n:Int):∃v,Ss n=some v:=by
 rw[Gs];cases decide (n≥48)<;>exact⟨_,rfl⟩
theorem qF (t:ByteArray) (ht:t.size≤20):∀(k:Nat) (i:Int),0≤i→t.size≤i.toNat+k→∃v,o9.a t i=some v:=by
 intro k
 induction k with
 |zero=>
  intro i h0 hk
  have:decide (i< (t.size:Int))=false:=by simp;omega
  rw[o9.a_eq,this];exact⟨_,rfl⟩
 |succ k ih=>
  intro i h0 hk
  rw[o9.a_eq]
  by_cases hi:i< (t.size:Int)
  ·have e:az i t.size=true:=by simp[az];omega
   obtain⟨v1,h1⟩:=oo (bt t i)
   obtain⟨v2,h2⟩:=zm (bt t i)
   obtain⟨v3,h3⟩:=ih (i+1) (by omega) (by omega)
   rw[aT (n:=i+1) (by omega) (by omega),e,h1,h2,h3]
   simp only[ab hi,ae,af]
   cases v1<;>cases v2<;>exact⟨_,rfl⟩
  ·rw[show decide (i< (t.size:Int))=false by simp;omega];exact⟨_,rfl⟩
theorem tK (t:ByteArray):∃v,o9 t=some v:=by
 rw[Gt,ze]
 by_cases h1:(1:Int)≤(t.size:Int)
 ·by_cases h2:(t.size:Int)≤20
  ·obtain⟨v1,e1⟩:=oo (bt t 0)
   obtain⟨v2,e2⟩:=qF t (by omega) t.size 1 (by omega) (by omega)
   have e:az 0 t.size=true:=by simp[az];omega
   simp only[ab h1,ab h2,ae,af,aD,ac,e,e1,e2]
   cases v1<;>exact⟨_,rfl⟩
  ·simp only[ab h1,ae,af,ak h2,Bool.not_false];exact⟨_,rfl⟩
 ·simp only[ak h1,ac,af,Bool.not_false,ae];exact⟨_,rfl⟩
theorem Cy (t:ByteArray):sA (o9 t) (uV t):=sA.some (Ov t) (tK t)
theorem d8 {α:Type} (c:Bool) (a b:α):cond c a b=if c=true then a else b:=by cases c<;>rfl
theorem zn (n:Int):∃q:Int,IntKind.wrap .i64 n=n-18446744073709551616*q:=by
 rw[IntKind.wrap_i64];exact⟨(n+9223372036854775808)/18446744073709551616,by omega⟩
theorem Cz (n:Int): -9223372036854775808≤IntKind.wrap .i64 n∧IntKind.wrap .i64 n≤9223372036854775807:=by
 rw[IntKind.wrap_i64];omega
theorem zo (x:Int):((BitVec.ofInt IntKind.i64.bits x).toNat:Int)=x%18446744073709551616:=by
 rw[BitVec.toNat_ofInt]
 have hb:((2^IntKind.i64.bits:Nat):Int)=18446744073709551616:=rfl
 rw[hb];omega
theorem xf (x:Int) (c:Nat) (hc:c≤62):x%18446744073709551616%2^c=x%2^c:=by
 apply Int.emod_emod_of_dvd
 exact⟨2^(64-c),by rw[←Int.pow_add,show c+(64-c)=64 by omega];rfl⟩
theorem iU (c:Nat) (hc:c≤62):(1:Int)≤2^c∧(2:Int)^c≤4611686018427387904:=by
 have h1:2^c≤2^62:=Nat.pow_le_pow_right (by decide) hc
 have h2:1≤2^c:=Nat.one_le_two_pow
 have e:((2^c:Nat):Int)=(2:Int)^c:=by simp
 omega
theorem GC (x:Int) (c:Nat) (hc:c≤62):andI .i64 x (2^c-1)=x%2^c:=by
 have hp:=iU c hc
 have e:((2^c:Nat):Int)=(2:Int)^c:=by simp
 unfold andI
 have h1:(BitVec.ofInt IntKind.i64.bits x&&&BitVec.ofInt IntKind.i64.bits ((2:Int)^c-1)).toNat=(BitVec.ofInt IntKind.i64.bits x).toNat%2^c:=by
  rw[BitVec.toNat_and]
  have:(BitVec.ofInt IntKind.i64.bits ((2:Int)^c-1)).toNat=2^c-1:=by
   have:=zo ((2:Int)^c-1);omega
  rw[this,Nat.and_two_pow_sub_one_eq_mod]
 rw[h1]
 have h2:(((BitVec.ofInt IntKind.i64.bits x).toNat%2^c:Nat):Int)=x%2^c:=by
  rw[Int.natCast_emod,zo,e,xf x c hc]
 rw[h2]
 have h3:0≤x%2^c:=Int.emod_nonneg _ (by omega)
 have h4:x%2^c<2^c:=Int.emod_lt_of_pos _ (by omega)
 exact aT (by omega) (by omega)
theorem pf {x:Int} {k:Int} (h:0≤k) (h':k≤64):mr .i64 x k=x/2^k.toNat:=by
 unfold mr
 have hb:IntKind.i64.bits=64:=rfl
 rw[show min k.toNat IntKind.i64.bits=k.toNat by omega,Int.fdiv_eq_ediv_of_nonneg]
 have:=iU
 exact Int.le_of_lt (Int.pow_pos (by decide))
theorem tL {x:Int} {k:Int} (h:0≤k) (h':k≤64):mr .u64 x k=x/2^k.toNat:=by
 unfold mr
 have hb:IntKind.u64.bits=64:=rfl
 rw[show min k.toNat IntKind.u64.bits=k.toNat by omega,Int.fdiv_eq_ediv_of_nonneg]
 exact Int.le_of_lt (Int.pow_pos (by decide))
theorem mB {x:Int} {k:Int} (h:0≤k) (h':k≤64):de .i64 x k=IntKind.wrap .i64 (x*2^k.toNat):=by
 unfold de
 have hb:IntKind.i64.bits=64:=rfl
 rw[show min k.toNat IntKind.i64.bits=k.toNat by omega]
theorem fo (v low count:Int) (h:0≤low) (h':low≤64) (hc:0≤count) (hc':count≤62):Gx v low count=some (v/2^low.toNat%2^count.toNat):=by
 rw[N3]
 have hp:=iU count.toNat (by omega)
 rw[show decide (low<0)=false by simp;omega,show decide (count<0)=false by simp;omega,mB hc (by omega),pf h h',Int.one_mul,aT (n:=2^count.toNat) (by omega) (by omega),aT (n:=2^count.toNat-1) (by omega) (by omega),GC _ _ (by omega)]
 rfl
theorem mC (x y k c:Nat) (hy:y<2^c) (h:x/2^k%2^c=0):x|||y*2^k=x+y*2^k:=by
 have hk:0<2^k:=Nat.two_pow_pos k
 have hkc:0<2^(k+c):=Nat.two_pow_pos _
 have e1:x%2^(k+c)<2^k:=by
  rw[Nat.pow_add]
  have:x% (2^k*2^c)=x%2^k+2^k*(x/2^k%2^c):=Nat.mod_mul
  rw[this,h]
  have:=Nat.mod_lt x hk
  omega
 have e2:y*2^k+x%2^(k+c)<2^(k+c):=by
  have:(y+1)*2^k≤2^c*2^k:=Nat.mul_le_mul_right _ (by omega)
  rw[Nat.pow_add,Nat.mul_comm (2^k) (2^c)]
  rw[Nat.pow_add,Nat.mul_comm (2^k) (2^c)]at e1
  rw[Nat.add_mul]at this
  omega
 have hx:x=(x/2^(k+c))<<< (k+c)|||x%2^(k+c):=by
  rw[←Nat.shiftLeft_add_eq_or_of_lt (Nat.mod_lt x hkc),Nat.shiftLeft_eq]
  have:=Nat.div_add_mod x (2^(k+c))
  rw[Nat.mul_comm]at this;exact this.symm
 have h3:x%2^(k+c)|||y*2^k=y*2^k+x%2^(k+c):=by
  rw[Nat.or_comm,←Nat.shiftLeft_eq y k,←Nat.shiftLeft_add_eq_or_of_lt e1,Nat.shiftLeft_eq]
 calc
  x|||y*2^k=(x/2^(k+c))<<< (k+c)||| (x%2^(k+c)|||y*2^k):=by
    conv=>lhs;rw[hx]
    rw[Nat.or_assoc]
  _=(x/2^(k+c))<<< (k+c)+(y*2^k+x%2^(k+c)):=by rw[h3,Nat.shiftLeft_add_eq_or_of_lt e2]
  _=x+y*2^k:=by
    rw[Nat.shiftLeft_eq]
    have:=Nat.div_add_mod x (2^(k+c))
    rw[Nat.mul_comm]at this;omega
theorem bF {x y P Q:Int} (k c:Nat) (hP:P=2^k) (hQ:Q=2^c) (hkc:k+c≤62) (hx:0≤x) (hx':x<4611686018427387904) (hy:0≤y) (hy':y<Q) (h:x/P%Q=0):iD .i64 x (y*P)=x+y*P:=by
 subst hP hQ
 obtain⟨a,rfl⟩:=Int.eq_ofNat_of_zero_le hx
 obtain⟨b,rfl⟩:=Int.eq_ofNat_of_zero_le hy
 have hp:=iU k (by omega)
 have ek:((2^k:Nat):Int)=(2:Int)^k:=by simp
 have ec:((2^c:Nat):Int)=(2:Int)^c:=by simp
 have hb:b<2^c:=by omega
 have hlt:b*2^k<4611686018427387904:=by
  have h1:b*2^k<2^c*2^k:=Nat.mul_lt_mul_of_pos_right hb (Nat.two_pow_pos k)
  rw[←Nat.pow_add]at h1
  have h2:2^(c+k)≤2^62:=Nat.pow_le_pow_right (by decide) (by omega)
  omega
 have h0:a/2^k%2^c=0:=by
  have:((a/2^k%2^c:Nat):Int)=(a:Int)/2^k%2^c:=by
   rw[Int.natCast_emod,Int.natCast_ediv,ek,ec]
  omega
 have em:((b*2^k:Nat):Int)=(b:Int)*2^k:=by rw[Int.natCast_mul,ek]
 unfold iD
 rw[BitVec.toNat_or]
 have f1:(BitVec.ofInt IntKind.i64.bits (a:Int)).toNat=a:=by have:=zo (a:Int);omega
 have f2:(BitVec.ofInt IntKind.i64.bits ((b:Int)*2^k)).toNat=b*2^k:=by have:=zo ((b:Int)*2^k);omega
 rw[f1,f2,mC a b k c hb h0,Int.natCast_add,em]
 exact aT (by omega) (by omega)
theorem hJ (v i:Int) (hv: -9223372036854775808≤v) (hv':v≤9223372036854775807) (h:0≤i) (h':i≤63):yg v i=some (v/2^i.toNat%2):=by
 rw[Mr,GB (n:=i) (by omega) (by omega),show decide (i<0)=false by simp;omega,tL h (by omega)]
 have hu:IntKind.wrap .u64 v=v%18446744073709551616:=by simp[IntKind.wrap,IntKind.bits,IntKind.signed]
 have h0:0≤v%18446744073709551616:=by omega
 have hp:(0:Int)<2^i.toNat:=Int.pow_pos (by decide)
 have hd:0≤v%18446744073709551616/2^i.toNat:=Int.ediv_nonneg h0 (by omega)
 rw[hu,Int.tmod_eq_emod_of_nonneg hd]
 have e:v%18446744073709551616/2^i.toNat%2=v/2^i.toNat%2:=by
  have hpe:(18446744073709551616:Int)=2^i.toNat*(2^(63-i.toNat)*2):=by
   rw[←Int.pow_succ,←Int.pow_add,show i.toNat+(63-i.toNat+1)=64 by omega];rfl
  have h1:v%18446744073709551616=v-2^i.toNat*(2^(63-i.toNat)*2*(v/18446744073709551616)):=by
   rw[Int.emod_def,←Int.mul_assoc,←hpe]
  rw[h1,Int.sub_eq_add_neg,←Int.mul_neg,Int.add_mul_ediv_left _ _ (by omega)]
  rw[Int.mul_comm (2^(63-i.toNat)) 2,Int.mul_assoc,←Int.mul_neg,Int.add_mul_emod_self_left]
 rw[e]
 have:v/2^i.toNat%2=0∨v/2^i.toNat%2=1:=by omega
 rcases this with h|h<;>rw[h]<;>rfl
theorem zp (w low:Int) (hw: -9223372036854775808≤w) (hw':w≤9223372036854775807) (h:0≤low):∀(k:Nat) (x:Int),low+k≤63→k≤62→0≤x→(x+1)*2^k≤4611686018427387904→rP.a w low x ((k:Int)-1)=some (x*2^k+w/2^low.toNat%2^k):=by
 intro k
 induction k with
 |zero=>
  intro x _ _ _ _
  rw[rP.a_eq,show decide (((0:Nat):Int)-1≥0)=false by rfl]
  simp only[ac,Int.pow_zero,Int.emod_one,Int.mul_one,Int.add_zero]
 |succ k ih=>
  intro x h1 h2 h3 h4
  have hpk:=iU k (by omega)
  have hx:2*x+2≤4611686018427387904:=by
   rw[Int.pow_succ]at h4
   have:(x+1)*2≤(x+1)*(2^k*2):=Int.mul_le_mul_of_nonneg_left (by omega) (by omega)
   omega
  have hs:(((k+1:Nat):Int)-1)=(k:Int):=by omega
  rw[hs,rP.a_eq,show decide ((k:Int)≥0)=true by simp,aT (n:=low+k) (by omega) (by omega),hJ w (low+k) hw hw' (by omega) (by omega)]
  have hb:0≤w/2^(low+k).toNat%2∧w/2^(low+k).toNat%2≤1:=by omega
  simp only[ae,af]
  rw[aT (n:=2*x) (by omega) (by omega),aT (n:=2*x+_) (by omega) (by omega),aT (n:=(k:Int)-1) (by omega) (by omega)]
  rw[ih _ (by omega) (by omega) (by omega) (by
   rw[Int.pow_succ,Int.mul_comm (2^k) 2,←Int.mul_assoc]at h4
   exact Int.le_trans (Int.mul_le_mul_of_nonneg_right (by omega) (by omega)) h4)]
  congr 1
  have e1:(low+k).toNat=low.toNat+k:=by omega
  have e2:w/2^low.toNat%2^(k+1)=w/2^low.toNat%2^k+2^k*(w/2^(low.toNat+k)%2):=by
   rw[Int.pow_succ,Int.pow_add,←Int.ediv_ediv_of_nonneg (Int.le_of_lt (Int.pow_pos (by decide)))]
   generalize w/2^low.toNat=z
   have hk:(0:Int)≤2^k:=by omega
   rw[Int.emod_def z (2^k*2),←Int.ediv_ediv_of_nonneg hk,Int.emod_def (z/2^k) 2,Int.emod_def z (2^k),Int.mul_sub]
   rw[Int.mul_assoc (2^k) 2];omega
  rw[e1,e2,Int.add_mul,Int.pow_succ,Int.mul_comm (2^k) 2,←Int.mul_assoc,Int.mul_comm x 2,Int.mul_comm (2^k) (w/2^(low.toNat+k)%2)]
  omega
theorem CA (w low count:Int) (hw: -9223372036854775808≤w) (hw':w≤9223372036854775807) (h:0≤low) (hc:0≤count) (hlc:low+count≤62):rP w low count=some (w/2^low.toNat%2^count.toNat):=by
 have hp:=iU count.toNat (by omega)
 rw[Ms,aT (n:=count-1) (by omega) (by omega),show count-1=(count.toNat:Int)-1 by omega,zp w low hw hw' h count.toNat 0 (by omega) (by omega) (by omega) (by omega)]
 rw[Int.zero_mul,Int.zero_add]
theorem kV (a z:Int) (n i:Nat) (h:i<n):(a+2^n*z)/2^i%2=a/2^i%2:=by
 have e:(2:Int)^n=2^i*(2*2^(n-i-1)):=by
  rw[←Int.mul_assoc,←Int.pow_succ,←Int.pow_add,show i+1+(n-i-1)=n by omega]
 have hp:(0:Int)<2^i:=Int.pow_pos (by decide)
 rw[e,Int.mul_assoc,Int.add_mul_ediv_left _ _ (by omega),Int.mul_assoc,Int.add_mul_emod_self_left]
theorem mD (t:Int) (i:Nat):2*(t/2^(i+1))+t/2^i%2=t/2^i:=by
 have hp:(0:Int)≤2^i:=Int.le_of_lt (Int.pow_pos (by decide))
 rw[Int.pow_succ,←Int.ediv_ediv_of_nonneg hp];omega
def dl (w low count v:Int):Int:=w%2^low.toNat+2^low.toNat*(v%2^count.toNat+2^count.toNat*(w/2^(low.toNat+count.toNat)))
theorem ko (w low count v:Int) (h:0≤low) (hc:0≤count) (i:Nat):dl w low count v/2^i%2=if low≤i∧(i:Int)<low+count then v/2^(i-low.toNat)%2 else w/2^i%2:=by
 obtain⟨l,rfl⟩:=Int.eq_ofNat_of_zero_le h
 obtain⟨c,rfl⟩:=Int.eq_ofNat_of_zero_le hc
 have hl:(0:Int)<2^l:=Int.pow_pos (by decide)
 have hcc:(0:Int)<2^c:=Int.pow_pos (by decide)
 simp only[dl,aC]
 by_cases h1:i<l
 ·rw[kV _ _ _ _ h1,ap (by omega)]
  conv=>rhs;rw[←Int.emod_add_mul_ediv w (2^l)]
  rw[kV _ _ _ _ h1]
 ·have e:(2:Int)^i=2^l*2^(i-l):=by rw[←Int.pow_add,show l+(i-l)=i by omega]
  rw[e,←Int.ediv_ediv_of_nonneg (by omega:(0:Int)≤2^l),Int.add_mul_ediv_left _ _ (by omega),Int.ediv_eq_zero_of_lt (Int.emod_nonneg _ (by omega)) (Int.emod_lt_of_pos _ hl),Int.zero_add]
  by_cases h2:i<l+c
  ·rw[av (by omega),kV _ _ _ _ (show i-l<c by omega)]
   conv=>rhs;rw[←Int.emod_add_mul_ediv v (2^c)]
   rw[kV _ _ _ _ (show i-l<c by omega)]
  ·have e2:(2:Int)^(i-l)=2^c*2^(i-l-c):=by rw[←Int.pow_add,show c+(i-l-c)=i-l by omega]
   rw[ap (by omega),e2,←Int.ediv_ediv_of_nonneg (by omega:(0:Int)≤2^c),Int.add_mul_ediv_left _ _ (by omega),Int.ediv_eq_zero_of_lt (Int.emod_nonneg _ (by omega)) (Int.emod_lt_of_pos _ hcc),Int.zero_add,Int.pow_add,←Int.ediv_ediv_of_nonneg (by omega:(0:Int)≤2^l),Int.ediv_ediv_of_nonneg (by omega:(0:Int)≤2^c),←e2,Int.ediv_ediv_of_nonneg (by omega:(0:Int)≤2^l)]
theorem cf (w low count v:Int) (h:0≤low) (hc:0≤count) (hlc:low+count≤32) (hw:0≤w) (hw':w<4294967296):0≤dl w low count v∧dl w low count v<4294967296:=by
 obtain⟨l,rfl⟩:=Int.eq_ofNat_of_zero_le h
 obtain⟨c,rfl⟩:=Int.eq_ofNat_of_zero_le hc
 have hl:(0:Int)<2^l:=Int.pow_pos (by decide)
 have hcc:(0:Int)<2^c:=Int.pow_pos (by decide)
 simp only[dl,aC]
 have a1:=Int.emod_nonneg w (show(2:Int)^l≠0 by omega)
 have a2:=Int.emod_lt_of_pos w hl
 have b1:=Int.emod_nonneg v (show(2:Int)^c≠0 by omega)
 have b2:=Int.emod_lt_of_pos v hcc
 have hlcp:(0:Int)<2^(l+c):=Int.pow_pos (by decide)
 have c1:0≤w/2^(l+c):=Int.ediv_nonneg hw (by omega)
 have c2:w/2^(l+c)+1≤2^(32-l-c):=by
  have:w/2^(l+c)<2^(32-l-c):=by
   apply Int.ediv_lt_of_lt_mul hlcp
   rw[←Int.pow_add,show 32-l-c+(l+c)=32 by omega];exact hw'
  omega
 generalize w/2^(l+c)=z at*
 generalize w%2^l=x at*
 generalize v%2^c=y at*
 have d1:0≤2^c*z:=Int.mul_nonneg (by omega) c1
 have d2:2^c*z+2^c≤2^c*2^(32-l-c):=by
  have:=Int.mul_le_mul_of_nonneg_left c2 (show(0:Int)≤2^c by omega)
  rw[Int.mul_add,Int.mul_one]at this;exact this
 rw[←Int.pow_add,show c+(32-l-c)=32-l by omega]at d2
 have d3:0≤2^l*(y+2^c*z):=Int.mul_nonneg (by omega) (by omega)
 have d4:2^l*(y+2^c*z)+2^l≤2^l*2^(32-l):=by
  have:=Int.mul_le_mul_of_nonneg_left (show y+2^c*z+1≤2^(32-l) by omega) (show(0:Int)≤2^l by omega)
  rw[Int.mul_add (2^l) _ 1,Int.mul_one]at this;exact this
 rw[←Int.pow_add,show l+(32-l)=32 by omega,show(2:Int)^32=4294967296 by rfl]at d4
 omega
theorem GD (w low count v:Int) (h:0≤low) (hc:0≤count) (hlc:low+count≤32) (hw:0≤w) (hw':w<4294967296) (hv: -9223372036854775808≤v) (hv':v≤9223372036854775807):
  ∀(k:Nat),k≤32→gF.a w low count v (dl w low count v/2^k) ((k:Int)-1)=some (dl w low count v):=by
 have hr:=cf w low count v h hc hlc hw hw'
 intro k
 induction k with
 |zero=>
  intro _
  rw[gF.a_eq,show decide (((0:Nat):Int)-1≥0)=false by rfl]
  simp only[ac,Int.pow_zero,Int.ediv_one]
 |succ k ih=>
  intro hk
  have ih:=ih (by omega)
  have hb:=ko w low count v h hc k
  have hst:=mD (dl w low count v) k
  generalize ht:dl w low count v=T at*
  have hp:(0:Int)<2^(k+1):=Int.pow_pos (by decide)
  have q0:0≤T/2^(k+1):=Int.ediv_nonneg hr.1 (by omega)
  have q1:T/2^(k+1)≤T:=Int.ediv_le_self _ hr.1
  have hs:(((k+1:Nat):Int)-1)=(k:Int):=by omega
  rw[hs,gF.a_eq,show decide ((k:Int)≥0)=true by simp,hJ w k (by omega) (by omega) (by omega) (by omega),aT (n:=low+count) (by omega) (by omega),aT (n:=2*(T/2^(k+1))) (by omega) (by omega),aT (n:=(k:Int)-1) (by omega) (by omega)]
  simp only[ae,af,aC]
  by_cases h1:low≤(k:Int)
  ·by_cases h2:(k:Int)<low+count
   ·rw[show decide ((k:Int)≥low)=true by simp;omega,show decide ((k:Int)<low+count)=true by simp;omega,aT (n:=(k:Int)-low) (by omega) (by omega),hJ v _ hv hv' (by omega) (by omega)]
    rw[av ⟨h1,h2⟩]at hb
    simp only[ae,af]
    rw[show((k:Int)-low).toNat=k-low.toNat by omega,←hb,aT (by omega) (by omega),hst,ih]
   ·rw[show decide ((k:Int)≥low)=true by simp;omega,show decide ((k:Int)<low+count)=false by simp;omega]
    rw[ap (by omega)]at hb
    simp only[ae,ac]
    rw[←hb,aT (by omega) (by omega),hst,ih]
  ·rw[show decide ((k:Int)≥low)=false by simp;omega]
   rw[ap (by omega)]at hb
   simp only[ac]
   rw[←hb,aT (by omega) (by omega),hst,ih]
theorem cS (w low count v:Int) (h:0≤low) (hc:0≤count) (hlc:low+count≤32) (hw:0≤w) (hw':w<4294967296) (hv: -9223372036854775808≤v) (hv':v≤9223372036854775807):
  gF w low count v=some (dl w low count v):=by
 have hr:=cf w low count v h hc hlc hw hw'
 have:=GD w low count v h hc hlc hw hw' hv hv' 32 (by omega)
 rw[My]
 rw[Int.ediv_eq_zero_of_lt hr.1 (by rw[show(2:Int)^32=4294967296 by rfl];exact hr.2)]at this
 exact this
def cI (v:Int) (c:Nat):Int:=if v%2^c<2^(c-1)then v%2^c else v%2^c-2^c
theorem xg (c:Nat) (h:1≤c):(2:Int)^c=2*2^(c-1):=by
 obtain⟨d,rfl⟩:=Nat.exists_eq_add_of_le h
 rw[Nat.add_comm,Int.pow_succ,Int.mul_comm];rfl
theorem tM (v:Int) (c:Nat):∃q,cI v c=v+2^c*q:=by
 unfold cI
 rw[Int.emod_def]
 split
 ·exact⟨-(v/2^c),by rw[Int.mul_neg];omega⟩
 ·exact⟨-(v/2^c)-1,by rw[Int.mul_sub,Int.mul_neg];omega⟩
theorem kq (v:Int) (c:Nat) (h:1≤c): -2^(c-1)≤cI v c∧cI v c<2^(c-1):=by
 have hp:=xg c h
 have hp1:(0:Int)<2^(c-1):=Int.pow_pos (by decide)
 have a1:=Int.emod_nonneg v (show(2:Int)^c≠0 by omega)
 have a2:=Int.emod_lt_of_pos v (show(0:Int)<2^c by omega)
 unfold cI
 split<;>omega
theorem Kr (c:Nat) (h:c≤63):(2:Int)^c≤9223372036854775808:=by
 have h1:2^c≤2^63:=Nat.pow_le_pow_right (by decide) h
 have e:((2^c:Nat):Int)=(2:Int)^c:=by simp
 omega
theorem kr {n s:Int} (q:Int) (h:n=s+18446744073709551616*q) (h1: -9223372036854775808≤s) (h2:s≤9223372036854775807):IntKind.wrap .i64 n=s:=by
 rw[IntKind.wrap_i64];omega
theorem zq (v count:Int) (h:1≤count) (h':count≤64):Sy v count=some (cI v count.toNat):=by
 rw[N6,aT (n:=64-count) (by omega) (by omega),show decide (64-count<0)=false by simp;omega,mB (by omega) (by omega),pf (by omega) (by omega)]
 simp only[ac]
 congr 1
 obtain⟨c,rfl⟩:=Int.eq_ofNat_of_zero_le (show 0≤count by omega)
 rw[show((64:Int)-(c:Int)).toNat=64-c by omega,aC]
 have hp1:(0:Int)<2^(c-1):=Int.pow_pos (by decide)
 have hk:(0:Int)<2^(64-c):=Int.pow_pos (by decide)
 obtain⟨q,hq⟩:=tM v c
 have hr:=kq v c (by omega)
 have e64:(2:Int)^c*2^(64-c)=18446744073709551616:=by rw[←Int.pow_add,show c+(64-c)=64 by omega];rfl
 have e63:(2:Int)^(c-1)*2^(64-c)=9223372036854775808:=by rw[←Int.pow_add,show c-1+(64-c)=63 by omega];rfl
 have hv:v*2^(64-c)=cI v c*2^(64-c)+18446744073709551616*(-q):=by
  rw[hq,←e64,Int.add_mul,Int.mul_neg,Int.mul_assoc,Int.mul_comm q,←Int.mul_assoc];omega
 have l1: -9223372036854775808≤cI v c*2^(64-c):=by
  have:=Int.mul_le_mul_of_nonneg_right hr.1 (show(0:Int)≤2^(64-c) by omega)
  rw[Int.neg_mul,e63]at this;exact this
 have l2:cI v c*2^(64-c)≤9223372036854775807:=by
  have:=Int.mul_lt_mul_of_pos_right hr.2 hk
  rw[e63]at this;omega
 rw[kr (-q) hv l1 l2,Int.mul_ediv_cancel _ (by omega)]
theorem GE (v:Int) (c i:Nat) (h:1≤c):cI v c/2^i%2=v/2^(min i (c-1))%2:=by
 obtain⟨q,hq⟩:=tM v c
 by_cases h1:i<c
 ·rw[show min i (c-1)=i by omega,hq,kV _ _ _ _ h1]
 ·have hr:=kq v c h
  rw[show min i (c-1)=c-1 by omega]
  have e:v/2^(c-1)%2=cI v c/2^(c-1)%2:=by rw[hq,kV _ _ _ _ (by omega)]
  rw[e]
  have hp1:(0:Int)<2^(c-1):=Int.pow_pos (by decide)
  have hm:(2:Int)^(c-1)≤2^i:=by
   have h9:2^(c-1)≤2^i:=Nat.pow_le_pow_right (by decide) (show c-1≤i by omega)
   have e1:((2^(c-1):Nat):Int)=(2:Int)^(c-1):=by simp
   have e2:((2^i:Nat):Int)=(2:Int)^i:=by simp
   omega
  by_cases hs:0≤cI v c
  ·rw[Int.ediv_eq_zero_of_lt hs (by omega),Int.ediv_eq_zero_of_lt hs hr.2]
  ·have f:∀P:Int,0<P→ -P≤cI v c→cI v c/P= -1:=by
    intro P hP hle
    have:cI v c/P<0:=Int.ediv_neg_of_neg_of_pos (by omega) hP
    have h2: -1≤cI v c/P:=Int.le_ediv_of_mul_le hP (by omega)
    omega
   rw[f _ (by omega) (by omega),f _ hp1 hr.1]
theorem CB (v:Int) (c:Nat) (h:1≤c) (h':c≤64) (hv: -9223372036854775808≤v) (hv':v≤9223372036854775807):
  ∀k:Nat,k≤64→yh.a v c (cI v c/2^k%2^(64-k)) ((k:Int)-1)=some (cI v c):=by
 have hr:=kq v c h
 have hp:=Kr (c-1) (by omega)
 intro k
 induction k with
 |zero=>
  intro _
  rw[yh.a_eq,show decide (((0:Nat):Int)-1≥0)=false by rfl]
  simp only[ac,Int.pow_zero,Int.ediv_one]
  congr 1
  rw[show(2:Int)^(64-0)=18446744073709551616 by rfl,Int.emod_def]
  exact kr (-(cI v c/18446744073709551616)) (by omega) (by omega) (by omega)
 |succ k ih=>
  intro hk
  have ih:=ih (by omega)
  have hs:(((k+1:Nat):Int)-1)=(k:Int):=by omega
  have hmin:(if IntKind.wrap .i64 ((c:Int)-1)< (k:Int)then IntKind.wrap .i64 ((c:Int)-1)else(k:Int))=((min k (c-1):Nat):Int):=by
   rw[aT (n:=(c:Int)-1) (by omega) (by omega)];split<;>omega
  rw[hs,yh.a_eq,show decide ((k:Int)≥0)=true by simp,hmin,hJ v _ hv hv' (by omega) (by omega),aT (n:=(k:Int)-1) (by omega) (by omega)]
  simp only[ae,af,aC]
  rw[←GE v c k h]
  have hst:=mD (cI v c) k
  have e:(2:Int)^(64-k)=2*2^(64-(k+1)):=by
   have:=xg (64-k) (by omega);rw[this,show 64-k-1=64-(k+1) by omega]
  have hq:(0:Int)<2^(64-(k+1)):=Int.pow_pos (by decide)
  have hq':=Kr (64-(k+1)) (by omega)
  generalize cI v c/2^(k+1)=z at*
  generalize cI v c/2^k=y at*
  rw[e]at ih
  have z1:=Int.emod_nonneg z (show(2:Int)^(64-(k+1))≠0 by omega)
  have z2:=Int.emod_lt_of_pos z hq
  have ey:2*(z%2^(64-(k+1)))+y%2=y% (2*2^(64-(k+1))):=by
   rw[Int.emod_def z,Int.emod_def y (2*_),←Int.ediv_ediv_of_nonneg (by decide),show y/2=z by omega,Int.mul_assoc];omega
  rw[GB (n:=2*_) (by omega) (by omega),GB (n:=y%2) (by omega) (by omega),GB (n:=2*_+y%2) (by omega) (by omega),ey,ih]
theorem iV (v count:Int) (h:1≤count) (h':count≤64) (hv: -9223372036854775808≤v) (hv':v≤9223372036854775807):yh v count=some (cI v count.toNat):=by
 obtain⟨c,rfl⟩:=Int.eq_ofNat_of_zero_le (show 0≤count by omega)
 have:=CB v c (by omega) (by omega) hv hv' 64 (by omega)
 rw[show(64-64:Nat)=0 by rfl,Int.pow_zero,Int.emod_one]at this
 rw[Mt,aC]
 exact this
def TD:List (Int×Int×Int×Int):=[(0,0,0,0),(1,55,0,0),(1,23,0,0),(2,111,0,0),(3,103,0,0),(4,99,0,0),(4,99,1,0),(4,99,4,0),(4,99,5,0),(4,99,6,0),(4,99,7,0),(3,3,0,0),(3,3,1,0),(3,3,2,0),(3,3,3,0),(3,3,4,0),(3,3,5,0),(3,3,6,0),(5,35,0,0),(5,35,1,0),(5,35,2,0),(5,35,3,0),(3,19,0,0),(3,19,2,0),(3,19,3,0),(3,19,4,0),(3,19,6,0),(3,19,7,0),(6,19,1,0),(6,19,5,0),(6,19,5,32),(8,51,0,0),(8,51,0,32),(8,51,1,0),(8,51,2,0),(8,51,3,0),(8,51,4,0),(8,51,5,0),(8,51,5,32),(8,51,6,0),(8,51,7,0),(3,27,0,0),(7,27,1,0),(7,27,5,0),(7,27,5,32),(8,59,0,0),(8,59,0,32),(8,59,1,0),(8,59,5,0),(8,59,5,32),(8,51,0,1),(8,51,1,1),(8,51,2,1),(8,51,3,1),(8,51,4,1),(8,51,5,1),(8,51,6,1),(8,51,7,1),(8,59,0,1),(8,59,4,1),(8,59,5,1),(8,59,6,1),(8,59,7,1),(9,115,0,0),(9,115,0,1)]
def bG (n:Int):Int×Int×Int×Int:=TD.getD n.toNat (0,0,0,0)
theorem mE {n:Int} (h:0≤n) (h':n≤64):∃k:Fin 65,n=(k.val:Int):=⟨⟨n.toNat,by omega⟩,by simp;omega⟩
theorem lV (n:Int) (h:0≤n) (h':n≤64):Rp n=some (bG n):=by
 rw[N8,Gw]
 simp only[af]
 obtain⟨k,rfl⟩:=mE h h'
 clear h h';revert k
 decide+kernel
theorem fp (n:Int) (h:0≤n) (h':n≤64):Kn n=some (bG n):=by
 rw[Mq]
 obtain⟨k,rfl⟩:=mE h h'
 clear h h';revert k
 decide+kernel
def tN (s:Int×Int×Int×Int):Bool:=decide (1≤s.1)&&decide (s.1≤9)&&decide (0≤s.2.1)&&decide (s.2.1<128)&&decide (0≤s.2.2.1)&&decide (s.2.2.1<8)&&decide (0≤s.2.2.2)&&decide (s.2.2.2<64)&&(!decide (s.1=6)||decide (s.2.2.2%2=0))&&(!decide (s.1=9)|| (decide (s.2.2.2<2)&&decide (s.2.2.1=0)))
theorem io (n:Int) (h:1≤n) (h':n≤64):tN (bG n)=true:=by
 obtain⟨k,rfl⟩:=mE (show 0≤n by omega) h'
 clear h';revert k
 decide+kernel
theorem Ow {x y:Int} (hx:0≤x) (hx':x<4611686018427387904) (hy:0≤y) (hy':y<2) (h:x/128%2=0):iD .i64 x (y*128)=x+y*128:=bF 7 1 rfl rfl (by decide) hx hx' hy hy' h
theorem lW {x y:Int} (hx:0≤x) (hx':x<4611686018427387904) (hy:0≤y) (hy':y<32) (h:x/128%32=0):iD .i64 x (y*128)=x+y*128:=bF 7 5 rfl rfl (by decide) hx hx' hy hy' h
theorem Ox {x y:Int} (hx:0≤x) (hx':x<4611686018427387904) (hy:0≤y) (hy':y<16) (h:x/256%16=0):iD .i64 x (y*256)=x+y*256:=bF 8 4 rfl rfl (by decide) hx hx' hy hy' h
theorem kW {x y:Int} (hx:0≤x) (hx':x<4611686018427387904) (hy:0≤y) (hy':y<8) (h:x/4096%8=0):iD .i64 x (y*4096)=x+y*4096:=bF 12 3 rfl rfl (by decide) hx hx' hy hy' h
theorem Bc {x y:Int} (hx:0≤x) (hx':x<4611686018427387904) (hy:0≤y) (hy':y<256) (h:x/4096%256=0):iD .i64 x (y*4096)=x+y*4096:=bF 12 8 rfl rfl (by decide) hx hx' hy hy' h
theorem xh {x y:Int} (hx:0≤x) (hx':x<4611686018427387904) (hy:0≤y) (hy':y<1048576) (h:x/4096%1048576=0):iD .i64 x (y*4096)=x+y*4096:=bF 12 20 rfl rfl (by decide) hx hx' hy hy' h
theorem u6 {x y:Int} (hx:0≤x) (hx':x<4611686018427387904) (hy:0≤y) (hy':y<2) (h:x/1048576%2=0):iD .i64 x (y*1048576)=x+y*1048576:=bF 20 1 rfl rfl (by decide) hx hx' hy hy' h
theorem pi {x y:Int} (hx:0≤x) (hx':x<4611686018427387904) (hy:0≤y) (hy':y<32) (h:x/1048576%32=0):iD .i64 x (y*1048576)=x+y*1048576:=bF 20 5 rfl rfl (by decide) hx hx' hy hy' h
theorem Jb {x y:Int} (hx:0≤x) (hx':x<4611686018427387904) (hy:0≤y) (hy':y<64) (h:x/1048576%64=0):iD .i64 x (y*1048576)=x+y*1048576:=bF 20 6 rfl rfl (by decide) hx hx' hy hy' h
theorem GF {x y:Int} (hx:0≤x) (hx':x<4611686018427387904) (hy:0≤y) (hy':y<4096) (h:x/1048576%4096=0):iD .i64 x (y*1048576)=x+y*1048576:=bF 20 12 rfl rfl (by decide) hx hx' hy hy' h
theorem GG {x y:Int} (hx:0≤x) (hx':x<4611686018427387904) (hy:0≤y) (hy':y<1024) (h:x/2097152%1024=0):iD .i64 x (y*2097152)=x+y*2097152:=bF 21 10 rfl rfl (by decide) hx hx' hy hy' h
theorem Jc {x y:Int} (hx:0≤x) (hx':x<4611686018427387904) (hy:0≤y) (hy':y<64) (h:x/33554432%64=0):iD .i64 x (y*33554432)=x+y*33554432:=bF 25 6 rfl rfl (by decide) hx hx' hy hy' h
theorem u7 {x y:Int} (hx:0≤x) (hx':x<4611686018427387904) (hy:0≤y) (hy':y<128) (h:x/33554432%128=0):iD .i64 x (y*33554432)=x+y*33554432:=bF 25 7 rfl rfl (by decide) hx hx' hy hy' h
theorem Jd {x y:Int} (hx:0≤x) (hx':x<4611686018427387904) (hy:0≤y) (hy':y<64) (h:x/67108864%64=0):iD .i64 x (y*67108864)=x+y*67108864:=bF 26 6 rfl rfl (by decide) hx hx' hy hy' h
theorem Bd {x y:Int} (hx:0≤x) (hx':x<4611686018427387904) (hy:0≤y) (hy':y<2) (h:x/2147483648%2=0):iD .i64 x (y*2147483648)=x+y*2147483648:=bF 31 1 rfl rfl (by decide) hx hx' hy hy' h
theorem Oy {x y:Int} (hx:0≤x) (hx':x<4611686018427387904) (hy:0≤y) (hy':y<16) (h:x/2%16=0):iD .i64 x (y*2)=x+y*2:=bF 1 4 rfl rfl (by decide) hx hx' hy hy' h
theorem Je {x y:Int} (hx:0≤x) (hx':x<4611686018427387904) (hy:0≤y) (hy':y<1024) (h:x/2%1024=0):iD .i64 x (y*2)=x+y*2:=bF 1 10 rfl rfl (by decide) hx hx' hy hy' h
theorem Oz {x y:Int} (hx:0≤x) (hx':x<4611686018427387904) (hy:0≤y) (hy':y<64) (h:x/32%64=0):iD .i64 x (y*32)=x+y*32:=bF 5 6 rfl rfl (by decide) hx hx' hy hy' h
theorem OA {x y:Int} (hx:0≤x) (hx':x<4611686018427387904) (hy:0≤y) (hy':y<128) (h:x/32%128=0):iD .i64 x (y*32)=x+y*32:=bF 5 7 rfl rfl (by decide) hx hx' hy hy' h
theorem Be {x y:Int} (hx:0≤x) (hx':x<4611686018427387904) (hy:0≤y) (hy':y<2) (h:x/2048%2=0):iD .i64 x (y*2048)=x+y*2048:=bF 11 1 rfl rfl (by decide) hx hx' hy hy' h
theorem Jf {x y:Int} (hx:0≤x) (hx':x<4611686018427387904) (hy:0≤y) (hy':y<2) (h:x/4096%2=0):iD .i64 x (y*4096)=x+y*4096:=bF 12 1 rfl rfl (by decide) hx hx' hy hy' h
theorem tO {w a b:Int} (hw:0≤w) (hw':w<4611686018427387904) (ha:0≤a) (ha':a<32) (hb:0≤b) (hb':b<8) (h:w/4096%256=0):iD .i64 w (a*32768+b*4096)=w+(a*32768+b*4096):=by
 have:=bF (x:=w) (y:=a*8+b) (P:=4096) (Q:=256) 12 8 rfl rfl (by decide) hw hw' (by omega) (by omega) h
 rw[show a*32768+b*4096=(a*8+b)*4096 by omega];exact this
def bL (s:Int×Int×Int×Int) (x:Int×Int×Int×Int×Int):Int:=
 if s.1=1 then s.2.1+x.2.1*128+x.2.2.2.2/4096%1048576*4096
 else if s.1=2 then s.2.1+x.2.1*128+x.2.2.2.2/4096%256*4096+x.2.2.2.2/2048%2*1048576+x.2.2.2.2/2%1024*2097152+x.2.2.2.2/1048576%2*2147483648
 else if s.1=3 then s.2.1+x.2.1*128+s.2.2.1*4096+x.2.2.1*32768+x.2.2.2.2%4096*1048576
 else if s.1=4 then s.2.1+x.2.2.2.2/2048%2*128+x.2.2.2.2/2%16*256+s.2.2.1*4096+x.2.2.1*32768+x.2.2.2.1*1048576+x.2.2.2.2/32%64*33554432+x.2.2.2.2/4096%2*2147483648
 else if s.1=5 then s.2.1+x.2.2.2.2%32*128+s.2.2.1*4096+x.2.2.1*32768+x.2.2.2.1*1048576+x.2.2.2.2/32%128*33554432
 else if s.1=6 then s.2.1+x.2.1*128+s.2.2.1*4096+x.2.2.1*32768+x.2.2.2.2%64*1048576+s.2.2.2/2*67108864
 else if s.1=7 then s.2.1+x.2.1*128+s.2.2.1*4096+x.2.2.1*32768+x.2.2.2.2%32*1048576+s.2.2.2*33554432
 else if s.1=8 then s.2.1+x.2.1*128+s.2.2.1*4096+x.2.2.1*32768+x.2.2.2.1*1048576+s.2.2.2*33554432
 else s.2.1+s.2.2.2*1048576
structure fZ (x:Int×Int×Int×Int×Int):Prop where
 d:0≤x.2.1∧x.2.1≤31
 a:0≤x.2.2.1∧x.2.2.1≤31
 b:0≤x.2.2.2.1∧x.2.2.2.1≤31
 i: -9223372036854775808≤x.2.2.2.2∧x.2.2.2.2≤9223372036854775807
theorem dr {f c f3 f7:Int} (h:tN (f,c,f3,f7)=true):(1≤f∧f≤9)∧(0≤c∧c<128)∧(0≤f3∧f3<8)∧(0≤f7∧f7<64)∧(f=6→f7%2=0)∧(f=9→f7<2∧f3=0):=by
 simp only[tN,ay,Bool.or_eq_true,Bool.not_eq_true',aV,decide_eq_false_iff_not]at h
 omega
theorem fL {f:Int} (h:1≤f∧f≤9):f=1∨f=2∨f=3∨f=4∨f=5∨f=6∨f=7∨f=8∨f=9:=by omega
theorem aj (j n:Nat):az (j:Int) n=decide (j<n):=by
 unfold az;rw[show decide (0≤(j:Int))=true by simp,Bool.true_and];congr 1;simp
theorem aW {τ:Ty} (xs:List τ.den) (j:Nat) (h:j<xs.length):rd (τ:=τ) xs (j:Int)=xs[j]:=by
 unfold rd;rw[aC,List.getD_eq_getElem?_getD,List.getElem?_eq_getElem h];rfl
theorem an (j n:Nat) (h:j<n) (h':n≤9223372036854775807):IntKind.wrap .i64 ((j:Int)+1)=((j+1:Nat):Int):=by
 rw[aT (by omega) (by omega)];omega
theorem ah (j n:Nat):decide ((j:Int)< (n:Int))=decide (j<n):=by congr 1;simp
def xi (imm:Int) (w:Int) (p:Int×Int×Int):Int:=iD .i64 w (de .i64 (imm/2^p.1.toNat%2^p.2.1.toNat) p.2.2)
def mF (ps:List (Int×Int×Int)):Prop:=ps.length≤4∧∀p∈ps,0≤p.1∧p.1≤62∧0≤p.2.1∧p.2.1≤62∧0≤p.2.2∧p.2.2≤62
theorem GH (x:Int×Int×Int×Int×Int) (s:Int×Int×Int×Int) (ps:List (Int×Int×Int)) (hp:mF ps):
  ∀(k j:Nat) (w:Int),j+k=ps.length→w9.a x s w ps (ps.length:Int) (j:Int)=w9.a x s ((ps.drop j).foldl (xi x.2.2.2.2) w) ps (ps.length:Int) (ps.length:Int):=by
 intro k
 induction k with
 |zero=>
   intro j w h;have:j=ps.length:=by omega
   subst this;simp
 |succ k ih=>
  intro j w h
  have hj:j<ps.length:=by omega
  obtain⟨p1,p2,p3,p4,p5,p6⟩:=hp.2 ps[j] (List.getElem_mem hj)
  have e:=aW (τ:= .pair (.int .i64) (.pair (.int .i64) (.int .i64))) ps j hj
  rw[w9.a_eq,ah,aj,e,an j ps.length hj (by have:=hp.1;omega)]
  simp only[ab hj,ae]
  rw[fo _ _ _ (by omega) (by omega) (by omega) (by omega)]
  simp only[af]
  rw[show decide (ps[j].2.2<0)=false by simp;omega]
  simp only[ac]
  rw[ih (j+1) _ (by omega),List.drop_eq_getElem_cons hj,List.foldl_cons]
  rfl
def ck (f:Int):List (Int×Int×Int):=
 if f=1 then[(12,20,12)]else if f=2 then[(12,8,12),(11,1,20),(1,10,21),(20,1,31)]else if f=3 then[(0,12,20)]else if f=4 then[(11,1,7),(1,4,8),(5,6,25),(12,1,31)]
 else if f=5 then[(0,5,7),(5,7,25)]else if f=6 then[(0,6,20)]else if f=7 then[(0,5,20)]else[]
theorem qG {f:Int} (h:1≤f∧f≤9):Sx f=some (ck f)∧mF (ck f):=by
 rw[N4]
 rcases fL h with rfl|rfl|rfl|rfl|rfl|rfl|rfl|rfl|rfl<;>exact⟨rfl,by unfold mF;decide⟩
theorem eo {y:Int} (k:Nat) (P:Int) (hP:P=2^k) (hk:k≤62) (h0:0≤y) (h:y*P≤9223372036854775807):de .i64 y (k:Int)=y*P:=by
 rw[mB (by omega) (by omega),aC,←hP]
 have:0≤y*P:=Int.mul_nonneg h0 (by rw[hP];exact Int.le_of_lt (Int.pow_pos (by decide)))
 exact aT (by omega) (by omega)
theorem oq {y:Int} (h0:0≤y) (h:y≤2147483647):de .i64 y 7=y*128:=eo 7 128 rfl (by decide) h0 (by omega)
theorem Rs {y:Int} (h0:0≤y) (h:y≤2147483647):de .i64 y 8=y*256:=eo 8 256 rfl (by decide) h0 (by omega)
theorem gG {y:Int} (h0:0≤y) (h:y≤2147483647):de .i64 y 12=y*4096:=eo 12 4096 rfl (by decide) h0 (by omega)
theorem nE {y:Int} (h0:0≤y) (h:y≤2147483647):de .i64 y 15=y*32768:=eo 15 32768 rfl (by decide) h0 (by omega)
theorem jq {y:Int} (h0:0≤y) (h:y≤2147483647):de .i64 y 20=y*1048576:=eo 20 1048576 rfl (by decide) h0 (by omega)
theorem OB {y:Int} (h0:0≤y) (h:y≤2147483647):de .i64 y 21=y*2097152:=eo 21 2097152 rfl (by decide) h0 (by omega)
theorem u9 {y:Int} (h0:0≤y) (h:y≤2147483647):de .i64 y 25=y*33554432:=eo 25 33554432 rfl (by decide) h0 (by omega)
theorem OC {y:Int} (h0:0≤y) (h:y≤2147483647):de .i64 y 26=y*67108864:=eo 26 67108864 rfl (by decide) h0 (by omega)
theorem GI {y:Int} (h0:0≤y) (h:y≤2147483647):de .i64 y 31=y*2147483648:=eo 31 2147483648 rfl (by decide) h0 (by omega)
theorem Jg {x:Int}:mr .i64 x 1=x/2:=by rw[pf (by decide) (by decide)];rfl
def be (f:Int):Bool×Bool×Bool:=
 if f=1∨f=2 then(true,false,false)else if f=3∨f=6∨f=7 then(true,true,false)else if f=4∨f=5 then(false,true,true)else if f=8 then(true,true,true)else(false,false,false)
theorem qH {f:Int} (h:1≤f∧f≤9):Sz f=some (be f):=by
 rw[N7]
 rcases fL h with rfl|rfl|rfl|rfl|rfl|rfl|rfl|rfl|rfl<;>rfl
theorem ep (x:Int×Int×Int×Int×Int) (h:1≤x.1) (h':x.1≤64) (hr:fZ x):w9 x=some (bL (bG x.1) x):=by
 rw[N9,lV _ (by omega) h']
 have hs:=io x.1 h h'
 generalize bG x.1=s at*
 obtain⟨n,rd',rs1,rs2,imm⟩:=x
 obtain⟨f,c,f3,f7⟩:=s
 obtain⟨⟨d1,d2⟩,⟨a1,a2⟩,⟨b1,b2⟩,⟨i1,i2⟩⟩:=hr
 obtain⟨s1,⟨s2,s2'⟩,⟨s3,s3'⟩,⟨s4,s4'⟩,s5,s6⟩:=dr hs
 clear hs
 dsimp only at*
 obtain⟨hp,hpo⟩:=qG s1
 have hf:=qH s1
 simp only[af,hp]
 rw[show(0:Int)=((0:Nat):Int) by rfl,GH _ _ _ hpo (ck f).length 0 _ (by omega),w9.a_eq,ah]
 simp only[aA,decide_false,ac,hf,List.drop_zero,af,aF]
 clear hp hpo hf
 rcases fL s1 with rfl|rfl|rfl|rfl|rfl|rfl|rfl|rfl|rfl
 ·simp[ck,be,xi,bL]
  have hb0:0≤imm/4096%1048576∧imm/4096%1048576<1048576:=by omega
  generalize imm/4096%1048576=y0 at*
  simp(disch:=omega) only[gG,oq,xh,lW]
  try omega
 ·simp[ck,be,xi,bL]
  have hb0:0≤imm/4096%256∧imm/4096%256<256:=by omega
  generalize imm/4096%256=y0 at*
  have hb1:0≤imm/2048%2∧imm/2048%2<2:=by omega
  generalize imm/2048%2=y1 at*
  have hb2:0≤imm/2%1024∧imm/2%1024<1024:=by omega
  generalize imm/2%1024=y2 at*
  have hb3:0≤imm/1048576%2∧imm/1048576%2<2:=by omega
  generalize imm/1048576%2=y3 at*
  simp(disch:=omega) only[gG,jq,OB,GI,oq,Bc,u6,GG,Bd,lW]
  try omega
 ·simp[ck,be,xi,bL]
  have hb0:0≤imm%4096∧imm%4096<4096:=by omega
  generalize imm%4096=y0 at*
  simp(disch:=omega) only[jq,oq,nE,gG,GF,lW,kW,tO]
  try omega
 ·simp[ck,be,xi,bL]
  have hb0:0≤imm/2048%2∧imm/2048%2<2:=by omega
  generalize imm/2048%2=y0 at*
  have hb1:0≤imm/2%16∧imm/2%16<16:=by omega
  generalize imm/2%16=y1 at*
  have hb2:0≤imm/32%64∧imm/32%64<64:=by omega
  generalize imm/32%64=y2 at*
  have hb3:0≤imm/4096%2∧imm/4096%2<2:=by omega
  generalize imm/4096%2=y3 at*
  simp(disch:=omega) only[oq,Rs,u9,GI,nE,gG,jq,Ow,Ox,Jc,Bd,kW,tO,pi]
  try omega
 ·simp[ck,be,xi,bL]
  have hb0:0≤imm%32∧imm%32<32:=by omega
  generalize imm%32=y0 at*
  have hb1:0≤imm/32%128∧imm/32%128<128:=by omega
  generalize imm/32%128=y1 at*
  simp(disch:=omega) only[oq,u9,nE,gG,jq,lW,u7,kW,tO,pi]
  try omega
 ·simp[ck,be,xi,bL,Jg]
  have hb0:0≤imm%64∧imm%64<64:=by omega
  generalize imm%64=y0 at*
  have hs:0≤f7/2∧f7/2<64:=by omega
  generalize f7/2=z at*
  simp(disch:=omega) only[jq,oq,nE,gG,OC,Jb,lW,kW,tO,Jd]
  try omega
 ·simp[ck,be,xi,bL]
  have hb0:0≤imm%32∧imm%32<32:=by omega
  generalize imm%32=y0 at*
  simp(disch:=omega) only[jq,oq,nE,gG,u9,pi,lW,kW,tO,u7]
  try omega
 ·simp[ck,be,bL]
  simp(disch:=omega) only[oq,nE,gG,jq,u9,lW,kW,tO,pi,u7]
  try omega
 ·simp[ck,be,bL]
  simp(disch:=omega) only[jq,u6]
  try omega
theorem xj {a b:Int} (ha:0≤a∧a<4294967296) (hb:0≤b∧b<4294967296) (h:∀i:Nat,i<32→a/2^i%2=b/2^i%2):a=b:=by
 have:∀k:Nat,k≤32→a/2^(32-k)=b/2^(32-k):=by
  intro k
  induction k with
  |zero=>intro _;rw[show(2:Int)^(32-0)=4294967296 by rfl];omega
  |succ k ih=>
   intro hk
   have ih:=ih (by omega)
   have h1:=h (32-(k+1)) (by omega)
   have e:32-k=32-(k+1)+1:=by omega
   rw[e]at ih
   have ea:=mD a (32-(k+1))
   have eb:=mD b (32-(k+1))
   omega
 have:=this 32 (by omega)
 simpa using this
theorem CC (w low v:Int) (c:Nat) (h:0≤low) (hlc:low+c+1≤32) (hw:0≤w) (hw':w<4294967296):dl (dl w low c v) (low+c) 1 (v/2^c%2)=dl w low ((c+1:Nat):Int) v:=by
 have r1:=cf w low c v h (by omega) (by omega) hw hw'
 apply xj (cf _ _ _ _ (by omega) (by omega) (by omega) r1.1 r1.2) (cf _ _ _ _ h (by omega) (by omega) hw hw')
 intro i hi
 rw[ko _ _ _ _ (by omega) (by omega),ko _ _ _ _ h (by omega),ko _ _ _ _ h (by omega)]
 by_cases h1:low+c≤(i:Int)∧(i:Int)<low+c+1
 ·rw[av h1,av (by omega),show i-(low+(c:Int)).toNat=0 by omega,show i-low.toNat=c by omega,Int.pow_zero,Int.ediv_one];omega
 ·rw[ap h1]
  by_cases h2:low≤(i:Int)∧(i:Int)<low+c
  ·rw[av h2,av (by omega)]
  ·rw[ap h2,ap (by omega)]
theorem CD (w low v:Int) (h:0≤low) (hl:low≤31) (hw:0≤w) (hw':w<4294967296):dl w low 0 v=w:=by
 apply xj (cf _ _ _ _ h (by omega) (by omega) hw hw') ⟨hw,hw'⟩
 intro i hi
 rw[ko _ _ _ _ h (by omega),ap (by omega)]
theorem bJ {w v:Int} (k c:Nat) (P Q:Int) (hP:P=2^k) (hQ:Q=2^c) (h:w/P%Q=0):dl w (k:Int) (c:Int) v=w+v%Q*P:=by
 subst hP hQ
 simp only[dl,aC]
 have hk:(0:Int)<2^k:=Int.pow_pos (by decide)
 have hc:(0:Int)<2^c:=Int.pow_pos (by decide)
 have e1:=Int.emod_add_mul_ediv w (2^k)
 have e2:=Int.emod_add_mul_ediv (w/2^k) (2^c)
 rw[h,Int.zero_add,Int.ediv_ediv_of_nonneg (by omega),←Int.pow_add]at e2
 rw[e2,Int.mul_add]
 rw[Int.mul_comm (v%2^c)]
 omega
theorem CE (x:Int×Int×Int×Int×Int) (hx: -9223372036854775808≤x.2.2.2.2) (hx':x.2.2.2.2≤9223372036854775807) (w:Int) (hw:0≤w) (hw':w<4294967296) (i:Nat) (h:1≤i) (h':i≤20):
  iE.a x w (i:Int)=iE.a x (dl w (if i=20 then 31 else if 11<i then i else if 10<i then 9+i else 20+i:Nat) 1 (x.2.2.2.2/2^i%2)) ((i+1:Nat):Int):=by
 rw[iE.a_eq,show decide ((i:Int)<21)=true by simp;omega,hJ _ _ hx hx' (by omega) (by omega),aT (n:=9+(i:Int)) (by omega) (by omega),aT (n:=20+(i:Int)) (by omega) (by omega),aT (n:=(i:Int)+1) (by omega) (by omega)]
 simp only[aF,ae,aC,af]
 have e0:((i+1:Nat):Int)=(i:Int)+1:=by omega
 rw[e0]
 by_cases h1:i=20
 ·subst h1;rw[show decide (((20:Nat):Int)=20)=true by rfl,cS _ _ _ _ (by omega) (by omega) (by omega) hw hw' (by omega) (by omega)];rfl
 ·by_cases h2:11<i
  ·rw[show decide ((i:Int)=20)=false by simp;omega,show decide ((i:Int)>11)=true by simp;omega,show decide ((i:Int)>10)=true by simp;omega,ap h1,av h2]
   simp only[ae,ac]
   rw[cS _ _ _ _ (by omega) (by omega) (by omega) hw hw' (by omega) (by omega)];rfl
  ·by_cases h3:10<i
   ·rw[show decide ((i:Int)=20)=false by simp;omega,show decide ((i:Int)>11)=false by simp;omega,show decide ((i:Int)>10)=true by simp;omega,ap h1,ap h2,av h3]
    simp only[ae,ac]
    rw[cS _ _ _ _ (by omega) (by omega) (by omega) hw hw' (by omega) (by omega),show((9+i:Nat):Int)=9+(i:Int) by omega];rfl
   ·rw[show decide ((i:Int)=20)=false by simp;omega,show decide ((i:Int)>11)=false by simp;omega,show decide ((i:Int)>10)=false by simp;omega,ap h1,ap h2,ap h3]
    simp only[ac]
    rw[cS _ _ _ _ (by omega) (by omega) (by omega) hw hw' (by omega) (by omega),show((20+i:Nat):Int)=20+(i:Int) by omega];rfl
theorem qI (L:Int→Nat→Option Int) (v:Int) (pl:Nat→Nat) (lo hi:Nat) (step:∀(w:Int) (i:Nat),0≤w→w<4294967296→lo≤i→i<hi→L w i=L (dl w (pl i:Nat) 1 (v/2^i%2)) (i+1))
  (a p:Nat) (ha:lo≤a) (w:Int) (hw:0≤w) (hw':w<4294967296) (n:Nat) (hn:a+n≤hi) (hp1:p≤31) (hpn:p+n≤32) (hp:∀c:Nat,c<n→pl (a+c)=p+c):
  ∀c:Nat,c≤n→L w a=L (dl w (p:Int) (c:Int) (v/2^a)) (a+c):=by
 intro c
 induction c with
 |zero=>intro _;rw[show((0:Nat):Int)=0 by rfl,CD _ _ _ (by omega) (by omega) hw hw',Nat.add_zero]
 |succ c ih=>
  intro hc
  have r:=cf w p c (v/2^a) (by omega) (by omega) (by omega) hw hw'
  rw[ih (by omega),step _ (a+c) r.1 r.2 (by omega) (by omega),hp c (by omega)]
  have e:v/2^(a+c)=v/2^a/2^c:=by rw[Int.pow_add,Int.ediv_ediv_of_nonneg (Int.le_of_lt (Int.pow_pos (by decide)))]
  rw[e,show((p+c:Nat):Int)=(p:Int)+(c:Int) by omega,CC _ _ _ _ (by omega) (by omega) hw hw']
  rfl
def OD (i:Nat):Nat:=if i=20 then 31 else if 11<i then i else if 10<i then 9+i else 20+i
def qJ (i:Nat):Nat:=if i=12 then 31 else if i=11 then 7 else if 4<i then 20+i else 7+i
theorem GJ (x:Int×Int×Int×Int×Int) (hx: -9223372036854775808≤x.2.2.2.2) (hx':x.2.2.2.2≤9223372036854775807) (w:Int) (hw:0≤w) (hw':w<4294967296):
  iE.a x w 1=some (dl (dl (dl (dl w 21 10 (x.2.2.2.2/2)) 20 1 (x.2.2.2.2/2048)) 12 8 (x.2.2.2.2/4096)) 31 1 (x.2.2.2.2/1048576)):=by
 have st:=qI (fun w i=>iE.a x w (i:Int)) x.2.2.2.2 OD 1 21 (fun w i h1 h2 h3 h4=>CE x hx hx' w h1 h2 i h3 (by omega))
 have r1:=cf w 21 10 (x.2.2.2.2/2) (by decide) (by decide) (by decide) hw hw'
 have r2:=cf _ 20 1 (x.2.2.2.2/2048) (by decide) (by decide) (by decide) r1.1 r1.2
 have r3:=cf _ 12 8 (x.2.2.2.2/4096) (by decide) (by decide) (by decide) r2.1 r2.2
 refine(st 1 21 (by decide) w hw hw' 10 (by decide) (by decide) (by decide) (by decide) 10 (by decide)).trans ?_
 refine(st 11 20 (by decide) _ r1.1 r1.2 1 (by decide) (by decide) (by decide) (by decide) 1 (by decide)).trans ?_
 refine(st 12 12 (by decide) _ r2.1 r2.2 8 (by decide) (by decide) (by decide) (by decide) 8 (by decide)).trans ?_
 refine(st 20 31 (by decide) _ r3.1 r3.2 1 (by decide) (by decide) (by decide) (by decide) 1 (by decide)).trans ?_
 exact iE.a_eq _ _ _
theorem xk (x:Int×Int×Int×Int×Int) (hx: -9223372036854775808≤x.2.2.2.2) (hx':x.2.2.2.2≤9223372036854775807) (w:Int) (hw:0≤w) (hw':w<4294967296) (i:Nat) (h:1≤i) (h':i≤12):
  iE.b x w (i:Int)=iE.b x (dl w (qJ i:Nat) 1 (x.2.2.2.2/2^i%2)) ((i+1:Nat):Int):=by
 rw[iE.b_eq,show decide ((i:Int)<13)=true by simp;omega,hJ _ _ hx hx' (by omega) (by omega),aT (n:=7+(i:Int)) (by omega) (by omega),aT (n:=20+(i:Int)) (by omega) (by omega),aT (n:=(i:Int)+1) (by omega) (by omega)]
 simp only[aF,ae,aC,af,qJ]
 have e0:((i+1:Nat):Int)=(i:Int)+1:=by omega
 rw[e0]
 by_cases h1:i=12
 ·subst h1;rw[show decide (((12:Nat):Int)=12)=true by rfl,cS _ _ _ _ (by omega) (by omega) (by omega) hw hw' (by omega) (by omega)];rfl
 ·by_cases h2:i=11
  ·subst h2
   rw[show decide (((11:Nat):Int)=12)=false by rfl,show decide (((11:Nat):Int)>4)=true by rfl,show decide (((11:Nat):Int)=11)=true by rfl]
   simp only[ae,ac]
   rw[cS _ _ _ _ (by omega) (by omega) (by omega) hw hw' (by omega) (by omega)];rfl
  ·by_cases h3:4<i
   ·rw[show decide ((i:Int)=12)=false by simp;omega,show decide ((i:Int)=11)=false by simp;omega,show decide ((i:Int)>4)=true by simp;omega,ap h1,ap h2,av h3]
    simp only[ae,ac]
    rw[cS _ _ _ _ (by omega) (by omega) (by omega) hw hw' (by omega) (by omega),show((20+i:Nat):Int)=20+(i:Int) by omega];rfl
   ·rw[show decide ((i:Int)=12)=false by simp;omega,show decide ((i:Int)=11)=false by simp;omega,show decide ((i:Int)>4)=false by simp;omega,ap h1,ap h2,ap h3]
    simp only[ac]
    rw[cS _ _ _ _ (by omega) (by omega) (by omega) hw hw' (by omega) (by omega),show((7+i:Nat):Int)=7+(i:Int) by omega];rfl
theorem zr (x:Int×Int×Int×Int×Int) (hx: -9223372036854775808≤x.2.2.2.2) (hx':x.2.2.2.2≤9223372036854775807) (w:Int) (hw:0≤w) (hw':w<4294967296):
  iE.b x w 1=some (dl (dl (dl (dl w 8 4 (x.2.2.2.2/2)) 25 6 (x.2.2.2.2/32)) 7 1 (x.2.2.2.2/2048)) 31 1 (x.2.2.2.2/4096)):=by
 have st:=qI (fun w i=>iE.b x w (i:Int)) x.2.2.2.2 qJ 1 13 (fun w i h1 h2 h3 h4=>xk x hx hx' w h1 h2 i h3 (by omega))
 have r1:=cf w 8 4 (x.2.2.2.2/2) (by decide) (by decide) (by decide) hw hw'
 have r2:=cf _ 25 6 (x.2.2.2.2/32) (by decide) (by decide) (by decide) r1.1 r1.2
 have r3:=cf _ 7 1 (x.2.2.2.2/2048) (by decide) (by decide) (by decide) r2.1 r2.2
 refine(st 1 8 (by decide) w hw hw' 4 (by decide) (by decide) (by decide) (by decide) 4 (by decide)).trans ?_
 refine(st 5 25 (by decide) _ r1.1 r1.2 6 (by decide) (by decide) (by decide) (by decide) 6 (by decide)).trans ?_
 refine(st 11 7 (by decide) _ r2.1 r2.2 1 (by decide) (by decide) (by decide) (by decide) 1 (by decide)).trans ?_
 refine(st 12 31 (by decide) _ r3.1 r3.2 1 (by decide) (by decide) (by decide) (by decide) 1 (by decide)).trans ?_
 exact iE.b_eq _ _ _
theorem zt (x:Int×Int×Int×Int×Int) (hx: -9223372036854775808≤x.2.2.2.2) (hx':x.2.2.2.2≤9223372036854775807) (w:Int) (hw:0≤w) (hw':w<4294967296) (i:Nat) (h:5≤i) (h':i≤11):
  iE.c x w (i:Int)=iE.c x (dl w (20+i:Nat) 1 (x.2.2.2.2/2^i%2)) ((i+1:Nat):Int):=by
 rw[iE.c_eq,show decide ((i:Int)<12)=true by simp;omega,hJ _ _ hx hx' (by omega) (by omega),aT (n:=20+(i:Int)) (by omega) (by omega),aT (n:=(i:Int)+1) (by omega) (by omega)]
 simp only[ae,aC,af]
 rw[cS _ _ _ _ (by omega) (by omega) (by omega) hw hw' (by omega) (by omega),show((20+i:Nat):Int)=20+(i:Int) by omega];rfl
theorem CF (x:Int×Int×Int×Int×Int) (hx: -9223372036854775808≤x.2.2.2.2) (hx':x.2.2.2.2≤9223372036854775807) (w:Int) (hw:0≤w) (hw':w<4294967296):
  iE.c x w 5=some (dl w 25 7 (x.2.2.2.2/32)):=by
 have st:=qI (fun w i=>iE.c x w (i:Int)) x.2.2.2.2 (fun i=>20+i) 5 12 (fun w i h1 h2 h3 h4=>zt x hx hx' w h1 h2 i h3 (by omega))
 refine(st 5 25 (by decide) w hw hw' 7 (by decide) (by decide) (by decide) (by decide) 7 (by decide)).trans ?_
 exact iE.c_eq _ _ _
theorem jr {w v:Int} (hw:0≤w) (hw':w<4294967296) (h:w/128%32=0) (hv: -9223372036854775808≤v) (hv':v≤9223372036854775807):gF w 7 5 v=some (w+v%32*128):=
 (cS w 7 5 v (by decide) (by decide) (by decide) hw hw' hv hv').trans (congrArg some (bJ 7 5 128 32 rfl rfl h))
theorem CG {w v:Int} (hw:0≤w) (hw':w<4294967296) (h:w/4096%1048576=0) (hv: -9223372036854775808≤v) (hv':v≤9223372036854775807):gF w 12 20 v=some (w+v%1048576*4096):=
 (cS w 12 20 v (by decide) (by decide) (by decide) hw hw' hv hv').trans (congrArg some (bJ 12 20 4096 1048576 rfl rfl h))
theorem iW {w v:Int} (hw:0≤w) (hw':w<4294967296) (h:w/4096%8=0) (hv: -9223372036854775808≤v) (hv':v≤9223372036854775807):gF w 12 3 v=some (w+v%8*4096):=
 (cS w 12 3 v (by decide) (by decide) (by decide) hw hw' hv hv').trans (congrArg some (bJ 12 3 4096 8 rfl rfl h))
theorem iX {w v:Int} (hw:0≤w) (hw':w<4294967296) (h:w/32768%32=0) (hv: -9223372036854775808≤v) (hv':v≤9223372036854775807):gF w 15 5 v=some (w+v%32*32768):=
 (cS w 15 5 v (by decide) (by decide) (by decide) hw hw' hv hv').trans (congrArg some (bJ 15 5 32768 32 rfl rfl h))
theorem tP {w v:Int} (hw:0≤w) (hw':w<4294967296) (h:w/1048576%4096=0) (hv: -9223372036854775808≤v) (hv':v≤9223372036854775807):gF w 20 12 v=some (w+v%4096*1048576):=
 (cS w 20 12 v (by decide) (by decide) (by decide) hw hw' hv hv').trans (congrArg some (bJ 20 12 1048576 4096 rfl rfl h))
theorem mG {w v:Int} (hw:0≤w) (hw':w<4294967296) (h:w/1048576%32=0) (hv: -9223372036854775808≤v) (hv':v≤9223372036854775807):gF w 20 5 v=some (w+v%32*1048576):=
 (cS w 20 5 v (by decide) (by decide) (by decide) hw hw' hv hv').trans (congrArg some (bJ 20 5 1048576 32 rfl rfl h))
theorem GK {w v:Int} (hw:0≤w) (hw':w<4294967296) (h:w/1048576%64=0) (hv: -9223372036854775808≤v) (hv':v≤9223372036854775807):gF w 20 6 v=some (w+v%64*1048576):=
 (cS w 20 6 v (by decide) (by decide) (by decide) hw hw' hv hv').trans (congrArg some (bJ 20 6 1048576 64 rfl rfl h))
theorem qK {w v:Int} (hw:0≤w) (hw':w<4294967296) (h:w/33554432%128=0) (hv: -9223372036854775808≤v) (hv':v≤9223372036854775807):gF w 25 7 v=some (w+v%128*33554432):=
 (cS w 25 7 v (by decide) (by decide) (by decide) hw hw' hv hv').trans (congrArg some (bJ 25 7 33554432 128 rfl rfl h))
theorem zu {w v:Int} (h:w/2097152%1024=0):dl w 21 10 v=w+v%1024*2097152:=bJ 21 10 2097152 1024 rfl rfl h
theorem CH {w v:Int} (h:w/1048576%2=0):dl w 20 1 v=w+v%2*1048576:=bJ 20 1 1048576 2 rfl rfl h
theorem CI {w v:Int} (h:w/4096%256=0):dl w 12 8 v=w+v%256*4096:=bJ 12 8 4096 256 rfl rfl h
theorem tQ {w v:Int} (h:w/2147483648%2=0):dl w 31 1 v=w+v%2*2147483648:=bJ 31 1 2147483648 2 rfl rfl h
theorem GL {w v:Int} (h:w/256%16=0):dl w 8 4 v=w+v%16*256:=bJ 8 4 256 16 rfl rfl h
theorem CJ {w v:Int} (h:w/33554432%64=0):dl w 25 6 v=w+v%64*33554432:=bJ 25 6 33554432 64 rfl rfl h
theorem GM {w v:Int} (h:w/128%2=0):dl w 7 1 v=w+v%2*128:=bJ 7 1 128 2 rfl rfl h
theorem CK {w v:Int} (h:w/33554432%128=0):dl w 25 7 v=w+v%128*33554432:=bJ 25 7 33554432 128 rfl rfl h
theorem f6 (x:Int×Int×Int×Int×Int) (h:1≤x.1) (h':x.1≤64) (hr:fZ x) (hu:(bG x.1).1=1→x.2.2.2.2%4096=0):iE x=some (bL (bG x.1) x):=by
 rw[Mz,fp _ (by omega) h']
 have hs:=io x.1 h h'
 generalize bG x.1=s at*
 obtain⟨n,rd',rs1,rs2,imm⟩:=x
 obtain⟨f,c,f3,f7⟩:=s
 obtain⟨⟨d1,d2⟩,⟨a1,a2⟩,⟨b1,b2⟩,⟨i1,i2⟩⟩:=hr
 obtain⟨s1,⟨s2,s2'⟩,⟨s3,s3'⟩,⟨s4,s4'⟩,s5,s6⟩:=dr hs
 clear hs
 dsimp only at*
 simp only[af,aF]
 rcases fL s1 with rfl|rfl|rfl|rfl|rfl|rfl|rfl|rfl|rfl
 ·have hu:=hu rfl
  have ht:imm.tdiv 4096=imm/4096:=by
   rw[Int.tdiv_eq_ediv_of_dvd];exact Int.dvd_of_emod_eq_zero hu
  simp only[d8,↓reduceIte,decide_true,ht]
  rw[aT (n:=imm/4096) (by omega) (by omega),jr (by omega) (by omega) (by omega) (by omega) (by omega)]
  simp only[af]
  rw[CG (by omega) (by omega) (by omega) (by omega) (by omega)]
  simp[bL];omega
 ·simp(disch:=omega) [jr,GJ,bL]
  rw[zu (by omega)]
  have hb0:0≤imm/2%1024∧imm/2%1024<1024:=by omega
  generalize imm/2%1024=y0 at*
  rw[CH (by omega)]
  have hb1:0≤imm/2048%2∧imm/2048%2<2:=by omega
  generalize imm/2048%2=y1 at*
  rw[CI (by omega)]
  have hb2:0≤imm/4096%256∧imm/4096%256<256:=by omega
  generalize imm/4096%256=y2 at*
  rw[tQ (by omega)]
  have hb3:0≤imm/1048576%2∧imm/1048576%2<2:=by omega
  generalize imm/1048576%2=y3 at*
  omega
 ·simp(disch:=omega) [jr,iW,iX,tP,bL]
  omega
 ·simp(disch:=omega) [iW,iX,mG,zr,bL]
  rw[GL (by omega)]
  have hb0:0≤imm/2%16∧imm/2%16<16:=by omega
  generalize imm/2%16=y0 at*
  rw[CJ (by omega)]
  have hb1:0≤imm/32%64∧imm/32%64<64:=by omega
  generalize imm/32%64=y1 at*
  rw[GM (by omega)]
  have hb2:0≤imm/2048%2∧imm/2048%2<2:=by omega
  generalize imm/2048%2=y2 at*
  rw[tQ (by omega)]
  have hb3:0≤imm/4096%2∧imm/4096%2<2:=by omega
  generalize imm/4096%2=y3 at*
  omega
 ·simp(disch:=omega) [jr,iW,iX,mG,CF,bL]
  have hb0:0≤imm%32∧imm%32<32:=by omega
  generalize imm%32=y0 at*
  rw[CK (by omega)]
  have hb1:0≤imm/32%128∧imm/32%128<128:=by omega
  generalize imm/32%128=y1 at*
  omega
 ·have hf:=s5 rfl
  simp(disch:=omega) [jr,iW,iX,qK,GK,bL]
  omega
 ·simp(disch:=omega) [jr,iW,iX,qK,mG,bL]
  omega
 ·simp(disch:=omega) [jr,iW,iX,qK,mG,bL]
  omega
 ·simp(disch:=omega) [tP,bL]
  omega
def fM (f w:Int):Int:=
 if f=1 then w/4096%1048576*4096
 else if f=2 then w/4096%256*4096+w/1048576%2*2048+w/2097152%1024*2+w/2147483648%2*1048576
 else if f=3 then w/1048576%4096
 else if f=4 then w/128%2*2048+w/256%16*2+w/33554432%64*32+w/2147483648%2*4096
 else if f=5 then w/128%32+w/33554432%128*32
 else if f=6 then w/1048576%64
 else if f=7 then w/1048576%32
 else 0
def eJ (f:Int):Nat:=if f=1 then 32 else if f=2 then 21 else if f=3∨f=5 then 12 else if f=4 then 13 else 0
def nF (f w:Int):Int:=if 0<eJ f then cI (fM f w) (eJ f)else fM f w
def dR (n f w:Int):Int×Int×Int×Int×Int:=
 (n,(if(be f).1 then w/128%32 else 0),(if(be f).2.1 then w/32768%32 else 0),(if(be f).2.2 then w/1048576%32 else 0),nF f w)
theorem xl {f:Int} (h:1≤f∧f≤9):Tu f=some ((eJ f:Nat):Int):=by
 rw[N5]
 rcases fL h with rfl|rfl|rfl|rfl|rfl|rfl|rfl|rfl|rfl<;>rfl
theorem zw {f w:Int} (hf:1≤f∧f≤9) (h:0≤w) (h':w<4294967296): -2147483648≤nF f w∧nF f w≤2147483647:=by
 rcases fL hf with rfl|rfl|rfl|rfl|rfl|rfl|rfl|rfl|rfl<;>simp[nF,eJ,fM,cI]<;>omega
theorem fO {n f w:Int} (hf:1≤f∧f≤9) (h:0≤w) (h':w<4294967296):fZ (dR n f w):=by
 have hi:=zw hf h h'
 refine⟨?_, ?_, ?_, ?_⟩
 ·simp only[dR];split<;>omega
 ·simp only[dR];split<;>omega
 ·simp only[dR];split<;>omega
 ·simp only[dR];omega
def mH (w:Int) (i:Int) (p:Int×Int×Int):Int:=iD .i64 i (de .i64 (w/2^p.2.2.toNat%2^p.2.1.toNat) p.1)
theorem GN (w:Int) (z:Int×Int×Int×Int×Int) (s:Int×Int×Int×Int) (os:List (ByteArray×Int×Int×Int×Int)) (ln n:Int) (op rd' r1 r2:Int) (ps:List (Int×Int×Int)) (hp:mF ps):
  ∀(k j:Nat) (i:Int),j+k=ps.length→jK.b w z s (op,rd',r1,r2,i) os ln n ps (ps.length:Int) (j:Int)=jK.b w z s (op,rd',r1,r2,(ps.drop j).foldl (mH w) i) os ln n ps (ps.length:Int) (ps.length:Int):=by
 intro k
 induction k with
 |zero=>
   intro j i h;have:j=ps.length:=by omega
   subst this;simp
 |succ k ih=>
  intro j i h
  have hj:j<ps.length:=by omega
  obtain⟨p1,p2,p3,p4,p5,p6⟩:=hp.2 ps[j] (List.getElem_mem hj)
  have e:=aW (τ:= .pair (.int .i64) (.pair (.int .i64) (.int .i64))) ps j hj
  rw[jK.b_eq,ah,aj,e,an j ps.length hj (by have:=hp.1;omega)]
  simp only[ab hj,ae]
  rw[fo _ _ _ (by omega) (by omega) (by omega) (by omega)]
  simp only[af]
  rw[show decide (ps[j].1<0)=false by simp;omega]
  simp only[ac]
  rw[ih (j+1) _ (by omega),List.drop_eq_getElem_cons hj,List.foldl_cons]
  rfl
theorem GO {y:Int} (h0:0≤y) (h:y≤2147483647):de .i64 y 11=y*2048:=eo 11 2048 rfl (by decide) h0 (by omega)
theorem Ks {y:Int} (h0:0≤y) (h:y≤2147483647):de .i64 y 1=y*2:=eo 1 2 rfl (by decide) h0 (by omega)
theorem Kt {y:Int} (h0:0≤y) (h:y≤2147483647):de .i64 y 5=y*32:=eo 5 32 rfl (by decide) h0 (by omega)
theorem Bf {y:Int} (h0:0≤y) (h:y≤2147483647):de .i64 y 0=y:=by
 rw[mB (by decide) (by decide)];simp;exact aT (by omega) (by omega)
theorem pj {y:Int} (h0:0≤y) (h:y≤2147483647):iD .i64 0 y=y:=by
 have:=bF (x:=0) (y:=y) (P:=1) (Q:=2147483648) 0 31 rfl rfl (by decide) (by decide) (by decide) h0 (by omega) (by omega)
 simpa using this
theorem xm {f w:Int} (hf:1≤f∧f≤9) (h:0≤w) (h':w<4294967296):(ck f).foldl (mH w) 0=fM f w:=by
 rcases fL hf with rfl|rfl|rfl|rfl|rfl|rfl|rfl|rfl|rfl
 ·simp[ck,mH,fM]
  have hb0:0≤w/4096%1048576∧w/4096%1048576<1048576:=by omega
  generalize w/4096%1048576=y0 at*
  simp(disch:=omega) only[gG,xh]
  omega
 ·simp[ck,mH,fM]
  have hb0:0≤w/4096%256∧w/4096%256<256:=by omega
  generalize w/4096%256=y0 at*
  have hb1:0≤w/1048576%2∧w/1048576%2<2:=by omega
  generalize w/1048576%2=y1 at*
  have hb2:0≤w/2097152%1024∧w/2097152%1024<1024:=by omega
  generalize w/2097152%1024=y2 at*
  have hb3:0≤w/2147483648%2∧w/2147483648%2<2:=by omega
  generalize w/2147483648%2=y3 at*
  simp(disch:=omega) only[gG,GO,Ks,jq,Bc,Be,Je,u6]
  omega
 ·simp[ck,mH,fM]
  have hb0:0≤w/1048576%4096∧w/1048576%4096<4096:=by omega
  generalize w/1048576%4096=y0 at*
  simp(disch:=omega) only[Bf,pj]
 ·simp[ck,mH,fM]
  have hb0:0≤w/128%2∧w/128%2<2:=by omega
  generalize w/128%2=y0 at*
  have hb1:0≤w/256%16∧w/256%16<16:=by omega
  generalize w/256%16=y1 at*
  have hb2:0≤w/33554432%64∧w/33554432%64<64:=by omega
  generalize w/33554432%64=y2 at*
  have hb3:0≤w/2147483648%2∧w/2147483648%2<2:=by omega
  generalize w/2147483648%2=y3 at*
  simp(disch:=omega) only[GO,Ks,Kt,gG,Be,Oy,Oz,Jf]
  omega
 ·simp[ck,mH,fM]
  have hb0:0≤w/128%32∧w/128%32<32:=by omega
  generalize w/128%32=y0 at*
  have hb1:0≤w/33554432%128∧w/33554432%128<128:=by omega
  generalize w/33554432%128=y1 at*
  simp(disch:=omega) only[Bf,Kt,pj,OA]
 ·simp[ck,mH,fM]
  have hb0:0≤w/1048576%64∧w/1048576%64<64:=by omega
  generalize w/1048576%64=y0 at*
  simp(disch:=omega) only[Bf,pj]
 ·simp[ck,mH,fM]
  have hb0:0≤w/1048576%32∧w/1048576%32<32:=by omega
  generalize w/1048576%32=y0 at*
  simp(disch:=omega) only[Bf,pj]
 ·rfl
 ·rfl
theorem Jh {f w:Int} (hf:1≤f∧f≤9):(if 0<eJ f then Sy (fM f w) ((eJ f:Nat):Int)else some (fM f w))=some (nF f w):=by
 unfold nF
 rcases fL hf with rfl|rfl|rfl|rfl|rfl|rfl|rfl|rfl|rfl<;>simp[eJ]<;>rw[zq _ _ (by decide) (by decide)]<;>rfl
theorem GP (n:Int) (h:0≤n) (h':n≤64):∃os:List (ByteArray×Int×Int×Int×Int),Sw=some os∧os.length=65∧∀m:Nat,m≤64→((rd (τ:=(.pair .str (.pair (.int .i64) (.pair (.int .i64) (.pair (.int .i64) (.int .i64)))))) os m).2)=bG m:=by
 refine⟨_,Gw,rfl,fun m hm=> ?_⟩
 obtain⟨k,rfl⟩:∃k:Fin 65,m=k.val:=⟨⟨m,by omega⟩,rfl⟩
 clear hm;revert k
 decide+kernel
theorem ip (w:Int) (h:0≤w) (h':w<4294967296) (z:Int×Int×Int×Int×Int) (os:List (ByteArray×Int×Int×Int×Int)) (ho:os.length=65) (hs:∀m:Nat,m≤64→((rd (τ:=(.pair .str (.pair (.int .i64) (.pair (.int .i64) (.pair (.int .i64) (.int .i64)))))) os m).2)=bG m) (n:Nat) (h1:1≤n) (hn:n≤64):
  jK.a w z os 65 n=if(bG n).2.1=w%128∧bL (bG n) (dR n (bG n).1 w)=w then some (dR n (bG n).1 w,true)else jK.a w z os 65 ((n+1:Nat):Int):=by
 have hsf:=io n (by omega) (by omega)
 rw[jK.a_eq,show decide ((n:Int)<65)=true by simp;omega,ho,show az (n:Int) 65=true by rw[aj];simp;omega,hs n hn,show decide ((n:Int)=0)=false by simp;omega,fo w 0 7 (by decide) (by decide) (by decide) (by decide),aT (n:=(n:Int)+1) (by omega) (by omega)]
 have e0:((n+1:Nat):Int)=(n:Int)+1:=by omega
 rw[e0]
 simp only[ae,ac,aF,af]
 rw[show w/2^(0:Int).toNat%2^(7:Int).toNat=w%128 by simp]
 by_cases hc:(bG n).2.1=w%128
 ·have henc:∀x:Int×Int×Int×Int×Int,x.1=(n:Int)→fZ x→w9 x=some (bL (bG n) x):=fun x hx hr=>by rw[←hx];exact ep x (by omega) (by omega) hr
  generalize hS:bG n=s at*
  obtain⟨f,c,f3,f7⟩:=s
  obtain⟨s1,⟨s2,s2'⟩,⟨s3,s3'⟩,⟨s4,s4'⟩,s5,s6⟩:=dr hsf
  obtain⟨hp,hpo⟩:=qG s1
  dsimp only at*
  rw[ab hc,hp]
  simp only[eq_true hc,true_and,aD,ac,af]
  clear hc
  rw[show(0:Int)=((0:Nat):Int) by rfl,GN _ _ _ _ _ _ _ _ _ _ _ hpo (ck f).length 0 _ (by omega),List.drop_zero,show(((0:Nat):Int))=0 by rfl,xm s1 h h',jK.b_eq,ah]
  simp only[aA,decide_false,ac,xl s1,qH s1,af,aF]
  have hi:=Jh (w:=w) s1
  have he:=henc (dR n f w) rfl (fO s1 h h')
  have b1:Gx w 7 5=some (w/128%32):=fo w 7 5 (by decide) (by decide) (by decide) (by decide)
  have b2:Gx w 15 5=some (w/32768%32):=fo w 15 5 (by decide) (by decide) (by decide) (by decide)
  have b3:Gx w 20 5=some (w/1048576%32):=fo w 20 5 (by decide) (by decide) (by decide) (by decide)
  rw[aT (n:=(n:Int)+1) (by omega) (by omega)]
  clear henc hS hs ho hp hpo s5 s6 hsf
  unfold dR at he⊢
  generalize jK.a w z os 65 (↑n+1)=nx
  generalize fM f w=iu at*
  generalize nF f w=im at*
  simp only[b1,b2,b3,af]
  rcases fL s1 with rfl|rfl|rfl|rfl|rfl|rfl|rfl|rfl|rfl<;>simp[eJ,be]at hi he⊢ <;>first|(rw[hi,af,he];simp[d8])|(rw[hi,he];simp[d8])
 ·rw[ap (fun hh=>hc hh.1),show decide ((bG n).2.1=w%128)=false by simpa using hc]
  rfl
theorem xn (n:Int):S2 n=some (decide (1≤n)&&decide (n≤64)):=by
 rw[Mv,zd]
 by_cases h:n≥1<;>simp[h]
theorem vb (n:Int):Rk n=some (decide (0≤n)&&decide (n≤31)):=by
 rw[Mw,zd]
 by_cases h:n≥0<;>simp[h]
theorem fP (n a b:Int):ol n a b=some (decide (a≤n)&&decide (n≤b)):=by
 rw[zd]
 by_cases h:n≥a<;>simp[h]
theorem cu (n a b:Int):gb n a b=some (decide (a≤n)&&decide (n≤b)):=by
 rw[ze]
 by_cases h:a≤n<;>simp[h]
def js (f i:Int):Bool:=
 if f=1 then decide (-2147483648≤i)&&decide (i≤2147479552)&&decide (i%4096=0)
 else if f=2 then decide (-1048576≤i)&&decide (i≤1048574)&&decide (i%2=0)
 else if f=3∨f=5 then decide (-2048≤i)&&decide (i≤2047)
 else if f=4 then decide (-4096≤i)&&decide (i≤4094)&&decide (i%2=0)
 else if f=6 then decide (0≤i)&&decide (i≤63)
 else if f=7 then decide (0≤i)&&decide (i≤31)
 else decide (i=0)
def dw (x:Int×Int×Int×Int×Int):Bool:=
 decide (1≤x.1)&&decide (x.1≤64)&&decide (0≤x.2.1)&&decide (x.2.1≤31)&&decide (0≤x.2.2.1)&&decide (x.2.2.1≤31)&&decide (0≤x.2.2.2.1)&&decide (x.2.2.2.1≤31)
  &&((be (bG x.1).1).1||decide (x.2.1=0))&&((be (bG x.1).1).2.1||decide (x.2.2.1=0))&&((be (bG x.1).1).2.2||decide (x.2.2.2.1=0))&&js (bG x.1).1 x.2.2.2.2
theorem ks (x:Int×Int×Int×Int×Int):Sn x=some (dw x):=by
 rw[Mx]
 obtain⟨n,d,a,b,i⟩:=x
 simp only[aF,xn,vb,fP,af,dw]
 by_cases hn:1≤n∧n≤64
 ·by_cases hd:0≤d∧d≤31
  ·by_cases ha:0≤a∧a≤31
   ·by_cases hb:0≤b∧b≤31
    ·have hs:=io n hn.1 hn.2
     rw[fp n (by omega) hn.2]
     generalize bG n=s at*
     obtain⟨f,c,f3,f7⟩:=s
     have s1:=(dr hs).1
     simp only[hn,hd,ha,hb,decide_true,Bool.and_self,aD,ac,af,Bool.true_and]
     clear hs
     have t1:decide (i.tmod 4096=0)=decide (i%4096=0):=by
      congr 1;exact propext ⟨fun h=>by rw[←Int.dvd_iff_tmod_eq_zero]at h;omega,fun h=>by rw[←Int.dvd_iff_tmod_eq_zero];omega⟩
     have t2:decide (i.tmod 2=0)=decide (i%2=0):=by
      congr 1;exact propext ⟨fun h=>by rw[←Int.dvd_iff_tmod_eq_zero]at h;omega,fun h=>by rw[←Int.dvd_iff_tmod_eq_zero];omega⟩
     rw[t1,t2]
     rcases fL s1 with rfl|rfl|rfl|rfl|rfl|rfl|rfl|rfl|rfl<;>simp[be,js]<;>by_cases e1:d=0<;>by_cases e2:a=0<;>by_cases e3:b=0<;>simp[e1,e2,e3,d8]<;>(first|done|(split<;>first|(simp_all;done)|(simp;intro q1 q2;omega)))
    ·have:(decide (0≤b)&&decide (b≤31))=false:=by simpa using hb
     have h2:¬(0≤b∧b≤31):=hb
     rw[this]
     simp[hn,hd,ha]
     by_cases q:0≤b<;>simp[q]<;>intros<;>omega
   ·have:(decide (0≤a)&&decide (a≤31))=false:=by simpa using ha
    rw[this]
    simp[hn,hd]
    by_cases q:0≤a<;>simp[q]<;>intros<;>omega
  ·have:(decide (0≤d)&&decide (d≤31))=false:=by simpa using hd
   rw[this]
   simp[hn]
   by_cases q:0≤d<;>simp[q]<;>intros<;>omega
 ·have:(decide (1≤n)&&decide (n≤64))=false:=by simpa using hn
  rw[this]
  simp
theorem fQ {n:Int} (h:1≤n) (h':n≤64):1≤(bG n).1∧(bG n).1≤9:=by
 have:=io n h h'
 generalize bG n=s at*
 exact(dr this).1
theorem tR {n f w:Int} (hn:1≤n) (hn':n≤64) (hf:f=(bG n).1) (h:0≤w) (h':w<4294967296):dw (dR n f w)=true:=by
 have s1:=fQ hn hn'
 obtain⟨⟨d1,d2⟩,⟨a1,a2⟩,⟨b1,b2⟩,⟨i1,i2⟩⟩:=fO (n:=n) (hf▸s1) h h'
 have hi:js f (nF f w)=true:=by
  subst hf
  rcases fL s1 with e|e|e|e|e|e|e|e|e<;>rw[e]<;>simp[js,nF,eJ,fM,cI]<;>omega
 subst hf
 unfold dw
 simp only[ay,Bool.or_eq_true,aV]
 simp only[dR]at d1 d2 a1 a2 b1 b2⊢
 refine⟨⟨⟨⟨⟨⟨⟨⟨⟨⟨⟨hn,hn'⟩,d1⟩,d2⟩,a1⟩,a2⟩,b1⟩,b2⟩, ?_⟩, ?_⟩, ?_⟩,hi⟩
 ·cases (be (bG n).1).1<;>simp
 ·cases (be (bG n).1).2.1<;>simp
 ·cases (be (bG n).1).2.2<;>simp
theorem qL (w:Int) (h:0≤w) (h':w<4294967296) (n:Int) (h1:1≤n) (hn:n≤64):S0 n w=some (dR n (bG n).1 w):=by
 have s1:=fQ h1 hn
 have fv:∀l c:Int,0≤l→0≤c→l+c≤62→rP w l c=some (w/2^l.toNat%2^c.toNat):=fun l c a b d=>CA w l c (by omega) (by omega) a b d
 have bv:∀l:Int,0≤l→l≤63→yg w l=some (w/2^l.toNat%2):=fun l a b=>hJ w l (by omega) (by omega) a b
 rw[Mu,fv 7 5 (by decide) (by decide) (by decide),fv 15 5 (by decide) (by decide) (by decide),fv 20 5 (by decide) (by decide) (by decide),fv 12 20 (by decide) (by decide) (by decide),fv 21 10 (by decide) (by decide) (by decide),fv 12 8 (by decide) (by decide) (by decide),fv 20 12 (by decide) (by decide) (by decide),fv 8 4 (by decide) (by decide) (by decide),fv 25 6 (by decide) (by decide) (by decide),fv 25 7 (by decide) (by decide) (by decide),fv 20 6 (by decide) (by decide) (by decide),bv 20 (by decide) (by decide),bv 31 (by decide) (by decide),bv 7 (by decide) (by decide),fp n (by omega) hn]
 generalize bG n=s at*
 obtain⟨f,c,f3,f7⟩:=s
 dsimp only at*
 simp only[af,dR,nF]
 rcases fL s1 with rfl|rfl|rfl|rfl|rfl|rfl|rfl|rfl|rfl
 ·simp[be,eJ,fM]
  rw[iV _ 20 (by decide) (by decide) (by omega) (by omega)]
  simp[cI]
  rw[aT (by omega) (by omega)]
  omega
 ·simp[be,eJ,fM]
  rw[aT (n:=w/2097152%1024*2) (by omega) (by omega),aT (n:=w/1048576%2*2048) (by omega) (by omega),aT (n:=w/4096%256*4096) (by omega) (by omega),aT (n:=w/2147483648%2*1048576) (by omega) (by omega),aT (n:=w/2097152%1024*2+w/1048576%2*2048) (by omega) (by omega),aT (n:=w/2097152%1024*2+w/1048576%2*2048+w/4096%256*4096) (by omega) (by omega),aT (by omega) (by omega),iV _ 21 (by decide) (by decide) (by omega) (by omega)]
  simp
  congr 1;omega
 ·simp[be,eJ,fM]
  rw[iV _ 12 (by decide) (by decide) (by omega) (by omega)]
  simp
 ·simp[be,eJ,fM]
  rw[aT (n:=w/256%16*2) (by omega) (by omega),aT (n:=w/33554432%64*32) (by omega) (by omega),aT (n:=w/128%2*2048) (by omega) (by omega),aT (n:=w/2147483648%2*4096) (by omega) (by omega),aT (n:=w/256%16*2+w/33554432%64*32) (by omega) (by omega),aT (n:=w/256%16*2+w/33554432%64*32+w/128%2*2048) (by omega) (by omega),aT (by omega) (by omega),iV _ 13 (by decide) (by decide) (by omega) (by omega)]
  simp
  congr 1;omega
 ·simp[be,eJ,fM]
  rw[aT (n:=w/33554432%128*32) (by omega) (by omega),aT (by omega) (by omega),iV _ 12 (by decide) (by decide) (by omega) (by omega)]
  simp
 ·simp[be,eJ,fM]
 ·simp[be,eJ,fM]
 ·simp[be,eJ,fM]
 ·simp[be,eJ,fM]
theorem OE {n f c f3 f7 w:Int} (hs:tN (f,c,f3,f7)=true) (h:0≤w) (h':w<4294967296) (hc:c=w%128) (h3:3≤f) (h8:f≤8) (he:bL (f,c,f3,f7) (dR n f w)=w):f3=w/4096%8:=by
 obtain⟨s1,⟨s2,s2'⟩,⟨s3,s3'⟩,⟨s4,s4'⟩,s5,s6⟩:=dr hs
 clear hs
 have hd:=(fO (n:=n) s1 h h').d
 have ha:=(fO (n:=n) s1 h h').a
 have hb:=(fO (n:=n) s1 h h').b
 have:f=3∨f=4∨f=5∨f=6∨f=7∨f=8:=by omega
 generalize dR n f w=x at*
 obtain⟨n',d,a,b,i⟩:=x
 dsimp only at*
 rcases this with rfl|rfl|rfl|rfl|rfl|rfl<;>simp only[bL,Int.reduceEq,↓reduceIte]at he
 ·have hb0:0≤i%4096∧i%4096<4096:=by omega
  generalize i%4096=y0 at*;omega
 ·have hb0:0≤i/2048%2∧i/2048%2<2:=by omega
  generalize i/2048%2=y0 at*
  have hb1:0≤i/2%16∧i/2%16<16:=by omega
  generalize i/2%16=y1 at*
  have hb2:0≤i/32%64∧i/32%64<64:=by omega
  generalize i/32%64=y2 at*
  have hb3:0≤i/4096%2∧i/4096%2<2:=by omega
  generalize i/4096%2=y3 at*;omega
 ·have hb0:0≤i%32∧i%32<32:=by omega
  generalize i%32=y0 at*
  have hb1:0≤i/32%128∧i/32%128<128:=by omega
  generalize i/32%128=y1 at*;omega
 ·have hb0:0≤i%64∧i%64<64:=by omega
  generalize i%64=y0 at*;omega
 ·have hb0:0≤i%32∧i%32<32:=by omega
  generalize i%32=y0 at*;omega
 ·omega
theorem sB (w:Int) (h:0≤w) (h':w<4294967296) (z:Int×Int×Int×Int×Int) (n:Nat) (h1:1≤n) (hn:n≤64):
  w8.a w z n=if(bG n).2.1=w%128∧bL (bG n) (dR n (bG n).1 w)=w then some (dR n (bG n).1 w,true)else w8.a w z ((n+1:Nat):Int):=by
 have hsf:=io n (by omega) (by omega)
 have s1:=fQ (n:=n) (by omega) (by omega)
 have hr:=tR (n:=n) (by omega) (by omega) rfl h h'
 have he:iE (dR n (bG n).1 w)=some (bL (bG n) (dR n (bG n).1 w)):=f6 (dR n (bG n).1 w) (by simp only[dR];omega) (by simp only[dR];omega) (fO s1 h h') (fun hf=>by
  have hf:(bG n).1=1:=hf
  show nF (bG n).1 w%4096=0
  rw[hf];simp[nF,eJ,fM,cI];omega)
 have e0:((n+1:Nat):Int)=(n:Int)+1:=by omega
 rw[w8.a_eq,show decide ((n:Int)≤64)=true by simp;omega,fp n (by omega) (by omega),aT (n:=(n:Int)+1) (by omega) (by omega),e0]
 simp only[ae,aF,af,fP,qL w h h' n (by omega) (by omega),ks,hr,he]
 have t1:w.tmod 128=w%128:=Int.tmod_eq_emod_of_nonneg h
 have t2:(w.tdiv 4096).tmod 8=w/4096%8:=by rw[Int.tdiv_eq_ediv_of_nonneg h,Int.tmod_eq_emod_of_nonneg (by omega)]
 have w1:IntKind.wrap .i64 (w.tdiv 4096)=w.tdiv 4096:=by rw[Int.tdiv_eq_ediv_of_nonneg h];exact aT (by omega) (by omega)
 rw[w1,t1,t2]
 have h3:=fun(hc:(bG n).2.1=w%128) (h3:3≤(bG n).1) (h8:(bG n).1≤8) (he:bL (bG n) (dR n (bG n).1 w)=w)=>OE (n:=n) (f:=(bG n).1) (c:=(bG n).2.1) (f3:=(bG n).2.2.1) (f7:=(bG n).2.2.2) hsf h h' hc h3 h8 he
 clear hsf hr he
 generalize bG n=s at*
 by_cases hc:s.2.1=w%128
 ·by_cases hf:3≤s.1∧s.1≤8
  ·by_cases hg:s.2.2.1=w/4096%8
   ·simp[hc,hf,hg,d8]
   ·have:¬bL s (dR n s.1 w)=w:=fun he=>hg (h3 hc hf.1 hf.2 he)
    simp[hc,hf,hg,this]
  ·have:(decide (3≤s.1)&&decide (s.1≤8))=false:=by simpa using hf
   simp[hc,this,d8]
 ·simp[hc]
def CL (w:Int) (v:(Int×Int×Int×Int×Int)×Bool):Prop:=(v.2=true→1≤v.1.1∧v.1.1≤64∧v.1=dR v.1.1 (bG v.1.1).1 w∧bL (bG v.1.1) v.1=w)∧(v.2=false→v.1=(0,0,0,0,0))
theorem kt (w:Int) (h:0≤w) (h':w<4294967296):∃v,jK w=some v∧w8 w=some v∧CL w v:=by
 obtain⟨os,ho,hl,hs⟩:=GP 0 (by decide) (by decide)
 rw[Gy,MA,ho]
 simp only[af,hl]
 have hz:jK.a w (0,0,0,0,0) os 65 0=jK.a w (0,0,0,0,0) os 65 1:=by
  rw[jK.a_eq,hl];rfl
 have key:∀(k n:Nat),n+k=65→1≤n→∃v,jK.a w (0,0,0,0,0) os 65 (n:Int)=some v∧w8.a w (0,0,0,0,0) (n:Int)=some v∧CL w v:=by
  intro k
  induction k with
  |zero=>
   intro n hn h1
   have:n=65:=by omega
   subst this
   rw[jK.a_eq,w8.a_eq]
   exact⟨_,rfl,rfl,(fun hh=>by cases hh),fun _=>rfl⟩
  |succ k ih=>
   intro n hn h1
   obtain⟨v,e1,e2,e3⟩:=ih (n+1) (by omega) (by omega)
   rw[ip w h h' _ os hl hs n h1 (by omega),sB w h h' _ n h1 (by omega),e1,e2]
   by_cases hc:(bG n).2.1=w%128∧bL (bG n) (dR n (bG n).1 w)=w
   ·rw[av hc]
    exact⟨_,rfl,rfl,fun _=>⟨by simp only[dR];omega,by simp only[dR];omega,rfl,hc.2⟩,(fun hh=>by cases hh)⟩
   ·rw[ap hc]
    exact⟨v,rfl,rfl,e3⟩
 rw[show(((65:Nat)):Int)=65 by rfl,hz]
 exact key 64 1 (by omega) (by omega)
abbrev d9:Ty:= .pair (.int .i64) (.pair (.int .i64) (.pair (.int .i64) (.pair (.int .i64) (.int .i64))))
abbrev gU:Type:=Int×Int×Int×Int×Int
theorem CM (a b:ByteArray):(bN a b=true)=(a=b):=by
 unfold bN
 rw[beq_iff_eq]
 refine propext ⟨fun h=> ?_,fun h=>by rw[h]⟩
 have e:∀x:ByteArray,x.toList=x.data.toList:=by
  intro x
  have:∀(n i:Nat) (r:List UInt8),n=x.size-i→ByteArray.toList.loop x i r=r.reverse++x.data.toList.drop i:=by
   intro n
   induction n with
   |zero=>
     intro i r hn
     rw[ByteArray.toList.loop,ap (by omega),List.drop_eq_nil_of_le (by have:x.size=x.data.size:=rfl;simp;omega),List.append_nil]
   |succ n ih=>
    intro i r hn
    have hi:i<x.data.toList.length:=by have:x.size=x.data.size:=rfl;simp;omega
    rw[ByteArray.toList.loop,av (by omega),ih (i+1) _ (by omega),List.drop_eq_getElem_cons hi]
    have:x.get! i=x.data.toList[i]:=by
     have h2:i<x.data.size:=by simpa using hi
     rw[ByteArray.get!,getElem!_pos x.data i h2];simp
    rw[this];simp
  have:=this (x.size-0) 0 [] rfl
  rw[ByteArray.toList,this];simp
 rw[e,e]at h
 have:a.data=b.data:=Array.toList_inj.mp h
 cases a;cases b;simp_all
theorem bg (a b:ByteArray):bN a b=decide (a=b):=by
 have:=CM a b
 by_cases h:a=b
 ·rw[ab h,this.mpr h]
 ·rw[ak h]
  cases e:bN a b
  ·rfl
  ·exact absurd (this.mp e) h
theorem pm (a b:gU):kR d9 a b=decide (a=b):=by
 obtain⟨a1,a2,a3,a4,a5⟩:=a
 obtain⟨b1,b2,b3,b4,b5⟩:=b
 simp[kR]
def eZ (t:ByteArray) (a:Nat):Nat→Nat
 |0=>0
 |n+1=>(t.data.getD a 0).toNat+256*eZ t (a+1) n
theorem GQ (t:ByteArray):∀(n a:Nat),eZ t a n<256^n:=by
 intro n
 induction n with
 |zero=>intro a;simp[eZ]
 |succ n ih=>
  intro a
  have h1:=ih (a+1)
  have h2:=(t.data.getD a 0).toNat_lt
  rw[eZ,Nat.pow_succ];omega
theorem fR (t:ByteArray) (a b:Nat) (hb:b≤t.size):∀(n i:Nat),i+n≤b-a→eZ (t.extract a b) i n=eZ t (a+i) n:=by
 intro n
 induction n with
 |zero=>intro i _;rfl
 |succ n ih=>
  intro i h
  rw[eZ,eZ,ih (i+1) (by omega)]
  congr 2
  rw[ByteArray.data_extract]
  have hs:t.size=t.data.size:=rfl
  simp[Array.getD]
  rw[dif_pos (by omega),dif_pos (by omega)]
theorem Ji (V b:Int) (hV:0≤V) (hb:0≤b) (hb':b≤255):iD .i64 (de .i64 (IntKind.wrap .i64 V) 8) b=IntKind.wrap .i64 (256*V+b):=by
 have h1:de .i64 (IntKind.wrap .i64 V) 8=IntKind.wrap .i64 (V*256):=by
  rw[mB (by decide) (by decide)]
  obtain⟨q,hq⟩:=zn V
  have e8:(2:Int)^(8:Int).toNat=256:=by decide
  rw[hq,e8,IntKind.wrap_i64,IntKind.wrap_i64];omega
 rw[h1]
 obtain⟨y,rfl⟩:=Int.eq_ofNat_of_zero_le hb
 unfold iD
 rw[BitVec.toNat_or]
 have f1:=zo (IntKind.wrap .i64 (V*256))
 have f2:(BitVec.ofInt IntKind.i64.bits (y:Int)).toNat=y:=by have:=zo (y:Int);omega
 have f3:IntKind.wrap .i64 (V*256)%18446744073709551616=V*256%18446744073709551616:=by
  rw[IntKind.wrap_i64];omega
 rw[f3]at f1
 rw[f2]
 generalize (BitVec.ofInt IntKind.i64.bits (IntKind.wrap .i64 (V*256))).toNat=x at*
 have h0:=mC x y 0 8 (by omega) (by omega)
 simp only[Nat.pow_zero,Nat.mul_one]at h0
 rw[h0,IntKind.wrap_i64,IntKind.wrap_i64]
 omega
theorem mI (n:Int):IntKind.wrap .u64 n=n%18446744073709551616:=by simp[IntKind.wrap,IntKind.bits,IntKind.signed]
theorem fq (t:ByteArray) (i:Nat):bt t (i:Int)=((t.data.getD i 0).toNat:Int):=by unfold bt;rw[aC]
theorem qM (t:ByteArray) (hz:t.size≤9223372036854775807):∀(k:Nat),k≤t.size→uY.a t (IntKind.wrap .i64 (eZ t k (t.size-k))) ((k:Int)-1)=some (IntKind.wrap .i64 (eZ t 0 t.size)):=by
 intro k
 induction k with
 |zero=>
  intro _
  rw[uY.a_eq];rfl
 |succ k ih=>
  intro hk
  have hs:(((k+1:Nat):Int)-1)=(k:Int):=by omega
  have hb:=xe t (k:Int)
  rw[hs,uY.a_eq,show decide ((k:Int)≥0)=true by simp,aj,ab (show k<t.size by omega),aT (n:=bt t (k:Int)) (by omega) (by omega),Ji _ _ (by omega) hb.1 hb.2,aT (n:=(k:Int)-1) (by omega) (by omega)]
  simp only[ae]
  have e:eZ t k (t.size-k)=(t.data.getD k 0).toNat+256*eZ t (k+1) (t.size-(k+1)):=by
   rw[show t.size-k=(t.size-(k+1))+1 by omega,eZ]
  have ih:=ih (by omega)
  rw[e]at ih
  rw[fq,show(256:Int)*(eZ t (k+1) (t.size-(k+1)):Nat)+((t.data.getD k 0).toNat:Nat)=(((t.data.getD k 0).toNat+256*eZ t (k+1) (t.size-(k+1)):Nat):Int) by omega]
  exact ih
theorem ef (t:ByteArray) (hz:t.size≤9223372036854775807):uY t=some (IntKind.wrap .i64 (eZ t 0 t.size)):=by
 have:=qM t hz t.size (by omega)
 rw[Nat.sub_self,show IntKind.wrap .i64 (eZ t t.size 0:Nat)=0 by rfl]at this
 rw[Oa,aT (n:=(t.size:Int)-1) (by omega) (by omega)]
 exact this
theorem qN (t:ByteArray) (a n:Nat) (hz:t.size≤4611686018427387904) (han:a+n≤t.size):∀(k:Nat),k≤n→su.a t (a:Int) (((eZ t (a+k) (n-k):Nat):Int)%18446744073709551616) ((k:Int)-1)=some (IntKind.wrap .i64 (eZ t a n)):=by
 intro k
 induction k with
 |zero=>
  intro _
  rw[su.a_eq,show decide (((0:Nat):Int)-1≥0)=false by rfl]
  simp only[ac,Nat.add_zero,Nat.sub_zero]
  congr 1
  rw[IntKind.wrap_i64,IntKind.wrap_i64];omega
 |succ k ih=>
  intro hk
  have hs:(((k+1:Nat):Int)-1)=(k:Int):=by omega
  have hi:((a:Int)+(k:Int))=((a+k:Nat):Int):=by omega
  rw[hs,su.a_eq,show decide ((k:Int)≥0)=true by simp,hi,aT (n:=((a+k:Nat):Int)) (by omega) (by omega),aj,ab (show a+k<t.size by omega),aT (n:=(k:Int)-1) (by omega) (by omega)]
  simp only[ae]
  have e:eZ t (a+k) (n-k)=(t.data.getD (a+k) 0).toNat+256*eZ t (a+(k+1)) (n-(k+1)):=by
   rw[show n-k=(n-(k+1))+1 by omega,eZ];rfl
  have ih:=ih (by omega)
  rw[e]at ih
  rw[fq]
  have hb:=(t.data.getD (a+k) 0).toNat_lt
  refine Eq.trans ?_ ih
  congr 1
  rw[mI,mI,mI]
  generalize (t.data.getD (a+k) 0).toNat=b at*
  generalize eZ t (a+(k+1)) (n-(k+1))=L at*
  omega
theorem fF (t:ByteArray) (a n:Nat) (hz:t.size≤4611686018427387904) (han:a+n≤t.size):su t (a:Int) (n:Int)=some (IntKind.wrap .i64 (eZ t a n)):=by
 have:=qN t a n hz han n (by omega)
 rw[Nat.sub_self,show((eZ t (a+n) 0:Nat):Int)%18446744073709551616=0 by rfl]at this
 rw[MB,aT (n:=(n:Int)-1) (by omega) (by omega)]
 exact this
theorem TE (t:ByteArray) (a:Nat):0≤((eZ t a 4:Nat):Int)∧((eZ t a 4:Nat):Int)<4294967296:=by
 have:=GQ t 4 a
 have e:256^4=4294967296:=by decide
 omega
def sC (x:gU):Prop:=1≤x.1∧x.1≤64∧fZ x∧dw x=true
theorem CL.ins {w:Int} (h:0≤w) (h':w<4294967296) {v:gU×Bool} (hv:CL w v) (hb:v.2=true):sC v.1:=by
 obtain⟨h1,h2,h3,h4⟩:=hv.1 hb
 refine⟨h1,h2, ?_, ?_⟩
 ·rw[h3];exact fO (fQ h1 h2) h h'
 ·rw[h3];exact tR h1 h2 rfl h h'
theorem pn {n b:Nat} (h:n*b≤140737488355328) (h':n≤140737488355328):aI n b=true:=by
 simp only[aI,ay,aV];omega
inductive Rt (code:ByteArray):Prop where
 |ok (l:List gU) (hi:yl code=some (l,0,true)) (hs:Ct code=some (l,-1)) (hl:4*l.length=code.size) (hr:∀x∈l,sC x)
 |bad (k:Int) (hi:yl code=some ([],k,false)) (hs:Ct code=some ([],k)) (h0:0≤k)
theorem xp (code:ByteArray) (h4:code.size%4=0) (hz:code.size≤1048576):Rt code:=by
 have key:∀(k i:Nat) (l:List gU),4*(i+k)=code.size→l.length=i→(∀x∈l,sC x)→
   (∃l',yl.a code l (4*i:Nat)=some (l',0,true)∧Ct.a code l (i:Int)=some (l',-1)∧4*l'.length=code.size∧∀x∈l',sC x)∨
   (∃b:Int,yl.a code l (4*i:Nat)=some ([],b,false)∧Ct.a code l (i:Int)=some ([],b)∧0≤b):=by
  intro k
  induction k with
  |zero=>
   intro i l hk hl hr
   rw[yl.a_eq,Ct.a_eq,aT (n:=4*(i:Int)) (by omega) (by omega),show decide (((4*i:Nat):Int)< (code.size:Int))=false by simp;omega,show decide (4*(i:Int)< (code.size:Int))=false by simp;omega]
   exact Or.inl ⟨l,rfl,rfl,by omega,hr⟩
  |succ k ih=>
   intro i l hk hl hr
   have hw:=TE code (4*i)
   obtain⟨v,e1,e2,e3⟩:=kt _ hw.1 hw.2
   have t1:uY (code.extract (4*i) (4*i+4))=some ((eZ code (4*i) 4:Nat):Int):=by
    have hsz:(code.extract (4*i) (4*i+4)).size=4:=by rw[ByteArray.size_extract];omega
    rw[ef _ (by omega),hsz,fR code (4*i) (4*i+4) (by omega) 4 0 (by omega),Nat.add_zero,aT (by omega) (by omega)]
   have t2:su code ((4*i:Nat):Int) 4=some ((eZ code (4*i) 4:Nat):Int):=by
    rw[show(4:Int)=((4:Nat):Int) by rfl,fF _ _ _ (by omega) (by omega),aT (by omega) (by omega)]
   rw[yl.a_eq,Ct.a_eq,aT (n:=4*(i:Int)) (by omega) (by omega),aT (n:=(i:Int)+1) (by omega) (by omega),aT (n:=((4*i:Nat):Int)+4) (by omega) (by omega),show 4*(i:Int)=((4*i:Nat):Int) by omega,aC,show(((4*i:Nat):Int)+4).toNat=4*i+4 by omega,t1,t2]
   rw[show decide (((4*i:Nat):Int)< (code.size:Int))=true by simp;omega,show decide ((0:Int)≤((4*i:Nat):Int))=true by simp;omega,show decide (((4*i:Nat):Int)≤((4*i:Nat):Int)+4)=true by simp;omega,show decide (((4*i:Nat):Int)+4≤(code.size:Int))=true by simp;omega]
   simp only[ae,Bool.and_self,af,e1,e2]
   cases hb:v.2 with
   |false=>
    refine Or.inr ⟨(i:Int), ?_,rfl,by omega⟩
    rw[show(((4*i:Nat):Int)).tdiv 4=(i:Int) by rw[Int.tdiv_eq_ediv_of_nonneg (by omega)];omega,aT (by omega) (by omega)];rfl
   |true=>
    have hx:=CL.ins hw.1 hw.2 e3 hb
    rw[pn (by simp;omega) (by simp;omega)]
    simp only[aD,ac,ae]
    have ih:=ih (i+1) (l++[v.1]) (by omega) (by simp;omega) (by
     intro x hx'
     rcases List.mem_append.mp hx' with h|h
     ·exact hr x h
     ·rw[List.mem_singleton.mp h];exact hx)
    rw[show((4*(i+1):Nat):Int)=((4*i:Nat):Int)+4 by omega,show((i+1:Nat):Int)=(i:Int)+1 by omega]at ih
    exact ih
 rcases key (code.size/4) 0 [] (by omega) rfl (by simp)with⟨l,a1,a2,a3,a4⟩|⟨b,a1,a2,a3⟩
 ·exact .ok l ((zg code).trans a1) ((Gi code).trans a2) a3 a4
 ·exact .bad b ((zg code).trans a1) ((Gi code).trans a2) a3
theorem et {α:Type} {c d:Prop} [Decidable c] [Decidable d] {a b b':α} (h:c↔d) (hb:b=b'):(if c then a else b)=(if d then a else b'):=by
 subst hb
 by_cases hc:c
 ·rw[av hc,av (h.mp hc)]
 ·rw[ap hc,ap (fun hd=>hc (h.mpr hd))]
theorem GR (f:Int) (h:16≤f∧f≤128):Tv f=some [(14,1,2,0,f-8),(22,2,2,0,f),(4,0,1,0,0)]∧S4 f=some [(14,1,2,0,f-8),(22,2,2,0,f),(4,0,1,0,0)]:=by
 rw[Od,ME,aT (n:=f-8) (by omega) (by omega)];exact⟨rfl,rfl⟩
def bX (l:List gU) (f k:Int):Bool:=
 decide (2≤k)&&decide (k+2< (l.length:Int))&&decide (rd (τ:=d9) l k=((14,1,2,0,f-8):gU))&&decide (rd (τ:=d9) l (k+1)=((22,2,2,0,f):gU))&&decide (rd (τ:=d9) l (k+2)=((4,0,1,0,0):gU))
theorem Jj (i:Int) (n:Nat):(az i n=true)=(0≤i∧i< (n:Int)):=by simp[az]
theorem inL_true {i:Int} {n:Nat} (h:0≤i) (h':i< (n:Int)):az i n=true:=by rw[Jj];exact⟨h,h'⟩
theorem eg (l:List gU) (f k:Int) (hf:16≤f∧f≤128) (hl:l.length≤1048576) (hk: -4611686018427387904≤k) (hk':k≤4611686018427387904):Ja l k f=some (bX l f k):=by
 rw[MF,(GR f hf).2,aT (n:=k+1) (by omega) (by omega),aT (n:=k+2) (by omega) (by omega)]
 simp only[af]
 unfold bX
 by_cases h1:2≤k
 ·by_cases h2:k+2< (l.length:Int)
  ·rw[inL_true (i:=k) (by omega) (by omega),inL_true (i:=k+1) (by omega) (by omega),inL_true (i:=k+2) (by omega) (by omega),pm,pm,pm]
   simp only[h1,h2,decide_true,ae,Bool.true_and]
   have e0:∀a b c:gU,rd (τ:=d9) [a,b,c] 0=a:=fun _ _ _=>rfl
   have e1:∀a b c:gU,rd (τ:=d9) [a,b,c] 1=b:=fun _ _ _=>rfl
   have e2:∀a b c:gU,rd (τ:=d9) [a,b,c] 2=c:=fun _ _ _=>rfl
   rw[e0,e1,e2]
   show(bif true then bif decide _ then(bif true then bif decide _ then(bif true then some (decide _)else none)else some false else none)else some false else none)=_
   cases decide (rd (τ:=d9) l k=((14,1,2,0,f-8):gU))<;>cases decide (rd (τ:=d9) l (k+1)=((22,2,2,0,f):gU))<;>rfl
  ·simp[h1,h2]
 ·simp[h1]
theorem Jk (l:List gU) (f k:Int):(bX l f k=true→bX l f (k-1)=false)∧(bX l f k=true→bX l f (k-2)=false)∧(bX l f (k-1)=true→bX l f (k-2)=false):=by
 have e1:k-1+1=k:=by omega
 have e2:k-2+2=k:=by omega
 have e3:k-2+1=k-1:=by omega
 have e4:k-1+2=k+1:=by omega
 unfold bX
 rw[e1,e2,e3,e4]
 simp only[ay,aV]
 refine⟨?_, ?_, ?_⟩
 ·rintro⟨⟨⟨_,h⟩,_⟩,_⟩
  rw[h];simp
 ·rintro⟨⟨⟨_,h⟩,_⟩,_⟩
  rw[h];simp
 ·rintro⟨⟨⟨_,h⟩,h2⟩,_⟩
  rw[h2];simp
def sD (l:List gU) (f:Int) (n j:Int):Int:=
 if j<n∧bX l f j=true then 1 else if j-1<n∧bX l f (j-1)=true then 2 else if j-2<n∧bX l f (j-2)=true then 3 else 0
def hY (l:List gU) (f:Int) (n:Int) (E:List Int):Prop:=E.length=l.length∧∀j:Nat,j<l.length→E[j]? =some (sD l f n (j:Int))
theorem zx (a b:List gU) (hl:a.length=b.length) (hz:a.length≤1048576):∀(k j:Nat),j+k=a.length→Gz.a a b (a.length:Int) (j:Int)=some (decide (a.drop j=b.drop j)):=by
 intro k
 induction k with
 |zero=>
  intro j hj
  rw[Gz.a_eq,ah,show decide (j<a.length)=false by simp;omega,List.drop_eq_nil_of_le (by omega),List.drop_eq_nil_of_le (by omega)];rfl
 |succ k ih=>
  intro j hj
  have h1:j<a.length:=by omega
  have h2:j<b.length:=by omega
  rw[Gz.a_eq,ah,aj,aj,ab h1,ab h2,an j a.length h1 (by omega),ih (j+1) (by omega)]
  simp only[ae]
  rw[aW (τ:=d9) a j h1,aW (τ:=d9) b j h2,pm,List.drop_eq_getElem_cons h1,List.drop_eq_getElem_cons h2]
  simp only[aG]
  by_cases h:a[j]=b[j]<;>simp[h]
theorem CN (a b:List gU) (hz:a.length≤1048576):Gz a b=some (decide (a=b)):=by
 rw[Oc]
 by_cases h:a.length=b.length
 ·rw[show decide ((a.length:Int)=(b.length:Int))=true by simp[h]]
  have:=zx a b h hz a.length 0 (by omega)
  rw[show((0:Nat):Int)=0 by rfl]at this
  simp only[aD,ac,this,List.drop_zero]
 ·rw[show decide ((a.length:Int)=(b.length:Int))=false by simp;omega]
  simp only[Bool.not_false,ae]
  rw[ak];rintro rfl;exact h rfl
theorem GS (l:List gU) (k:Nat) (hk:k+3≤l.length) (a b c:gU):decide ((l.take (k+3)).drop k=[a,b,c])=(decide (rd (τ:=d9) l k=a)&&decide (rd (τ:=d9) l ((k:Int)+1)=b)&&decide (rd (τ:=d9) l ((k:Int)+2)=c)):=by
 rw[show(k:Int)+1=((k+1:Nat):Int) by omega,show(k:Int)+2=((k+2:Nat):Int) by omega,aW (τ:=d9) l k (by omega),aW (τ:=d9) l (k+1) (by omega),aW (τ:=d9) l (k+2) (by omega)]
 rw[List.drop_take,show k+3-k=3 by omega,List.drop_eq_getElem_cons (show k<l.length by omega),List.drop_eq_getElem_cons (show k+1<l.length by omega),List.drop_eq_getElem_cons (show k+1+1<l.length by omega)]
 simp[List.take]
 rw[Bool.and_assoc]
theorem CO (at_:Int) (calls:List Int) (l:List gU) (f:Int) (hf:16≤f∧f≤128) (hl:l.length≤1048576) (h2:2≤l.length):
  ∀(k i:Nat) (E:List Int),2≤i→i+k+2=l.length→hY l f i E→∃E',hY l f l.length E'∧jN.b f l (l,f,at_,calls,E) i=jN.c l (l,f,at_,calls,E') 2:=by
 intro k
 induction k with
 |zero=>
  intro i E h2i hk hE
  refine⟨E,⟨hE.1,fun j hj=> ?_⟩, ?_⟩
  ·rw[hE.2 j hj]
   congr 1
   have out:∀m:Int,(i:Int)≤m→bX l f m=false:=by
    intro m hm
    unfold bX
    rw[show decide (m+2< (l.length:Int))=false by simp;omega];simp
   have r:∀m:Int,m< (l.length:Int)→((m< (i:Int)∧bX l f m=true)↔(m< (l.length:Int)∧bX l f m=true)):=by
    intro m hm
    constructor
    ·rintro⟨_,h⟩;exact⟨hm,h⟩
    ·rintro⟨_,h⟩
     refine⟨?_,h⟩
     by_cases hmi:m< (i:Int)
     ·exact hmi
     ·rw[out m (by omega)]at h;cases h
   unfold sD
   exact et (r j (by omega)) (et (r (j-1) (by omega)) (et (r (j-2) (by omega)) rfl))
  ·rw[jN.b_eq,aT (n:=(i:Int)+3) (by omega) (by omega),show decide ((i:Int)+3≤(l.length:Int))=false by simp;omega]
   rfl
 |succ k ih=>
  intro i E h2i hk hE
  have hstep:∀E':List Int,E'.length=l.length→(∀j:Nat,j<l.length→E'[j]? =some (sD l f ((i:Int)+1) j))→∃E'',hY l f l.length E''∧jN.b f l (l,f,at_,calls,E') (((i+1:Nat)):Int)=jN.c l (l,f,at_,calls,E'') 2:=by
   intro E' h1 h2'
   exact ih (i+1) E' (by omega) (by omega) ⟨h1,fun j hj=>by rw[h2' j hj];rfl⟩
  have hEl:=hE.1
  rw[jN.b_eq,aT (n:=(i:Int)+3) (by omega) (by omega),aT (n:=(i:Int)+1) (by omega) (by omega),aT (n:=(i:Int)+2) (by omega) (by omega),(GR f hf).1,show decide ((i:Int)+3≤(l.length:Int))=true by simp;omega,show decide ((0:Int)≤(i:Int))=true by simp,show decide ((i:Int)≤(i:Int)+3)=true by simp;omega,show((i:Int)+3).toNat=i+3 by omega,aC,show((i:Int)+1).toNat=i+1 by omega,show((i:Int)+2).toNat=i+2 by omega]
  simp only[ae,Bool.and_self,af]
  rw[CN _ _ (by simp;omega),GS l i (by omega)]
  have hB:bX l f i=(decide (rd (τ:=d9) l i=((14,1,2,0,f-8):gU))&&decide (rd (τ:=d9) l ((i:Int)+1)=((22,2,2,0,f):gU))&&decide (rd (τ:=d9) l ((i:Int)+2)=((4,0,1,0,0):gU))):=by
   unfold bX
   rw[show decide (2≤(i:Int))=true by simp;omega,show decide ((i:Int)+2< (l.length:Int))=true by simp;omega];simp
  rw[←hB]
  simp only[af]
  cases hb:bX l f i with
  |true=>
   simp only[ae,letB]
   rw[inL_true (by omega) (by rw[hEl];omega),inL_true (by omega) (by rw[List.length_set,hEl];omega),inL_true (by omega) (by rw[List.length_set,List.length_set,hEl];omega)]
   simp only[ae]
   rw[show(i:Int)+1=((i+1:Nat):Int) by omega]
   refine hstep _ (by simp[hEl]) (fun j hj=> ?_)
   have hj':=hE.2 j hj
   rw[List.getElem?_set,List.getElem?_set,List.getElem?_set]
   simp only[List.length_set,hEl]
   unfold sD
   by_cases c2:i+2=j
   ·rw[av c2,av (by omega),ap (by omega),ap (by omega),av ⟨by omega,by rw[show(j:Int)-2=(i:Int) by omega];exact hb⟩]
   ·rw[ap c2]
    by_cases c1:i+1=j
    ·rw[av c1,av (by omega),ap (by omega),av ⟨by omega,by rw[show(j:Int)-1=(i:Int) by omega];exact hb⟩]
    ·rw[ap c1]
     by_cases c0:i=j
     ·rw[av c0,av (by omega),av ⟨by omega,by rw[show(j:Int)=(i:Int) by omega];exact hb⟩]
     ·rw[ap c0,hj']
      unfold sD
      congr 1
      have r:∀m:Int,m≠(i:Int)→((m< (i:Int)∧bX l f m=true)↔(m< (i:Int)+1∧bX l f m=true)):=by
       intro m hm
       constructor
       ·rintro⟨_,h⟩;exact⟨by omega,h⟩
       ·rintro⟨_,h⟩;exact⟨by omega,h⟩
      exact et (r j (by omega)) (et (r (j-1) (by omega)) (et (r (j-2) (by omega)) rfl))
  |false=>
   simp only[ac]
   rw[show(i:Int)+1=((i+1:Nat):Int) by omega]
   refine hstep _ hEl (fun j hj=> ?_)
   rw[hE.2 j hj]
   unfold sD
   congr 1
   have r:∀m:Int,((m< (i:Int)∧bX l f m=true)↔(m< (i:Int)+1∧bX l f m=true)):=by
    intro m
    constructor
    ·rintro⟨_,h⟩;exact⟨by omega,h⟩
    ·rintro⟨_,h⟩
     refine⟨?_,h⟩
     by_cases hmi:m=(i:Int)
     ·rw[hmi,hb]at h;cases h
     ·omega
   exact et (r j) (et (r (j-1)) (et (r (j-2)) rfl))
theorem zy (l:List Int) (n:Int) (hz:l.length≤1048576):∀(k j:Nat),j+k=l.length→∃r:Int,IG.a l n (l.length:Int) (j:Int)=some r∧decide (r≥0)=decide (n∈l.drop j)∧Gj.a l n (j:Int)=some (decide (n∈l.drop j)):=by
 intro k
 induction k with
 |zero=>
  intro j hj
  rw[IG.a_eq,Gj.a_eq,ah,show decide (j<l.length)=false by simp;omega,List.drop_eq_nil_of_le (by omega)]
  exact⟨-1,rfl,by simp,by simp⟩
 |succ k ih=>
  intro j hj
  have h1:j<l.length:=by omega
  obtain⟨r,i1,i2,i3⟩:=ih (j+1) (by omega)
  rw[IG.a_eq,Gj.a_eq,ah,aj,ab h1,an j l.length h1 (by omega),aW (τ:= .int .i64) l j h1,List.drop_eq_getElem_cons h1]
  simp only[ae]
  by_cases h:n=l[j]
  ·rw[ab h,ab h.symm,ab (show n∈l[j]::l.drop (j+1) by rw[h];exact List.mem_cons_self)]
   exact⟨(j:Int),rfl,by simp,rfl⟩
  ·have e:decide (n∈l[j]::l.drop (j+1))=decide (n∈l.drop (j+1)):=by simp only[List.mem_cons,h,false_or]
   rw[e,ak h,ak (fun q:l[j]=n=>h q.symm)]
   exact⟨r,i1,i2,i3⟩
theorem Bg (l:List Int) (n:Int) (hz:l.length≤1048576):Tw l n=some (decide (n∈l))∧Gj l n=some (decide (n∈l)):=by
 obtain⟨r,i1,i2,i3⟩:=zy l n hz l.length 0 (by omega)
 rw[show((0:Nat):Int)=0 by rfl]at i1 i3
 rw[Of,Oe,i1,MG,i3]
 rw[af,i2,List.drop_zero]
 exact⟨rfl,rfl⟩
theorem qO (n:Int):SB n=some (decide (5≤n)&&decide (n≤10)):=by rw[Oh,cu];rfl
theorem GT (n:Int):Tx n=some (decide (11≤n)&&decide (n≤17)):=by rw[Oi,cu];rfl
theorem nG (n:Int):Qu n=some (decide (18≤n)&&decide (n≤21)):=by rw[Oj,cu];rfl
def ku (n:Int):Int×Bool:=
 if n=11 then(1,true)else if n=12 then(2,true)else if n=13 then(4,true)else if n=14 then(8,true)else if n=15 then(1,false)else if n=16 then(2,false)else if n=17 then(4,false)
 else if n=18 then(1,false)else if n=19 then(2,false)else if n=20 then(4,false)else if n=21 then(8,false)else(0,false)
theorem GU (n:Int) (h:1≤n) (h':n≤64):S3 n=some (ku n):=by
 rw[MD]
 obtain⟨k,rfl⟩:=mE (show 0≤n by omega) h'
 clear h h';revert k
 decide+kernel
theorem GV (n:Int) (h:11≤n) (h':n≤21):Tz n=some (ku n):=by
 rw[Ok,nG]
 have:n=11∨n=12∨n=13∨n=14∨n=15∨n=16∨n=17∨n=18∨n=19∨n=20∨n=21:=by omega
 rcases this with rfl|rfl|rfl|rfl|rfl|rfl|rfl|rfl|rfl|rfl|rfl<;>decide+kernel
theorem Jl (n:Int) (h:11≤n) (h':n≤21):1≤(ku n).1∧(ku n).1≤8:=by
 have:n=11∨n=12∨n=13∨n=14∨n=15∨n=16∨n=17∨n=18∨n=19∨n=20∨n=21:=by omega
 rcases this with rfl|rfl|rfl|rfl|rfl|rfl|rfl|rfl|rfl|rfl|rfl<;>decide
theorem GW (n:Int) (h:¬(11≤n∧n≤21)):(ku n).1=0:=by
 unfold ku
 repeat rw[ap (by omega)]
theorem ot (n:Int) (h:1≤n) (h':n≤64):decide ((bG n).1=4)=(decide (5≤n)&&decide (n≤10)):=by
 obtain⟨k,rfl⟩:=mE (show 0≤n by omega) h'
 clear h';revert k
 decide+kernel
theorem Jm {l:List gU} {f:Int} {E:List Int} (hE:hY l f l.length E) (i:Int) (h:0≤i) (h':i< (l.length:Int)):rd (τ:= .int .i64) E i=sD l f l.length i:=by
 obtain⟨j,rfl⟩:=Int.eq_ofNat_of_zero_le h
 have:=hE.2 j (by omega)
 unfold rd
 rw[aC,List.getD_eq_getElem?_getD,this];rfl
theorem CP (l:List gU) (f i:Int) (h:i< (l.length:Int)):sD l f l.length i=if bX l f i=true then 1 else if bX l f (i-1)=true then 2 else if bX l f (i-2)=true then 3 else 0:=by
 unfold sD
 exact et ⟨fun h=>h.2,fun hh=>⟨h,hh⟩⟩ (et ⟨fun h=>h.2,fun hh=>⟨by omega,hh⟩⟩ (et ⟨fun h=>h.2,fun hh=>⟨by omega,hh⟩⟩ rfl))
theorem tS {l:List gU} {f:Int} {E:List Int} (hE:hY l f l.length E) (i:Int) (h:0≤i) (h':i< (l.length:Int)):
  decide (rd (τ:= .int .i64) E i=1)=bX l f i∧decide (rd (τ:= .int .i64) E i=2)=bX l f (i-1)∧decide (rd (τ:= .int .i64) E i=3)=bX l f (i-2)∧decide (rd (τ:= .int .i64) E i<2)=(!bX l f (i-1)&& !bX l f (i-2)):=by
 have hx:=Jk l f i
 rw[Jm hE i h h',CP l f i h']
 cases h0:bX l f i<;>cases h1:bX l f (i-1)<;>cases h2:bX l f (i-2)<;>simp_all
theorem CQ (n:Int) (h: -9223372036854775808≤n) (h':n≤9223372036854775807):IntKind.wrap .i64 (n.tdiv 4)=n.tdiv 4:=by
 have: -9223372036854775808≤n.tdiv 4∧n.tdiv 4≤9223372036854775807:=by
  rcases Int.le_total 0 n with h0|h0
  ·rw[Int.tdiv_eq_ediv_of_nonneg h0];omega
  ·have:n.tdiv 4= -((-n).tdiv 4):=by rw[Int.neg_tdiv,Int.neg_neg]
   rw[this,Int.tdiv_eq_ediv_of_nonneg (by omega)];omega
 exact aT this.1 this.2
theorem Ru (n:Int) (h:n.tmod 4=0):n.tdiv 4=n/4:=by
 rw[Int.tdiv_eq_ediv_of_dvd];exact Int.dvd_iff_tmod_eq_zero.mpr h
theorem sC.imm {x:gU} (h:sC x): -2147483648≤x.2.2.2.2∧x.2.2.2.2≤2147483647:=by
 have hrv:=h.2.2.2
 have hsf:=fQ h.1 h.2.1
 unfold dw at hrv
 simp only[ay]at hrv
 have hrv:=hrv.2
 generalize (bG x.1).1=ff at*
 unfold js at hrv
 rcases fL hsf with rfl|rfl|rfl|rfl|rfl|rfl|rfl|rfl|rfl<;>simp at hrv<;>omega
theorem CR (l:List gU) (f at_:Int) (calls E:List Int) (hE:hY l f l.length E) (hf:16≤f∧f≤128) (hl:l.length≤1048576) (i:Int) (h:0≤i) (h':i< (l.length:Int)) (hr:sC (rd (τ:=d9) l i)):
  ∃b,SA (l,f,at_,calls,E) i=some b∧So l i (rd (τ:=d9) l i).2.2.2.2 f=some b:=by
 have hi:=hr.imm
 rw[Og,MH]
 dsimp only
 rw[inL_true h h']
 generalize (rd (τ:=d9) l i).2.2.2.2=m at*
 rw[CQ m (by omega) (by omega)]
 by_cases h4:m.tmod 4=0
 ·rw[Ru m h4,aT (n:=i+m/4) (by omega) (by omega),aT (n:=(l.length:Int)-1) (by omega) (by omega),aT (n:=i+m/4-1) (by omega) (by omega),aT (n:=i+m/4-2) (by omega) (by omega),cu,eg l f _ hf hl (by omega) (by omega),eg l f _ hf hl (by omega) (by omega)]
  simp only[h4,decide_true,ae,af]
  by_cases ha:2≤i+m/4
  ·by_cases hb:i+m/4< (l.length:Int)
   ·have he:=tS hE (i+m/4) (by omega) hb
    rw[inL_true (by omega) (by rw[hE.1];exact hb),he.2.2.2,ab ha,show decide (i+m/4≤(l.length:Int)-1)=true by simp;omega,ab hb]
    simp only[Bool.and_self,ae]
    cases bX l f (i+m/4-1)<;>exact⟨_,rfl,rfl⟩
   ·rw[show decide (i+m/4≤(l.length:Int)-1)=false by simp;omega,ak hb]
    rw[ab ha]
    exact⟨_,rfl,rfl⟩
  ·rw[ak ha]
   exact⟨_,rfl,rfl⟩
 ·rw[ak h4]
  exact⟨_,rfl,rfl⟩
theorem zz (l:List gU) (f at_:Int) (calls E:List Int) (hE:hY l f l.length E) (hf:16≤f∧f≤128) (ha:0≤at_∧at_≤1048575) (hl:l.length≤1048576) (hc:calls.length≤1048576) (i:Int) (h:2≤i) (h':i< (l.length:Int)) (hr:sC (rd (τ:=d9) l i)):
  ∃b,TA (l,f,at_,calls,E) i=some b∧S5 l i at_ f calls=some b:=by
 obtain⟨g,g1,g2⟩:=CR l f at_ calls E hE hf hl i (by omega) h' hr
 have he:=tS hE i (by omega) h'
 rw[Ol,MI]
 dsimp only
 rw[inL_true (by omega) h',inL_true (by omega) (by rw[hE.1];exact h'),g1,g2,he.1,he.2.1,he.2.2.1,aT (n:=i-2) (by omega) (by omega),aT (n:=i-1) (by omega) (by omega),eg l f i hf hl (by omega) (by omega),eg l f (i-1) hf hl (by omega) (by omega),eg l f (i-2) hf hl (by omega) (by omega),(Bg calls _ hc).1,(Bg calls _ hc).2,GU _ hr.1 hr.2.1,fp _ (by have:=hr.1;omega) hr.2.1,qO,GT,nG]
 have hbf:=ot _ hr.1 hr.2.1
 simp only[af,ae,aF,hbf,cu]
 clear g1 g2 he hr hE hbf
 generalize bX l f i=B0 at*
 generalize bX l f (i-1)=B1 at*
 generalize bX l f (i-2)=B2 at*
 obtain⟨x,hx⟩:∃x:gU,rd (τ:=d9) l i=x:=⟨_,rfl⟩
 rw[hx]at*
 clear hx
 obtain⟨n,d,a,b,m⟩:=x
 dsimp only at*
 have hw:=GV n
 have hwp:=Jl n
 have hwz:=GW n
 by_cases h4:n=4
 ·subst h4
  simp only[decide_true,ae]
  cases B2<;>exact⟨_,rfl,rfl⟩
 ·rw[ak h4]
  simp only[ac]
  by_cases h3:n=3
  ·subst h3
   simp only[decide_true,ae]
   by_cases hd:d=1
   ·rw[ab hd]
    cases decide (IntKind.wrap .i64 (IntKind.wrap .i64 (at_+IntKind.wrap .i64 (4*i))+m)∈calls)<;>exact⟨_,rfl,rfl⟩
   ·rw[ak hd]
    cases decide (d=0)<;>cases g<;>exact⟨_,rfl,rfl⟩
  ·rw[ak h3]
   simp only[ac]
   cases hb:(decide (5≤n)&&decide (n≤10))with
   |true=>cases g<;>exact⟨_,rfl,rfl⟩
   |false=>
    simp only[ac]
    have hm:0≤(ku n).1∧(ku n).1≤8:=by
     by_cases q:11≤n∧n≤21
     ·have:=hwp q.1 q.2;omega
     ·rw[hwz q];decide
    rw[aT (n:=f-8) (by omega) (by omega),aT (n:=f-8-(ku n).1) (by omega) (by omega)]
    by_cases q:11≤n∧n≤21
    ·have hwn:=hwp q.1 q.2
     rw[hw q.1 q.2]
     simp only[af]
     rw[aT (n:=f-8-(ku n).1) (by omega) (by omega),show decide ((ku n).1>0)=true by simp;omega,show decide ((ku n).1=0)=false by simp;omega]
     have hls:(bif (decide (11≤n)&&decide (n≤17))then true else(decide (18≤n)&&decide (n≤21)))=true:=by
      by_cases q2:n≤17
      ·simp[q.1,q2]
      ·rw[ak q2,show decide (18≤n)=true by simp;omega,ab q.2];simp
     have hm2:(decide (0≤m)&&decide (m≤f-8-(ku n).1))=(!decide (m<0)&& !decide (m>f-8-(ku n).1)):=by
      by_cases z1:m<0<;>by_cases z2:m>f-8-(ku n).1<;>simp[z1,z2]<;>omega
     rw[hm2]
     clear hm hw hwp hwz hwn hm2 hb
     generalize (decide (11≤n)&&decide (n≤17))=L at*
     generalize (decide (18≤n)&&decide (n≤21))=S at*
     generalize decide (m<0)=z1
     generalize decide (m>f-8-(ku n).1)=z2
     generalize decide (m.tmod (ku n).1=0)=z3
     generalize decide (d=1)=z4
     generalize decide (d=2)=z5
     generalize decide (a=2)=z6
     cases L<;>cases S<;>first|(cases hls;done)|(cases z4<;>cases z5<;>cases B0<;>cases B1<;>first|exact⟨_,rfl,rfl⟩|(cases z6<;>first|exact⟨_,rfl,rfl⟩|(cases z1<;>cases z2<;>cases z3<;>exact⟨_,rfl,rfl⟩)))
    ·have hls1:(decide (11≤n)&&decide (n≤17))=false:=by
      by_cases q1:11≤n
      ·rw[show decide (n≤17)=false by simp;omega];simp
      ·simp[q1]
     have hls2:(decide (18≤n)&&decide (n≤21))=false:=by
      by_cases q1:18≤n
      ·rw[show decide (n≤21)=false by simp;omega];simp
      ·simp[q1]
     rw[hls1,hls2,hwz q]
     cases decide (d=1)<;>cases decide (d=2)<;>cases B0<;>cases B1<;>exact⟨_,rfl,rfl⟩
def df (f:Int):Bool:=bif decide (16≤f)&&decide (f≤128)then decide (f.tmod 16=0)else false
theorem Jn (f:Int):NZ f=some (df f):=by
 rw[Gu,cu]
 simp only[af,df]
 cases (decide (16≤f)&&decide (f≤128))<;>rfl
theorem eK (f:Int):NZ f=some (df f)∧Rj f=some (df f):=by
 rw[Gu,Mo,cu,fP]
 simp only[af,df]
 cases (decide (16≤f)&&decide (f≤128))<;>exact⟨rfl,rfl⟩
theorem mJ {f:Int} (h:df f=true):16≤f∧f≤128:=by
 unfold df at h
 cases hb:(decide (16≤f)&&decide (f≤128))with
 |true=>simpa using hb
 |false=>rw[hb]at h;cases h
def bU (a:Int):Bool:=bif decide (0≤a)&&decide (a≤1048575)then decide (a.tmod 4=0)else false
theorem gH (a:Int):Ro a=some (bU a):=by
 rw[N2,cu]
 simp only[af,bU]
 cases (decide (0≤a)&&decide (a≤1048575))<;>rfl
theorem fG {a:Int} (h:bU a=true):0≤a∧a≤1048575:=by
 unfold bU at h
 cases hb:(decide (0≤a)&&decide (a≤1048575))with
 |true=>simpa using hb
 |false=>rw[hb]at h;cases h
def ct (n:Nat):Bool:=bif decide ((n:Int).tmod 4=0)then decide ((n:Int)≤256)else false
theorem mK (t:ByteArray):Tt t=some (ct t.size)∧SZ t=some (ct t.size):=by
 rw[N0,Mp]
 unfold ct
 cases decide ((t.size:Int).tmod 4=0)<;>exact⟨rfl,rfl⟩
theorem dm {n:Nat} (h:ct n=true):n%4=0∧n≤256:=by
 unfold ct at h
 cases hb:decide ((n:Int).tmod 4=0)with
 |true=>
  rw[hb]at h
  simp only[ae,aV]at h hb
  rw[Int.tmod_eq_emod_of_nonneg (by omega)]at hb
  omega
 |false=>rw[hb]at h;cases h
def bw (n:Nat):Bool:=bif ct n then decide ((n:Int)≥20)else false
theorem gj (t:ByteArray):Su t=some (bw t.size):=by
 rw[N1,(mK t).1]
 simp only[af,bw]
 cases ct t.size<;>rfl
theorem zA (l:List gU) (f at_:Int) (calls E:List Int) (hE:hY l f l.length E) (hf:16≤f∧f≤128) (ha:0≤at_∧at_≤1048575) (hl:l.length≤1048576) (hc:calls.length≤1048576) (hr:∀x∈l,sC x):
  ∀(k i:Nat),2≤i→i+k=l.length→∃v,jN.c l (l,f,at_,calls,E) i=some v∧rQ.b at_ f calls l ((l.length:Int)-1) i=some v:=by
 intro k
 induction k with
 |zero=>
  intro i h2 hk
  rw[jN.c_eq,rQ.b_eq,ah,show decide (i<l.length)=false by simp;omega,show decide ((i:Int)≤(l.length:Int)-1)=false by simp;omega]
  exact⟨_,rfl,rfl⟩
 |succ k ih=>
  intro i h2 hk
  obtain⟨v,v1,v2⟩:=ih (i+1) (by omega) (by omega)
  have hi:i<l.length:=by omega
  obtain⟨b,b1,b2⟩:=zz l f at_ calls E hE hf ha hl hc i (by omega) (by omega) (by rw[aW (τ:=d9) l i hi];exact hr _ (List.getElem_mem hi))
  rw[jN.c_eq,rQ.b_eq,ah,ab hi,show decide ((i:Int)≤(l.length:Int)-1)=true by simp;omega,b1,b2,an i l.length hi (by omega),v1,v2]
  simp only[ae,af]
  cases decide (b=0)<;>exact⟨_,rfl,rfl⟩
theorem tT (code:ByteArray) (at_ f:Int) (calls:List Int) (hz:code.size≤1048576) (hc:calls.length≤1048576):∃v,jN code at_ f calls=some v∧rQ code at_ f calls=some v:=by
 rw[zh,MJ,gH,fP,(eK f).1,(eK f).2,gj,(mK code).2]
 simp only[af,aF]
 have ec:(bif !(decide (0≤at_)&&decide (at_≤1048575))then true else !decide (at_.tmod 4=0))= !bU at_:=by
  unfold bU;cases (decide (0≤at_)&&decide (at_≤1048575))<;>rfl
 cases hA:bU at_ with
 |false=>
  unfold bU at hA
  cases hq:(decide (0≤at_)&&decide (at_≤1048575))with
  |false=>exact⟨_,rfl,rfl⟩
  |true=>rw[hq]at hA;simp only[ae]at hA;rw[hA];exact⟨_,rfl,rfl⟩
 |true=>
  have ha:=fG hA
  have hq:(decide (0≤at_)&&decide (at_≤1048575))=true:=by simp[ha]
  have h4:decide (at_.tmod 4=0)=true:=by unfold bU at hA;rw[hq]at hA;exact hA
  rw[hq,h4]
  simp only[aD,ac]
  cases hF:df f with
  |false=>exact⟨_,rfl,rfl⟩
  |true=>
   have hf:=mJ hF
   simp only[aD,ac]
   cases hS:ct code.size with
   |false=>unfold bw;rw[hS];exact⟨_,rfl,rfl⟩
   |true=>
    have hs:=dm hS
    unfold bw
    rw[hS]
    simp only[aD,ac,ae]
    by_cases h20:(code.size:Int)≥20
    ·rw[ab h20,show decide ((code.size:Int)<20)=false by simp;omega]
     simp only[aD,ac]
     cases xp code hs.1 (by omega)with
     |bad k hi hsp h0=>
      rw[hi,hsp]
      simp only[af,Bool.not_false,ae]
      rw[ab (show k≥0 from h0)]
      exact⟨_,rfl,rfl⟩
     |ok l hi hsp hll hr=>
      rw[hi,hsp,Ob]
      simp only[af,aD,ac]
      rw[show decide ((-1:Int)≥0)=false by rfl]
      simp only[ac]
      have hl5:5≤l.length:=by omega
      have hl64:l.length≤64:=by omega
      have last:∃v,jN.a at_ f calls l [(22,2,2,0,(IntKind.wrap .i64 (0-f))),(21,0,2,1,(IntKind.wrap .i64 (f-8)))] 2 2=some v∧rQ.a at_ f calls l 2=some v:=by
       rw[jN.a_eq,rQ.a_eq]
       rw[show decide ((2:Int)<2)=false by rfl]
       simp only[ac,aF]
       rw[aT (n:=(l.length:Int)-1) (by omega) (by omega),inL_true (by omega) (by omega),pn (by rw[aC];omega) (by rw[aC];omega),show decide ((0:Int)≤(l.length:Int))=true by simp,aC]
       simp only[ae,Bool.and_self]
       obtain⟨E,hE,e⟩:=CO at_ calls l f hf (by omega) (by omega) (l.length-4) 2 (List.replicate l.length 0) (by omega) (by omega) ⟨by simp,fun j hj=>by
        rw[List.getElem?_replicate,av hj]
        unfold sD
        have z:∀m:Int,m< ((2:Nat):Int)→bX l f m=false:=by
         intro m hm
         unfold bX
         rw[show decide (2≤m)=false by simp;omega];simp
        rw[ap (fun h=>by rw[z _ h.1]at h;cases h.2),ap (fun h=>by rw[z _ h.1]at h;cases h.2),ap (fun h=>by rw[z _ h.1]at h;cases h.2)]⟩
       rw[show((2:Nat):Int)=2 by rfl]at e
       rw[e]
       obtain⟨v,v1,v2⟩:=zA l f at_ calls E hE hf ha (by omega) (by omega) hr (l.length-2) 2 (by omega) (by omega)
       rw[show((2:Nat):Int)=2 by rfl]at v1 v2
       rw[v1,v2]
       cases decide ((rd (τ:=d9) l ((l.length:Int)-1)).1=4)<;>cases decide ((rd (τ:=d9) l ((l.length:Int)-1)).1=3)<;>cases decide ((rd (τ:=d9) l ((l.length:Int)-1)).2.1=0)<;>exact⟨_,rfl,rfl⟩
      have step:∀(j:Nat),j<2→(∃v,jN.a at_ f calls l [(22,2,2,0,(IntKind.wrap .i64 (0-f))),(21,0,2,1,(IntKind.wrap .i64 (f-8)))] 2 ((j+1:Nat):Int)=some v∧rQ.a at_ f calls l ((j+1:Nat):Int)=some v)→
        ∃v,jN.a at_ f calls l [(22,2,2,0,(IntKind.wrap .i64 (0-f))),(21,0,2,1,(IntKind.wrap .i64 (f-8)))] 2 (j:Int)=some v∧rQ.a at_ f calls l (j:Int)=some v:=by
       rintro j hj ⟨v,v1,v2⟩
       rw[jN.a_eq,rQ.a_eq,show decide ((j:Int)<2)=true by simp;omega,inL_true (i:=(j:Int)) (by omega) (by simp;omega),inL_true (i:=(j:Int)) (by omega) (by omega),aT (n:=(j:Int)+1) (by omega) (by omega),show(j:Int)+1=((j+1:Nat):Int) by omega,v1,v2,MC]
       simp only[ae,af]
       rw[inL_true (i:=(j:Int)) (by omega) (by simp;omega)]
       simp only[ae]
       cases kR d9 (rd (τ:=d9) l (j:Int)) (rd (τ:=d9) [(22,2,2,0,(IntKind.wrap .i64 (0-f))),(21,0,2,1,(IntKind.wrap .i64 (f-8)))] (j:Int))<;>exact⟨_,rfl,rfl⟩
      exact step 0 (by omega) (step 1 (by omega) last)
    ·rw[ak h20,show decide ((code.size:Int)<20)=true by simp;omega]
     exact⟨_,rfl,rfl⟩
abbrev bA:Ty:= .pair .str (.pair (.int .i64) (.pair (.int .i64) (.pair (.int .i64) (.int .i64))))
abbrev mL:Type:=ByteArray×Int×Int×Int×Int
abbrev gk:Type:=ByteArray×ByteArray×List mL
noncomputable def cx (t:ByteArray):Bool:=(o9 t).getD false
theorem OF (t:ByteArray):o9 t=some (cx t):=by
 obtain⟨v,h1⟩:=tK t
 unfold cx
 rw[h1];rfl
theorem dH (t:ByteArray):o9 t=some (cx t)∧uV t=some (cx t):=by
 obtain⟨v,h1,h2⟩:=Cy t
 unfold cx
 rw[h1,h2];exact⟨rfl,rfl⟩
def lX (l:List mL) (name:ByteArray):Bool:=l.any fun y=>decide (y.1=name)
theorem xq {y:mL} {l:List mL} {n:ByteArray} (h:y.1=n):lX (y::l) n=true:=by simp[lX,h]
theorem xr {y:mL} {l:List mL} {n:ByteArray} (h:¬y.1=n):lX (y::l) n=lX l n:=by simp[lX,h]
theorem GX (e:Int×Int) (im:gk) (s:mL) (l:List mL) (hl:l.length≤16):∀(k j:Nat),j+k=l.length→Fq.a e im s l (l.length:Int) (j:Int)=if lX (l.drop j) s.1=true then some (24,e)else Fq.a e im s l (l.length:Int) (l.length:Int):=by
 intro k
 induction k with
 |zero=>
   intro j h;have:j=l.length:=by omega
   subst this;simp[lX]
 |succ k ih=>
  intro j h
  have hj:j<l.length:=by omega
  rw[Fq.a_eq,ah,aj,ab hj,an j l.length hj (by omega),ih (j+1) (by omega),aW (τ:=bA) l j hj,bg,List.drop_eq_getElem_cons hj]
  by_cases hn:l[j].1=s.1
  ·rw[xq hn,ab hn];rfl
  ·rw[xr hn,ak hn];rfl
theorem GY (im:gk) (c d:Int) (i:Nat) (s:mL) (hi:i≤im.2.2.length) (hl:im.2.2.length≤16):∀(k j:Nat),j+k=i→oL.b im c d (i:Int) s (j:Int)=if lX ((im.2.2.take i).drop j) s.1=true then some ((i:Int),24)else oL.b im c d (i:Int) s (i:Int):=by
 intro k
 induction k with
 |zero=>
   intro j h;have:j=i:=by omega
   subst this;simp[lX]
 |succ k ih=>
  intro j h
  have hj:j<i:=by omega
  rw[oL.b_eq,ah,aj,ab hj,ab (show j<im.2.2.length by omega),an j i hj (by omega),ih (j+1) (by omega),aW (τ:=bA) im.2.2 j (by omega),bg,List.drop_eq_getElem_cons (show j< (im.2.2.take i).length by simp;omega)]
  have hg:(im.2.2.take i)[j]'(by simp;omega)=im.2.2[j]:=List.getElem_take
  rw[hg]
  by_cases hn:im.2.2[j].1=s.1
  ·rw[xq hn,ab hn];rfl
  ·rw[xr hn,ak hn];rfl
noncomputable def eR (im:gk) (i:Nat) (s:mL) (e:Int×Int):Int×Int×Int:=
 if cx s.1=false then(3,e)
 else if lX (im.2.2.take i) s.1=true then(24,e)
 else if s.2.1=1 then
  if s.2.2.1=e.1∧1≤s.2.2.2.1∧s.2.2.2.1≤(im.1.size:Int)-e.1 then(0,s.2.2.1+s.2.2.2.1,e.2)else(4,e)
 else if s.2.1=2 then
  if e.2≤s.2.2.1∧s.2.2.1≤(im.2.1.size:Int)∧s.2.2.1%8=0∧s.2.2.2.1%8=0∧1≤s.2.2.2.1∧s.2.2.2.1≤(im.2.1.size:Int)-s.2.2.1 then
   if s.2.2.2.2=0 then(0,e.1,s.2.2.1+s.2.2.2.1)else(17,e.1,s.2.2.1+s.2.2.2.1)
  else(4,e)
 else(26,e)
structure tU (im:gk) (e:Int×Int):Prop where
 c:0≤e.1∧e.1≤(im.1.size:Int)
 d:0≤e.2∧e.2≤(im.2.1.size:Int)
structure ly (im:gk):Prop where
 n:im.2.2.length≤16
 c:im.1.size≤1024
 d:im.2.1.size≤256
theorem GZ {n:Int}:decide (n.tmod 8=0)=decide (n%8=0):=by
 congr 1;exact propext ⟨fun h=>by rw[←Int.dvd_iff_tmod_eq_zero]at h;omega,fun h=>by rw[←Int.dvd_iff_tmod_eq_zero];omega⟩
theorem zB (im:gk) (hz:ly im) (i:Nat) (hi:i<im.2.2.length) (e:Int×Int) (he:tU im e):Fq im i e=some (eR im i im.2.2[i] e):=by
 obtain⟨hn,hc,hd⟩:=hz
 rw[NW,aj,ab hi,aW (τ:=bA) im.2.2 i hi,OF _,aC,show(Int.toNat 0)=0 by rfl,List.drop_zero,show decide ((0:Int)≤(i:Int))=true by simp,show decide ((i:Int)≤(im.2.2.length:Int))=true by simp;omega]
 simp only[ae,Bool.and_self,Nat.le_refl,decide_true,af]
 have hlt:(im.2.2.take i).length=i:=by simp;omega
 have hd':=GX e im im.2.2[i] (im.2.2.take i) (by omega) i 0 (by omega)
 rw[hlt,show((0:Nat):Int)=0 by rfl,List.drop_zero]at hd'
 rw[hlt,hd',Fq.a_eq,show decide ((i:Int)< (i:Int))=false by simp]
 obtain⟨s,hs⟩:∃s:mL,im.2.2[i]=s:=⟨_,rfl⟩
 rw[hs]
 obtain⟨nm,kd,at_,sz,fr⟩:=s
 obtain⟨ec,ed⟩:=e
 obtain⟨⟨hc1,hc2⟩,⟨hd1,hd2⟩⟩:=he
 dsimp only at*
 unfold eR
 dsimp only
 simp only[ac,cu,af,aF]
 cases cx nm with
 |false=>rfl
 |true=>
  simp only[aD,ac,Bool.true_eq_false,↓reduceIte]
  by_cases hdup:lX (im.2.2.take i) nm=true
  ·rw[av hdup,av hdup]
  ·rw[ap hdup,ap hdup]
   by_cases k1:kd=1
   ·rw[ab k1,av k1]
    simp only[ae]
    by_cases h1:at_=ec
    ·subst h1
     rw[aT (n:=(im.1.size:Int)-at_) (by omega) (by omega)]
     simp only[decide_true,aD,ac]
     by_cases h2:1≤sz∧sz≤(im.1.size:Int)-at_
     ·rw[av ⟨trivial,h2⟩,ab h2.1,ab h2.2,aT (n:=at_+sz) (by omega) (by omega)];rfl
     ·rw[ap (fun hh=>h2 hh.2),show(decide (1≤sz)&&decide (sz≤(im.1.size:Int)-at_))=false by simpa using h2];rfl
    ·rw[ak h1,ap (fun hh=>h1 hh.1)];rfl
   ·rw[ak k1,ap k1]
    simp only[ac]
    by_cases k2:kd=2
    ·rw[ab k2,av k2,GZ,GZ]
     simp only[ae]
     by_cases h1:ed≤at_∧at_≤(im.2.1.size:Int)
     ·rw[aT (n:=(im.2.1.size:Int)-at_) (by omega) (by omega),ab h1.1,ab h1.2]
      simp only[Bool.and_self,aD,ac]
      by_cases h2:at_%8=0
      ·by_cases h3:sz%8=0
       ·by_cases h4:1≤sz∧sz≤(im.2.1.size:Int)-at_
        ·rw[av ⟨h1.1,h1.2,h2,h3,h4⟩,ab h2,ab h3,ab h4.1,ab h4.2,aT (n:=at_+sz) (by omega) (by omega)]
         by_cases h5:fr=0
         ·rw[ab h5,av h5];rfl
         ·rw[ak h5,ap h5];rfl
        ·rw[ap (fun hh=>h4 hh.2.2.2.2),ab h2,ab h3,show(decide (1≤sz)&&decide (sz≤(im.2.1.size:Int)-at_))=false by simpa using h4];rfl
       ·rw[ap (fun hh=>h3 hh.2.2.2.1),ab h2,ak h3];rfl
      ·rw[ap (fun hh=>h2 hh.2.2.1),ak h2];rfl
     ·rw[ap (fun hh=>h1 ⟨hh.1,hh.2.1⟩),show(decide (ed≤at_)&&decide (at_≤(im.2.1.size:Int)))=false by simpa using h1];rfl
    ·rw[ak k2,ap k2];rfl
theorem zC (im:gk) (hz:ly im) (i:Nat) (hi:i<im.2.2.length) (e:Int×Int) (he:tU im e):oL.a im e.1 e.2 i=if(eR im i im.2.2[i] e).1=0 then oL.a im (eR im i im.2.2[i] e).2.1 (eR im i im.2.2[i] e).2.2 ((i+1:Nat):Int)else some ((i:Int),(eR im i im.2.2[i] e).1):=by
 obtain⟨hn,hc,hd⟩:=hz
 rw[oL.a_eq,aj,ah,ab hi,aW (τ:=bA) im.2.2 i hi,(dH _).2]
 simp only[ae,af]
 have hd':=GY im e.1 e.2 i im.2.2[i] (by omega) hn i 0 (by omega)
 rw[show((0:Nat):Int)=0 by rfl,List.drop_zero]at hd'
 rw[hd',oL.b_eq,show decide ((i:Int)< (i:Int))=false by simp,an i im.2.2.length hi (by omega)]
 obtain⟨s,hs⟩:∃s:mL,im.2.2[i]=s:=⟨_,rfl⟩
 rw[hs]
 obtain⟨nm,kd,at_,sz,fr⟩:=s
 obtain⟨ec,ed⟩:=e
 obtain⟨⟨hc1,hc2⟩,⟨hd1,hd2⟩⟩:=he
 dsimp only at*
 unfold eR
 dsimp only
 simp only[ac]
 cases cx nm with
 |false=>rfl
 |true=>
  simp only[aD,ac]
  by_cases hdup:lX (im.2.2.take i) nm=true
  ·simp[hdup]
  ·simp only[hdup,if_false,Bool.false_eq_true]
   by_cases k1:kd=1
   ·simp only[k1,decide_true,ae,if_true]
    by_cases h1:at_=ec
    ·rw[←h1,aT (n:=(im.1.size:Int)-at_) (by omega) (by omega)]
     by_cases h2:1≤sz
     ·by_cases h3:sz≤(im.1.size:Int)-at_
      ·rw[aT (n:=at_+sz) (by omega) (by omega)]
       simp[h2,h3,show¬sz<1 by omega,show¬(im.1.size:Int)-at_<sz by omega]
      ·simp[h3,show¬sz<1 by omega,show(im.1.size:Int)-at_<sz by omega]
     ·simp[h2,show sz<1 by omega]
    ·simp[h1]
   ·simp only[k1,decide_false,ac,if_false]
    by_cases k2:kd=2
    ·simp only[k2,decide_true,ae,if_true,GZ]
     by_cases h1:ed≤at_
     ·by_cases h1':at_≤(im.2.1.size:Int)
      ·rw[aT (n:=(im.2.1.size:Int)-at_) (by omega) (by omega),show decide (at_<ed)=false by simp;omega,show decide (at_>(im.2.1.size:Int))=false by simp;omega]
       simp only[ac]
       by_cases h4:1≤sz
       ·by_cases h5:sz≤(im.2.1.size:Int)-at_
        ·rw[show decide (sz<1)=false by simp;omega,show decide (sz>(im.2.1.size:Int)-at_)=false by simp;omega,aT (n:=at_+sz) (by omega) (by omega)]
         by_cases h2:at_%8=0
         ·by_cases h3:sz%8=0
          ·by_cases h6:fr=0<;>simp[h1,h1',h2,h3,h4,h5,h6]
          ·simp[h2,h3]
         ·simp[h2]
        ·simp[h5,show¬sz<1 by omega,show(im.2.1.size:Int)-at_<sz by omega]
       ·simp[h4,show sz<1 by omega]
      ·simp[h1',show¬at_<ed by omega,show(im.2.1.size:Int)<at_ by omega]
     ·simp[h1,show at_<ed by omega]
    ·simp[k2]
theorem zD {im:gk} {i:Nat} {s:mL} {e:Int×Int} (he:tU im e) (h:(eR im i s e).1=0):tU im (eR im i s e).2:=by
 obtain⟨nm,kd,at_,sz,fr⟩:=s
 obtain⟨ec,ed⟩:=e
 obtain⟨⟨c1,c2⟩,⟨d1,d2⟩⟩:=he
 dsimp only at*
 unfold eR at h⊢
 dsimp only at*
 split at h<;>(try (cases h;done))
 split at h<;>(try (cases h;done))
 rename_i n1 n2
 rw[ap n1,ap n2]
 split at h
 ·rename_i k1
  rw[av k1]
  split at h<;>(try (cases h;done))
  rename_i hh
  rw[av hh]
  exact⟨⟨by dsimp only;omega,by dsimp only;omega⟩,⟨d1,d2⟩⟩
 ·rename_i k1
  rw[ap k1]
  split at h
  ·rename_i k2
   rw[av k2]
   split at h<;>(try (cases h;done))
   rename_i hh
   rw[av hh]
   split at h<;>(try (cases h;done))
   rename_i h3
   rw[av h3]
   exact⟨⟨c1,c2⟩,⟨by dsimp only;omega,by dsimp only;omega⟩⟩
  ·cases h
def jt (im:gk) (n:Nat) (E:Nat→Int×Int):Prop:=E 0=(0,0)∧(∀i,i≤n→tU im (E i))∧∀(i:Nat) (h:i<im.2.2.length),i<n→eR im i im.2.2[i] (E i)=(0,E (i+1))
def OG (im:gk) (e:Int×Int):Int:=if im.2.2.length=0 then 23 else if(rd (τ:=bA) im.2.2 0).2.1≠1 then 23 else if e.1≠(im.1.size:Int)then 22 else 0
theorem CS (im:gk) (hz:ly im):∀(k i:Nat) (E:Nat→Int×Int),i+k=im.2.2.length→jt im i E→
  (∃n c:Int,c≠0∧pb.a im (E i) (im.2.2.length:Int) i=some (n,0,c)∧oL.a im (E i).1 (E i).2 i=some (n,c))∨
  (∃E',jt im im.2.2.length E'∧pb.a im (E i) (im.2.2.length:Int) i=pb.a im (E' im.2.2.length) (im.2.2.length:Int) (im.2.2.length:Int)∧oL.a im (E i).1 (E i).2 i=some (0,OG im (E' im.2.2.length))):=by
 intro k
 induction k with
 |zero=>
  intro i E hk hE
  have:i=im.2.2.length:=by omega
  subst this
  refine Or.inr ⟨E,hE,rfl, ?_⟩
  rw[oL.a_eq,ah]
  simp only[aA,decide_false,ac,OG]
  by_cases h0:im.2.2.length=0
  ·simp[h0]
  ·rw[inL_true (i:=0) (by omega) (by omega),show decide ((im.2.2.length:Int)=0)=false from ak (by omega),ap h0]
   simp only[ac,ae]
   by_cases h1:(rd (τ:=bA) im.2.2 0).2.1=1
   ·simp only[h1,decide_true,aD,ac,ne_eq,not_true_eq_false,↓reduceIte]
    by_cases h2:(E im.2.2.length).1=(im.1.size:Int)
    ·simp[h2]
    ·simp[h2]
   ·simp[h1]
 |succ k ih=>
  intro i E hk hE
  have hi:i<im.2.2.length:=by omega
  have he:=hE.2.1 i (Nat.le_refl _)
  rw[pb.a_eq,ah,ab hi,zB im hz i hi (E i) he,zC im hz i hi (E i) he,an i im.2.2.length hi (by have:=hz.n;omega)]
  simp only[ae,af]
  by_cases h0:(eR im i im.2.2[i] (E i)).1=0
  ·rw[ab h0,av h0]
   simp only[aD,ac]
   have hends:=zD he h0
   have hch:jt im (i+1) (fun j=>if j=i+1 then(eR im i im.2.2[i] (E i)).2 else E j):=by
    have ev:∀(j:Nat),(fun j=>if j=i+1 then(eR im i im.2.2[i] (E i)).2 else E j) j=if j=i+1 then(eR im i im.2.2[i] (E i)).2 else E j:=fun _=>rfl
    refine⟨by rw[ev,ap (by omega)];exact hE.1,fun j hj=> ?_,fun j hj hj'=> ?_⟩<;>simp only
    ·by_cases hji:j=i+1
     ·rw[av hji];exact hends
     ·rw[ap hji];exact hE.2.1 j (by omega)
    ·rw[ap (by omega)]
     by_cases hji:j=i
     ·subst hji
      rw[av rfl,←h0]
     ·rw[ap (by omega)];exact hE.2.2 j hj (by omega)
   have:=ih (i+1) _ (by omega) hch
   simp only[↓reduceIte]at this
   exact this
  ·rw[ak h0,ap h0]
   exact Or.inl ⟨_,_,h0,rfl,rfl⟩
theorem qP (s:mL):∃v,NX s=some v∧Mm s=some v:=by
 rw[zf,Gg]
 cases decide (s.2.1=1)<;>exact⟨_,rfl,rfl⟩
theorem qQ (im:gk) (hz:ly im):∃l,Ft im=some l∧E8 im.2.2=some l∧l.length≤16:=by
 have key:∀(k i:Nat) (l:List Int),i+k=im.2.2.length→l.length≤i→∃l',Ft.a l im.2.2 (im.2.2.length:Int) i=some l'∧E8.a im.2.2 l i=some l'∧l'.length≤im.2.2.length:=by
  intro k
  induction k with
  |zero=>
   intro i l hk hl
   rw[Ft.a_eq,E8.a_eq,ah,ak (show¬i<im.2.2.length by omega)]
   exact⟨l,rfl,rfl,by omega⟩
  |succ k ih=>
   intro i l hk hl
   have hi:i<im.2.2.length:=by omega
   have hn:=hz.n
   rw[Ft.a_eq,E8.a_eq,ah,aj,ab hi,an i _ hi (by omega)]
   simp only[ae]
   obtain⟨v,v1,v2⟩:=qP (rd (τ:=bA) im.2.2 i)
   obtain⟨l1,a1,a2,a3⟩:=ih (i+1) l (by omega) (by omega)
   obtain⟨l2,b1,b2,b3⟩:=ih (i+1) (l++[v]) (by omega) (by simp;omega)
   rw[v1,v2]
   simp only[af]
   rw[pn (by simp;omega) (by simp;omega),a1,a2,b1,b2]
   cases decide ((rd (τ:=bA) im.2.2 i).2.1=1)
   ·exact⟨l1,rfl,rfl,a3⟩
   ·exact⟨l2,rfl,rfl,b3⟩
 obtain⟨l,h1,h2,h3⟩:=key im.2.2.length 0 [] (by omega) (by simp)
 exact⟨l,(NY im).trans h1,(Mn im.2.2).trans h2,by have:=hz.n;omega⟩
structure qR (im:gk) (s:mL):Prop where
 name:cx s.1=true
 kind:s.2.1=1∨s.2.1=2
 at0:0≤s.2.2.1
 size:1≤s.2.2.2.1
 func:s.2.1=1→s.2.2.1+s.2.2.2.1≤(im.1.size:Int)
 data:s.2.1=2→s.2.2.1+s.2.2.2.1≤(im.2.1.size:Int)∧s.2.2.1%8=0∧s.2.2.2.1%8=0∧s.2.2.2.2=0
theorem G4 {im:gk} {i:Nat} {s:mL} {e:Int×Int} (he:tU im e) (h:(eR im i s e).1=0):qR im s∧lX (im.2.2.take i) s.1=false:=by
 obtain⟨nm,kd,at_,sz,fr⟩:=s
 obtain⟨ec,ed⟩:=e
 obtain⟨⟨c1,c2⟩,⟨d1,d2⟩⟩:=he
 dsimp only at*
 unfold eR at h
 dsimp only at*
 split at h<;>(try (cases h;done))
 split at h<;>(try (cases h;done))
 rename_i n1 n2
 refine⟨?_,by simpa using n2⟩
 have n1:cx nm=true:=by simpa using n1
 split at h
 ·rename_i k1
  split at h<;>(try (cases h;done))
  rename_i hh
  exact⟨n1,Or.inl k1,by dsimp only;omega,by dsimp only;omega,fun _=>by dsimp only;omega,fun h=>by dsimp only at h;omega⟩
 ·rename_i k1
  split at h
  ·rename_i k2
   split at h<;>(try (cases h;done))
   rename_i hh
   split at h<;>(try (cases h;done))
   rename_i h3
   exact⟨n1,Or.inr k2,by dsimp only;omega,by dsimp only;omega,fun h=>absurd h k1,fun _=>by dsimp only;omega⟩
  ·cases h
theorem nH {im:gk} {E:Nat→Int×Int} (h:jt im im.2.2.length E) (i:Nat) (hi:i<im.2.2.length):qR im im.2.2[i]∧lX (im.2.2.take i) im.2.2[i].1=false:=
 G4 (h.2.1 i (by omega)) (by rw[h.2.2 i hi hi])
def G5 (s:mL):Prop:=s.2.1=1→bU (4096+s.2.2.1)=true∧df s.2.2.2.2=true∧bw s.2.2.2.1.toNat=true
theorem Bh {code:ByteArray} {at_ f:Int} {calls:List Int} {v:Int×Int} (h:jN code at_ f calls=some v) (hv:v.2=0):bU at_=true∧df f=true∧bw code.size=true:=by
 rw[zh,gH,(eK f).1,gj]at h
 simp only[af]at h
 cases h1:bU at_ with
 |false=>
  rw[h1]at h
  have e:(0,4)=v:=Option.some.inj h
  rw[←e]at hv;cases hv
 |true=>
  rw[h1]at h
  cases h2:df f with
  |false=>
   rw[h2]at h
   have e:(0,17)=v:=Option.some.inj h
   rw[←e]at hv;cases hv
  |true=>
   rw[h2]at h
   cases h3:bw code.size with
   |false=>
    rw[h3]at h
    have e:(0,8)=v:=Option.some.inj h
    rw[←e]at hv;cases hv
   |true=>exact⟨rfl,rfl,rfl⟩
def zE (w:Int):Prop:=∃x,jK w=some (x,true)
def kX (code:ByteArray):Prop:=∀j:Nat,4*j+4≤code.size→zE ((eZ code (4*j) 4:Nat):Int)
theorem zG (code:ByteArray) (hz:code.size≤1048576):∀(k i:Nat) (l:List gU) (r:List gU×Int),4*(i+k)=code.size→yl.a code l ((4*i:Nat):Int)=some (r.1,r.2,true)→∀j:Nat,i≤j→4*j+4≤code.size→zE ((eZ code (4*j) 4:Nat):Int):=by
 intro k
 induction k with
 |zero=>intro i l r h _ j h1 h2;omega
 |succ k ih=>
  intro i l r h e j h1 h2
  have t1:uY (code.extract (4*i) (4*i+4))=some ((eZ code (4*i) 4:Nat):Int):=by
   have hsz:(code.extract (4*i) (4*i+4)).size=4:=by rw[ByteArray.size_extract];omega
   have hw:=TE code (4*i)
   rw[ef _ (by omega),hsz,fR code (4*i) (4*i+4) (by omega) 4 0 (by omega),Nat.add_zero,aT (by omega) (by omega)]
  rw[yl.a_eq,aT (n:=((4*i:Nat):Int)+4) (by omega) (by omega),aC,show(((4*i:Nat):Int)+4).toNat=4*i+4 by omega,t1]at e
  rw[show decide (((4*i:Nat):Int)< (code.size:Int))=true by simp;omega,show decide ((0:Int)≤((4*i:Nat):Int))=true by simp;omega,show decide (((4*i:Nat):Int)≤((4*i:Nat):Int)+4)=true by simp;omega,show decide (((4*i:Nat):Int)+4≤(code.size:Int))=true by simp;omega]at e
  simp only[ae,Bool.and_self,af]at e
  cases hd:jK ((eZ code (4*i) 4:Nat):Int)with
  |none=>rw[hd]at e;cases e
  |some v=>
   rw[hd]at e
   simp only[af]at e
   cases hv:v.2 with
   |false=>rw[hv]at e;simp at e
   |true=>
    rw[hv]at e
    simp only[aD,ac]at e
    rcases Nat.lt_or_ge i j with hj|hj
    ·cases hr:aI (l.length+[v.1].length) 40 with
     |false=>rw[hr]at e;cases e
     |true=>
      rw[hr,ae,show((4*i:Nat):Int)+4=((4*(i+1):Nat):Int) by omega]at e
      exact ih (i+1) _ r (by omega) e j hj h2
    ·obtain rfl:j=i:=by omega
     exact⟨v.1,by rw[hd,←hv]⟩
theorem xt {code:ByteArray} {at_ f:Int} {calls:List Int} {v:Int×Int} (h:jN code at_ f calls=some v) (hv:v.2=0):kX code:=by
 obtain⟨h1,h2,h3⟩:=Bh h hv
 have hs:code.size%4=0∧code.size≤256:=by
  unfold bw at h3
  cases h4:ct code.size with
  |false=>rw[h4]at h3;cases h3
  |true=>exact dm h4
 rw[zh,gH,(eK f).1,gj,h1,h2,h3]at h
 simp only[af,aD,ac]at h
 cases hi:yl code with
 |none=>rw[hi]at h;cases h
 |some r=>
  rw[hi]at h
  simp only[af]at h
  cases hr:r.2.2 with
  |false=>
   rw[hr]at h
   have e:(r.2.1,(10:Int))=v:=Option.some.inj h
   rw[←e]at hv;cases hv
  |true=>
   intro j hj
   rw[zg]at hi
   refine zG code (by omega) (code.size/4) 0 [] (r.1,r.2.1) (by omega) ?_ j (Nat.zero_le _) hj
   rw[show((4*0:Nat):Int)=0 from rfl,hi]
   obtain⟨a,b,c⟩:=r
   simp only at hr
   rw[hr]
def Jo (im:gk) (s:mL):Prop:=s.2.1=1→kX (im.1.extract s.2.2.1.toNat (s.2.2.1+s.2.2.2.1).toNat)
theorem zH (im:gk) (hz:ly im) (hs:∀s∈im.2.2,qR im s) (calls:List Int) (hc:calls.length≤16):∀(k i:Nat),i+k=im.2.2.length→∃v,pb.b im calls im.2.2 (im.2.2.length:Int) i=some v∧E9.a im calls i=some v∧(v.2.2=0→∀j (hj:j<im.2.2.length),i≤j→G5 im.2.2[j]∧Jo im im.2.2[j]):=by
 intro k
 induction k with
 |zero=>
  intro i hk
  rw[pb.b_eq,E9.a_eq,ah,ak (show¬i<im.2.2.length by omega)]
  exact⟨_,rfl,rfl,fun _ j hj h=>by omega⟩
 |succ k ih=>
  intro i hk
  have hi:i<im.2.2.length:=by omega
  obtain⟨v,v1,v2,v3⟩:=ih (i+1) (by omega)
  obtain⟨hn,hcz,hdz⟩:=hz
  rw[pb.b_eq,E9.a_eq,ah,aj,ab hi,an i _ hi (by omega),aW (τ:=bA) im.2.2 i hi,v1,v2]
  simp only[ae]
  have hS:=hs _ (List.getElem_mem hi)
  have next:G5 im.2.2[i]∧Jo im im.2.2[i]→(v.2.2=0→∀j (hj:j<im.2.2.length),i≤j→G5 im.2.2[j]∧Jo im im.2.2[j]):=fun hg hv j hj hij=>by
   by_cases e:j=i
   ·subst e;exact hg
   ·exact v3 hv j hj (by omega)
  obtain⟨s,hse⟩:∃s:mL,im.2.2[i]=s:=⟨_,rfl⟩
  rw[hse]at hS next⊢
  obtain⟨p,p1,p2⟩:=qP s
  rw[p1,p2]
  by_cases k1:s.2.1=1
  ·have hf:=hS.func k1
   have h0:=hS.at0
   have h1:=hS.size
   rw[aT (n:=s.2.2.1+s.2.2.2.1) (by omega) (by omega),ab k1,ab h0,ab hf,ab (show s.2.2.1≤s.2.2.1+s.2.2.2.1 by omega)]
   obtain⟨b,b1,b2⟩:=tT (im.1.extract s.2.2.1.toNat (s.2.2.1+s.2.2.2.1).toNat) p s.2.2.2.2 calls (by rw[ByteArray.size_extract];omega) (by omega)
   simp only[Bool.and_self,aD,ae,ac,af,b1,b2]
   have hp:p=4096+s.2.2.1:=by
    rw[zf,ab k1,ae,aT (n:=4096+s.2.2.1) (by omega) (by omega)]at p1
    exact(Option.some.inj p1).symm
   by_cases hb:b.2=0
   ·rw[ab hb]
    refine⟨_,rfl,rfl,next ⟨fun _=> ?_,fun _=>xt b1 hb⟩⟩
    have hl:=Bh b1 hb
    rw[hp,ByteArray.size_extract]at hl
    rw[show min (s.2.2.1+s.2.2.2.1).toNat im.1.size-s.2.2.1.toNat=s.2.2.2.1.toNat by omega]at hl
    exact hl
   ·rw[ak hb];exact⟨_,rfl,rfl,fun h=>absurd h hb⟩
  ·rw[ak k1];exact⟨_,rfl,rfl,next ⟨fun h=>absurd h k1,fun h=>absurd h k1⟩⟩
structure qS (im:gk):Prop where
 sz:ly im
 chain:∃E,jt im im.2.2.length E∧(E im.2.2.length).1=(im.1.size:Int)
 pos:1≤im.2.2.length
 first:(rd (τ:=bA) im.2.2 0).2.1=1
 funs:∀j (hj:j<im.2.2.length),G5 im.2.2[j]
 lin:∀j (hj:j<im.2.2.length),Jo im im.2.2[j]
theorem zI (im:gk):∃v,pb im=some v∧E9 im=some v∧(v.2.2=0→qS im):=by
 rw[Om,ML]
 simp only[aF]
 by_cases h1:(im.2.2.length:Int)>16
 ·rw[ab h1];exact⟨_,rfl,rfl,fun h=>by cases h⟩
 ·rw[ak h1]
  by_cases h2:(im.1.size:Int)>1024
  ·rw[ab h2];exact⟨_,rfl,rfl,fun h=>by cases h⟩
  ·rw[ak h2]
   by_cases h3:(im.2.1.size:Int)>256
   ·rw[ab h3];exact⟨_,rfl,rfl,fun h=>by cases h⟩
   ·rw[ak h3]
    simp only[ac]
    have hz:ly im:=⟨by omega,by omega,by omega⟩
    rw[Ml]
    have hE0:jt im 0 (fun _=>(0,0)):=⟨rfl,fun i _=>⟨⟨by simp,by simp⟩,⟨by simp,by simp⟩⟩,fun i _ h=>by omega⟩
    rcases CS im hz im.2.2.length 0 _ (by omega) hE0 with⟨n,c,hc,a1,a2⟩|⟨E,hE,a1,a2⟩
    ·have a1':pb.a im (0,0) (im.2.2.length:Int) 0=some (n,0,c):=a1
     have a2':oL.a im 0 0 0=some (n,c):=a2
     rw[a1',a2']
     simp only[af]
     rw[ak hc]
     exact⟨_,rfl,rfl,fun h=>absurd h hc⟩
    ·have a1':pb.a im (0,0) (im.2.2.length:Int) 0=_:=a1
     have a2':oL.a im 0 0 0=_:=a2
     rw[a1',a2',pb.a_eq,ah]
     simp only[aA,decide_false,ac,af,OG]
     by_cases h0:im.2.2.length=0
     ·rw[av h0,show decide ((im.2.2.length:Int)=0)=true by simp[h0]]
      exact⟨_,rfl,rfl,fun h=>by cases h⟩
     ·rw[ap h0,show decide ((im.2.2.length:Int)=0)=false from ak (by omega),inL_true (i:=0) (by omega) (by omega)]
      simp only[ac,ae]
      by_cases k1:(rd (τ:=bA) im.2.2 0).2.1=1
      ·rw[ab k1]
       by_cases k2:(E im.2.2.length).1=(im.1.size:Int)
       ·rw[ab k2]
        obtain⟨fs,f1,f2,f3⟩:=qQ im hz
        have hs:∀s∈im.2.2,qR im s:=fun s hs=>by
         obtain⟨i,hi,rfl⟩:=List.getElem_of_mem hs
         exact(nH hE i hi).1
        obtain⟨v,v1,v2,v3⟩:=zH im hz hs fs f3 im.2.2.length 0 (by omega)
        rw[f1,f2]
        simp only[k1,k2,ne_eq,not_true_eq_false,↓reduceIte,aD,ac,decide_true,af]
        exact⟨v,v1,v2,fun h=>⟨hz,⟨E,hE,k2⟩,by omega,k1,fun j hj=>(v3 h j hj (Nat.zero_le _)).1,fun j hj=>(v3 h j hj (Nat.zero_le _)).2⟩⟩
       ·simp only[k1,k2,ne_eq,not_true_eq_false,not_false_eq_true,↓reduceIte,aD,Bool.not_false,ac,ae,decide_false]
        exact⟨_,rfl,rfl,fun h=>by cases h⟩
      ·simp only[k1,ne_eq,not_false_eq_true,↓reduceIte,Bool.not_false,ae,decide_false]
       exact⟨_,rfl,rfl,fun h=>by cases h⟩
noncomputable def CT (im:gk):Bool:=(Rq im).getD false
theorem ou (im:gk):Rq im=some (CT im)∧S6 im=some (CT im)∧(CT im=true→qS im):=by
 obtain⟨v,v1,v2,v3⟩:=zI im
 have e:Rq im=some (decide (v.2.2=0)):=by rw[On,v1];rfl
 unfold CT
 rw[e,MM,v2]
 exact⟨rfl,rfl,fun h=>v3 (by simpa using h)⟩
def lY (v:Int):Nat→List Int
 |0=>[]
 |n+1=>v%256::lY (v/256) n
theorem lZ (n:Nat):∀v,(lY v n).length=n:=by
 induction n with
 |zero=>intro v;rfl
 |succ n ih=>intro v;simp[lY,ih]
theorem po (n:Int):IntKind.wrap .u8 n=n%256:=by simp[IntKind.wrap,IntKind.bits,IntKind.signed]
theorem oM (n:Nat):∀(v:Int) (xs:List Int),n≤1000→xs.length+n≤1000→ym.a v n xs=some (aS (xs++lY v n)):=by
 induction n with
 |zero=>intro v xs _ _;rw[ym.a_eq];simp[lY]
 |succ n ih=>
  intro v xs hn hx
  rw[ym.a_eq,show decide (((n+1:Nat):Int)>0)=true from ab (by omega),pn (by simp;omega) (by simp;omega),aT (n:=((n+1:Nat):Int)-1) (by omega) (by omega),pf (by decide) (by decide),po,show((n+1:Nat):Int)-1=(n:Int) by omega]
  simp only[ae]
  rw[ih _ _ (by omega) (by simp;omega),lY,bn]
  rfl
theorem l5 (v:Int) (n:Nat) (h:n≤1000):ym v n=some (aS (lY v n)):=by
 rw[Pn,oM n v [] h (by simpa using h)];rfl
theorem cm (xs:List Int):(aS xs).size=xs.length:=by simp[aS,ByteArray.size]
theorem mM (xs:List Int) (i:Nat) (h:∀x∈xs,0≤x∧x≤255) (hi:i<xs.length):(((aS xs).data.getD i 0).toNat:Int)=xs[i]:=by
 have hx:=h _ (List.getElem_mem hi)
 unfold aS
 simp[Array.getD,hi]
 omega
theorem CU (n:Nat):∀v:Int,∀x∈lY v n,0≤x∧x≤255:=by
 induction n with
 |zero=>intro v x hx;cases hx
 |succ n ih=>
  intro v x hx
  rw[lY]at hx
  rcases List.mem_cons.mp hx with h|h
  ·omega
  ·exact ih _ x h
theorem Jp (n:Nat):∀(v:Int) (pre:List Int),0≤v→(∀x∈pre,0≤x∧x≤255)→((eZ (aS (pre++lY v n)) pre.length n:Nat):Int)=v%256^n:=by
 induction n with
 |zero=>intro v pre _ _;simp[eZ,Int.emod_one]
 |succ n ih=>
  intro v pre hv hp
  have h1:=ih (v/256) (pre++[v%256]) (by omega) (by
   intro x hx
   rcases List.mem_append.mp hx with h|h
   ·exact hp x h
   ·rw[List.mem_singleton.mp h];omega)
  rw[bn,List.singleton_append,List.length_append,List.length_singleton]at h1
  rw[lY,eZ]
  have hr:∀x∈pre++v%256::lY (v/256) n,0≤x∧x≤255:=by
   intro x hx
   rcases List.mem_append.mp hx with h|h
   ·exact hp x h
   ·rcases List.mem_cons.mp h with h|h
    ·rw[h];omega
    ·exact CU n _ x h
  have h2:=mM (pre++v%256::lY (v/256) n) pre.length hr (by simp)
  rw[Int.natCast_add,Int.natCast_mul,h1,h2]
  simp
  rw[Int.pow_succ,Int.mul_comm (256^n) 256]
  have hp0:(0:Int)≤256:=by decide
  rw[Int.emod_def v (256*256^n),Int.emod_def (v/256) (256^n),←Int.ediv_ediv_of_nonneg hp0,Int.mul_sub,Int.mul_assoc]
  omega
theorem G6 {a b:ByteArray} (hs:a.size=b.size) (h:∀i,i<a.size→a.data.getD i 0=b.data.getD i 0):a=b:=by
 cases a with|mk x=>cases b with|mk y=>
 congr 1
 have hs:x.size=y.size:=hs
 apply Array.ext hs
 intro i h1 h2
 have:=h i h1
 simpa[Array.getD,h1,h2]using this
theorem qT (n:Nat):∀(k:Int) (t:ByteArray),0≤k→k<10^n→k≤4611686018427387904→t.size+n≤1000→∃v,qB.a k t=some v:=by
 induction n with
 |zero=>
  intro k t h0 h1 _ hs
  have:k=0:=by simp at h1;omega
  subst this
  rw[qB.a_eq,show decide ((0:Int)>0)=false from rfl]
  simp only[ac]
  rw[ab (by have:(⟨#[109]⟩:ByteArray).size=1:=rfl;omega)]
  exact⟨_,rfl⟩
 |succ n ih=>
  intro k t h0 h1 hk hs
  rw[qB.a_eq]
  by_cases hp:k>0
  ·rw[ab hp,ab (by rw[cm];simp;omega),Int.tdiv_eq_ediv_of_nonneg h0,aT (n:=k/10) (by omega) (by omega)]
   simp only[ae]
   rw[Int.pow_succ]at h1
   exact ih _ _ (by omega) (by omega) (by omega) (by rw[ByteArray.size_append,cm];simp;omega)
  ·rw[ak hp]
   simp only[ac]
   rw[ab (by have:(⟨#[109]⟩:ByteArray).size=1:=rfl;omega)]
   exact⟨_,rfl⟩
noncomputable def Qw (k:Int):ByteArray:=(qB k).getD ⟨#[]⟩
theorem cO (k:Int) (h:1≤k) (h':k≤4611686018427387904):qB k=some (Qw k):=by
 obtain⟨v,hv⟩:=qT 30 k ⟨#[]⟩ (by omega) (by omega) h' (by decide)
 have e:qB k=some v:=by rw[LT,ak (by omega)];exact hv
 unfold Qw
 rw[e];rfl
def iq {α:Type} (E:Int→α) (c:Nat) (m0:Int) (n:Nat):List α:=(List.range n).map fun i:Nat=>E (m0+c*i)
theorem l6 {α:Type} (E:Int→α) (c:Nat) (m0:Int) (n:Nat):(iq E c m0 n).length=n:=by simp[iq]
theorem qU {α:Type} (E:Int→α) (c:Nat) (m0:Int) (n i:Nat) (h:i<n):(iq E c m0 n)[i]? =some (E (m0+c*i)):=by simp[iq,h]
theorem G7 {α:Type} (L:List α→Int→Int→Option (Int×List α)) (E:Int→α) (c n:Nat) (m0:Int) (M:Int)
  (hm:1≤m0) (hM:m0+c*n≤M)
  (step:∀(l:List α) (m:Int) (i:Nat),l.length=n→i<n→1≤m→m+c≤M→L l m i=L (l.set i (E m)) (m+c) ((i+1:Nat):Int))
  (last:∀(l:List α) (m:Int),l.length=n→L l m n=some (m,l)) (l:List α) (hl:l.length=n):L l m0 0=some (m0+c*n,iq E c m0 n):=by
 have key:∀(k i:Nat) (l:List α),i+k=n→l.length=n→(∀j,j<i→l[j]? =some (E (m0+c*j)))→L l (m0+c*i) i=some (m0+c*n,iq E c m0 n):=by
  intro k
  induction k with
  |zero=>
   intro i l hi hl hj
   have:i=n:=by omega
   subst this
   rw[last l _ hl]
   congr 2
   apply List.ext_getElem?
   intro j
   by_cases h:j<i
   ·rw[hj j h,qU E c m0 i j h]
   ·rw[List.getElem?_eq_none (by omega),List.getElem?_eq_none (by rw[l6];omega)]
  |succ k ih=>
   intro i l hi hl hj
   have hci:(c:Int)*i+c≤c*n:=by
    have:c*i+c≤c*n:=by
     have:=Nat.mul_le_mul_left c (show i+1≤n by omega)
     rw[Nat.mul_add,Nat.mul_one]at this;exact this
    have e1:((c*i:Nat):Int)=(c:Int)*i:=by simp
    have e2:((c*n:Nat):Int)=(c:Int)*n:=by simp
    omega
   have hc0:0≤(c:Int)*i:=Int.mul_nonneg (by omega) (by omega)
   rw[step l _ i hl (by omega) (by omega) (by omega),show m0+(c:Int)*i+c=m0+c*((i+1:Nat):Int) by rw[Int.natCast_add,Int.mul_add];omega]
   apply ih (i+1) _ (by omega) (by simp[hl])
   intro j hji
   rw[List.getElem?_set]
   by_cases h:i=j
   ·subst h
    rw[av rfl,av (by omega)]
   ·rw[ap h];exact hj j (by omega)
 have:=key n 0 l (by omega) hl (fun j h=>by omega)
 simpa using this
theorem G8 {α:Type} (H:List α→Int→Int→Option Int) (E:Int→α) (c n:Nat) (m0:Int) (M:Int)
  (hm:1≤m0) (hM:m0+c*n≤M)
  (step:∀(l:List α) (m:Int) (i:Nat),l.length=n→i<n→1≤m→m+c≤M→l[i]? =some (E m)→H l m i=H l (m+c) ((i+1:Nat):Int))
  (last:∀(l:List α) (m:Int),l.length=n→H l m n=some m):H (iq E c m0 n) m0 0=some (m0+c*n):=by
 have key:∀(k i:Nat),i+k=n→H (iq E c m0 n) (m0+c*i) i=some (m0+c*n):=by
  intro k
  induction k with
  |zero=>
   intro i hi
   have:i=n:=by omega
   subst this
   rw[last _ _ (l6 ..)]
  |succ k ih=>
   intro i hi
   have hci:(c:Int)*i+c≤c*n:=by
    have:c*i+c≤c*n:=by
     have:=Nat.mul_le_mul_left c (show i+1≤n by omega)
     rw[Nat.mul_add,Nat.mul_one]at this;exact this
    have e1:((c*i:Nat):Int)=(c:Int)*i:=by simp
    have e2:((c*n:Nat):Int)=(c:Int)*n:=by simp
    omega
   have hc0:0≤(c:Int)*i:=Int.mul_nonneg (by omega) (by omega)
   rw[step _ _ i (l6 ..) (by omega) (by omega) (by omega) (qU E c m0 n i (by omega)),show m0+(c:Int)*i+c=m0+c*((i+1:Nat):Int) by rw[Int.natCast_add,Int.mul_add];omega]
   exact ih (i+1) (by omega)
 have:=key n 0 (by omega)
 simpa using this
theorem da {τ:Ty} (xs:List τ.den) (i:Nat) (v:τ.den) (h:i<xs.length):rd (τ:=τ) (xs.set i v) (i:Int)=v:=by
 rw[aW _ _ (by simpa using h)];simp
theorem Jq {τ:Ty} (xs:List τ.den) (i:Nat) (v:τ.den) (h:xs[i]? =some v):rd (τ:=τ) xs (i:Int)=v:=by
 unfold rd;rw[aC,List.getD_eq_getElem?_getD,h];rfl
theorem qV (a:ByteArray):bN a a=true:=by rw[bg,ab rfl]
def ir (p:Nat→Bool):Nat→Nat→Bool
 |_,0=>true
 |i,k+1=>bif p i then ir p (i+1) k else false
theorem fT (p:Nat→Bool):∀k i,ir p i k=true↔∀j,i≤j→j<i+k→p j=true
 |0,i=>by simp[ir];omega
 |k+1,i=>by
  rw[ir,d8]
  by_cases h:p i=true
  ·rw[av h,fT p k (i+1)]
   refine⟨fun H j h1 h2=> ?_,fun H j h1 h2=>H j (by omega) (by omega)⟩
   by_cases e:j=i
   ·rw[e];exact h
   ·exact H j (by omega) (by omega)
  ·rw[ap h]
   refine⟨fun H=>(by cases H),fun H=>absurd (H i (Nat.le_refl _) (by omega)) h⟩
theorem G9 (L:Int→Option Bool) (p:Nat→Bool) (n:Nat) (hend:L (n:Int)=some true) (hstep:∀i:Nat,i<n→L (i:Int)=bif p i then L ((i+1:Nat):Int)else some false):
  ∀k i:Nat,i+k=n→L (i:Int)=some (ir p i k):=by
 intro k
 induction k with
 |zero=>
   intro i h;have:i=n:=by omega
   subst this;exact hend
 |succ k ih=>
  intro i h
  rw[hstep i (by omega),ih (i+1) (by omega),ir]
  cases p i<;>rfl
theorem du {L:Int→Option Bool} (p:Nat→Bool) (n:Nat) (hend:L (n:Int)=some true) (hstep:∀i:Nat,i<n→L (i:Int)=bif p i then L ((i+1:Nat):Int)else some false):L 0=some (ir p 0 n):=
 G9 L p n hend hstep n 0 (by omega)
def dW (p:Nat→Bool):Nat→Nat→Int
 |_,0=> -1
 |i,k+1=>bif p i then(i:Int)else dW p (i+1) k
theorem CV (L:Int→Option Int) (p:Nat→Bool) (n:Nat) (hend:L (n:Int)=some (-1)) (hstep:∀i:Nat,i<n→L (i:Int)=bif p i then some (i:Int)else L ((i+1:Nat):Int)):
  ∀k i:Nat,i+k=n→L (i:Int)=some (dW p i k):=by
 intro k
 induction k with
 |zero=>
   intro i h;have:i=n:=by omega
   subst this;exact hend
 |succ k ih=>
  intro i h
  rw[hstep i (by omega),ih (i+1) (by omega),dW]
  cases p i<;>rfl
theorem cv {L:Int→Option Int} (p:Nat→Bool) (n:Nat) (hend:L (n:Int)=some (-1)) (hstep:∀i:Nat,i<n→L (i:Int)=bif p i then some (i:Int)else L ((i+1:Nat):Int)):L 0=some (dW p 0 n):=
 CV L p n hend hstep n 0 (by omega)
theorem cg (p:Nat→Bool):∀k i,(dW p i k= -1∧∀j,i≤j→j<i+k→p j=false)∨∃j:Nat,dW p i k=(j:Int)∧i≤j∧j<i+k∧p j=true∧∀q,i≤q→q<j→p q=false
 |0,i=> .inl ⟨rfl,fun j h1 h2=>by omega⟩
 |k+1,i=>by
  rw[dW]
  cases h:p i with
  |true=>exact .inr ⟨i,rfl,Nat.le_refl _,by omega,h,fun q h1 h2=>by omega⟩
  |false=>
   rw[ac]
   rcases cg p k (i+1)with⟨h1,h2⟩|⟨j,h1,h2,h3,h4,h5⟩
   ·refine .inl ⟨h1,fun j h3 h4=> ?_⟩
    by_cases e:j=i
    ·rw[e];exact h
    ·exact h2 j (by omega) (by omega)
   ·refine .inr ⟨j,h1,by omega,by omega,h4,fun q h6 h7=> ?_⟩
    by_cases e:q=i
    ·rw[e];exact h
    ·exact h5 q (by omega) (by omega)
theorem fU (i:Nat) (h:0<i) (h':i≤1048576):IntKind.wrap .i64 ((i:Int)-1)=((i-1:Nat):Int):=by
 rw[aT (by omega) (by omega)];omega
theorem kY (a b:Int):decide (a<b)= !decide (a≥b):=by
 rw[←decide_not];congr 1;apply propext;omega
abbrev aN:Ty:= .pair (.int .i64) (.pair (.int .i64) .str)
abbrev eB:Type:=Int×Int×ByteArray
def c7 (n a b:Int):Bool:=decide (a≤n)&&decide (n≤b)
theorem sF (n a b:Int):gb n a b=some (c7 n a b):=cu n a b
theorem bP (n a b:Int):gb n a b=some (c7 n a b)∧ol n a b=some (c7 n a b):=⟨cu n a b,fP n a b⟩
theorem bm {n a b:Int}:c7 n a b=true↔a≤n∧n≤b:=by simp[c7]
def jI (b:Int):Bool:=bif c7 b 0 1048575 then decide (b.tmod 128=0)else false
theorem OH (b:Int):SI b=some (jI b):=by
 rw[Hs,sF]
 unfold jI
 simp only[af]
 cases c7 b 0 1048575<;>rfl
theorem OI (p:Int):SJ p=some (c7 p 0 15):=by rw[Ht,sF];rfl
theorem Ha (b:Int):SI b=some (jI b)∧S7 b=some (jI b):=by
 rw[Hs,MN,(bP _ _ _).1,(bP _ _ _).2]
 unfold jI
 simp only[af]
 cases c7 b 0 1048575<;>exact⟨rfl,rfl⟩
theorem Hb (p:Int):SJ p=some (c7 p 0 15)∧S8 p=some (c7 p 0 15):=by
 rw[Ht,MO,(bP _ _ _).1,(bP _ _ _).2];exact⟨rfl,rfl⟩
def CW (m:List eB) (i:Nat):Bool:=
 bif jI (rd (τ:=aN) m i).1 then bif c7 (rd (τ:=aN) m i).2.1 0 15 then bif decide (((rd (τ:=aN) m i).2.2.size:Int)=128)then
  (decide (i=0)||decide ((rd (τ:=aN) m ((i-1:Nat):Int)).1< (rd (τ:=aN) m i).1))else false else false else false
def iv (m:List eB):Bool:=decide (m.length≤64)&&ir (CW m) 0 m.length
theorem Hc (m:List eB):Dk m=some (iv m):=by
 rw[PJ]
 unfold iv
 rcases Nat.lt_or_ge 64 m.length with h|h
 ·rw[show decide ((m.length:Int)>64)=true by simp;omega,ak (by omega)];rfl
 rw[show decide ((m.length:Int)>64)=false by simp;omega,ab h,ac,Bool.true_and]
 refine du (L:=Dk.a m m (m.length:Int)) (CW m) m.length ?_ fun i hi=> ?_
 ·rw[Dk.a_eq,ah];simp
 ·rw[Dk.a_eq,ah,aj,ab hi,an i m.length hi (by omega),OH,OI]
  unfold CW
  simp only[ae,af]
  by_cases h0:i=0
  ·rw[show decide ((i:Int)>0)=false by simp[h0],ab h0]
   cases jI (rd (τ:=aN) m i).1<;>cases c7 (rd (τ:=aN) m i).2.1 0 15<;>cases decide (((rd (τ:=aN) m i).2.2.size:Int)=128)<;>rfl
  ·rw[show decide ((i:Int)>0)=true by simp;omega,ak h0,fU i (by omega) (by omega),aj,ab (show i-1<m.length by omega)]
   rw[show decide ((rd (τ:=aN) m ((i-1:Nat):Int)).1< (rd (τ:=aN) m i).1)= !decide ((rd (τ:=aN) m ((i-1:Nat):Int)).1≥(rd (τ:=aN) m i).1) from kY _ _]
   cases jI (rd (τ:=aN) m i).1<;>cases c7 (rd (τ:=aN) m i).2.1 0 15<;>cases decide (((rd (τ:=aN) m i).2.2.size:Int)=128)<;>cases decide ((rd (τ:=aN) m ((i-1:Nat):Int)).1≥(rd (τ:=aN) m i).1)<;>rfl
theorem qW (m:List eB):Dk m=some (iv m)∧Fa m=some (iv m):=by
 refine⟨Hc m, ?_⟩
 rw[MP]
 unfold iv
 rcases Nat.lt_or_ge 64 m.length with h|h
 ·rw[show decide ((m.length:Int)>64)=true by simp;omega,ak (by omega)];rfl
 rw[show decide ((m.length:Int)>64)=false by simp;omega,ab h,ac,Bool.true_and]
 refine du (L:=Fa.a m) (CW m) m.length ?_ fun i hi=> ?_
 ·rw[Fa.a_eq,ah];simp
 ·rw[Fa.a_eq,ah,aj,ab hi,an i m.length hi (by omega),(Ha _).2,(Hb _).2]
  unfold CW
  simp only[ae,af]
  by_cases h0:i=0
  ·rw[show decide ((i:Int)>0)=false by simp[h0],ab h0]
   cases jI (rd (τ:=aN) m i).1<;>cases c7 (rd (τ:=aN) m i).2.1 0 15<;>cases decide (((rd (τ:=aN) m i).2.2.size:Int)=128)<;>rfl
  ·rw[show decide ((i:Int)>0)=true by simp;omega,ak h0,fU i (by omega) (by omega),aj,ab (show i-1<m.length by omega)]
   rw[show decide ((rd (τ:=aN) m ((i-1:Nat):Int)).1< (rd (τ:=aN) m i).1)= !decide ((rd (τ:=aN) m i).1≤(rd (τ:=aN) m ((i-1:Nat):Int)).1) from kY _ _]
   cases jI (rd (τ:=aN) m i).1<;>cases c7 (rd (τ:=aN) m i).2.1 0 15<;>cases decide (((rd (τ:=aN) m i).2.2.size:Int)=128)<;>cases decide ((rd (τ:=aN) m i).1≤(rd (τ:=aN) m ((i-1:Nat):Int)).1)<;>rfl
abbrev ba:Ty:= .pair .str (.pair (.int .i64) (.pair (.int .i64) (.pair (.int .i64) (.pair (.int .i64) (.int .i64)))))
abbrev dg:Type:=ByteArray×Int×Int×Int×Int×Int
def cz (l:List dg) (name:ByteArray):Int:=dW (fun i=>decide ((rd (τ:=ba) l (i:Int)).1=name)) 0 l.length
theorem eu (l:List dg) (name:ByteArray) (hl:l.length≤1048576):Kx l name=some (cz l name)∧yi l name=some (cz l name):=by
 rw[Pg,Pf,MQ]
 unfold cz
 constructor
 ·rw[cv (L:=IL.a name l (l.length:Int)) (fun i=>decide ((rd (τ:=ba) l (i:Int)).1=name)) l.length ?_ fun i hi=> ?_]
  ·rfl
  ·rw[IL.a_eq,ah];simp
  ·rw[IL.a_eq,ah,aj,ab hi,an i l.length hi (by omega),Pe,bg]
   simp only[ae,af]
 ·refine cv (L:=yi.a l name) (fun i=>decide ((rd (τ:=ba) l (i:Int)).1=name)) l.length ?_ fun i hi=> ?_
  ·rw[yi.a_eq,ah];simp
  ·rw[yi.a_eq,ah,aj,ab hi,an i l.length hi (by omega),bg]
   simp only[ae]
def xu (k f:Int):Bool:=bif decide (k=1)then(bif df f then true else bif decide (k=2)then decide (f=0)else false)else bif decide (k=2)then decide (f=0)else false
noncomputable def dh (e:dg):Bool:=
 bif cx e.1 then bif bU e.2.2.1 then bif c7 e.2.2.2.1 1 1024 then bif c7 e.2.2.2.2.2 0 6 then xu e.2.1 e.2.2.2.2.1 else false else false else false else false
theorem tV (e:dg):TL e=some (dh e)∧S9 e=some (dh e):=by
 rw[Ph,MR]
 unfold dh
 rw[(dH _).1,(dH _).2,gH,(bP _ _ _).1,(bP _ _ _).1,(bP _ _ _).2,(bP _ _ _).2,(bP _ _ _).2,(eK _).1,(eK _).2]
 unfold bU xu aF
 simp only[af]
 rw[show(decide ((0:Int)≤e.2.2.1)&&decide (e.2.2.1≤1048575))=c7 e.2.2.1 0 1048575 from rfl]
 cases cx e.1<;>cases c7 e.2.2.1 0 1048575<;>cases decide (e.2.2.1.tmod 4=0)<;>cases c7 e.2.2.2.1 1 1024<;>cases c7 e.2.2.2.2.2 0 6<;>cases decide (e.2.1=1)<;>cases df e.2.2.2.2.1<;>cases decide (e.2.1=2)<;>exact⟨rfl,rfl⟩
noncomputable def xw (l:List dg) (i:Nat):Bool:=bif dh (rd (τ:=ba) l i)then decide (cz (l.take i) (rd (τ:=ba) l i).1<0)else false
noncomputable def oN (l:List dg):Bool:=decide (l.length≤64)&&ir (xw l) 0 l.length
theorem gI {α:Type} (l:List α) (i:Nat):(l.take (Int.toNat (i:Int))).drop (Int.toNat 0)=l.take i:=by
 rw[aC,show(Int.toNat 0)=0 from rfl,List.drop_zero]
theorem gJ (i n:Nat) (h:i≤n):(decide (0≤0)&&decide (0≤(i:Int))&&decide ((i:Int)≤(n:Int)))=true:=by simp;omega
theorem iY (l:List dg):Bn l=some (oN l)∧Gk l=some (oN l):=by
 rw[Pi,MS]
 unfold oN
 rcases Nat.lt_or_ge 64 l.length with h|h
 ·rw[show decide ((l.length:Int)>64)=true by simp;omega,ak (show¬l.length≤64 by omega)]
  cases decide ((l.length:Int)>4096)<;>exact⟨rfl,rfl⟩
 rw[show decide ((l.length:Int)>64)=false by simp;omega,show decide ((l.length:Int)>4096)=false by simp;omega,ab h,ac,ac,ac,Bool.true_and]
 constructor
 ·refine du (L:=Bn.a l l (l.length:Int)) (xw l) l.length ?_ fun i hi=> ?_
  ·rw[Bn.a_eq,ah];simp
  ·rw[Bn.a_eq,ah,aj,ab hi,an i l.length hi (by omega),(tV _).1,gI,gJ i _ (by omega),(eu _ _ (by simp;omega)).1]
   unfold xw
   rw[kY]
   simp only[ae,af]
   cases dh (rd (τ:=ba) l i)<;>cases decide (cz (l.take i) (rd (τ:=ba) l i).1≥0)<;>rfl
 ·refine du (L:=Gk.a l) (xw l) l.length ?_ fun i hi=> ?_
  ·rw[Gk.a_eq,ah];simp
  ·rw[Gk.a_eq,ah,aj,ab hi,an i l.length hi (by omega),(tV _).2,gI,gJ i _ (by omega),(eu _ _ (by simp;omega)).2]
   unfold xw
   rw[kY]
   simp only[ae,af]
   cases dh (rd (τ:=ba) l i)<;>cases decide (cz (l.take i) (rd (τ:=ba) l i).1≥0)<;>rfl
abbrev bH:Type:=Int×Int×Int
def Bi (a:bH):Bool:=
 c7 a.1 0 1048575&&c7 a.2.1 0 (IntKind.wrap .i64 (1048576-a.1))&&c7 a.2.2 a.1 (IntKind.wrap .i64 (a.1+a.2.1))&&decide (a.1.tmod 8=0)&&decide (a.2.1.tmod 8=0)&&decide (a.2.2.tmod 8=0)
theorem tW (a:bH):SD a=some (Bi a):=by
 rw[Pj,(bP _ _ _).1,(bP _ _ _).1,(bP _ _ _).1]
 unfold Bi
 simp only[af]
 cases c7 a.1 0 1048575<;>cases c7 a.2.1 0 (IntKind.wrap .i64 (1048576-a.1))<;>cases c7 a.2.2 a.1 (IntKind.wrap .i64 (a.1+a.2.1))<;>cases decide (a.1.tmod 8=0)<;>cases decide (a.2.1.tmod 8=0)<;>cases decide (a.2.2.tmod 8=0)<;>rfl
abbrev pp:Ty:= .pair (.int .i64) (.pair (.int .i64) (.int .i64))
abbrev Sh:Type:=Int×Int×Int
def CX (a b:Int):Int:=bif decide (a<b)then-1 else bif decide (a>b)then 1 else 0
def CY (a b:Sh):Int:=if CX a.1 b.1=0 then CX a.2.1 b.2.1 else CX a.1 b.1
theorem Bj (a b:Int):SK a b=some (CX a b):=by
 rw[PM,Hv,Hv]
 unfold CX
 simp only[af,decide_true,aD,ac]
 cases decide (a<b)<;>cases decide (a>b)<;>rfl
theorem Jr (x y:Int):Hu [x,y]=some (if x=0 then y else x):=by
 rw[PL,show(([x,y]:List Int).length:Int)=2 from rfl,Hu.a_eq,Hu.a_eq,Hu.a_eq]
 show(bif !decide (x=0)then some x else bif !decide (y=0)then some y else some 0)=_
 by_cases hx:x=0
 ·by_cases hy:y=0
  ·simp[hx,hy]
  ·simp[hx,hy]
 ·simp[hx]
theorem CZ (a b:Sh):TR a b=some (CY a b):=by
 rw[PN,Bj,Bj]
 simp only[af]
 rw[Jr];rfl
theorem tX (a b c d:Int):Fb [a,b] [c,d]=some (if a=c then decide (b<d)else decide (a<c)):=by
 rw[MU,Fb.a_eq,Fb.a_eq,Fb.a_eq]
 show(bif !decide (a=c)then some (decide (a<c))else bif !decide (b=d)then some (decide (b<d))else some false)=_
 by_cases h:a=c
 ·by_cases h2:b=d
  ·simp[h,h2]
  ·simp[h,h2]
 ·simp[h]
theorem Hd (a b:Sh):(if a.1=b.1 then decide (a.2.1<b.2.1)else decide (a.1<b.1))= !decide (CY a b≥0):=by
 obtain⟨a1,a2,a3⟩:=a
 obtain⟨b1,b2,b3⟩:=b
 simp only[CY,CX,d8,aV]
 rcases Int.lt_trichotomy a1 b1 with h|h|h
 ·rw[ap (by omega),av h];simp[h]
 ·subst h
  rw[av rfl]
  rcases Int.lt_trichotomy a2 b2 with h2|h2|h2
  ·simp[h2]
  ·simp[h2]
  ·simp[show¬a2<b2 by omega,h2]
 ·rw[ap (by omega),ap (by omega),av h];simp[show¬a1<b1 by omega]
theorem OJ (n:Int):Ta n=some (c7 n 0 255):=by rw[MT,(bP _ _ _).2];rfl
def Rv (l:List Sh) (i:Nat):Bool:=
 bif c7 (rd (τ:=pp) l i).2.1 0 255 then(decide (i=0)|| !decide (CY (rd (τ:=pp) l ((i-1:Nat):Int)) (rd (τ:=pp) l i)≥0))else false
def Qx (l:List Sh):Bool:=decide (l.length≤16)&&ir (Rv l) 0 l.length
theorem ov (l:List Sh):FC l=some (Qx l)∧Fc l=some (Qx l):=by
 rw[PO,MV]
 unfold Qx
 rcases Nat.lt_or_ge 16 l.length with h|h
 ·rw[show decide ((l.length:Int)>16)=true by simp;omega,ak (show¬l.length≤16 by omega)]
  cases decide ((l.length:Int)>4096)<;>exact⟨rfl,rfl⟩
 rw[show decide ((l.length:Int)>16)=false by simp;omega,show decide ((l.length:Int)>4096)=false by simp;omega,ab h,ac,ac,ac,Bool.true_and]
 constructor
 ·refine du (L:=FC.a l l (l.length:Int)) (Rv l) l.length ?_ fun i hi=> ?_
  ·rw[FC.a_eq,ah];simp
  ·rw[FC.a_eq,ah,aj,ab hi,an i l.length hi (by omega),(bP _ _ _).1]
   unfold Rv
   simp only[ae,af]
   by_cases h0:i=0
   ·rw[show decide ((i:Int)>0)=false by simp[h0],ab h0]
    cases c7 (rd (τ:=pp) l i).2.1 0 255<;>rfl
   ·rw[show decide ((i:Int)>0)=true by simp;omega,ak h0,fU i (by omega) (by omega),aj,ab (show i-1<l.length by omega),CZ]
    simp only[af]
    cases c7 (rd (τ:=pp) l i).2.1 0 255<;>cases decide (CY (rd (τ:=pp) l ((i-1:Nat):Int)) (rd (τ:=pp) l i)≥0)<;>rfl
 ·refine du (L:=Fc.a l) (Rv l) l.length ?_ fun i hi=> ?_
  ·rw[Fc.a_eq,ah];simp
  ·rw[Fc.a_eq,ah,aj,ab hi,an i l.length hi (by omega),OJ]
   unfold Rv
   simp only[ae,af]
   by_cases h0:i=0
   ·rw[show decide ((i:Int)>0)=false by simp[h0],ab h0]
    cases c7 (rd (τ:=pp) l i).2.1 0 255<;>rfl
   ·rw[show decide ((i:Int)>0)=true by simp;omega,ak h0,fU i (by omega) (by omega),aj,ab (show i-1<l.length by omega),tX,Hd]
    simp only[af]
    cases c7 (rd (τ:=pp) l i).2.1 0 255<;>cases decide (CY (rd (τ:=pp) l ((i-1:Nat):Int)) (rd (τ:=pp) l i)≥0)<;>rfl
abbrev He:Ty:= .pair (.arr (.int .i64) 32) (.int .i64)
abbrev dS:Ty:= .pair (.int .i64) (.pair He (.pair (.list (.int .i64)) (.int .i64)))
abbrev OL:Type:=Int×(List Int×Int)×List Int×Int
abbrev OM:Type:=List eB×List OL×List dg×List Sh
def Bl (h:List Int×Int):Bool:=decide ((rd (τ:= .int .i64) h.1 0)=(0:Int))
theorem xx (h:List Int×Int):TS h=some (Bl h)∧Tb h=some (Bl h):=by
 rw[PP,MW];exact⟨rfl,rfl⟩
def zJ (t:OL):Bool:=
 bif c7 t.1 1 3 then bif Bl t.2.1 then bif decide ((t.2.2.1.length:Int)≤32)then(bif decide (t.1=3)then c7 t.2.2.2 1 31 else decide (t.2.2.2=0))else false else false else false
theorem Bm (t:OL):TT t=some (zJ t)∧Tc t=some (zJ t):=by
 rw[PQ,MX,(bP _ _ _).1,(bP _ _ _).1,(bP _ _ _).2,(bP _ _ _).2,(xx _).1,(xx _).2]
 unfold zJ aF
 rw[show decide ((t.2.2.1.length:Int)>32)= !decide ((t.2.2.1.length:Int)≤32) by rw[←decide_not];congr 1;apply propext;omega]
 simp only[af]
 cases c7 t.1 1 3<;>cases Bl t.2.1<;>cases decide ((t.2.2.1.length:Int)≤32)<;>cases decide (t.1=3)<;>exact⟨rfl,rfl⟩
def xy (l:List OL):Bool:=c7 l.length 1 4&&ir (fun i=>zJ (rd (τ:=dS) l (i:Int))) 0 l.length
theorem Hf (p:Nat→Bool) (n:Nat):decide (dW (fun i=> !p i) 0 n≥0)= !ir p 0 n:=by
 rcases cg (fun i=> !p i) n 0 with⟨h1,h2⟩|⟨j,h1,h2,h3,h4,h5⟩
 ·rw[h1,(fT p n 0).2 fun j h3 h4=>by simpa using h2 j h3 h4];rfl
 ·rw[h1]
  have:ir p 0 n=false:=by
   cases h:ir p 0 n with
   |false=>rfl
   |true=>have:=(fT p n 0).1 h j h2 h3;rw[this]at h4;cases h4
  rw[this];simp
theorem xz (l:List OL):TU l=some (xy l):=by
 rw[PU,(bP _ _ _).1]
 unfold xy
 simp only[af]
 cases h:c7 (l.length:Int) 1 4 with
 |false=>rfl
 |true=>
  have hl:l.length≤4:=by rw[bm]at h;omega
  rw[PT,PS,cv (L:=IM.a l (l.length:Int)) (fun i=> !zJ (rd (τ:=dS) l (i:Int))) l.length ?_ fun i hi=> ?_]
  ·simp only[af,ae,Bool.true_and]
   rw[Hf];simp
  ·rw[IM.a_eq,ah];simp
  ·rw[IM.a_eq,ah,aj,ab hi,an i l.length hi (by omega),PR,(Bm _).1]
   simp only[ae,af]
noncomputable def sG (m:OM):Bool:=iv m.1&&(oN m.2.2.1&&(Qx m.2.2.2&&xy m.2.1))
theorem ow (m:OM):SL m=some (sG m)∧Gl m=some (sG m):=by
 rw[PW,MY,(qW _).1,(qW _).2,(iY _).1,(iY _).2,(ov _).1,(ov _).2,xz]
 unfold sG
 simp only[af]
 constructor
 ·cases iv m.1<;>cases oN m.2.2.1<;>cases Qx m.2.2.2<;>rfl
 ·unfold xy
  by_cases h1:(m.2.1.length:Int)<1
  ·rw[ab h1,show c7 (m.2.1.length:Int) 1 4=false by simp[c7];omega]
   cases iv m.1<;>simp
  rw[ak h1]
  by_cases h2:(m.2.1.length:Int)>4
  ·rw[ab h2,show c7 (m.2.1.length:Int) 1 4=false by simp[c7];omega]
   cases iv m.1<;>simp
  rw[ak h2,show c7 (m.2.1.length:Int) 1 4=true by simp[c7];omega]
  rw[du (L:=Gl.a m) (fun i=>zJ (rd (τ:=dS) m.2.1 (i:Int))) m.2.1.length ?_ fun i hi=> ?_]
  ·cases iv m.1<;>cases oN m.2.2.1<;>cases Qx m.2.2.2<;>rfl
  ·rw[Gl.a_eq,ah];simp
  ·rw[Gl.a_eq,ah,aj,ab hi,an i m.2.1.length hi (by omega),(Bm _).2]
   simp only[ae,af]
   cases zJ (rd (τ:=dS) m.2.1 (i:Int))<;>rfl
def gm (p:Nat→Bool):Nat→Nat→Bool
 |_,0=>false
 |i,k+1=>bif p i then true else gm p (i+1) k
theorem kv (p:Nat→Bool):∀k i,gm p i k=true↔∃j,i≤j∧j<i+k∧p j=true
 |0,i=>by simp[gm];omega
 |k+1,i=>by
  rw[gm,d8]
  by_cases h:p i=true
  ·rw[av h];simp only[true_iff];exact⟨i,Nat.le_refl _,by omega,h⟩
  ·rw[ap h,kv p k (i+1)]
   refine⟨fun⟨j,h1,h2,h3⟩=>⟨j,by omega,by omega,h3⟩,fun⟨j,h1,h2,h3⟩=>⟨j, ?_,by omega,h3⟩⟩
   rcases Nat.lt_or_ge i j with h4|h4
   ·exact h4
   ·have:j=i:=by omega
    subst this;exact absurd h3 h
theorem Hg {β:Type} (L:Int→Option β) (p:Nat→Bool) (n:Nat) (r:Option β) (hstep:∀i:Nat,i<n→L (i:Int)=bif p i then r else L ((i+1:Nat):Int)):
  ∀k i:Nat,i+k=n→L (i:Int)=bif gm p i k then r else L (n:Int):=by
 intro k
 induction k with
 |zero=>
   intro i h;have:i=n:=by omega
   subst this;rfl
 |succ k ih=>
  intro i h
  rw[hstep i (by omega),ih (i+1) (by omega),gm]
  cases p i<;>rfl
theorem eL {β:Type} {L:Int→Option β} (p:Nat→Bool) (n:Nat) (r:Option β) (hstep:∀i:Nat,i<n→L (i:Int)=bif p i then r else L ((i+1:Nat):Int)):L 0=bif gm p 0 n then r else L (n:Int):=
 Hg L p n r hstep n 0 (by omega)
theorem qX (p:Nat→Bool) (n:Nat):decide (dW p 0 n≥0)=gm p 0 n:=by
 rcases cg p n 0 with⟨h1,h2⟩|⟨j,h1,h2,h3,h4,h5⟩
 ·rw[h1]
  cases h:gm p 0 n with
  |false=>rfl
  |true=>obtain⟨j,h3,h4,h5⟩:=(kv p n 0).1 h;rw[h2 j h3 h4]at h5;cases h5
 ·rw[h1,(kv p n 0).2 ⟨j,h2,h3,h4⟩];simp
def br {α:Type} (f:Nat→α):Nat→Nat→List α
 |_,0=>[]
 |i,k+1=>f i::br f (i+1) k
theorem aO {α:Type} (f:Nat→α):∀k i,(br f i k).length=k
 |0,_=>rfl
 |k+1,i=>by rw[br,List.length_cons,aO f k]
theorem Hh {α β:Type} (L:List α→Int→Option β) (f:Nat→α) (n A:Nat) (hstep:∀acc (i:Nat),i<n→acc.length=A+i→L acc (i:Int)=L (acc++[f i]) ((i+1:Nat):Int)):
  ∀(k i:Nat) (acc:List α),i+k=n→acc.length=A+i→L acc (i:Int)=L (acc++br f i k) (n:Int):=by
 intro k
 induction k with
 |zero=>
   intro i acc h _;have:i=n:=by omega
   subst this;rw[br,List.append_nil]
 |succ k ih=>
  intro i acc h ha
  rw[hstep acc i (by omega) ha,ih (i+1) _ (by omega) (by simp;omega),br,bn];rfl
theorem cP {α β:Type} {L:List α→Int→Option β} (f:Nat→α) (n:Nat) (acc:List α) (hstep:∀acc' (i:Nat),i<n→acc'.length=acc.length+i→L acc' (i:Int)=L (acc'++[f i]) ((i+1:Nat):Int)):L acc 0=L (acc++br f 0 n) (n:Int):=
 Hh L f n acc.length hstep n 0 acc (by omega) (by omega)
def bz (c:Nat→Int):Nat→Nat→Int×Int
 |_,0=>(0,0)
 |i,k+1=>if c i=0 then bz c (i+1) k else((i:Int),c i)
theorem C0 (L:Int→Option (Int×Int)) (c:Nat→Int) (n:Nat) (hstep:∀i:Nat,i<n→L (i:Int)=if c i=0 then L ((i+1:Nat):Int)else some ((i:Int),c i)):
  ∀k i:Nat,i+k=n→L (i:Int)=if(bz c i k).2=0 then L (n:Int)else some (bz c i k):=by
 intro k
 induction k with
 |zero=>
   intro i h;have:i=n:=by omega
   subst this;rfl
 |succ k ih=>
  intro i h
  rw[hstep i (by omega),ih (i+1) (by omega),bz]
  by_cases h:c i=0
  ·rw[av h,av h]
  ·rw[ap h,ap h,ap h]
theorem dI {L:Int→Option (Int×Int)} (c:Nat→Int) (n:Nat) (hstep:∀i:Nat,i<n→L (i:Int)=if c i=0 then L ((i+1:Nat):Int)else some ((i:Int),c i)):L 0=if(bz c 0 n).2=0 then L (n:Int)else some (bz c 0 n):=
 C0 L c n hstep n 0 (by omega)
theorem dJ (c:Nat→Int):∀k i,(bz c i k).2=0↔∀j,i≤j→j<i+k→c j=0
 |0,i=>by simp[bz];omega
 |k+1,i=>by
  rw[bz]
  by_cases h:c i=0
  ·rw[av h,dJ c k (i+1)]
   refine⟨fun H j h1 h2=> ?_,fun H j h1 h2=>H j (by omega) (by omega)⟩
   by_cases e:j=i
   ·rw[e];exact h
   ·exact H j (by omega) (by omega)
  ·rw[ap h]
   exact⟨fun H=>absurd H h,fun H=>absurd (H i (Nat.le_refl _) (by omega)) h⟩
abbrev aP:Ty:= .pair .str (.pair .bool (.pair (.int .i64) .str))
abbrev UR:Type:=ByteArray×Bool×Int×ByteArray
abbrev bD:Ty:= .pair .str .str
abbrev US:Type:=ByteArray×ByteArray
abbrev cA:Ty:= .pair (.int .i64) (.pair (.int .i64) (.pair (.int .i64) (.pair .str (.int .i64))))
abbrev Ku:Type:=Int×Int×Int×ByteArray×Int
abbrev dT:Ty:= .pair (.int .i64) .bool
abbrev UT:Type:=Int×Bool
abbrev bM:Type:=ByteArray×Int×List UR×List US×List Ku×List UT
structure ObjSz (o:bM):Prop where
 f:o.2.2.1.length≤4
 d:o.2.2.2.1.length≤4
 r:o.2.2.2.2.1.length≤32
 s:o.2.2.2.2.2.length≤4
def cZ (o:bM):List ByteArray:=br (fun i=>(rd (τ:=aP) o.2.2.1 (i:Int)).1) 0 o.2.2.1.length++br (fun i=>(rd (τ:=bD) o.2.2.2.1 (i:Int)).1) 0 o.2.2.2.1.length
def f8 (o:bM):List Int:=br (fun i=>IntKind.wrap .i64 (((rd (τ:=aP) o.2.2.1 (i:Int)).2.2.2.size:Int).tdiv 4)) 0 o.2.2.1.length++br (fun i=>IntKind.wrap .i64 (((rd (τ:=bD) o.2.2.2.1 (i:Int)).2.size:Int).tdiv 8)) 0 o.2.2.2.1.length
theorem ju (n:Nat) (h:n≤4096):aI n 16=true:=by simp[aI];omega
theorem lz (n:Nat) (h:n≤4096):aI n 8=true:=by simp[aI];omega
theorem C3 (o:bM) (hz:ObjSz o) (u:Nat) (hu:u≤(cZ o).length):rV o (u:Int)=some ((cZ o).take u):=by
 obtain⟨hf,hd,_,_⟩:=hz
 rw[OZ]
 rw[cP (L:=fun acc i=>rV.a (u:Int) o acc o.2.2.1 (o.2.2.1.length:Int) i) (fun i=>(rd (τ:=aP) o.2.2.1 (i:Int)).1) o.2.2.1.length [] fun acc i hi ha=> ?_]
 ·rw[rV.a_eq,ah,ak (aA _),ac,List.nil_append]
  rw[cP (L:=fun acc i=>rV.b (u:Int) acc o.2.2.2.1 (o.2.2.2.1.length:Int) i) (fun i=>(rd (τ:=bD) o.2.2.2.1 (i:Int)).1) o.2.2.2.1.length (br (fun i=>(rd (τ:=aP) o.2.2.1 (i:Int)).1) 0 o.2.2.1.length) fun acc i hi ha=> ?_]
  ·show rV.b (u:Int) (cZ o) o.2.2.2.1 (o.2.2.2.1.length:Int) (o.2.2.2.1.length:Int)=_
   rw[rV.b_eq,ah,ak (aA _),ac,gJ u _ hu,ae,gI]
  ·rw[aO]at ha
   show rV.b (u:Int) acc o.2.2.2.1 (o.2.2.2.1.length:Int) (i:Int)=_
   rw[rV.b_eq,ah,aj,ab hi,an i _ hi (by omega),ju _ (by simp;omega)];rfl
 ·show rV.a (u:Int) o acc o.2.2.1 (o.2.2.1.length:Int) (i:Int)=_
  rw[rV.a_eq,ah,aj,ab hi,an i _ hi (by omega),ju _ (by simp at ha⊢;omega)];rfl
theorem C4 (o:bM) (hz:ObjSz o):sI o=some (f8 o):=by
 obtain⟨hf,hd,_,_⟩:=hz
 rw[O1]
 rw[cP (L:=fun acc i=>sI.a o acc o.2.2.1 (o.2.2.1.length:Int) i) (fun i=>IntKind.wrap .i64 (((rd (τ:=aP) o.2.2.1 (i:Int)).2.2.2.size:Int).tdiv 4)) o.2.2.1.length [] fun acc i hi ha=> ?_]
 ·rw[sI.a_eq,ah,ak (aA _),ac,List.nil_append]
  rw[cP (L:=fun acc i=>sI.b acc o.2.2.2.1 (o.2.2.2.1.length:Int) i) (fun i=>IntKind.wrap .i64 (((rd (τ:=bD) o.2.2.2.1 (i:Int)).2.size:Int).tdiv 8)) o.2.2.2.1.length (br (fun i=>IntKind.wrap .i64 (((rd (τ:=aP) o.2.2.1 (i:Int)).2.2.2.size:Int).tdiv 4)) 0 o.2.2.1.length) fun acc i hi ha=> ?_]
  ·rw[sI.b_eq,ah,ak (aA _),ac];rfl
  ·rw[aO]at ha
   show sI.b acc o.2.2.2.1 (o.2.2.2.1.length:Int) (i:Int)=_
   rw[sI.b_eq,ah,aj,ab hi,an i _ hi (by omega),lz _ (by simp;omega)];rfl
 ·show sI.a o acc o.2.2.1 (o.2.2.1.length:Int) (i:Int)=_
  rw[sI.a_eq,ah,aj,ab hi,an i _ hi (by omega),lz _ (by simp at ha⊢;omega)];rfl
def iw (l:List ByteArray) (n:ByteArray):Bool:=l.any fun y=>decide (y=n)
theorem kw {l:List ByteArray} {n:ByteArray}:iw l n=true↔n∈l:=by simp[iw]
theorem zK (l:List ByteArray) (n:ByteArray) (hl:l.length≤4096):TG l n=some (iw l n):=by
 rw[OY,OX,cv (L:=II.a l n (l.length:Int)) (fun i=>decide (n=rd (τ:= .str) l (i:Int))) l.length ?_ fun i hi=> ?_]
 ·simp only[af]
  rw[qX]
  congr 1
  rw[Bool.eq_iff_iff,kv,kw,List.mem_iff_getElem]
  refine⟨fun⟨j,h1,h2,h3⟩=>⟨j,by omega, ?_⟩,fun⟨j,h1,h2⟩=>⟨j,by omega,by omega, ?_⟩⟩
  ·rw[decide_eq_true_iff,aW (τ:= .str) l j (by omega)]at h3;exact h3.symm
  ·rw[decide_eq_true_iff,aW (τ:= .str) l j h1];exact h2.symm
 ·rw[II.a_eq,ah];simp
 ·rw[II.a_eq,ah,aj,ab hi,an i _ hi (by omega),bg];rfl
theorem b9 {α:Type} (f:Nat→α) (x:α):∀k i,x∈br f i k↔∃j,i≤j∧j<i+k∧f j=x
 |0,i=>by simp[br];omega
 |k+1,i=>by
  rw[br,List.mem_cons,b9 f x k (i+1)]
  constructor
  ·rintro(h|⟨j,h1,h2,h3⟩)
   ·exact⟨i,Nat.le_refl _,by omega,h.symm⟩
   ·exact⟨j,by omega,by omega,h3⟩
  ·rintro⟨j,h1,h2,h3⟩
   by_cases e:j=i
   ·subst e;exact .inl h3.symm
   ·exact .inr ⟨j,by omega,by omega,h3⟩
theorem nI {α:Type} (f:Nat→α):∀k i n,(br f i k).take n=br f i (min n k)
 |0,i,n=>by simp[br]
 |k+1,i,0=>by simp[br]
 |k+1,i,n+1=>by rw[br,List.take_succ_cons,nI f k (i+1) n,Nat.add_min_add_right,br]
theorem mN (o:bM) (i:Nat) (hi:i≤o.2.2.1.length):(cZ o).take i=br (fun i=>(rd (τ:=aP) o.2.2.1 (i:Int)).1) 0 i:=by
 unfold cZ
 rw[List.take_append_of_le_length (by rw[aO];exact hi),nI,Nat.min_eq_left hi]
theorem jv (o:bM) (i:Nat) (hi:i≤o.2.2.2.1.length):(cZ o).take (o.2.2.1.length+i)=br (fun i=>(rd (τ:=aP) o.2.2.1 (i:Int)).1) 0 o.2.2.1.length++br (fun i=>(rd (τ:=bD) o.2.2.2.1 (i:Int)).1) 0 i:=by
 unfold cZ
 rw[List.take_append,aO,List.take_of_length_le (by rw[aO];omega),nI,show o.2.2.1.length+i-o.2.2.1.length=i by omega,Nat.min_eq_left hi]
theorem nJ (o:bM):(cZ o).length=o.2.2.1.length+o.2.2.2.1.length:=by unfold cZ;rw[List.length_append,aO,aO]
theorem nK (f:Nat→ByteArray) (n:ByteArray) (k:Nat):iw (br f 0 k) n=gm (fun j=>decide (f j=n)) 0 k:=by
 rw[Bool.eq_iff_iff,kw,b9,kv];simp
theorem qY (a b:List ByteArray) (n:ByteArray):iw (a++b) n=(iw a n||iw b n):=by simp[iw]
theorem qZ (c:Nat→Int):∀k i,(bz c i k).2=0→bz c i k=(0,0)
 |0,_,_=>rfl
 |k+1,i,h=>by
  rw[bz]at h⊢
  by_cases e:c i=0
  ·rw[av e]at h⊢;exact qZ c k (i+1) h
  ·rw[ap e]at h;exact absurd h e
theorem kx (c:Nat→Int) (i k:Nat):(if(bz c i k).2=0 then some ((0,0):Int×Int)else some (bz c i k))=some (bz c i k):=by
 by_cases h:(bz c i k).2=0
 ·rw[av h,qZ c k i h]
 ·rw[ap h]
noncomputable def mO (o:bM) (i:Nat):Int:=
 if cx (rd (τ:=aP) o.2.2.1 (i:Int)).1=false then 3 else if iw ((cZ o).take i) (rd (τ:=aP) o.2.2.1 (i:Int)).1=true then 24
 else if df (rd (τ:=aP) o.2.2.1 (i:Int)).2.2.1=false then 17 else if bw (rd (τ:=aP) o.2.2.1 (i:Int)).2.2.2.size=false then 8 else 0
def rb (n:Nat):Bool:=c7 (n:Int) 8 64&&decide ((n:Int).tmod 8=0)
noncomputable def mP (o:bM) (i:Nat):Int:=
 if cx (rd (τ:=bD) o.2.2.2.1 (i:Int)).1=false then 3 else if iw ((cZ o).take (o.2.2.1.length+i)) (rd (τ:=bD) o.2.2.2.1 (i:Int)).1=true then 24
 else if rb (rd (τ:=bD) o.2.2.2.1 (i:Int)).2.size=false then 8 else 0
theorem mQ (o:bM) (hz:ObjSz o) (n:ByteArray) (u:Nat) (hu:u≤(cZ o).length):SC o n (u:Int)=some (if cx n=false then 3 else if iw ((cZ o).take u) n=true then 24 else 0):=by
 have:=hz.f;have:=hz.d;have:=nJ o
 rw[O0,(dH _).1,C3 o hz u hu]
 simp only[af]
 rw[zK _ _ (by simp;omega)]
 cases cx n<;>cases iw ((cZ o).take u) n<;>rfl
theorem Hi (t:ByteArray):Th t=some (bw t.size):=by
 rw[M9]
 unfold bw ct
 cases decide ((t.size:Int).tmod 4=0)<;>cases decide ((t.size:Int)≥20)<;>cases decide ((t.size:Int)≤256)<;>rfl
theorem C5 (o:bM) (hz:ObjSz o):iz.a o o.2.2.1 (o.2.2.1.length:Int) 0=if(bz (mO o) 0 o.2.2.1.length).2=0 then iz.b o o.2.2.2.1 (o.2.2.2.1.length:Int) 0 else some (bz (mO o) 0 o.2.2.1.length):=by
 have:=hz.f
 rw[dI (L:=iz.a o o.2.2.1 (o.2.2.1.length:Int)) (mO o) o.2.2.1.length fun i hi=> ?_]
 ·rw[iz.a_eq,ah,ak (aA _),ac]
 ·rw[iz.a_eq,ah,aj,ab hi,an i _ hi (by omega),mQ o hz _ i (by rw[nJ];omega),(eK _).1,gj]
  unfold mO
  simp only[ae,af]
  cases cx (rd (τ:=aP) o.2.2.1 (i:Int)).1 with
  |false=>rfl
  |true=>
   cases iw ((cZ o).take i) (rd (τ:=aP) o.2.2.1 (i:Int)).1 with
   |true=>rfl
   |false=>cases df (rd (τ:=aP) o.2.2.1 (i:Int)).2.2.1<;>cases bw (rd (τ:=aP) o.2.2.1 (i:Int)).2.2.2.size<;>rfl
theorem C6 (o:bM) (hz:ObjSz o):iz.b o o.2.2.2.1 (o.2.2.2.1.length:Int) 0=if(bz (mP o) 0 o.2.2.2.1.length).2=0 then iz.c o (o.2.2.2.2.1.length:Int) 0 else some (bz (mP o) 0 o.2.2.2.1.length):=by
 have h1:=hz.f
 have h2:=hz.d
 rw[dI (L:=iz.b o o.2.2.2.1 (o.2.2.2.1.length:Int)) (mP o) o.2.2.2.1.length fun i hi=> ?_]
 ·rw[iz.b_eq,ah,ak (aA _),ac]
 ·rw[iz.b_eq,ah,aj,ab hi,an i _ hi (by omega),aT (n:=(o.2.2.1.length:Int)+(i:Int)) (by omega) (by omega),←Int.natCast_add,mQ o hz _ (o.2.2.1.length+i) (by rw[nJ];omega),(bP _ _ _).1]
  unfold mP rb
  simp only[ae,af]
  cases cx (rd (τ:=bD) o.2.2.2.1 (i:Int)).1 with
  |false=>rfl
  |true=>
   cases iw ((cZ o).take (o.2.2.1.length+i)) (rd (τ:=bD) o.2.2.2.1 (i:Int)).1 with
   |true=>rfl
   |false=>cases c7 ((rd (τ:=bD) o.2.2.2.1 (i:Int)).2.size:Int) 8 64<;>cases decide (((rd (τ:=bD) o.2.2.2.1 (i:Int)).2.size:Int).tmod 8=0)<;>rfl
theorem C7 (o:bM) (hz:ObjSz o):uW o=some (bz (mO o) 0 o.2.2.1.length):=by
 have h1:=hz.f
 rw[Na,dI (L:=uW.a o) (mO o) o.2.2.1.length fun i hi=> ?_]
 ·rw[uW.a_eq,ah,ak (aA _),ac]
  exact kx _ _ _
 ·rw[uW.a_eq,ah,aj,ab hi,(dH _).2]
  unfold mO
  simp only[ae,af]
  cases cx (rd (τ:=aP) o.2.2.1 (i:Int)).1 with
  |false=>rfl
  |true=>
   rw[show(!true)=false from rfl,ac,eL (L:=uW.b o (i:Int) (rd (τ:=aP) o.2.2.1 (i:Int))) (fun j=>decide ((rd (τ:=aP) o.2.2.1 (j:Int)).1=(rd (τ:=aP) o.2.2.1 (i:Int)).1)) i (some ((i:Int),24)) fun j hj=> ?_]
   ·rw[mN o i (by omega),nK]
    cases gm (fun j=>decide ((rd (τ:=aP) o.2.2.1 (j:Int)).1=(rd (τ:=aP) o.2.2.1 (i:Int)).1)) 0 i with
    |true=>rfl
    |false=>
     rw[uW.b_eq,ah,ak (aA _),ac,ac,(eK _).2,Hi,an i _ hi (by omega)]
     simp only[af]
     cases df (rd (τ:=aP) o.2.2.1 (i:Int)).2.2.1<;>cases bw (rd (τ:=aP) o.2.2.1 (i:Int)).2.2.2.size<;>rfl
   ·rw[uW.b_eq,ah,aj,ab hj,ab (show j<o.2.2.1.length by omega),an j _ hj (by omega),bg];rfl
theorem C8 (o:bM) (hz:ObjSz o):nC o=some (bz (mP o) 0 o.2.2.2.1.length):=by
 have h1:=hz.f
 have h2:=hz.d
 rw[Nb,dI (L:=nC.a o) (mP o) o.2.2.2.1.length fun i hi=> ?_]
 ·rw[nC.a_eq,ah,ak (aA _),ac]
  exact kx _ _ _
 ·rw[nC.a_eq,ah,aj,ab hi,(dH _).2]
  unfold mP rb
  simp only[ae,af]
  cases cx (rd (τ:=bD) o.2.2.2.1 (i:Int)).1 with
  |false=>rfl
  |true=>
   rw[show(!true)=false from rfl,ac,eL (L:=nC.b o (i:Int) (rd (τ:=bD) o.2.2.2.1 (i:Int))) (fun j=>decide ((rd (τ:=aP) o.2.2.1 (j:Int)).1=(rd (τ:=bD) o.2.2.2.1 (i:Int)).1)) o.2.2.1.length (some ((i:Int),24)) fun j hj=> ?_]
   ·rw[jv o i (by omega),qY,nK,nK]
    cases gm (fun j=>decide ((rd (τ:=aP) o.2.2.1 (j:Int)).1=(rd (τ:=bD) o.2.2.2.1 (i:Int)).1)) 0 o.2.2.1.length with
    |true=>rfl
    |false=>
     rw[nC.b_eq,ah,ak (aA _),ac,ac,eL (L:=nC.c o (i:Int) (rd (τ:=bD) o.2.2.2.1 (i:Int))) (fun j=>decide ((rd (τ:=bD) o.2.2.2.1 (j:Int)).1=(rd (τ:=bD) o.2.2.2.1 (i:Int)).1)) i (some ((i:Int),24)) fun j hj=> ?_]
     ·cases gm (fun j=>decide ((rd (τ:=bD) o.2.2.2.1 (j:Int)).1=(rd (τ:=bD) o.2.2.2.1 (i:Int)).1)) 0 i with
      |true=>rfl
      |false=>
       rw[nC.c_eq,ah,ak (aA _),ac,ac,an i _ hi (by omega)]
       unfold c7
       generalize (rd (τ:=bD) o.2.2.2.1 (i:Int)).2.size=n
       rw[show decide ((n:Int)<8)= !decide (8≤(n:Int)) by rw[←decide_not];congr 1;apply propext;omega,show decide ((n:Int)>64)= !decide ((n:Int)≤64) by rw[←decide_not];congr 1;apply propext;omega]
       cases decide ((n:Int).tmod 8=0)<;>cases decide (8≤(n:Int))<;>cases decide ((n:Int)≤64)<;>rfl
     ·rw[nC.c_eq,ah,aj,ab hj,ab (show j<o.2.2.2.1.length by omega),an j _ hj (by omega),bg];rfl
   ·rw[nC.b_eq,ah,aj,ab hj,an j _ hj (by omega),bg];rfl
def mR (a b c d:Int):Bool:=if a=c then decide (b<d)else decide (a<c)
def fb (o:bM) (u:Int):Int:=
 if 0≤u∧u< (o.2.2.1.length:Int)then((rd (τ:=aP) o.2.2.1 u).2.2.2.size:Int).tdiv 4
 else if(o.2.2.1.length:Int)≤u∧u< (o.2.2.1.length:Int)+(o.2.2.2.1.length:Int)then((rd (τ:=bD) o.2.2.2.1 (u-(o.2.2.1.length:Int))).2.size:Int).tdiv 8 else-1
structure UnitSz (o:bM):Prop extends ObjSz o where
 fs:∀i,i<o.2.2.1.length→(rd (τ:=aP) o.2.2.1 (i:Int)).2.2.2.size≤256
 ds:∀i,i<o.2.2.2.1.length→(rd (τ:=bD) o.2.2.2.1 (i:Int)).2.size≤64
theorem gK {α:Type} (f:Nat→α):∀k i j (h:j< (br f i k).length),(br f i k)[j]=f (i+j)
 |0,_,_,h=>by simp[br]at h
 |k+1,i,0,_=>by simp[br]
 |k+1,i,j+1,h=>by
  have:=gK f k (i+1) j (by rw[aO]at h⊢;omega)
  simp only[br,List.getElem_cons_succ]
  rw[this];congr 1;omega
theorem Js (n k:Nat) (h:n≤4096):IntKind.wrap .i64 ((n:Int).tdiv (k:Int))=(n:Int).tdiv (k:Int):=by
 rw[Int.tdiv_eq_ediv_of_nonneg (by omega)]
 have h1:0≤(n:Int)/(k:Int):=Int.ediv_nonneg (by omega) (by omega)
 have h2:(n:Int)/(k:Int)≤(n:Int):=Int.ediv_le_self _ (by omega)
 exact aT (by omega) (by omega)
theorem tY (o:bM):(f8 o).length=o.2.2.1.length+o.2.2.2.1.length:=by unfold f8;rw[List.length_append,aO,aO]
theorem Hj (o:bM) (hz:UnitSz o) (u:Nat) (hu:u<o.2.2.1.length+o.2.2.2.1.length):rd (τ:= .int .i64) (f8 o) (u:Int)=fb o (u:Int):=by
 unfold fb
 have hl:=tY o
 rw[aW (τ:= .int .i64) (f8 o) u (by omega)]
 by_cases h:u<o.2.2.1.length
 ·rw[av ⟨by omega,by omega⟩]
  have:(f8 o)[u]'(by omega)=IntKind.wrap .i64 (((rd (τ:=aP) o.2.2.1 ((0+u:Nat):Int)).2.2.2.size:Int).tdiv 4):=by
   unfold f8
   rw[List.getElem_append_left (by rw[aO];exact h),gK]
  rw[this,Nat.zero_add]
  exact Js _ 4 (by have:=hz.fs u h;omega)
 ·rw[ap (by omega),av ⟨by omega,by omega⟩]
  have:(f8 o)[u]'(by omega)=IntKind.wrap .i64 (((rd (τ:=bD) o.2.2.2.1 ((0+(u-(br (fun i=>IntKind.wrap .i64 (((rd (τ:=aP) o.2.2.1 (i:Int)).2.2.2.size:Int).tdiv 4)) 0 o.2.2.1.length).length):Nat):Int)).2.size:Int).tdiv 8):=by
   unfold f8
   rw[List.getElem_append_right (by rw[aO];omega),gK]
  rw[aO]at this
  rw[this,Nat.zero_add,show(u:Int)-(o.2.2.1.length:Int)=((u-o.2.2.1.length:Nat):Int) by omega]
  exact Js _ 8 (by have:=hz.ds (u-o.2.2.1.length) (by omega);omega)
theorem xA (o:bM) (hz:UnitSz o) (u:Int): -1≤fb o u∧fb o u≤256:=by
 unfold fb
 split
 ·rename_i h
  have:=hz.fs u.toNat (by omega)
  rw[show((u.toNat:Nat):Int)=u by omega]at this
  rw[Int.tdiv_eq_ediv_of_nonneg (by omega)]
  omega
 ·split
  ·rename_i h
   have:=hz.ds (u-(o.2.2.1.length:Int)).toNat (by omega)
   rw[show(((u-(o.2.2.1.length:Int)).toNat:Nat):Int)=u-(o.2.2.1.length:Int) by omega]at this
   rw[Int.tdiv_eq_ediv_of_nonneg (by omega)]
   omega
  ·omega
theorem C9 (o:bM) (hz:UnitSz o) (u:Int) (hu: -9223372036854775808≤u∧u≤9223372036854775807):Sp o u=some (fb o u):=by
 rw[Nc]
 have h1:=hz.f
 have h2:=hz.d
 unfold fb
 by_cases h:0≤u∧u< (o.2.2.1.length:Int)
 ·have e1:decide (u≥0)=true:=ab h.1
  have e2:decide (u< (o.2.2.1.length:Int))=true:=ab h.2
  simp only[aF,e1,e2,ae,inL_true h.1 h.2,av h]
  have:=hz.fs u.toNat (by omega)
  rw[show((u.toNat:Nat):Int)=u by omega]at this
  rw[show(4:Int)=((4:Nat):Int) from rfl,Js _ 4 (by omega)]
 ·have e0:(decide (u≥0)&&decide (u< (o.2.2.1.length:Int)))=false:=by simp;omega
  simp only[aF,ap h]
  generalize decide (u≥0)=b0 at*
  generalize decide (u< (o.2.2.1.length:Int))=b1 at*
  by_cases h3:(o.2.2.1.length:Int)≤u
  ·rw[ab (show u≥(o.2.2.1.length:Int) from h3),aT (n:=u-(o.2.2.1.length:Int)) (by omega) (by omega)]
   by_cases h4:u< (o.2.2.1.length:Int)+(o.2.2.2.1.length:Int)
   ·rw[av ⟨h3,h4⟩,ab (show u-(o.2.2.1.length:Int)< (o.2.2.2.1.length:Int) by omega),inL_true (i:=u-(o.2.2.1.length:Int)) (n:=o.2.2.2.1.length) (by omega) (by omega)]
    have:=hz.ds (u-(o.2.2.1.length:Int)).toNat (by omega)
    rw[show(((u-(o.2.2.1.length:Int)).toNat:Nat):Int)=u-(o.2.2.1.length:Int) by omega]at this
    rw[show(8:Int)=((8:Nat):Int) from rfl,Js _ 8 (by omega)]
    cases b0<;>cases b1<;>first|rfl|(exact absurd e0 (by decide))
   ·rw[ap (by omega),ak (show¬u-(o.2.2.1.length:Int)< (o.2.2.2.1.length:Int) by omega)]
    cases b0<;>cases b1<;>first|rfl|(exact absurd e0 (by decide))
  ·rw[ak (show¬u≥(o.2.2.1.length:Int) from h3),ap (by omega)]
   cases b0<;>cases b1<;>first|rfl|(exact absurd e0 (by decide))
def mS (n:Int):Prop:= -9223372036854775808≤n∧n≤9223372036854775807
def tZ (o:bM):Prop:=∀k,k<o.2.2.2.2.1.length→mS (rd (τ:=cA) o.2.2.2.2.1 (k:Int)).1
def iZ (o:bM) (r:Ku):Bool:=c7 r.1 0 ((o.2.2.1.length:Int)+(o.2.2.2.1.length:Int)-1)&&c7 r.2.1 0 (fb o r.1-1)
noncomputable def l7 (o:bM) (k:Nat):Int:=
 if iZ o (rd (τ:=cA) o.2.2.2.2.1 (k:Int))=false then 4
 else if(c7 (rd (τ:=cA) o.2.2.2.2.1 (k:Int)).2.2.1 1 9&&(decide ((rd (τ:=cA) o.2.2.2.2.1 (k:Int)).2.2.1=9)==decide ((rd (τ:=cA) o.2.2.2.2.1 (k:Int)).1≥(o.2.2.1.length:Int))))=false then 26
 else if cx (rd (τ:=cA) o.2.2.2.2.1 (k:Int)).2.2.2.1=false then 3
 else if c7 (rd (τ:=cA) o.2.2.2.2.1 (k:Int)).2.2.2.2 (-2147483648) 2147483647=false then 4
 else if k=0 then 0
 else if mR (rd (τ:=cA) o.2.2.2.2.1 ((k-1:Nat):Int)).1 (rd (τ:=cA) o.2.2.2.2.1 ((k-1:Nat):Int)).2.1 (rd (τ:=cA) o.2.2.2.2.1 (k:Int)).1 (rd (τ:=cA) o.2.2.2.2.1 (k:Int)).2.1=false then 24 else 0
theorem zL (pu pa u a:Int):(bif decide (u<pu)then some (24:Int)else bif decide (u=pu)then bif decide (a≤pa)then some 24 else some 0 else some 0)=some (if mR pu pa u a=false then 24 else 0):=by
 rcases Int.lt_trichotomy u pu with h|h|h
 ·rw[ab h,show mR pu pa u a=false by unfold mR;rw[ap (show¬pu=u by omega)];exact ak (by omega)];rfl
 ·subst h
  rw[ak (by omega),ab rfl,ac,ae]
  have:mR u pa u a=decide (pa<a):=by unfold mR;rw[av rfl]
  rw[this]
  by_cases h:a≤pa
  ·rw[ab h,ak (show¬pa<a by omega)];rfl
  ·rw[ak h,ab (show pa<a by omega)];rfl
 ·rw[ak (by omega),ak (by omega),show mR pu pa u a=true by unfold mR;rw[ap (show¬pu=u by omega)];exact ab (by omega)];rfl
theorem zM (o:bM) (hz:UnitSz o) (r:Ku) {β:Type} (K:Bool→Option β):
  ((gb r.1 0 (IntKind.wrap .i64 (((f8 o).length:Int)-1))).bind fun r2=>bif (!r2)then K true else(bif (az r.1 (f8 o).length)then((gb r.2.1 0 (IntKind.wrap .i64 ((rd (τ:= .int .i64) (f8 o) r.1)-1))).bind fun r3=>K (!r3))else none))=K (!iZ o r):=by
 have h1:=hz.f
 have h2:=hz.d
 rw[tY,aT (n:=((o.2.2.1.length+o.2.2.2.1.length:Nat):Int)-1) (by omega) (by omega),(bP _ _ _).1,(bP _ _ _).1]
 simp only[af]
 unfold iZ
 rw[Int.natCast_add]
 by_cases h:0≤r.1∧r.1≤(o.2.2.1.length:Int)+(o.2.2.2.1.length:Int)-1
 ·rw[bm.2 h,inL_true (by omega) (by omega)]
  have hu:=Hj o hz r.1.toNat (by omega)
  rw[show((r.1.toNat:Nat):Int)=r.1 by omega]at hu
  have hr:=xA o hz r.1
  simp only[aD,ac,ae,Bool.true_and]
  rw[hu,aT (n:=fb o r.1-1) (by omega) (by omega)]
 ·rw[show c7 r.1 0 ((o.2.2.1.length:Int)+(o.2.2.2.1.length:Int)-1)=false by cases h5:c7 r.1 0 ((o.2.2.1.length:Int)+(o.2.2.2.1.length:Int)-1);rfl;exact absurd (bm.1 h5) h];rfl
theorem zN (o:bM) (hz:UnitSz o) (r:Ku) (hr:mS r.1) {β:Type} (K:Bool→Option β):
  (bif decide (r.2.1<0)then K true else((Sp o r.1).bind fun r1=>K (decide (r.2.1≥r1))))=K (!iZ o r):=by
 rw[C9 o hz _ hr]
 simp only[af]
 have h1:=hz.f
 have h2:=hz.d
 have e:(decide (r.2.1<0)||decide (r.2.1≥fb o r.1))= !iZ o r:=by
  unfold iZ
  rw[Bool.eq_iff_iff]
  simp only[Bool.or_eq_true,aV,Bool.not_eq_true',Bool.and_eq_false_imp,bm]
  constructor
  ·intro h h3
   cases h4:c7 r.2.1 0 (fb o r.1-1)with
   |false=>rfl
   |true=>rw[bm]at h4;omega
  ·intro h
   by_cases h3:0≤r.1∧r.1≤(o.2.2.1.length:Int)+(o.2.2.2.1.length:Int)-1
   ·have:=h h3
    by_cases h4:0≤r.2.1∧r.2.1≤fb o r.1-1
    ·rw[bm.2 h4]at this;cases this
    ·omega
   ·have:fb o r.1= -1:=by unfold fb;rw[ap (by omega),ap (by omega)]
    omega
 rw[←e]
 cases decide (r.2.1<0)<;>rfl
theorem Da (o:bM) (hz:UnitSz o):iz.c o (o.2.2.2.2.1.length:Int) 0=if(bz (l7 o) 0 o.2.2.2.2.1.length).2=0 then iz.d o o.2.2.2.2.2 (o.2.2.2.2.2.length:Int) 0 else some (bz (l7 o) 0 o.2.2.2.2.1.length):=by
 have h3:=hz.r
 rw[dI (L:=iz.c o (o.2.2.2.2.1.length:Int)) (l7 o) o.2.2.2.2.1.length fun i hi=> ?_]
 ·rw[iz.c_eq,ah,ak (aA _),ac]
 ·have e:TH o (i:Int)=some (l7 o i):=by
   rw[O2,aj,ab hi,ae,C4 o hz.toObjSz]
   simp only[af,aF]
   rw[zM o hz (rd (τ:=cA) o.2.2.2.2.1 (i:Int)) (fun r5=>bif r5 then some 4 else _)]
   unfold l7
   generalize hrel:iZ o (rd (τ:=cA) o.2.2.2.2.1 (i:Int))=ra
   rw[(bP _ _ _).1,(bP _ _ _).1,(dH _).1]
   simp only[af]
   cases ra with
   |false=>rfl
   |true=>
    generalize c7 (rd (τ:=cA) o.2.2.2.2.1 (i:Int)).2.2.1 1 9=b1
    generalize (decide ((rd (τ:=cA) o.2.2.2.2.1 (i:Int)).2.2.1=9)==decide ((rd (τ:=cA) o.2.2.2.2.1 (i:Int)).1≥(o.2.2.1.length:Int)))=b2
    cases b1 with
    |false=>rfl
    |true=>
     cases b2 with
     |false=>rfl
     |true=>
      generalize cx (rd (τ:=cA) o.2.2.2.2.1 (i:Int)).2.2.2.1=b3
      generalize c7 (rd (τ:=cA) o.2.2.2.2.1 (i:Int)).2.2.2.2 (-2147483648) 2147483647=b4
      cases b3 with
      |false=>rfl
      |true=>
       cases b4 with
       |false=>rfl
       |true=>
        by_cases h0:i=0
        ·rw[show decide ((i:Int)>0)=false by simp[h0],av h0];rfl
        ·rw[show decide ((i:Int)>0)=true by simp;omega,ap h0,fU i (by omega) (by omega),aj,ab (show i-1<o.2.2.2.2.1.length by omega),zL];rfl
  rw[iz.c_eq,ah,ab hi,an i _ hi (by omega),e]
  simp only[af,ae]
  by_cases h:l7 o i=0
  ·rw[av h,ab h];rfl
  ·rw[ap h,ak h];rfl
theorem Db (o:bM) (hz:UnitSz o) (hr:tZ o):Ff o=some (bz (l7 o) 0 o.2.2.2.2.1.length):=by
 have h3:=hz.r
 rw[Nd,dI (L:=Ff.a o) (l7 o) o.2.2.2.2.1.length fun i hi=> ?_]
 ·rw[Ff.a_eq,ah,ak (aA _),ac]
  exact kx _ _ _
 ·rw[Ff.a_eq,ah,aj,ab hi,ae,ae]
  simp only[aF]
  rw[zN o hz (rd (τ:=cA) o.2.2.2.2.1 (i:Int)) (hr i hi) (fun r5=>bif r5 then some ((i:Int),4)else _)]
  unfold l7
  generalize hrel:iZ o (rd (τ:=cA) o.2.2.2.2.1 (i:Int))=ra
  rw[(bP _ _ _).2,(bP _ _ _).2,(dH _).2,an i _ hi (by omega)]
  simp only[af]
  cases ra with
  |false=>rfl
  |true=>
   generalize c7 (rd (τ:=cA) o.2.2.2.2.1 (i:Int)).2.2.1 1 9=b1
   generalize (decide ((rd (τ:=cA) o.2.2.2.2.1 (i:Int)).2.2.1=9)==decide ((rd (τ:=cA) o.2.2.2.2.1 (i:Int)).1≥(o.2.2.1.length:Int)))=b2
   cases b1 with
   |false=>rfl
   |true=>
    cases b2 with
    |false=>rfl
    |true=>
     generalize cx (rd (τ:=cA) o.2.2.2.2.1 (i:Int)).2.2.2.1=b3
     generalize c7 (rd (τ:=cA) o.2.2.2.2.1 (i:Int)).2.2.2.2 (-2147483648) 2147483647=b4
     cases b3 with
     |false=>rfl
     |true=>
      cases b4 with
      |false=>rfl
      |true=>
       by_cases h0:i=0
       ·rw[show decide ((i:Int)>0)=false by simp[h0],av h0];rfl
       ·rw[show decide ((i:Int)>0)=true by simp;omega,ap h0,fU i (by omega) (by omega),aj,ab (show i-1<o.2.2.2.2.1.length by omega),tX]
        unfold mR
        simp only[af,ae,aD,ac,Bool.and_self]
        generalize (if(rd (τ:=cA) o.2.2.2.2.1 ((i-1:Nat):Int)).1=(rd (τ:=cA) o.2.2.2.2.1 (i:Int)).1 then decide ((rd (τ:=cA) o.2.2.2.2.1 ((i-1:Nat):Int)).2.1< (rd (τ:=cA) o.2.2.2.2.1 (i:Int)).2.1)else decide ((rd (τ:=cA) o.2.2.2.2.1 ((i-1:Nat):Int)).1< (rd (τ:=cA) o.2.2.2.2.1 (i:Int)).1))=b5
        cases b5<;>rfl
def zO (o:bM) (k:Nat):Int:=
 if c7 (rd (τ:=dT) o.2.2.2.2.2 (k:Int)).1 0 255=false then 4 else if k=0 then 0
 else if decide ((rd (τ:=dT) o.2.2.2.2.2 (k:Int)).1≤(rd (τ:=dT) o.2.2.2.2.2 ((k-1:Nat):Int)).1)=true then 24 else 0
theorem Dc (o:bM) (hz:ObjSz o):iz.d o o.2.2.2.2.2 (o.2.2.2.2.2.length:Int) 0=some (bz (zO o) 0 o.2.2.2.2.2.length):=by
 have h3:=hz.s
 rw[dI (L:=iz.d o o.2.2.2.2.2 (o.2.2.2.2.2.length:Int)) (zO o) o.2.2.2.2.2.length fun i hi=> ?_]
 ·rw[iz.d_eq,ah,ak (aA _),ac]
  exact kx _ _ _
 ·rw[iz.d_eq,ah,aj,ab hi,an i _ hi (by omega),(bP _ _ _).1]
  unfold zO
  simp only[af,ae]
  by_cases h0:i=0
  ·rw[show decide ((i:Int)>0)=false by simp[h0],av h0]
   cases c7 (rd (τ:=dT) o.2.2.2.2.2 (i:Int)).1 0 255<;>rfl
  ·rw[show decide ((i:Int)>0)=true by simp;omega,ap h0,fU i (by omega) (by omega),aj,ab (show i-1<o.2.2.2.2.2.length by omega)]
   cases c7 (rd (τ:=dT) o.2.2.2.2.2 (i:Int)).1 0 255<;>cases decide ((rd (τ:=dT) o.2.2.2.2.2 (i:Int)).1≤(rd (τ:=dT) o.2.2.2.2.2 ((i-1:Nat):Int)).1)<;>rfl
theorem Dd (o:bM) (hz:ObjSz o):Fg o=some (bz (zO o) 0 o.2.2.2.2.2.length):=by
 have h3:=hz.s
 rw[Nf,dI (L:=Fg.a o) (zO o) o.2.2.2.2.2.length fun i hi=> ?_]
 ·rw[Fg.a_eq,ah,ak (aA _),ac]
  exact kx _ _ _
 ·rw[Fg.a_eq,ah,aj,ab hi,an i _ hi (by omega),(bP _ _ _).2]
  unfold zO
  simp only[af,ae]
  by_cases h0:i=0
  ·rw[show decide ((i:Int)>0)=false by simp[h0],av h0]
   cases c7 (rd (τ:=dT) o.2.2.2.2.2 (i:Int)).1 0 255<;>rfl
  ·rw[show decide ((i:Int)>0)=true by simp;omega,ap h0,fU i (by omega) (by omega),aj,ab (show i-1<o.2.2.2.2.2.length by omega)]
   cases c7 (rd (τ:=dT) o.2.2.2.2.2 (i:Int)).1 0 255<;>cases decide ((rd (τ:=dT) o.2.2.2.2.2 (i:Int)).1≤(rd (τ:=dT) o.2.2.2.2.2 ((i-1:Nat):Int)).1)<;>rfl
noncomputable def xB (o:bM):Int×Int:=
 if cx o.1=false then(0,3)else if c7 o.2.1 0 5=false then(0,27)else if o.2.2.1.length=0 then(0,5)
 else if¬(o.2.2.1.length≤4∧o.2.2.2.1.length≤4∧o.2.2.2.2.1.length≤32∧o.2.2.2.2.2.length≤4)then(0,6)
 else if(bz (mO o) 0 o.2.2.1.length).2≠0 then bz (mO o) 0 o.2.2.1.length
 else if(bz (mP o) 0 o.2.2.2.1.length).2≠0 then bz (mP o) 0 o.2.2.2.1.length
 else if(bz (l7 o) 0 o.2.2.2.2.1.length).2≠0 then bz (l7 o) 0 o.2.2.2.2.1.length
 else bz (zO o) 0 o.2.2.2.2.2.length
theorem xC {n:Nat} (h:bw n=true):n≤256:=by
 unfold bw at h
 cases h1:ct n with
 |false=>rw[h1]at h;cases h
 |true=>exact(dm h1).2
theorem i6 {o:bM} {i:Nat} (h:mO o i=0):cx (rd (τ:=aP) o.2.2.1 (i:Int)).1=true∧iw ((cZ o).take i) (rd (τ:=aP) o.2.2.1 (i:Int)).1=false∧df (rd (τ:=aP) o.2.2.1 (i:Int)).2.2.1=true∧bw (rd (τ:=aP) o.2.2.1 (i:Int)).2.2.2.size=true:=by
 unfold mO at h
 cases h1:cx (rd (τ:=aP) o.2.2.1 (i:Int)).1<;>cases h2:iw ((cZ o).take i) (rd (τ:=aP) o.2.2.1 (i:Int)).1<;>cases h3:df (rd (τ:=aP) o.2.2.1 (i:Int)).2.2.1<;>cases h4:bw (rd (τ:=aP) o.2.2.1 (i:Int)).2.2.2.size<;>simp[h1,h2,h3,h4]at h⊢
theorem i7 {o:bM} {i:Nat} (h:mP o i=0):cx (rd (τ:=bD) o.2.2.2.1 (i:Int)).1=true∧iw ((cZ o).take (o.2.2.1.length+i)) (rd (τ:=bD) o.2.2.2.1 (i:Int)).1=false∧rb (rd (τ:=bD) o.2.2.2.1 (i:Int)).2.size=true:=by
 unfold mP at h
 cases h1:cx (rd (τ:=bD) o.2.2.2.1 (i:Int)).1<;>cases h2:iw ((cZ o).take (o.2.2.1.length+i)) (rd (τ:=bD) o.2.2.2.1 (i:Int)).1<;>cases h4:rb (rd (τ:=bD) o.2.2.2.1 (i:Int)).2.size<;>simp[h1,h2,h4]at h⊢
theorem ox {n:Nat} (h:rb n=true):8≤n∧n≤64∧n%8=0:=by
 unfold rb at h
 rw[ay,bm,aV,Int.tmod_eq_emod_of_nonneg (by omega)]at h
 omega
theorem t6 {o:bM} (hz:ObjSz o) (h1:(bz (mO o) 0 o.2.2.1.length).2=0) (h2:(bz (mP o) 0 o.2.2.2.1.length).2=0):UnitSz o:=
 ⟨hz,fun i hi=>xC (i6 ((dJ _ _ _).1 h1 i (Nat.zero_le _) (by omega))).2.2.2,fun i hi=>(ox (i7 ((dJ _ _ _).1 h2 i (Nat.zero_le _) (by omega))).2.2).2.1⟩
theorem t8 (o:bM) (hr:tZ o):iz o=some (xB o)∧Ti o=some (xB o):=by
 rw[O3,Ng,(dH _).1,(dH _).2,(bP _ _ _).1,(bP _ _ _).2]
 unfold xB
 simp only[af,aF]
 cases cx o.1 with
 |false=>exact⟨rfl,rfl⟩
 |true=>
  cases c7 o.2.1 0 5 with
  |false=>exact⟨rfl,rfl⟩
  |true=>
   by_cases h0:o.2.2.1.length=0
   ·rw[av h0,ab (show(o.2.2.1.length:Int)=0 by omega)];exact⟨rfl,rfl⟩
   rw[ap h0,ak (show¬(o.2.2.1.length:Int)=0 by omega)]
   rcases Classical.em (o.2.2.1.length≤4∧o.2.2.2.1.length≤4∧o.2.2.2.2.1.length≤32∧o.2.2.2.2.2.length≤4)with hz|hz
   ·rw[ap (not_not_intro hz),ak (show¬(o.2.2.1.length:Int)>4 by omega),ak (show¬(o.2.2.2.1.length:Int)>4 by omega),ak (show¬(o.2.2.2.2.1.length:Int)>32 by omega),ak (show¬(o.2.2.2.2.2.length:Int)>4 by omega)]
    have hz':ObjSz o:=⟨hz.1,hz.2.1,hz.2.2.1,hz.2.2.2⟩
    simp only[aD,ac]
    rw[C5 o hz',C7 o hz']
    simp only[af]
    by_cases h1:(bz (mO o) 0 o.2.2.1.length).2=0
    ·rw[av h1,ap (not_not_intro h1),ab h1,C6 o hz',C8 o hz']
     simp only[af,aD,ac]
     by_cases h2:(bz (mP o) 0 o.2.2.2.1.length).2=0
     ·have hu:=t6 hz' h1 h2
      rw[av h2,ap (not_not_intro h2),ab h2,Da o hu,Db o hu hr]
      simp only[af,aD,ac]
      by_cases h3:(bz (l7 o) 0 o.2.2.2.2.1.length).2=0
      ·rw[av h3,ap (not_not_intro h3),ab h3,Dc o hz',Dd o hz'];exact⟨rfl,rfl⟩
      ·rw[ap h3,av h3,ak h3];exact⟨rfl,rfl⟩
     ·rw[ap h2,av h2,ak h2];exact⟨rfl,rfl⟩
    ·rw[ap h1,av h1,ak h1];exact⟨rfl,rfl⟩
   ·rw[av hz]
    have e:(decide ((o.2.2.1.length:Int)>4)||decide ((o.2.2.2.1.length:Int)>4)||decide ((o.2.2.2.2.1.length:Int)>32)||decide ((o.2.2.2.2.2.length:Int)>4))=true:=by simp;omega
    generalize decide ((o.2.2.1.length:Int)>4)=b1 at*
    generalize decide ((o.2.2.2.1.length:Int)>4)=b2 at*
    generalize decide ((o.2.2.2.2.1.length:Int)>32)=b3 at*
    generalize decide ((o.2.2.2.2.2.length:Int)>4)=b4 at*
    cases b1<;>cases b2<;>cases b3<;>cases b4<;>first|exact⟨rfl,rfl⟩|(exact absurd e (by decide))
noncomputable def oO (o:bM):Bool:=decide ((xB o).2=0)
theorem jw (o:bM) (hr:tZ o):Rw o=some (oO o)∧Tj o=some (oO o):=by
 rw[O4,Nh,(t8 o hr).1,(t8 o hr).2];exact⟨rfl,rfl⟩
structure eh (o:bM):Prop extends UnitSz o where
 depth:0≤o.2.1∧o.2.1≤5
 pos:0<o.2.2.1.length
 fun_:∀i,i<o.2.2.1.length→mO o i=0
 dat:∀i,i<o.2.2.2.1.length→mP o i=0
 rel:∀i,i<o.2.2.2.2.1.length→l7 o i=0
theorem mT {o:bM} (h:oO o=true):eh o:=by
 unfold oO at h
 rw[aV]at h
 unfold xB at h
 split at h
 ·cases h
 split at h
 ·cases h
 rename_i hn hd
 split at h
 ·cases h
 split at h
 ·cases h
 rename_i h0 hz
 have hz:=Classical.not_not.1 hz
 split at h
 ·rename_i h1;exact absurd h h1
 split at h
 ·rename_i h2;exact absurd h h2
 split at h
 ·rename_i h3;exact absurd h h3
 rename_i h1 h2 h3
 have h1:=Classical.not_not.1 h1
 have h2:=Classical.not_not.1 h2
 have h3:=Classical.not_not.1 h3
 have hz':ObjSz o:=⟨hz.1,hz.2.1,hz.2.2.1,hz.2.2.2⟩
 have hd:c7 o.2.1 0 5=true:=by cases h4:c7 o.2.1 0 5;exact absurd h4 hd;rfl
 exact⟨t6 hz' h1 h2,bm.1 hd,by omega,fun i hi=>(dJ _ _ _).1 h1 i (Nat.zero_le _) (by omega),fun i hi=>(dJ _ _ _).1 h2 i (Nat.zero_le _) (by omega),fun i hi=>(dJ _ _ _).1 h3 i (Nat.zero_le _) (by omega)⟩
theorem Hk (X:Nat) (h:X<2^64):X&&&(2^64-1-4095)=X/4096*4096:=by
 have e:(2^64-1-4095:Nat)=(2^52-1)*2^12:=by decide
 have e2:X/4096*4096=(X/2^12)*2^12:=by rfl
 rw[e,e2]
 apply Nat.eq_of_testBit_eq
 intro i
 rw[Nat.testBit_and,Nat.testBit_mul_two_pow,Nat.testBit_mul_two_pow,Nat.testBit_two_pow_sub_one,Nat.testBit_div_two_pow]
 by_cases h1:12≤i
 ·rw[show i-12+12=i by omega]
  by_cases h2:i<64
  ·simp[h1];omega
  ·have:X.testBit i=false:=Nat.testBit_lt_two_pow (Nat.lt_of_lt_of_le h (Nat.pow_le_pow_right (by decide) (by omega)))
   rw[this];simp
 ·simp[h1]
def vM (v:Int):Int:=(v+2048)-(v+2048)%4096
def Jt (v:Int):Prop:= -1152921504606846976≤v∧v≤1152921504606846976
theorem nL (v:Int) (h:Jt v):Rx v=some (vM v):=by
 obtain⟨h1,h2⟩:=h
 rw[Pq,aT (n:=v+2048) (by omega) (by omega)]
 congr 1
 unfold uP
 have e1:(BitVec.ofInt IntKind.i64.bits (v+2048)&&& ~~~BitVec.ofInt IntKind.i64.bits 4095).toNat=(BitVec.ofInt IntKind.i64.bits (v+2048)).toNat/4096*4096:=by
  rw[BitVec.toNat_and,BitVec.toNat_not]
  have:(BitVec.ofInt IntKind.i64.bits (4095:Int)).toNat=4095:=by decide
  rw[this]
  exact Hk _ (BitVec.isLt _)
 rw[e1]
 have e2:=zo (v+2048)
 generalize (BitVec.ofInt IntKind.i64.bits (v+2048)).toNat=X at*
 unfold vM
 have:(((X/4096*4096:Nat)):Int)=(v+2048)%18446744073709551616/4096*4096:=by omega
 rw[this]
 refine kr (if v+2048<0 then 1 else 0) ?_ (by omega) (by omega)
 split<;>omega
theorem ON (v:Int):cI v 12=v-vM v:=by
 unfold cI vM
 have e1:(2:Int)^12=4096:=by decide
 have e2:(2:Int)^(12-1)=2048:=by decide
 rw[e1,e2]
 split<;>omega
theorem ua (v:Int) (h:Jt v):Qy v=some (v-vM v):=by
 rw[Pr,nL v h]
 simp only[af]
 rw[aT (by have:=h.1;unfold vM;omega) (by unfold vM;omega)]
theorem vd (v:Int) (h:Jt v):Qt v=some (v-vM v):=by
 obtain⟨h1,h2⟩:=h
 rw[Np,iV v 12 (by decide) (by decide) (by omega) (by omega)]
 simp only[af]
 rw[show(12:Int).toNat=12 from rfl,ON]
theorem xD (v:Int) (h:Jt v):Sq v=some (vM v):=by
 rw[Nq,vd v h]
 simp only[af]
 have:v-(v-vM v)=vM v:=by omega
 rw[this,aT (by have:=h.1;unfold vM;omega) (by have:=h.2;unfold vM;omega)]
theorem De (f i:Int) (hf:1≤f∧f≤9):TN f i=some (js f i):=by
 rw[Pv]
 have t1:decide (i.tmod 4096=0)=decide (i%4096=0):=by
  congr 1;exact propext ⟨fun h=>by rw[←Int.dvd_iff_tmod_eq_zero]at h;omega,fun h=>by rw[←Int.dvd_iff_tmod_eq_zero];omega⟩
 have t2:decide (i.tmod 2=0)=decide (i%2=0):=by
  congr 1;exact propext ⟨fun h=>by rw[←Int.dvd_iff_tmod_eq_zero]at h;omega,fun h=>by rw[←Int.dvd_iff_tmod_eq_zero];omega⟩
 rw[t1,t2]
 simp only[cu,af,aF]
 rcases fL hf with rfl|rfl|rfl|rfl|rfl|rfl|rfl|rfl|rfl
 all_goals simp[js,d8]
 all_goals (try (split<;>simp_all))
 all_goals (try (intro q1 q2;omega))
def xE (x:gU) (k:Int):Bool:=
 if k=1 then decide (x.1=1)else if k=2∨k=5 then decide ((bG x.1).1=3)&& !decide (x.1=4)else if k=3∨k=6 then decide ((bG x.1).1=5)
 else if k=4 then decide (x.1=2)else if k=7 then decide (x.1=3)else decide ((bG x.1).1=4)
def iy (k v p:Int):Int:=
 if k=1 then vM v else if k=2∨k=3 then v-vM v else if k=4 then vM (v-p)else if k=5∨k=6 then v-p+4-vM (v-p+4)else v-p
theorem zP (n:Int) (h:1≤n) (h':n≤64):decide ((bG n).1=5)=(decide (18≤n)&&decide (n≤21)):=by
 obtain⟨k,rfl⟩:=mE (n:=n) (by omega) h'
 revert k;decide
theorem Hl (x:gU) (h:1≤x.1) (h':x.1≤64):SG x=some (decide ((bG x.1).1=3)&& !decide (x.1=4)):=by
 rw[Pt,lV _ (by omega) h']
 simp only[af]
 cases decide ((bG x.1).1=3)<;>rfl
theorem zQ {k:Int} (h:1≤k∧k≤8):k=1∨k=2∨k=3∨k=4∨k=5∨k=6∨k=7∨k=8:=by omega
def Kv (v:Int):Prop:= -1099511627776≤v∧v≤1099511627776
theorem xF (x:gU) (h:1≤x.1) (h':x.1≤64) (k v p:Int) (hk:1≤k∧k≤8) (hv:Kv v) (hp:Kv p):TM x k v p=some (iy k v p,xE x k):=by
 have hb:=ot x.1 h h'
 have hs:=zP x.1 h h'
 rw[Pu,Hl x h h',nG,qO,←hb,←hs]
 obtain⟨v1,v2⟩:=hv
 obtain⟨p1,p2⟩:=hp
 rw[aT (n:=v-p) (by omega) (by omega),aT (n:=p-4) (by omega) (by omega),aT (n:=v-(p-4)) (by omega) (by omega),show v-(p-4)=v-p+4 by omega,
  nL v ⟨by omega,by omega⟩,ua v ⟨by omega,by omega⟩,nL (v-p) ⟨by omega,by omega⟩,ua (v-p+4) ⟨by omega,by omega⟩]
 unfold iy xE
 rcases zQ hk with rfl|rfl|rfl|rfl|rfl|rfl|rfl|rfl<;>rfl
theorem Hm (x:gU) (h:1≤x.1) (h':x.1≤64) (k:Int) (hk:1≤k∧k≤8):Tk x k=some (xE x k):=by
 rw[No,fp _ (by omega) h']
 unfold xE
 simp only[af,aF]
 generalize (bG x.1).1=f
 rcases zQ hk with rfl|rfl|rfl|rfl|rfl|rfl|rfl|rfl<;>first|rfl|(simp only[];cases decide (f=3)<;>rfl)
theorem Ju (k v p:Int) (hk:1≤k∧k≤8) (hv:Kv v) (hp:Kv p):Tl k v p=some (iy k v p):=by
 obtain⟨v1,v2⟩:=hv
 obtain⟨p1,p2⟩:=hp
 rw[Nr,aT (n:=v-p) (by omega) (by omega),aT (n:=v-p+4) (by omega) (by omega),xD v ⟨by omega,by omega⟩,vd v ⟨by omega,by omega⟩,xD (v-p) ⟨by omega,by omega⟩,vd (v-p+4) ⟨by omega,by omega⟩]
 unfold iy
 rcases zQ hk with rfl|rfl|rfl|rfl|rfl|rfl|rfl|rfl<;>rfl
theorem xG (k v p:Int) (hv:Kv v) (hp:Kv p):mS (iy k v p):=by
 obtain⟨v1,v2⟩:=hv
 obtain⟨p1,p2⟩:=hp
 unfold iy mS vM
 repeat' split
 all_goals omega
theorem Df {x:gU} {i:Int} (h:dw x=true):dw (x.1,x.2.1,x.2.2.1,x.2.2.2.1,i)=js (bG x.1).1 i:=by
 unfold dw at h⊢
 simp only[ay]at h
 simp only[h.1,Bool.and_self,Bool.true_and]
theorem Jv {i:Int} (h:js 1 i=true):i%4096=0:=by
 unfold js at h
 rw[av rfl]at h
 simp only[ay,aV]at h
 exact h.2
theorem sH (w k v p:Int) (hw:0≤w∧w<4294967296) (hk:1≤k∧k≤8) (hv:Kv v) (hp:Kv p):∃r,TO w k v p=some r∧Tm w k v p=some r:=by
 obtain⟨d,h1,h2,hd⟩:=kt w hw.1 hw.2
 rw[Pw,Ns,h1,h2]
 simp only[af]
 cases hb:d.2 with
 |false=>exact⟨(0,10),rfl,rfl⟩
 |true=>
  obtain⟨n1,n2,hr,hri⟩:=hd.ins hw.1 hw.2 hb
  rw[xF _ n1 n2 k v p hk hv hp,Hm _ n1 n2 k hk,Ju k v p hk hv hp,lV _ (by omega) n2]
  simp only[af,aD,ac]
  cases xE d.1 k with
  |false=>exact⟨(0,26),rfl,rfl⟩
  |true=>
   rw[De _ _ (fQ n1 n2),ks,Df hri]
   simp only[af,aD,ac]
   cases hi:js (bG d.1.1).1 (iy k v p)with
   |false=>exact⟨(0,25),rfl,rfl⟩
   |true=>
    have hR:fZ (d.1.1,d.1.2.1,d.1.2.2.1,d.1.2.2.2.1,iy k v p):=⟨hr.d,hr.a,hr.b,xG k v p hv hp⟩
    rw[ep (d.1.1,d.1.2.1,d.1.2.2.1,d.1.2.2.2.1,iy k v p) n1 n2 hR,f6 (d.1.1,d.1.2.1,d.1.2.2.1,d.1.2.2.2.1,iy k v p) n1 n2 hR fun h=>by
     rw[show(bG d.1.1).1=1 from h]at hi;exact Jv hi]
    exact⟨_,rfl,rfl⟩
theorem Dg (L:Int→Option Int) (c:Nat→Int) (n:Nat) (hstep:∀i:Nat,i<n→L (i:Int)=if c i=0 then L ((i+1:Nat):Int)else some (c i)):
  ∀k i:Nat,i+k=n→L (i:Int)=if(bz c i k).2=0 then L (n:Int)else some (bz c i k).2:=by
 intro k
 induction k with
 |zero=>
   intro i h;have:i=n:=by omega
   subst this;rfl
 |succ k ih=>
  intro i h
  rw[hstep i (by omega),ih (i+1) (by omega),bz]
  by_cases h:c i=0
  ·rw[av h,av h]
  ·rw[ap h,ap h,ap h]
theorem jx {L:Int→Option Int} (c:Nat→Int) (n:Nat) (hstep:∀i:Nat,i<n→L (i:Int)=if c i=0 then L ((i+1:Nat):Int)else some (c i)):L 0=if(bz c 0 n).2=0 then L (n:Int)else some (bz c 0 n).2:=
 Dg L c n hstep n 0 (by omega)
abbrev fe:Type:=List Int×List ByteArray×List Int×List ByteArray
abbrev Uk:Type:=fe×List dg×bM
theorem dK (t:List dg) (n:ByteArray):cz t n= -1∨(0≤cz t n∧cz t n< (t.length:Int)):=by
 unfold cz
 rcases cg (fun i=>decide ((rd (τ:=ba) t (i:Int)).1=n)) t.length 0 with⟨h,_⟩|⟨j,h1,_,h3,_⟩
 ·exact .inl h
 ·rw[h1];exact .inr ⟨by omega,by omega⟩
def Fv (t:List dg) (o:bM) (i:Nat):Int:=
 if(rd (τ:=aP) o.2.2.1 (i:Int)).2.1=true then(if cz t (rd (τ:=aP) o.2.2.1 (i:Int)).1<0 then 23 else if(rd (τ:=ba) t (cz t (rd (τ:=aP) o.2.2.1 (i:Int)).1)).2.1=1 then 0 else 26)
 else if cz t (rd (τ:=aP) o.2.2.1 (i:Int)).1≥0 then 24 else 0
def Kw (t:List dg) (o:bM) (i:Nat):Int:=if cz t (rd (τ:=bD) o.2.2.2.1 (i:Int)).1≥0 then 24 else 0
def gL (t:List dg) (o:bM):Int:=
 if(bz (Fv t o) 0 o.2.2.1.length).2=0 then(bz (Kw t o) 0 o.2.2.2.1.length).2 else(bz (Fv t o) 0 o.2.2.1.length).2
theorem xH (c:Nat→Int) (i k:Nat):(if(bz c i k).2=0 then some (0:Int)else some (bz c i k).2)=some (bz c i k).2:=by
 by_cases h:(bz c i k).2=0
 ·rw[av h,h]
 ·rw[ap h]
theorem zR (l:fe) (t:List dg) (o:bM) (ht:t.length≤64) (hz:ObjSz o):rW (l,t,o)=some (gL t o):=by
 have h1:=hz.f
 have h2:=hz.d
 rw[Pk]
 show rW.a (l,t,o) o.2.2.1 (o.2.2.1.length:Int) 0=_
 rw[jx (L:=rW.a (l,t,o) o.2.2.1 (o.2.2.1.length:Int)) (Fv t o) o.2.2.1.length fun i hi=> ?_]
 ·rw[rW.a_eq,ah,ak (aA _),ac]
  show(if _ then rW.b (l,t,o) o.2.2.2.1 (o.2.2.2.1.length:Int) 0 else _)=_
  rw[jx (L:=rW.b (l,t,o) o.2.2.2.1 (o.2.2.2.1.length:Int)) (Kw t o) o.2.2.2.1.length fun i hi=> ?_]
  ·rw[rW.b_eq,ah,ak (aA _),ac,xH]
   unfold gL
   split<;>rfl
  ·rw[rW.b_eq,ah,aj,ab hi,an i _ hi (by omega),(eu t _ (by omega)).1]
   unfold Kw
   simp only[ae,af]
   by_cases h:cz t (rd (τ:=bD) o.2.2.2.1 (i:Int)).1≥0
   ·rw[av h,ab h];rfl
   ·rw[ap h,ak h];rfl
 ·rw[rW.a_eq,ah,aj,ab hi,an i _ hi (by omega),(eu t _ (by omega)).1]
  unfold Fv
  simp only[ae,af,aF]
  have hr:=dK t (rd (τ:=aP) o.2.2.1 (i:Int)).1
  generalize cz t (rd (τ:=aP) o.2.2.1 (i:Int)).1=e at*
  cases (rd (τ:=aP) o.2.2.1 (i:Int)).2.1 with
  |false=>
   by_cases h:e≥0
   ·simp only[Bool.false_eq_true,if_false,av h,ab h];rfl
   ·simp only[Bool.false_eq_true,if_false,ap h,ak h];rfl
  |true=>
   rcases hr with h|h
   ·simp only[if_true,av (show e<0 by omega),ab (show e<0 by omega)];rfl
   ·simp only[if_true,ap (show¬e<0 by omega),ak (show¬e<0 by omega),inL_true h.1 h.2]
    by_cases h3:(rd (τ:=ba) t e).2.1=1
    ·simp only[av h3,ab h3];rfl
    ·simp only[ap h3,ak h3];rfl
theorem zS (t:List dg) (o:bM) (ht:t.length≤64) (hz:ObjSz o):tI t o=some (gL t o):=by
 have h1:=hz.f
 have h2:=hz.d
 rw[Nj]
 rw[jx (L:=tI.a t o) (Fv t o) o.2.2.1.length fun i hi=> ?_]
 ·rw[tI.a_eq,ah,ak (aA _),ac]
  rw[jx (L:=tI.b t o) (Kw t o) o.2.2.2.1.length fun i hi=> ?_]
  ·rw[tI.b_eq,ah,ak (aA _),ac,xH]
   unfold gL
   split<;>rfl
  ·rw[tI.b_eq,ah,aj,ab hi,an i _ hi (by omega),(eu t _ (by omega)).2]
   unfold Kw
   simp only[ae,af]
   by_cases h:cz t (rd (τ:=bD) o.2.2.2.1 (i:Int)).1≥0
   ·rw[av h,ab h];rfl
   ·rw[ap h,ak h];rfl
 ·rw[tI.a_eq,ah,aj,ab hi,an i _ hi (by omega),(eu t _ (by omega)).2]
  unfold Fv
  simp only[ae,af]
  have hr:=dK t (rd (τ:=aP) o.2.2.1 (i:Int)).1
  generalize cz t (rd (τ:=aP) o.2.2.1 (i:Int)).1=e at*
  cases (rd (τ:=aP) o.2.2.1 (i:Int)).2.1 with
  |false=>
   by_cases h:e≥0
   ·simp only[Bool.false_eq_true,if_false,av h,ab h];rfl
   ·simp only[Bool.false_eq_true,if_false,ap h,ak h];rfl
  |true=>
   rcases hr with h|h
   ·simp only[if_true,av (show e<0 by omega),ab (show e<0 by omega)];rfl
   ·simp only[if_true,ap (show¬e<0 by omega),ak (show¬e<0 by omega),inL_true h.1 h.2]
    by_cases h3:(rd (τ:=ba) t e).2.1=1
    ·simp only[av h3,ab h3];rfl
    ·simp only[ap h3,ak h3];rfl
structure cy (a:bH):Prop where
 base:0≤a.1∧a.1≤1048575∧a.1%8=0
 size:0≤a.2.1∧a.2.1≤1048576-a.1∧a.2.1%8=0
 top:a.1≤a.2.2∧a.2.2≤a.1+a.2.1∧a.2.2%8=0
theorem nM (n:Int):n.tmod 8=0↔n%8=0:=⟨fun h=>by rw[←Int.dvd_iff_tmod_eq_zero]at h;omega,fun h=>by rw[←Int.dvd_iff_tmod_eq_zero];omega⟩
theorem ub {a:bH}:Bi a=true↔cy a:=by
 unfold Bi
 simp only[ay,bm,aV,nM]
 constructor
 ·rintro⟨⟨⟨⟨⟨h1,h2⟩,h3⟩,h4⟩,h5⟩,h6⟩
  rw[aT (n:=1048576-a.1) (by omega) (by omega)]at h2
  rw[aT (n:=a.1+a.2.1) (by omega) (by omega)]at h3
  exact⟨⟨h1.1,h1.2,h4⟩,⟨h2.1,h2.2,h5⟩,⟨h3.1,h3.2,h6⟩⟩
 ·rintro⟨⟨h1,h2,h3⟩,⟨h4,h5,h6⟩,h7,h8,h9⟩
  rw[aT (n:=1048576-a.1) (by omega) (by omega),aT (n:=a.1+a.2.1) (by omega) (by omega)]
  exact⟨⟨⟨⟨⟨⟨h1,h2⟩,h4,h5⟩,h7,h8⟩,h3⟩,h6⟩,h9⟩
def oP (n:Nat):Nat:=(n+7)/8*8
def aM (a:bH) (n:Nat):bH×Int×Bool:=if(oP n:Int)>a.1+a.2.1-a.2.2 then(a,0,false)else((a.1,a.2.1,a.2.2+(oP n:Int)),a.2.2,true)
theorem db {a:bH} (h:cy a) (n:Nat):cy (aM a n).1:=by
 unfold aM
 split
 ·exact h
 ·obtain⟨⟨h1,h2,h3⟩,⟨h4,h5,h6⟩,h7,h8,h9⟩:=h
  have:oP n%8=0:=by unfold oP;omega
  refine⟨⟨h1,h2,h3⟩,⟨h4,h5,h6⟩, ?_, ?_, ?_⟩<;>simp only<;>omega
theorem ky (a:bH) (h:cy a) (n:Nat) (hn:n≤256):SE a (n:Int)=some (aM a n):=by
 obtain⟨⟨h1,h2,h3⟩,⟨h4,h5,h6⟩,h7,h8,h9⟩:=h
 rw[Pm,aT (n:=(n:Int)+7) (by omega) (by omega),Int.tdiv_eq_ediv_of_nonneg (by omega),aT (n:=((n:Int)+7)/8) (by omega) (by omega),aT (n:=((n:Int)+7)/8*8) (by omega) (by omega),aT (n:=a.1+a.2.1) (by omega) (by omega),aT (n:=a.1+a.2.1-a.2.2) (by omega) (by omega),show((n:Int)+7)/8*8=(oP n:Int) by unfold oP;omega]
 have:oP n≤264:=by unfold oP;omega
 rw[aT (n:=a.2.2+(oP n:Int)) (by omega) (by omega)]
 unfold aM
 by_cases h:(oP n:Int)>a.1+a.2.1-a.2.2
 ·rw[av h,ab h];rfl
 ·rw[ap h,ak h];rfl
theorem oQ (a:bH) (h:cy a) (z:bH):∀(k n:Nat),n+k=oP n→n≤256→Fh.a (n:Int) a z=some (aM a n):=by
 obtain⟨⟨h1,h2,h3⟩,⟨h4,h5,h6⟩,h7,h8,h9⟩:=h
 intro k
 induction k with
 |zero=>
  intro n hn hn2
  have h0:n%8=0:=by unfold oP at hn;omega
  have e:decide ((n:Int).tmod 8=0)=true:=ab ((nM _).2 (by omega))
  rw[Fh.a_eq,e,aT (n:=a.1+a.2.1) (by omega) (by omega),aT (n:=a.1+a.2.1-a.2.2) (by omega) (by omega),aT (n:=a.2.2+(n:Int)) (by omega) (by omega)]
  unfold aM
  rw[←hn,Nat.add_zero]
  by_cases h:(n:Int)>a.1+a.2.1-a.2.2
  ·rw[av h,ab h];rfl
  ·rw[ap h,ak h];rfl
 |succ k ih=>
  intro n hn hn2
  have h0:n%8≠0:=by unfold oP at hn;omega
  have h256:n≠256:=by intro h;subst h;exact h0 rfl
  have e:decide ((n:Int).tmod 8=0)=false:=ak (fun h=>h0 (by have:=(nM _).1 h;omega))
  have hu:oP (n+1)=oP n:=by unfold oP;omega
  rw[Fh.a_eq,e,aT (n:=(n:Int)+1) (by omega) (by omega)]
  simp only[Bool.not_false,ae]
  rw[show(n:Int)+1=((n+1:Nat):Int) by omega,ih (n+1) (by rw[hu];omega) (by omega)]
  unfold aM
  rw[hu]
theorem kz (a:bH) (h:cy a) (n:Nat) (hn:n≤256):Fh a (n:Int)=some (aM a n):=by
 rw[Nk];exact oQ a h _ (oP n-n) n (by unfold oP;omega) hn
def cN (sz:Nat→Nat) (a:bH):Nat→Nat→bH×List Int×Bool
 |_,0=>(a,[],true)
 |i,k+1=>((cN sz (aM a (sz i)).1 (i+1) k).1,(aM a (sz i)).2.1::(cN sz (aM a (sz i)).1 (i+1) k).2.1,(aM a (sz i)).2.2&&(cN sz (aM a (sz i)).1 (i+1) k).2.2)
theorem cw (sz:Nat→Nat):∀k i a,(cN sz a i k).2.1.length=k
 |0,_,_=>rfl
 |k+1,i,a=>by rw[cN,List.length_cons,cw sz k]
theorem rc (sz:Nat→Nat):∀k i a,cy a→cy (cN sz a i k).1
 |0,_,_,h=>h
 |k+1,i,a,h=>by rw[cN];exact rc sz k (i+1) _ (db h _)
def dZ (o:bM) (i:Nat):Nat:=(rd (τ:=aP) o.2.2.1 (i:Int)).2.2.2.size
def lA (o:bM) (i:Nat):Nat:=(rd (τ:=bD) o.2.2.2.1 (i:Int)).2.size
def lB (o:bM) (i:Nat):ByteArray:=(rd (τ:=aP) o.2.2.1 (i:Int)).2.2.2
def kA (o:bM) (i:Nat):ByteArray:=(rd (τ:=bD) o.2.2.2.1 (i:Int)).2
def after (f:Int) (ok:Bool):Int:=if f=0∧ok=false then 7 else f
theorem kB (f:Int) (a b:Bool):after (after f a) b=after f (a&&b):=by
 unfold after
 cases a<;>cases b<;>by_cases h:f=0<;>simp[h]
end Go.Proofs.YtijpmnicihmoaaaGreatDoor.S
