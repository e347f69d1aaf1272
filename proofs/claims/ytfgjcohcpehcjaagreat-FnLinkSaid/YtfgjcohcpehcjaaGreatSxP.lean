import Derived.Test.YtfgjcohcpehcjaaGreatSxI
import Derived.IntWalk
import Derived.Lib.AtoiAllCases
import Derived.Lib.IndexBytes
import Derived.Lib.IndexLaws
import Derived.Lib.SplitLaws
namespace Go.Proofs.YtfgjcohcpehcjaaGreat.S
open Go.Ps
set_option linter.unusedVariables false
set_option maxRecDepth 100000
theorem aQ {n:Int} (h: -9223372036854775808≤n) (h':n≤9223372036854775807):IntKind.wrap .i64 n=n:=IntWalk.i64_in n ⟨h,h'⟩
theorem lI (n:Int):Hu n=HR n:=by rw[sR,Fh]
theorem uh (n:Int):HE n=Iq n:=by rw[Cb,Fk]
theorem yY (t:ByteArray) (ht:t.size≤20):∀(k:Nat) (i:Int),0≤i→t.size≤i.toNat+k→nt.a t i=sW.a t i:=by
 intro k
 induction k with
 |zero=>
  intro i h0 hk
  have:decide (i< (t.size:Int))=false:=by simp;omega
  rw[nt.a_eq,sW.a_eq,this];rfl
 |succ k ih=>
  intro i h0 hk
  rw[nt.a_eq,sW.a_eq,lI,uh]
  by_cases hi:i< (t.size:Int)
  ·rw[aQ (n:=i+1) (by omega) (by omega),ih (i+1) (by omega) (by omega)]
  ·rw[show decide (i< (t.size:Int))=false by simp;omega];rfl
theorem DY (t:ByteArray):nt t=sW t:=by
 rw[xd,Fm,xV]
 by_cases h1:(t.size:Int)<1
 ·rw[show decide ((1:Int)≤(t.size:Int))=false by simp;omega,show decide ((t.size:Int)<1)=true by simp;omega];rfl
 ·rw[show decide ((1:Int)≤(t.size:Int))=true by simp;omega,show decide ((t.size:Int)<1)=false by simp;omega]
  by_cases h2:(t.size:Int)>20
  ·rw[show decide ((t.size:Int)>20)=true by simp;omega,show decide ((t.size:Int)≤20)=false by simp;omega];rfl
  ·rw[show decide ((t.size:Int)>20)=false by simp;omega,show decide ((t.size:Int)≤20)=true by simp;omega]
   simp only[ac,af,ae,aV]
   rw[lI,yY t (by omega) t.size 1 (by omega) (by omega)]
theorem AR (t:ByteArray) (i:Int):0≤bt t i∧bt t i≤255:=by
 unfold bt
 have:=(t.data.getD i.toNat 0).toNat_lt
 omega
theorem AS {n:Int} (h:0≤n) (h':n≤18446744073709551615):IntKind.wrap .u64 n=n:=by
 have:IntKind.wrap .u64 n=n%18446744073709551616:=by simp[IntKind.wrap,IntKind.bits,IntKind.signed]
 rw[this];omega
def qg {α:Type} (x y:Option α):Prop:=∃v,x=some v∧y=some v
theorem qg.mk {α:Type} (v:α):qg (some v) (some v):=⟨v,rfl,rfl⟩
theorem qg.bind {α β:Type} {x y:Option α} {f g:α→Option β} (h:qg x y) (k:∀v,x=some v→qg (f v) (g v)):qg (x.bind f) (y.bind g):=by
 obtain⟨v,h1,h2⟩:=h
 rw[h1,h2];exact k v h1
theorem qg.some {α:Type} {x y:Option α} (e:x=y) (h:∃v,x=some v):qg x y:=by obtain⟨v,h⟩:=h;exact⟨v,h,e▸h⟩
theorem nf (n:Int):∃v,Hu n=some v:=by
 rw[sR]
 cases decide (n≥97)<;>cases decide (n≤122)<;>cases decide (n≥65)<;>cases decide (n≤90)<;>exact⟨_,rfl⟩
theorem wo (n:Int):∃v,HE n=some v:=by
 rw[Cb];cases decide (n≥48)<;>exact⟨_,rfl⟩
theorem pc (t:ByteArray) (ht:t.size≤20):∀(k:Nat) (i:Int),0≤i→t.size≤i.toNat+k→∃v,nt.a t i=some v:=by
 intro k
 induction k with
 |zero=>
  intro i h0 hk
  have:decide (i< (t.size:Int))=false:=by simp;omega
  rw[nt.a_eq,this];exact⟨_,rfl⟩
 |succ k ih=>
  intro i h0 hk
  rw[nt.a_eq]
  by_cases hi:i< (t.size:Int)
  ·have e:aH i t.size=true:=by simp[aH];omega
   obtain⟨v1,h1⟩:=nf (bt t i)
   obtain⟨v2,h2⟩:=wo (bt t i)
   obtain⟨v3,h3⟩:=ih (i+1) (by omega) (by omega)
   rw[aQ (n:=i+1) (by omega) (by omega),e,h1,h2,h3]
   simp only[ah hi,ac,ae]
   cases v1<;>cases v2<;>exact⟨_,rfl⟩
  ·rw[show decide (i< (t.size:Int))=false by simp;omega];exact⟨_,rfl⟩
theorem yZ (t:ByteArray):∃v,nt t=some v:=by
 rw[xd,xV]
 by_cases h1:(1:Int)≤(t.size:Int)
 ·by_cases h2:(t.size:Int)≤20
  ·obtain⟨v1,e1⟩:=nf (bt t 0)
   obtain⟨v2,e2⟩:=pc t (by omega) t.size 1 (by omega) (by omega)
   have e:aH 0 t.size=true:=by simp[aH];omega
   simp only[ah h1,ah h2,ac,ae,aV,af,e,e1,e2]
   cases v1<;>exact⟨_,rfl⟩
  ·simp only[ah h1,ac,ae,ai h2,Bool.not_false];exact⟨_,rfl⟩
 ·simp only[ai h1,af,ae,Bool.not_false,ac];exact⟨_,rfl⟩
theorem y6 (t:ByteArray):qg (nt t) (sW t):=qg.some (DY t) (yZ t)
theorem eC {α:Type} (c:Bool) (a b:α):cond c a b=if c=true then a else b:=by cases c<;>rfl
theorem wq (n:Int):∃q:Int,IntKind.wrap .i64 n=n-18446744073709551616*q:=by
 rw[IntKind.wrap_i64];exact⟨(n+9223372036854775808)/18446744073709551616,by omega⟩
theorem wr (x:Int):((BitVec.ofInt IntKind.i64.bits x).toNat:Int)=x%18446744073709551616:=by
 rw[BitVec.toNat_ofInt]
 have hb:((2^IntKind.i64.bits:Nat):Int)=18446744073709551616:=rfl
 rw[hb];omega
theorem uk (x:Int) (c:Nat) (hc:c≤62):x%18446744073709551616%2^c=x%2^c:=by
 apply Int.emod_emod_of_dvd
 exact⟨2^(64-c),by rw[←Int.pow_add,show c+(64-c)=64 by omega];rfl⟩
theorem iz (c:Nat) (hc:c≤62):(1:Int)≤2^c∧(2:Int)^c≤4611686018427387904:=by
 have h1:2^c≤2^62:=Nat.pow_le_pow_right (by decide) hc
 have h2:1≤2^c:=Nat.one_le_two_pow
 have e:((2^c:Nat):Int)=(2:Int)^c:=by simp
 omega
theorem AT (x:Int) (c:Nat) (hc:c≤62):andI .i64 x (2^c-1)=x%2^c:=by
 have hp:=iz c hc
 have e:((2^c:Nat):Int)=(2:Int)^c:=by simp
 unfold andI
 have h1:(BitVec.ofInt IntKind.i64.bits x&&&BitVec.ofInt IntKind.i64.bits ((2:Int)^c-1)).toNat=(BitVec.ofInt IntKind.i64.bits x).toNat%2^c:=by
  rw[BitVec.toNat_and]
  have:(BitVec.ofInt IntKind.i64.bits ((2:Int)^c-1)).toNat=2^c-1:=by
   have:=wr ((2:Int)^c-1);omega
  rw[this,Nat.and_two_pow_sub_one_eq_mod]
 rw[h1]
 have h2:(((BitVec.ofInt IntKind.i64.bits x).toNat%2^c:Nat):Int)=x%2^c:=by
  rw[Int.natCast_emod,wr,e,uk x c hc]
 rw[h2]
 have h3:0≤x%2^c:=Int.emod_nonneg _ (by omega)
 have h4:x%2^c<2^c:=Int.emod_lt_of_pos _ (by omega)
 exact aQ (by omega) (by omega)
theorem nV {x:Int} {k:Int} (h:0≤k) (h':k≤64):lA .i64 x k=x/2^k.toNat:=by
 unfold lA
 have hb:IntKind.i64.bits=64:=rfl
 rw[show min k.toNat IntKind.i64.bits=k.toNat by omega,Int.fdiv_eq_ediv_of_nonneg]
 have:=iz
 exact Int.le_of_lt (Int.pow_pos (by decide))
theorem qX {x:Int} {k:Int} (h:0≤k) (h':k≤64):lA .u64 x k=x/2^k.toNat:=by
 unfold lA
 have hb:IntKind.u64.bits=64:=rfl
 rw[show min k.toNat IntKind.u64.bits=k.toNat by omega,Int.fdiv_eq_ediv_of_nonneg]
 exact Int.le_of_lt (Int.pow_pos (by decide))
theorem lJ {x:Int} {k:Int} (h:0≤k) (h':k≤64):cT .i64 x k=IntKind.wrap .i64 (x*2^k.toNat):=by
 unfold cT
 have hb:IntKind.i64.bits=64:=rfl
 rw[show min k.toNat IntKind.i64.bits=k.toNat by omega]
theorem eY (v low count:Int) (h:0≤low) (h':low≤64) (hc:0≤count) (hc':count≤62):Cd v low count=some (v/2^low.toNat%2^count.toNat):=by
 rw[EQ]
 have hp:=iz count.toNat (by omega)
 rw[show decide (low<0)=false by simp;omega,show decide (count<0)=false by simp;omega,lJ hc (by omega),nV h h',Int.one_mul,aQ (n:=2^count.toNat) (by omega) (by omega),aQ (n:=2^count.toNat-1) (by omega) (by omega),AT _ _ (by omega)]
 rfl
theorem lK (x y k c:Nat) (hy:y<2^c) (h:x/2^k%2^c=0):x|||y*2^k=x+y*2^k:=by
 have hk:0<2^k:=Nat.two_pow_pos k
 have hkc:0<2^(k+c):=Nat.two_pow_pos _
 have e1:x%2^(k+c)<2^k:=by
  rw[Nat.pow_add]
  have:x% (2^k*2^c)=x%2^k+2^k*(x/2^k%2^c):=Nat.mod_mul
  rw[this,h]
  have:=Nat.mod_lt x hk
  omega
 have e2:y*2^k+x%2^(k+c)<2^(k+c):=by
  have:(y+1)*2^k≤2^c*2^k:=Nat.mul_le_mul_right _ (by omega)
  rw[Nat.pow_add,Nat.mul_comm (2^k) (2^c)]
  rw[Nat.pow_add,Nat.mul_comm (2^k) (2^c)]at e1
  rw[Nat.add_mul]at this
  omega
 have hx:x=(x/2^(k+c))<<< (k+c)|||x%2^(k+c):=by
  rw[←Nat.shiftLeft_add_eq_or_of_lt (Nat.mod_lt x hkc),Nat.shiftLeft_eq]
  have:=Nat.div_add_mod x (2^(k+c))
  rw[Nat.mul_comm]at this;exact this.symm
 have h3:x%2^(k+c)|||y*2^k=y*2^k+x%2^(k+c):=by
  rw[Nat.or_comm,←Nat.shiftLeft_eq y k,←Nat.shiftLeft_add_eq_or_of_lt e1,Nat.shiftLeft_eq]
 calc
  x|||y*2^k=(x/2^(k+c))<<< (k+c)||| (x%2^(k+c)|||y*2^k):=by
    conv=>lhs;rw[hx]
    rw[Nat.or_assoc]
  _=(x/2^(k+c))<<< (k+c)+(y*2^k+x%2^(k+c)):=by rw[h3,Nat.shiftLeft_add_eq_or_of_lt e2]
  _=x+y*2^k:=by
    rw[Nat.shiftLeft_eq]
    have:=Nat.div_add_mod x (2^(k+c))
    rw[Nat.mul_comm]at this;omega
theorem bw {x y P Q:Int} (k c:Nat) (hP:P=2^k) (hQ:Q=2^c) (hkc:k+c≤62) (hx:0≤x) (hx':x<4611686018427387904) (hy:0≤y) (hy':y<Q) (h:x/P%Q=0):ib .i64 x (y*P)=x+y*P:=by
 subst hP hQ
 obtain⟨a,rfl⟩:=Int.eq_ofNat_of_zero_le hx
 obtain⟨b,rfl⟩:=Int.eq_ofNat_of_zero_le hy
 have hp:=iz k (by omega)
 have ek:((2^k:Nat):Int)=(2:Int)^k:=by simp
 have ec:((2^c:Nat):Int)=(2:Int)^c:=by simp
 have hb:b<2^c:=by omega
 have hlt:b*2^k<4611686018427387904:=by
  have h1:b*2^k<2^c*2^k:=Nat.mul_lt_mul_of_pos_right hb (Nat.two_pow_pos k)
  rw[←Nat.pow_add]at h1
  have h2:2^(c+k)≤2^62:=Nat.pow_le_pow_right (by decide) (by omega)
  omega
 have h0:a/2^k%2^c=0:=by
  have:((a/2^k%2^c:Nat):Int)=(a:Int)/2^k%2^c:=by
   rw[Int.natCast_emod,Int.natCast_ediv,ek,ec]
  omega
 have em:((b*2^k:Nat):Int)=(b:Int)*2^k:=by rw[Int.natCast_mul,ek]
 unfold ib
 rw[BitVec.toNat_or]
 have f1:(BitVec.ofInt IntKind.i64.bits (a:Int)).toNat=a:=by have:=wr (a:Int);omega
 have f2:(BitVec.ofInt IntKind.i64.bits ((b:Int)*2^k)).toNat=b*2^k:=by have:=wr ((b:Int)*2^k);omega
 rw[f1,f2,lK a b k c hb h0,Int.natCast_add,em]
 exact aQ (by omega) (by omega)
theorem gG (v i:Int) (hv: -9223372036854775808≤v) (hv':v≤9223372036854775807) (h:0≤i) (h':i≤63):Zf v i=some (v/2^i.toNat%2):=by
 rw[Hb,AS (n:=i) (by omega) (by omega),show decide (i<0)=false by simp;omega,qX h (by omega)]
 have hu:IntKind.wrap .u64 v=v%18446744073709551616:=by simp[IntKind.wrap,IntKind.bits,IntKind.signed]
 have h0:0≤v%18446744073709551616:=by omega
 have hp:(0:Int)<2^i.toNat:=Int.pow_pos (by decide)
 have hd:0≤v%18446744073709551616/2^i.toNat:=Int.ediv_nonneg h0 (by omega)
 rw[hu,Int.tmod_eq_emod_of_nonneg hd]
 have e:v%18446744073709551616/2^i.toNat%2=v/2^i.toNat%2:=by
  have hpe:(18446744073709551616:Int)=2^i.toNat*(2^(63-i.toNat)*2):=by
   rw[←Int.pow_succ,←Int.pow_add,show i.toNat+(63-i.toNat+1)=64 by omega];rfl
  have h1:v%18446744073709551616=v-2^i.toNat*(2^(63-i.toNat)*2*(v/18446744073709551616)):=by
   rw[Int.emod_def,←Int.mul_assoc,←hpe]
  rw[h1,Int.sub_eq_add_neg,←Int.mul_neg,Int.add_mul_ediv_left _ _ (by omega)]
  rw[Int.mul_comm (2^(63-i.toNat)) 2,Int.mul_assoc,←Int.mul_neg,Int.add_mul_emod_self_left]
 rw[e]
 have:v/2^i.toNat%2=0∨v/2^i.toNat%2=1:=by omega
 rcases this with h|h<;>rw[h]<;>rfl
theorem ws (w low:Int) (hw: -9223372036854775808≤w) (hw':w≤9223372036854775807) (h:0≤low):∀(k:Nat) (x:Int),low+k≤63→k≤62→0≤x→(x+1)*2^k≤4611686018427387904→pZ.a w low x ((k:Int)-1)=some (x*2^k+w/2^low.toNat%2^k):=by
 intro k
 induction k with
 |zero=>
  intro x _ _ _ _
  rw[pZ.a_eq,show decide (((0:Nat):Int)-1≥0)=false by rfl]
  simp only[af,Int.pow_zero,Int.emod_one,Int.mul_one,Int.add_zero]
 |succ k ih=>
  intro x h1 h2 h3 h4
  have hpk:=iz k (by omega)
  have hx:2*x+2≤4611686018427387904:=by
   rw[Int.pow_succ]at h4
   have:(x+1)*2≤(x+1)*(2^k*2):=Int.mul_le_mul_of_nonneg_left (by omega) (by omega)
   omega
  have hs:(((k+1:Nat):Int)-1)=(k:Int):=by omega
  rw[hs,pZ.a_eq,show decide ((k:Int)≥0)=true by simp,aQ (n:=low+k) (by omega) (by omega),gG w (low+k) hw hw' (by omega) (by omega)]
  have hb:0≤w/2^(low+k).toNat%2∧w/2^(low+k).toNat%2≤1:=by omega
  simp only[ac,ae]
  rw[aQ (n:=2*x) (by omega) (by omega),aQ (n:=2*x+_) (by omega) (by omega),aQ (n:=(k:Int)-1) (by omega) (by omega)]
  rw[ih _ (by omega) (by omega) (by omega) (by
   rw[Int.pow_succ,Int.mul_comm (2^k) 2,←Int.mul_assoc]at h4
   exact Int.le_trans (Int.mul_le_mul_of_nonneg_right (by omega) (by omega)) h4)]
  congr 1
  have e1:(low+k).toNat=low.toNat+k:=by omega
  have e2:w/2^low.toNat%2^(k+1)=w/2^low.toNat%2^k+2^k*(w/2^(low.toNat+k)%2):=by
   rw[Int.pow_succ,Int.pow_add,←Int.ediv_ediv_of_nonneg (Int.le_of_lt (Int.pow_pos (by decide)))]
   generalize w/2^low.toNat=z
   have hk:(0:Int)≤2^k:=by omega
   rw[Int.emod_def z (2^k*2),←Int.ediv_ediv_of_nonneg hk,Int.emod_def (z/2^k) 2,Int.emod_def z (2^k),Int.mul_sub]
   rw[Int.mul_assoc (2^k) 2];omega
  rw[e1,e2,Int.add_mul,Int.pow_succ,Int.mul_comm (2^k) 2,←Int.mul_assoc,Int.mul_comm x 2,Int.mul_comm (2^k) (w/2^(low.toNat+k)%2)]
  omega
theorem y7 (w low count:Int) (hw: -9223372036854775808≤w) (hw':w≤9223372036854775807) (h:0≤low) (hc:0≤count) (hlc:low+count≤62):pZ w low count=some (w/2^low.toNat%2^count.toNat):=by
 have hp:=iz count.toNat (by omega)
 rw[FK,aQ (n:=count-1) (by omega) (by omega),show count-1=(count.toNat:Int)-1 by omega,ws w low hw hw' h count.toNat 0 (by omega) (by omega) (by omega) (by omega)]
 rw[Int.zero_mul,Int.zero_add]
theorem jZ (a z:Int) (n i:Nat) (h:i<n):(a+2^n*z)/2^i%2=a/2^i%2:=by
 have e:(2:Int)^n=2^i*(2*2^(n-i-1)):=by
  rw[←Int.mul_assoc,←Int.pow_succ,←Int.pow_add,show i+1+(n-i-1)=n by omega]
 have hp:(0:Int)<2^i:=Int.pow_pos (by decide)
 rw[e,Int.mul_assoc,Int.add_mul_ediv_left _ _ (by omega),Int.mul_assoc,Int.add_mul_emod_self_left]
theorem lL (t:Int) (i:Nat):2*(t/2^(i+1))+t/2^i%2=t/2^i:=by
 have hp:(0:Int)≤2^i:=Int.le_of_lt (Int.pow_pos (by decide))
 rw[Int.pow_succ,←Int.ediv_ediv_of_nonneg hp];omega
def c6 (w low count v:Int):Int:=w%2^low.toNat+2^low.toNat*(v%2^count.toNat+2^count.toNat*(w/2^(low.toNat+count.toNat)))
theorem jB (w low count v:Int) (h:0≤low) (hc:0≤count) (i:Nat):c6 w low count v/2^i%2=if low≤i∧(i:Int)<low+count then v/2^(i-low.toNat)%2 else w/2^i%2:=by
 obtain⟨l,rfl⟩:=Int.eq_ofNat_of_zero_le h
 obtain⟨c,rfl⟩:=Int.eq_ofNat_of_zero_le hc
 have hl:(0:Int)<2^l:=Int.pow_pos (by decide)
 have hcc:(0:Int)<2^c:=Int.pow_pos (by decide)
 simp only[c6,aT]
 by_cases h1:i<l
 ·rw[jZ _ _ _ _ h1,ak (by omega)]
  conv=>rhs;rw[←Int.emod_add_mul_ediv w (2^l)]
  rw[jZ _ _ _ _ h1]
 ·have e:(2:Int)^i=2^l*2^(i-l):=by rw[←Int.pow_add,show l+(i-l)=i by omega]
  rw[e,←Int.ediv_ediv_of_nonneg (by omega:(0:Int)≤2^l),Int.add_mul_ediv_left _ _ (by omega),Int.ediv_eq_zero_of_lt (Int.emod_nonneg _ (by omega)) (Int.emod_lt_of_pos _ hl),Int.zero_add]
  by_cases h2:i<l+c
  ·rw[av (by omega),jZ _ _ _ _ (show i-l<c by omega)]
   conv=>rhs;rw[←Int.emod_add_mul_ediv v (2^c)]
   rw[jZ _ _ _ _ (show i-l<c by omega)]
  ·have e2:(2:Int)^(i-l)=2^c*2^(i-l-c):=by rw[←Int.pow_add,show c+(i-l-c)=i-l by omega]
   rw[ak (by omega),e2,←Int.ediv_ediv_of_nonneg (by omega:(0:Int)≤2^c),Int.add_mul_ediv_left _ _ (by omega),Int.ediv_eq_zero_of_lt (Int.emod_nonneg _ (by omega)) (Int.emod_lt_of_pos _ hcc),Int.zero_add,Int.pow_add,←Int.ediv_ediv_of_nonneg (by omega:(0:Int)≤2^l),Int.ediv_ediv_of_nonneg (by omega:(0:Int)≤2^c),←e2,Int.ediv_ediv_of_nonneg (by omega:(0:Int)≤2^l)]
theorem bY (w low count v:Int) (h:0≤low) (hc:0≤count) (hlc:low+count≤32) (hw:0≤w) (hw':w<4294967296):0≤c6 w low count v∧c6 w low count v<4294967296:=by
 obtain⟨l,rfl⟩:=Int.eq_ofNat_of_zero_le h
 obtain⟨c,rfl⟩:=Int.eq_ofNat_of_zero_le hc
 have hl:(0:Int)<2^l:=Int.pow_pos (by decide)
 have hcc:(0:Int)<2^c:=Int.pow_pos (by decide)
 simp only[c6,aT]
 have a1:=Int.emod_nonneg w (show(2:Int)^l≠0 by omega)
 have a2:=Int.emod_lt_of_pos w hl
 have b1:=Int.emod_nonneg v (show(2:Int)^c≠0 by omega)
 have b2:=Int.emod_lt_of_pos v hcc
 have hlcp:(0:Int)<2^(l+c):=Int.pow_pos (by decide)
 have c1:0≤w/2^(l+c):=Int.ediv_nonneg hw (by omega)
 have c2:w/2^(l+c)+1≤2^(32-l-c):=by
  have:w/2^(l+c)<2^(32-l-c):=by
   apply Int.ediv_lt_of_lt_mul hlcp
   rw[←Int.pow_add,show 32-l-c+(l+c)=32 by omega];exact hw'
  omega
 generalize w/2^(l+c)=z at*
 generalize w%2^l=x at*
 generalize v%2^c=y at*
 have d1:0≤2^c*z:=Int.mul_nonneg (by omega) c1
 have d2:2^c*z+2^c≤2^c*2^(32-l-c):=by
  have:=Int.mul_le_mul_of_nonneg_left c2 (show(0:Int)≤2^c by omega)
  rw[Int.mul_add,Int.mul_one]at this;exact this
 rw[←Int.pow_add,show c+(32-l-c)=32-l by omega]at d2
 have d3:0≤2^l*(y+2^c*z):=Int.mul_nonneg (by omega) (by omega)
 have d4:2^l*(y+2^c*z)+2^l≤2^l*2^(32-l):=by
  have:=Int.mul_le_mul_of_nonneg_left (show y+2^c*z+1≤2^(32-l) by omega) (show(0:Int)≤2^l by omega)
  rw[Int.mul_add (2^l) _ 1,Int.mul_one]at this;exact this
 rw[←Int.pow_add,show l+(32-l)=32 by omega,show(2:Int)^32=4294967296 by rfl]at d4
 omega
theorem AU (w low count v:Int) (h:0≤low) (hc:0≤count) (hlc:low+count≤32) (hw:0≤w) (hw':w<4294967296) (hv: -9223372036854775808≤v) (hv':v≤9223372036854775807):
  ∀(k:Nat),k≤32→Zg.a w low count v (c6 w low count v/2^k) ((k:Int)-1)=some (c6 w low count v):=by
 have hr:=bY w low count v h hc hlc hw hw'
 intro k
 induction k with
 |zero=>
  intro _
  rw[Zg.a_eq,show decide (((0:Nat):Int)-1≥0)=false by rfl]
  simp only[af,Int.pow_zero,Int.ediv_one]
 |succ k ih=>
  intro hk
  have ih:=ih (by omega)
  have hb:=jB w low count v h hc k
  have hst:=lL (c6 w low count v) k
  generalize ht:c6 w low count v=T at*
  have hp:(0:Int)<2^(k+1):=Int.pow_pos (by decide)
  have q0:0≤T/2^(k+1):=Int.ediv_nonneg hr.1 (by omega)
  have q1:T/2^(k+1)≤T:=Int.ediv_le_self _ hr.1
  have hs:(((k+1:Nat):Int)-1)=(k:Int):=by omega
  rw[hs,Zg.a_eq,show decide ((k:Int)≥0)=true by simp,gG w k (by omega) (by omega) (by omega) (by omega),aQ (n:=low+count) (by omega) (by omega),aQ (n:=2*(T/2^(k+1))) (by omega) (by omega),aQ (n:=(k:Int)-1) (by omega) (by omega)]
  simp only[ac,ae,aT]
  by_cases h1:low≤(k:Int)
  ·by_cases h2:(k:Int)<low+count
   ·rw[show decide ((k:Int)≥low)=true by simp;omega,show decide ((k:Int)<low+count)=true by simp;omega,aQ (n:=(k:Int)-low) (by omega) (by omega),gG v _ hv hv' (by omega) (by omega)]
    rw[av ⟨h1,h2⟩]at hb
    simp only[ac,ae]
    rw[show((k:Int)-low).toNat=k-low.toNat by omega,←hb,aQ (by omega) (by omega),hst,ih]
   ·rw[show decide ((k:Int)≥low)=true by simp;omega,show decide ((k:Int)<low+count)=false by simp;omega]
    rw[ak (by omega)]at hb
    simp only[ac,af]
    rw[←hb,aQ (by omega) (by omega),hst,ih]
  ·rw[show decide ((k:Int)≥low)=false by simp;omega]
   rw[ak (by omega)]at hb
   simp only[af]
   rw[←hb,aQ (by omega) (by omega),hst,ih]
theorem cE (w low count v:Int) (h:0≤low) (hc:0≤count) (hlc:low+count≤32) (hw:0≤w) (hw':w<4294967296) (hv: -9223372036854775808≤v) (hv':v≤9223372036854775807):
  Zg w low count v=some (c6 w low count v):=by
 have hr:=bY w low count v h hc hlc hw hw'
 have:=AU w low count v h hc hlc hw hw' hv hv' 32 (by omega)
 rw[Hc]
 rw[Int.ediv_eq_zero_of_lt hr.1 (by rw[show(2:Int)^32=4294967296 by rfl];exact hr.2)]at this
 exact this
def cu (v:Int) (c:Nat):Int:=if v%2^c<2^(c-1)then v%2^c else v%2^c-2^c
theorem ul (c:Nat) (h:1≤c):(2:Int)^c=2*2^(c-1):=by
 obtain⟨d,rfl⟩:=Nat.exists_eq_add_of_le h
 rw[Nat.add_comm,Int.pow_succ,Int.mul_comm];rfl
theorem qY (v:Int) (c:Nat):∃q,cu v c=v+2^c*q:=by
 unfold cu
 rw[Int.emod_def]
 split
 ·exact⟨-(v/2^c),by rw[Int.mul_neg];omega⟩
 ·exact⟨-(v/2^c)-1,by rw[Int.mul_sub,Int.mul_neg];omega⟩
theorem jC (v:Int) (c:Nat) (h:1≤c): -2^(c-1)≤cu v c∧cu v c<2^(c-1):=by
 have hp:=ul c h
 have hp1:(0:Int)<2^(c-1):=Int.pow_pos (by decide)
 have a1:=Int.emod_nonneg v (show(2:Int)^c≠0 by omega)
 have a2:=Int.emod_lt_of_pos v (show(0:Int)<2^c by omega)
 unfold cu
 split<;>omega
theorem Dz (c:Nat) (h:c≤63):(2:Int)^c≤9223372036854775808:=by
 have h1:2^c≤2^63:=Nat.pow_le_pow_right (by decide) h
 have e:((2^c:Nat):Int)=(2:Int)^c:=by simp
 omega
theorem jD {n s:Int} (q:Int) (h:n=s+18446744073709551616*q) (h1: -9223372036854775808≤s) (h2:s≤9223372036854775807):IntKind.wrap .i64 n=s:=by
 rw[IntKind.wrap_i64];omega
theorem wt (v count:Int) (h:1≤count) (h':count≤64):HN v count=some (cu v count.toNat):=by
 rw[EV,aQ (n:=64-count) (by omega) (by omega),show decide (64-count<0)=false by simp;omega,lJ (by omega) (by omega),nV (by omega) (by omega)]
 simp only[af]
 congr 1
 obtain⟨c,rfl⟩:=Int.eq_ofNat_of_zero_le (show 0≤count by omega)
 rw[show((64:Int)-(c:Int)).toNat=64-c by omega,aT]
 have hp1:(0:Int)<2^(c-1):=Int.pow_pos (by decide)
 have hk:(0:Int)<2^(64-c):=Int.pow_pos (by decide)
 obtain⟨q,hq⟩:=qY v c
 have hr:=jC v c (by omega)
 have e64:(2:Int)^c*2^(64-c)=18446744073709551616:=by rw[←Int.pow_add,show c+(64-c)=64 by omega];rfl
 have e63:(2:Int)^(c-1)*2^(64-c)=9223372036854775808:=by rw[←Int.pow_add,show c-1+(64-c)=63 by omega];rfl
 have hv:v*2^(64-c)=cu v c*2^(64-c)+18446744073709551616*(-q):=by
  rw[hq,←e64,Int.add_mul,Int.mul_neg,Int.mul_assoc,Int.mul_comm q,←Int.mul_assoc];omega
 have l1: -9223372036854775808≤cu v c*2^(64-c):=by
  have:=Int.mul_le_mul_of_nonneg_right hr.1 (show(0:Int)≤2^(64-c) by omega)
  rw[Int.neg_mul,e63]at this;exact this
 have l2:cu v c*2^(64-c)≤9223372036854775807:=by
  have:=Int.mul_lt_mul_of_pos_right hr.2 hk
  rw[e63]at this;omega
 rw[jD (-q) hv l1 l2,Int.mul_ediv_cancel _ (by omega)]
theorem AV (v:Int) (c i:Nat) (h:1≤c):cu v c/2^i%2=v/2^(min i (c-1))%2:=by
 obtain⟨q,hq⟩:=qY v c
 by_cases h1:i<c
 ·rw[show min i (c-1)=i by omega,hq,jZ _ _ _ _ h1]
 ·have hr:=jC v c h
  rw[show min i (c-1)=c-1 by omega]
  have e:v/2^(c-1)%2=cu v c/2^(c-1)%2:=by rw[hq,jZ _ _ _ _ (by omega)]
  rw[e]
  have hp1:(0:Int)<2^(c-1):=Int.pow_pos (by decide)
  have hm:(2:Int)^(c-1)≤2^i:=by
   have h9:2^(c-1)≤2^i:=Nat.pow_le_pow_right (by decide) (show c-1≤i by omega)
   have e1:((2^(c-1):Nat):Int)=(2:Int)^(c-1):=by simp
   have e2:((2^i:Nat):Int)=(2:Int)^i:=by simp
   omega
  by_cases hs:0≤cu v c
  ·rw[Int.ediv_eq_zero_of_lt hs (by omega),Int.ediv_eq_zero_of_lt hs hr.2]
  ·have f:∀P:Int,0<P→ -P≤cu v c→cu v c/P= -1:=by
    intro P hP hle
    have:cu v c/P<0:=Int.ediv_neg_of_neg_of_pos (by omega) hP
    have h2: -1≤cu v c/P:=Int.le_ediv_of_mul_le hP (by omega)
    omega
   rw[f _ (by omega) (by omega),f _ hp1 hr.1]
theorem y8 (v:Int) (c:Nat) (h:1≤c) (h':c≤64) (hv: -9223372036854775808≤v) (hv':v≤9223372036854775807):
  ∀k:Nat,k≤64→vm.a v c (cu v c/2^k%2^(64-k)) ((k:Int)-1)=some (cu v c):=by
 have hr:=jC v c h
 have hp:=Dz (c-1) (by omega)
 intro k
 induction k with
 |zero=>
  intro _
  rw[vm.a_eq,show decide (((0:Nat):Int)-1≥0)=false by rfl]
  simp only[af,Int.pow_zero,Int.ediv_one]
  congr 1
  rw[show(2:Int)^(64-0)=18446744073709551616 by rfl,Int.emod_def]
  exact jD (-(cu v c/18446744073709551616)) (by omega) (by omega) (by omega)
 |succ k ih=>
  intro hk
  have ih:=ih (by omega)
  have hs:(((k+1:Nat):Int)-1)=(k:Int):=by omega
  have hmin:(if IntKind.wrap .i64 ((c:Int)-1)< (k:Int)then IntKind.wrap .i64 ((c:Int)-1)else(k:Int))=((min k (c-1):Nat):Int):=by
   rw[aQ (n:=(c:Int)-1) (by omega) (by omega)];split<;>omega
  rw[hs,vm.a_eq,show decide ((k:Int)≥0)=true by simp,hmin,gG v _ hv hv' (by omega) (by omega),aQ (n:=(k:Int)-1) (by omega) (by omega)]
  simp only[ac,ae,aT]
  rw[←AV v c k h]
  have hst:=lL (cu v c) k
  have e:(2:Int)^(64-k)=2*2^(64-(k+1)):=by
   have:=ul (64-k) (by omega);rw[this,show 64-k-1=64-(k+1) by omega]
  have hq:(0:Int)<2^(64-(k+1)):=Int.pow_pos (by decide)
  have hq':=Dz (64-(k+1)) (by omega)
  generalize cu v c/2^(k+1)=z at*
  generalize cu v c/2^k=y at*
  rw[e]at ih
  have z1:=Int.emod_nonneg z (show(2:Int)^(64-(k+1))≠0 by omega)
  have z2:=Int.emod_lt_of_pos z hq
  have ey:2*(z%2^(64-(k+1)))+y%2=y% (2*2^(64-(k+1))):=by
   rw[Int.emod_def z,Int.emod_def y (2*_),←Int.ediv_ediv_of_nonneg (by decide),show y/2=z by omega,Int.mul_assoc];omega
  rw[AS (n:=2*_) (by omega) (by omega),AS (n:=y%2) (by omega) (by omega),AS (n:=2*_+y%2) (by omega) (by omega),ey,ih]
theorem iA (v count:Int) (h:1≤count) (h':count≤64) (hv: -9223372036854775808≤v) (hv':v≤9223372036854775807):vm v count=some (cu v count.toNat):=by
 obtain⟨c,rfl⟩:=Int.eq_ofNat_of_zero_le (show 0≤count by omega)
 have:=y8 v c (by omega) (by omega) hv hv' 64 (by omega)
 rw[show(64-64:Nat)=0 by rfl,Int.pow_zero,Int.emod_one]at this
 rw[FL,aT]
 exact this
def H6:List (Int×Int×Int×Int):=[(0,0,0,0),(1,55,0,0),(1,23,0,0),(2,111,0,0),(3,103,0,0),(4,99,0,0),(4,99,1,0),(4,99,4,0),(4,99,5,0),(4,99,6,0),(4,99,7,0),(3,3,0,0),(3,3,1,0),(3,3,2,0),(3,3,3,0),(3,3,4,0),(3,3,5,0),(3,3,6,0),(5,35,0,0),(5,35,1,0),(5,35,2,0),(5,35,3,0),(3,19,0,0),(3,19,2,0),(3,19,3,0),(3,19,4,0),(3,19,6,0),(3,19,7,0),(6,19,1,0),(6,19,5,0),(6,19,5,32),(8,51,0,0),(8,51,0,32),(8,51,1,0),(8,51,2,0),(8,51,3,0),(8,51,4,0),(8,51,5,0),(8,51,5,32),(8,51,6,0),(8,51,7,0),(3,27,0,0),(7,27,1,0),(7,27,5,0),(7,27,5,32),(8,59,0,0),(8,59,0,32),(8,59,1,0),(8,59,5,0),(8,59,5,32),(8,51,0,1),(8,51,1,1),(8,51,2,1),(8,51,3,1),(8,51,4,1),(8,51,5,1),(8,51,6,1),(8,51,7,1),(8,59,0,1),(8,59,4,1),(8,59,5,1),(8,59,6,1),(8,59,7,1),(9,115,0,0),(9,115,0,1)]
def cP (n:Int):Int×Int×Int×Int:=H6.getD n.toNat (0,0,0,0)
theorem ng {n:Int} (h:0≤n) (h':n≤64):∃k:Fin 65,n=(k.val:Int):=⟨⟨n.toNat,by omega⟩,by simp;omega⟩
theorem kX (n:Int) (h:0≤n) (h':n≤64):Hw n=some (cP n):=by
 rw[EP,Cc]
 simp only[ae]
 obtain⟨k,rfl⟩:=ng h h'
 clear h h';revert k
 decide+kernel
theorem eZ (n:Int) (h:0≤n) (h':n≤64):Ze n=some (cP n):=by
 rw[Ha]
 obtain⟨k,rfl⟩:=ng h h'
 clear h h';revert k
 decide+kernel
def xH (s:Int×Int×Int×Int):Bool:=decide (1≤s.1)&&decide (s.1≤9)&&decide (0≤s.2.1)&&decide (s.2.1<128)&&decide (0≤s.2.2.1)&&decide (s.2.2.1<8)&&decide (0≤s.2.2.2)&&decide (s.2.2.2<64)&&(!decide (s.1=6)||decide (s.2.2.2%2=0))&&(!decide (s.1=9)|| (decide (s.2.2.2<2)&&decide (s.2.2.1=0)))
theorem mE (n:Int) (h:1≤n) (h':n≤64):xH (cP n)=true:=by
 obtain⟨k,rfl⟩:=ng (show 0≤n by omega) h'
 clear h';revert k
 decide+kernel
theorem DZ {x y:Int} (hx:0≤x) (hx':x<4611686018427387904) (hy:0≤y) (hy':y<2) (h:x/128%2=0):ib .i64 x (y*128)=x+y*128:=bw 7 1 rfl rfl (by decide) hx hx' hy hy' h
theorem kY {x y:Int} (hx:0≤x) (hx':x<4611686018427387904) (hy:0≤y) (hy':y<32) (h:x/128%32=0):ib .i64 x (y*128)=x+y*128:=bw 7 5 rfl rfl (by decide) hx hx' hy hy' h
theorem Ea {x y:Int} (hx:0≤x) (hx':x<4611686018427387904) (hy:0≤y) (hy':y<16) (h:x/256%16=0):ib .i64 x (y*256)=x+y*256:=bw 8 4 rfl rfl (by decide) hx hx' hy hy' h
theorem ka {x y:Int} (hx:0≤x) (hx':x<4611686018427387904) (hy:0≤y) (hy':y<8) (h:x/4096%8=0):ib .i64 x (y*4096)=x+y*4096:=bw 12 3 rfl rfl (by decide) hx hx' hy hy' h
theorem xI {x y:Int} (hx:0≤x) (hx':x<4611686018427387904) (hy:0≤y) (hy':y<256) (h:x/4096%256=0):ib .i64 x (y*4096)=x+y*4096:=bw 12 8 rfl rfl (by decide) hx hx' hy hy' h
theorem um {x y:Int} (hx:0≤x) (hx':x<4611686018427387904) (hy:0≤y) (hy':y<1048576) (h:x/4096%1048576=0):ib .i64 x (y*4096)=x+y*4096:=bw 12 20 rfl rfl (by decide) hx hx' hy hy' h
theorem sx {x y:Int} (hx:0≤x) (hx':x<4611686018427387904) (hy:0≤y) (hy':y<2) (h:x/1048576%2=0):ib .i64 x (y*1048576)=x+y*1048576:=bw 20 1 rfl rfl (by decide) hx hx' hy hy' h
theorem nW {x y:Int} (hx:0≤x) (hx':x<4611686018427387904) (hy:0≤y) (hy':y<32) (h:x/1048576%32=0):ib .i64 x (y*1048576)=x+y*1048576:=bw 20 5 rfl rfl (by decide) hx hx' hy hy' h
theorem CM {x y:Int} (hx:0≤x) (hx':x<4611686018427387904) (hy:0≤y) (hy':y<64) (h:x/1048576%64=0):ib .i64 x (y*1048576)=x+y*1048576:=bw 20 6 rfl rfl (by decide) hx hx' hy hy' h
theorem AW {x y:Int} (hx:0≤x) (hx':x<4611686018427387904) (hy:0≤y) (hy':y<4096) (h:x/1048576%4096=0):ib .i64 x (y*1048576)=x+y*1048576:=bw 20 12 rfl rfl (by decide) hx hx' hy hy' h
theorem AX {x y:Int} (hx:0≤x) (hx':x<4611686018427387904) (hy:0≤y) (hy':y<1024) (h:x/2097152%1024=0):ib .i64 x (y*2097152)=x+y*2097152:=bw 21 10 rfl rfl (by decide) hx hx' hy hy' h
theorem CN {x y:Int} (hx:0≤x) (hx':x<4611686018427387904) (hy:0≤y) (hy':y<64) (h:x/33554432%64=0):ib .i64 x (y*33554432)=x+y*33554432:=bw 25 6 rfl rfl (by decide) hx hx' hy hy' h
theorem sy {x y:Int} (hx:0≤x) (hx':x<4611686018427387904) (hy:0≤y) (hy':y<128) (h:x/33554432%128=0):ib .i64 x (y*33554432)=x+y*33554432:=bw 25 7 rfl rfl (by decide) hx hx' hy hy' h
theorem CO {x y:Int} (hx:0≤x) (hx':x<4611686018427387904) (hy:0≤y) (hy':y<64) (h:x/67108864%64=0):ib .i64 x (y*67108864)=x+y*67108864:=bw 26 6 rfl rfl (by decide) hx hx' hy hy' h
theorem xJ {x y:Int} (hx:0≤x) (hx':x<4611686018427387904) (hy:0≤y) (hy':y<2) (h:x/2147483648%2=0):ib .i64 x (y*2147483648)=x+y*2147483648:=bw 31 1 rfl rfl (by decide) hx hx' hy hy' h
theorem Eb {x y:Int} (hx:0≤x) (hx':x<4611686018427387904) (hy:0≤y) (hy':y<16) (h:x/2%16=0):ib .i64 x (y*2)=x+y*2:=bw 1 4 rfl rfl (by decide) hx hx' hy hy' h
theorem CP {x y:Int} (hx:0≤x) (hx':x<4611686018427387904) (hy:0≤y) (hy':y<1024) (h:x/2%1024=0):ib .i64 x (y*2)=x+y*2:=bw 1 10 rfl rfl (by decide) hx hx' hy hy' h
theorem Ec {x y:Int} (hx:0≤x) (hx':x<4611686018427387904) (hy:0≤y) (hy':y<64) (h:x/32%64=0):ib .i64 x (y*32)=x+y*32:=bw 5 6 rfl rfl (by decide) hx hx' hy hy' h
theorem Ed {x y:Int} (hx:0≤x) (hx':x<4611686018427387904) (hy:0≤y) (hy':y<128) (h:x/32%128=0):ib .i64 x (y*32)=x+y*32:=bw 5 7 rfl rfl (by decide) hx hx' hy hy' h
theorem xK {x y:Int} (hx:0≤x) (hx':x<4611686018427387904) (hy:0≤y) (hy':y<2) (h:x/2048%2=0):ib .i64 x (y*2048)=x+y*2048:=bw 11 1 rfl rfl (by decide) hx hx' hy hy' h
theorem CQ {x y:Int} (hx:0≤x) (hx':x<4611686018427387904) (hy:0≤y) (hy':y<2) (h:x/4096%2=0):ib .i64 x (y*4096)=x+y*4096:=bw 12 1 rfl rfl (by decide) hx hx' hy hy' h
theorem qZ {w a b:Int} (hw:0≤w) (hw':w<4611686018427387904) (ha:0≤a) (ha':a<32) (hb:0≤b) (hb':b<8) (h:w/4096%256=0):ib .i64 w (a*32768+b*4096)=w+(a*32768+b*4096):=by
 have:=bw (x:=w) (y:=a*8+b) (P:=4096) (Q:=256) 12 8 rfl rfl (by decide) hw hw' (by omega) (by omega) h
 rw[show a*32768+b*4096=(a*8+b)*4096 by omega];exact this
def dO (s:Int×Int×Int×Int) (x:Int×Int×Int×Int×Int):Int:=
 if s.1=1 then s.2.1+x.2.1*128+x.2.2.2.2/4096%1048576*4096
 else if s.1=2 then s.2.1+x.2.1*128+x.2.2.2.2/4096%256*4096+x.2.2.2.2/2048%2*1048576+x.2.2.2.2/2%1024*2097152+x.2.2.2.2/1048576%2*2147483648
 else if s.1=3 then s.2.1+x.2.1*128+s.2.2.1*4096+x.2.2.1*32768+x.2.2.2.2%4096*1048576
 else if s.1=4 then s.2.1+x.2.2.2.2/2048%2*128+x.2.2.2.2/2%16*256+s.2.2.1*4096+x.2.2.1*32768+x.2.2.2.1*1048576+x.2.2.2.2/32%64*33554432+x.2.2.2.2/4096%2*2147483648
 else if s.1=5 then s.2.1+x.2.2.2.2%32*128+s.2.2.1*4096+x.2.2.1*32768+x.2.2.2.1*1048576+x.2.2.2.2/32%128*33554432
 else if s.1=6 then s.2.1+x.2.1*128+s.2.2.1*4096+x.2.2.1*32768+x.2.2.2.2%64*1048576+s.2.2.2/2*67108864
 else if s.1=7 then s.2.1+x.2.1*128+s.2.2.1*4096+x.2.2.1*32768+x.2.2.2.2%32*1048576+s.2.2.2*33554432
 else if s.1=8 then s.2.1+x.2.1*128+s.2.2.1*4096+x.2.2.1*32768+x.2.2.2.1*1048576+s.2.2.2*33554432
 else s.2.1+s.2.2.2*1048576
structure jE (x:Int×Int×Int×Int×Int):Prop where
 d:0≤x.2.1∧x.2.1≤31
 a:0≤x.2.2.1∧x.2.2.1≤31
 b:0≤x.2.2.2.1∧x.2.2.2.1≤31
 i: -9223372036854775808≤x.2.2.2.2∧x.2.2.2.2≤9223372036854775807
theorem fP {f c f3 f7:Int} (h:xH (f,c,f3,f7)=true):(1≤f∧f≤9)∧(0≤c∧c<128)∧(0≤f3∧f3<8)∧(0≤f7∧f7<64)∧(f=6→f7%2=0)∧(f=9→f7<2∧f3=0):=by
 simp only[xH,aB,Bool.or_eq_true,Bool.not_eq_true',bh,decide_eq_false_iff_not]at h
 omega
theorem ga {f:Int} (h:1≤f∧f≤9):f=1∨f=2∨f=3∨f=4∨f=5∨f=6∨f=7∨f=8∨f=9:=by omega
theorem aq (j n:Nat):aH (j:Int) n=decide (j<n):=by
 unfold aH;rw[show decide (0≤(j:Int))=true by simp,Bool.true_and];congr 1;simp
theorem bj {τ:Ty} (xs:List τ.den) (j:Nat) (h:j<xs.length):rd (τ:=τ) xs (j:Int)=xs[j]:=by
 unfold rd;rw[aT,List.getD_eq_getElem?_getD,List.getElem?_eq_getElem h];rfl
theorem au (j n:Nat) (h:j<n) (h':n≤9223372036854775807):IntKind.wrap .i64 ((j:Int)+1)=((j+1:Nat):Int):=by
 rw[aQ (by omega) (by omega)];omega
theorem ap (j n:Nat):decide ((j:Int)< (n:Int))=decide (j<n):=by congr 1;simp
def uq (imm:Int) (w:Int) (p:Int×Int×Int):Int:=ib .i64 w (cT .i64 (imm/2^p.1.toNat%2^p.2.1.toNat) p.2.2)
def lM (ps:List (Int×Int×Int)):Prop:=ps.length≤4∧∀p∈ps,0≤p.1∧p.1≤62∧0≤p.2.1∧p.2.1≤62∧0≤p.2.2∧p.2.2≤62
theorem AY (x:Int×Int×Int×Int×Int) (s:Int×Int×Int×Int) (ps:List (Int×Int×Int)) (hp:lM ps):
  ∀(k j:Nat) (w:Int),j+k=ps.length→xX.a x s w ps (ps.length:Int) (j:Int)=xX.a x s ((ps.drop j).foldl (uq x.2.2.2.2) w) ps (ps.length:Int) (ps.length:Int):=by
 intro k
 induction k with
 |zero=>
   intro j w h;have:j=ps.length:=by omega
   subst this;simp
 |succ k ih=>
  intro j w h
  have hj:j<ps.length:=by omega
  obtain⟨p1,p2,p3,p4,p5,p6⟩:=hp.2 ps[j] (List.getElem_mem hj)
  have e:=bj (τ:= .pair (.int .i64) (.pair (.int .i64) (.int .i64))) ps j hj
  rw[xX.a_eq,ap,aq,e,au j ps.length hj (by have:=hp.1;omega)]
  simp only[ah hj,ac]
  rw[eY _ _ _ (by omega) (by omega) (by omega) (by omega)]
  simp only[ae]
  rw[show decide (ps[j].2.2<0)=false by simp;omega]
  simp only[af]
  rw[ih (j+1) _ (by omega),List.drop_eq_getElem_cons hj,List.foldl_cons]
  rfl
def bZ (f:Int):List (Int×Int×Int):=
 if f=1 then[(12,20,12)]else if f=2 then[(12,8,12),(11,1,20),(1,10,21),(20,1,31)]else if f=3 then[(0,12,20)]else if f=4 then[(11,1,7),(1,4,8),(5,6,25),(12,1,31)]
 else if f=5 then[(0,5,7),(5,7,25)]else if f=6 then[(0,6,20)]else if f=7 then[(0,5,20)]else[]
theorem pd {f:Int} (h:1≤f∧f≤9):HL f=some (bZ f)∧lM (bZ f):=by
 rw[ER]
 rcases ga h with rfl|rfl|rfl|rfl|rfl|rfl|rfl|rfl|rfl<;>exact⟨rfl,by unfold lM;decide⟩
theorem dT {y:Int} (k:Nat) (P:Int) (hP:P=2^k) (hk:k≤62) (h0:0≤y) (h:y*P≤9223372036854775807):cT .i64 y (k:Int)=y*P:=by
 rw[lJ (by omega) (by omega),aT,←hP]
 have:0≤y*P:=Int.mul_nonneg h0 (by rw[hP];exact Int.le_of_lt (Int.pow_pos (by decide)))
 exact aQ (by omega) (by omega)
theorem nh {y:Int} (h0:0≤y) (h:y≤2147483647):cT .i64 y 7=y*128:=dT 7 128 rfl (by decide) h0 (by omega)
theorem GH {y:Int} (h0:0≤y) (h:y≤2147483647):cT .i64 y 8=y*256:=dT 8 256 rfl (by decide) h0 (by omega)
theorem gb {y:Int} (h0:0≤y) (h:y≤2147483647):cT .i64 y 12=y*4096:=dT 12 4096 rfl (by decide) h0 (by omega)
theorem mF {y:Int} (h0:0≤y) (h:y≤2147483647):cT .i64 y 15=y*32768:=dT 15 32768 rfl (by decide) h0 (by omega)
theorem iV {y:Int} (h0:0≤y) (h:y≤2147483647):cT .i64 y 20=y*1048576:=dT 20 1048576 rfl (by decide) h0 (by omega)
theorem Ee {y:Int} (h0:0≤y) (h:y≤2147483647):cT .i64 y 21=y*2097152:=dT 21 2097152 rfl (by decide) h0 (by omega)
theorem sA {y:Int} (h0:0≤y) (h:y≤2147483647):cT .i64 y 25=y*33554432:=dT 25 33554432 rfl (by decide) h0 (by omega)
theorem Ef {y:Int} (h0:0≤y) (h:y≤2147483647):cT .i64 y 26=y*67108864:=dT 26 67108864 rfl (by decide) h0 (by omega)
theorem AZ {y:Int} (h0:0≤y) (h:y≤2147483647):cT .i64 y 31=y*2147483648:=dT 31 2147483648 rfl (by decide) h0 (by omega)
theorem CR {x:Int}:lA .i64 x 1=x/2:=by rw[nV (by decide) (by decide)];rfl
def aX (f:Int):Bool×Bool×Bool:=
 if f=1∨f=2 then(true,false,false)else if f=3∨f=6∨f=7 then(true,true,false)else if f=4∨f=5 then(false,true,true)else if f=8 then(true,true,true)else(false,false,false)
theorem pf {f:Int} (h:1≤f∧f≤9):HM f=some (aX f):=by
 rw[ES]
 rcases ga h with rfl|rfl|rfl|rfl|rfl|rfl|rfl|rfl|rfl<;>rfl
theorem jb (x:Int×Int×Int×Int×Int) (h:1≤x.1) (h':x.1≤64) (hr:jE x):xX x=some (dO (cP x.1) x):=by
 rw[ET,kX _ (by omega) h']
 have hs:=mE x.1 h h'
 generalize cP x.1=s at*
 obtain⟨n,rd',rs1,rs2,imm⟩:=x
 obtain⟨f,c,f3,f7⟩:=s
 obtain⟨⟨d1,d2⟩,⟨a1,a2⟩,⟨b1,b2⟩,⟨i1,i2⟩⟩:=hr
 obtain⟨s1,⟨s2,s2'⟩,⟨s3,s3'⟩,⟨s4,s4'⟩,s5,s6⟩:=fP hs
 clear hs
 dsimp only at*
 obtain⟨hp,hpo⟩:=pd s1
 have hf:=pf s1
 simp only[ae,hp]
 rw[show(0:Int)=((0:Nat):Int) by rfl,AY _ _ _ hpo (bZ f).length 0 _ (by omega),xX.a_eq,ap]
 simp only[a9,decide_false,af,hf,List.drop_zero,ae,aA]
 clear hp hpo hf
 rcases ga s1 with rfl|rfl|rfl|rfl|rfl|rfl|rfl|rfl|rfl
 ·simp[bZ,aX,uq,dO]
  have hb0:0≤imm/4096%1048576∧imm/4096%1048576<1048576:=by omega
  generalize imm/4096%1048576=y0 at*
  simp(disch:=omega) only[gb,nh,um,kY]
  try omega
 ·simp[bZ,aX,uq,dO]
  have hb0:0≤imm/4096%256∧imm/4096%256<256:=by omega
  generalize imm/4096%256=y0 at*
  have hb1:0≤imm/2048%2∧imm/2048%2<2:=by omega
  generalize imm/2048%2=y1 at*
  have hb2:0≤imm/2%1024∧imm/2%1024<1024:=by omega
  generalize imm/2%1024=y2 at*
  have hb3:0≤imm/1048576%2∧imm/1048576%2<2:=by omega
  generalize imm/1048576%2=y3 at*
  simp(disch:=omega) only[gb,iV,Ee,AZ,nh,xI,sx,AX,xJ,kY]
  try omega
 ·simp[bZ,aX,uq,dO]
  have hb0:0≤imm%4096∧imm%4096<4096:=by omega
  generalize imm%4096=y0 at*
  simp(disch:=omega) only[iV,nh,mF,gb,AW,kY,ka,qZ]
  try omega
 ·simp[bZ,aX,uq,dO]
  have hb0:0≤imm/2048%2∧imm/2048%2<2:=by omega
  generalize imm/2048%2=y0 at*
  have hb1:0≤imm/2%16∧imm/2%16<16:=by omega
  generalize imm/2%16=y1 at*
  have hb2:0≤imm/32%64∧imm/32%64<64:=by omega
  generalize imm/32%64=y2 at*
  have hb3:0≤imm/4096%2∧imm/4096%2<2:=by omega
  generalize imm/4096%2=y3 at*
  simp(disch:=omega) only[nh,GH,sA,AZ,mF,gb,iV,DZ,Ea,CN,xJ,ka,qZ,nW]
  try omega
 ·simp[bZ,aX,uq,dO]
  have hb0:0≤imm%32∧imm%32<32:=by omega
  generalize imm%32=y0 at*
  have hb1:0≤imm/32%128∧imm/32%128<128:=by omega
  generalize imm/32%128=y1 at*
  simp(disch:=omega) only[nh,sA,mF,gb,iV,kY,sy,ka,qZ,nW]
  try omega
 ·simp[bZ,aX,uq,dO,CR]
  have hb0:0≤imm%64∧imm%64<64:=by omega
  generalize imm%64=y0 at*
  have hs:0≤f7/2∧f7/2<64:=by omega
  generalize f7/2=z at*
  simp(disch:=omega) only[iV,nh,mF,gb,Ef,CM,kY,ka,qZ,CO]
  try omega
 ·simp[bZ,aX,uq,dO]
  have hb0:0≤imm%32∧imm%32<32:=by omega
  generalize imm%32=y0 at*
  simp(disch:=omega) only[iV,nh,mF,gb,sA,nW,kY,ka,qZ,sy]
  try omega
 ·simp[bZ,aX,dO]
  simp(disch:=omega) only[nh,mF,gb,iV,sA,kY,ka,qZ,nW,sy]
  try omega
 ·simp[bZ,aX,dO]
  simp(disch:=omega) only[iV,sx]
  try omega
theorem ur {a b:Int} (ha:0≤a∧a<4294967296) (hb:0≤b∧b<4294967296) (h:∀i:Nat,i<32→a/2^i%2=b/2^i%2):a=b:=by
 have:∀k:Nat,k≤32→a/2^(32-k)=b/2^(32-k):=by
  intro k
  induction k with
  |zero=>intro _;rw[show(2:Int)^(32-0)=4294967296 by rfl];omega
  |succ k ih=>
   intro hk
   have ih:=ih (by omega)
   have h1:=h (32-(k+1)) (by omega)
   have e:32-k=32-(k+1)+1:=by omega
   rw[e]at ih
   have ea:=lL a (32-(k+1))
   have eb:=lL b (32-(k+1))
   omega
 have:=this 32 (by omega)
 simpa using this
theorem y9 (w low v:Int) (c:Nat) (h:0≤low) (hlc:low+c+1≤32) (hw:0≤w) (hw':w<4294967296):c6 (c6 w low c v) (low+c) 1 (v/2^c%2)=c6 w low ((c+1:Nat):Int) v:=by
 have r1:=bY w low c v h (by omega) (by omega) hw hw'
 apply ur (bY _ _ _ _ (by omega) (by omega) (by omega) r1.1 r1.2) (bY _ _ _ _ h (by omega) (by omega) hw hw')
 intro i hi
 rw[jB _ _ _ _ (by omega) (by omega),jB _ _ _ _ h (by omega),jB _ _ _ _ h (by omega)]
 by_cases h1:low+c≤(i:Int)∧(i:Int)<low+c+1
 ·rw[av h1,av (by omega),show i-(low+(c:Int)).toNat=0 by omega,show i-low.toNat=c by omega,Int.pow_zero,Int.ediv_one];omega
 ·rw[ak h1]
  by_cases h2:low≤(i:Int)∧(i:Int)<low+c
  ·rw[av h2,av (by omega)]
  ·rw[ak h2,ak (by omega)]
theorem za (w low v:Int) (h:0≤low) (hl:low≤31) (hw:0≤w) (hw':w<4294967296):c6 w low 0 v=w:=by
 apply ur (bY _ _ _ _ h (by omega) (by omega) hw hw') ⟨hw,hw'⟩
 intro i hi
 rw[jB _ _ _ _ h (by omega),ak (by omega)]
theorem bB {w v:Int} (k c:Nat) (P Q:Int) (hP:P=2^k) (hQ:Q=2^c) (h:w/P%Q=0):c6 w (k:Int) (c:Int) v=w+v%Q*P:=by
 subst hP hQ
 simp only[c6,aT]
 have hk:(0:Int)<2^k:=Int.pow_pos (by decide)
 have hc:(0:Int)<2^c:=Int.pow_pos (by decide)
 have e1:=Int.emod_add_mul_ediv w (2^k)
 have e2:=Int.emod_add_mul_ediv (w/2^k) (2^c)
 rw[h,Int.zero_add,Int.ediv_ediv_of_nonneg (by omega),←Int.pow_add]at e2
 rw[e2,Int.mul_add]
 rw[Int.mul_comm (v%2^c)]
 omega
theorem zb (x:Int×Int×Int×Int×Int) (hx: -9223372036854775808≤x.2.2.2.2) (hx':x.2.2.2.2≤9223372036854775807) (w:Int) (hw:0≤w) (hw':w<4294967296) (i:Nat) (h:1≤i) (h':i≤20):
  Zh.a x w (i:Int)=Zh.a x (c6 w (if i=20 then 31 else if 11<i then i else if 10<i then 9+i else 20+i:Nat) 1 (x.2.2.2.2/2^i%2)) ((i+1:Nat):Int):=by
 rw[Zh.a_eq,show decide ((i:Int)<21)=true by simp;omega,gG _ _ hx hx' (by omega) (by omega),aQ (n:=9+(i:Int)) (by omega) (by omega),aQ (n:=20+(i:Int)) (by omega) (by omega),aQ (n:=(i:Int)+1) (by omega) (by omega)]
 simp only[aA,ac,aT,ae]
 have e0:((i+1:Nat):Int)=(i:Int)+1:=by omega
 rw[e0]
 by_cases h1:i=20
 ·subst h1;rw[show decide (((20:Nat):Int)=20)=true by rfl,cE _ _ _ _ (by omega) (by omega) (by omega) hw hw' (by omega) (by omega)];rfl
 ·by_cases h2:11<i
  ·rw[show decide ((i:Int)=20)=false by simp;omega,show decide ((i:Int)>11)=true by simp;omega,show decide ((i:Int)>10)=true by simp;omega,ak h1,av h2]
   simp only[ac,af]
   rw[cE _ _ _ _ (by omega) (by omega) (by omega) hw hw' (by omega) (by omega)];rfl
  ·by_cases h3:10<i
   ·rw[show decide ((i:Int)=20)=false by simp;omega,show decide ((i:Int)>11)=false by simp;omega,show decide ((i:Int)>10)=true by simp;omega,ak h1,ak h2,av h3]
    simp only[ac,af]
    rw[cE _ _ _ _ (by omega) (by omega) (by omega) hw hw' (by omega) (by omega),show((9+i:Nat):Int)=9+(i:Int) by omega];rfl
   ·rw[show decide ((i:Int)=20)=false by simp;omega,show decide ((i:Int)>11)=false by simp;omega,show decide ((i:Int)>10)=false by simp;omega,ak h1,ak h2,ak h3]
    simp only[af]
    rw[cE _ _ _ _ (by omega) (by omega) (by omega) hw hw' (by omega) (by omega),show((20+i:Nat):Int)=20+(i:Int) by omega];rfl
theorem pg (L:Int→Nat→Option Int) (v:Int) (pl:Nat→Nat) (lo hi:Nat) (step:∀(w:Int) (i:Nat),0≤w→w<4294967296→lo≤i→i<hi→L w i=L (c6 w (pl i:Nat) 1 (v/2^i%2)) (i+1))
  (a p:Nat) (ha:lo≤a) (w:Int) (hw:0≤w) (hw':w<4294967296) (n:Nat) (hn:a+n≤hi) (hp1:p≤31) (hpn:p+n≤32) (hp:∀c:Nat,c<n→pl (a+c)=p+c):
  ∀c:Nat,c≤n→L w a=L (c6 w (p:Int) (c:Int) (v/2^a)) (a+c):=by
 intro c
 induction c with
 |zero=>intro _;rw[show((0:Nat):Int)=0 by rfl,za _ _ _ (by omega) (by omega) hw hw',Nat.add_zero]
 |succ c ih=>
  intro hc
  have r:=bY w p c (v/2^a) (by omega) (by omega) (by omega) hw hw'
  rw[ih (by omega),step _ (a+c) r.1 r.2 (by omega) (by omega),hp c (by omega)]
  have e:v/2^(a+c)=v/2^a/2^c:=by rw[Int.pow_add,Int.ediv_ediv_of_nonneg (Int.le_of_lt (Int.pow_pos (by decide)))]
  rw[e,show((p+c:Nat):Int)=(p:Int)+(c:Int) by omega,y9 _ _ _ _ (by omega) (by omega) hw hw']
  rfl
def Eg (i:Nat):Nat:=if i=20 then 31 else if 11<i then i else if 10<i then 9+i else 20+i
def ph (i:Nat):Nat:=if i=12 then 31 else if i=11 then 7 else if 4<i then 20+i else 7+i
theorem A0 (x:Int×Int×Int×Int×Int) (hx: -9223372036854775808≤x.2.2.2.2) (hx':x.2.2.2.2≤9223372036854775807) (w:Int) (hw:0≤w) (hw':w<4294967296):
  Zh.a x w 1=some (c6 (c6 (c6 (c6 w 21 10 (x.2.2.2.2/2)) 20 1 (x.2.2.2.2/2048)) 12 8 (x.2.2.2.2/4096)) 31 1 (x.2.2.2.2/1048576)):=by
 have st:=pg (fun w i=>Zh.a x w (i:Int)) x.2.2.2.2 Eg 1 21 (fun w i h1 h2 h3 h4=>zb x hx hx' w h1 h2 i h3 (by omega))
 have r1:=bY w 21 10 (x.2.2.2.2/2) (by decide) (by decide) (by decide) hw hw'
 have r2:=bY _ 20 1 (x.2.2.2.2/2048) (by decide) (by decide) (by decide) r1.1 r1.2
 have r3:=bY _ 12 8 (x.2.2.2.2/4096) (by decide) (by decide) (by decide) r2.1 r2.2
 refine(st 1 21 (by decide) w hw hw' 10 (by decide) (by decide) (by decide) (by decide) 10 (by decide)).trans ?_
 refine(st 11 20 (by decide) _ r1.1 r1.2 1 (by decide) (by decide) (by decide) (by decide) 1 (by decide)).trans ?_
 refine(st 12 12 (by decide) _ r2.1 r2.2 8 (by decide) (by decide) (by decide) (by decide) 8 (by decide)).trans ?_
 refine(st 20 31 (by decide) _ r3.1 r3.2 1 (by decide) (by decide) (by decide) (by decide) 1 (by decide)).trans ?_
 exact Zh.a_eq _ _ _
theorem ut (x:Int×Int×Int×Int×Int) (hx: -9223372036854775808≤x.2.2.2.2) (hx':x.2.2.2.2≤9223372036854775807) (w:Int) (hw:0≤w) (hw':w<4294967296) (i:Nat) (h:1≤i) (h':i≤12):
  Zh.b x w (i:Int)=Zh.b x (c6 w (ph i:Nat) 1 (x.2.2.2.2/2^i%2)) ((i+1:Nat):Int):=by
 rw[Zh.b_eq,show decide ((i:Int)<13)=true by simp;omega,gG _ _ hx hx' (by omega) (by omega),aQ (n:=7+(i:Int)) (by omega) (by omega),aQ (n:=20+(i:Int)) (by omega) (by omega),aQ (n:=(i:Int)+1) (by omega) (by omega)]
 simp only[aA,ac,aT,ae,ph]
 have e0:((i+1:Nat):Int)=(i:Int)+1:=by omega
 rw[e0]
 by_cases h1:i=12
 ·subst h1;rw[show decide (((12:Nat):Int)=12)=true by rfl,cE _ _ _ _ (by omega) (by omega) (by omega) hw hw' (by omega) (by omega)];rfl
 ·by_cases h2:i=11
  ·subst h2
   rw[show decide (((11:Nat):Int)=12)=false by rfl,show decide (((11:Nat):Int)>4)=true by rfl,show decide (((11:Nat):Int)=11)=true by rfl]
   simp only[ac,af]
   rw[cE _ _ _ _ (by omega) (by omega) (by omega) hw hw' (by omega) (by omega)];rfl
  ·by_cases h3:4<i
   ·rw[show decide ((i:Int)=12)=false by simp;omega,show decide ((i:Int)=11)=false by simp;omega,show decide ((i:Int)>4)=true by simp;omega,ak h1,ak h2,av h3]
    simp only[ac,af]
    rw[cE _ _ _ _ (by omega) (by omega) (by omega) hw hw' (by omega) (by omega),show((20+i:Nat):Int)=20+(i:Int) by omega];rfl
   ·rw[show decide ((i:Int)=12)=false by simp;omega,show decide ((i:Int)=11)=false by simp;omega,show decide ((i:Int)>4)=false by simp;omega,ak h1,ak h2,ak h3]
    simp only[af]
    rw[cE _ _ _ _ (by omega) (by omega) (by omega) hw hw' (by omega) (by omega),show((7+i:Nat):Int)=7+(i:Int) by omega];rfl
theorem wu (x:Int×Int×Int×Int×Int) (hx: -9223372036854775808≤x.2.2.2.2) (hx':x.2.2.2.2≤9223372036854775807) (w:Int) (hw:0≤w) (hw':w<4294967296):
  Zh.b x w 1=some (c6 (c6 (c6 (c6 w 8 4 (x.2.2.2.2/2)) 25 6 (x.2.2.2.2/32)) 7 1 (x.2.2.2.2/2048)) 31 1 (x.2.2.2.2/4096)):=by
 have st:=pg (fun w i=>Zh.b x w (i:Int)) x.2.2.2.2 ph 1 13 (fun w i h1 h2 h3 h4=>ut x hx hx' w h1 h2 i h3 (by omega))
 have r1:=bY w 8 4 (x.2.2.2.2/2) (by decide) (by decide) (by decide) hw hw'
 have r2:=bY _ 25 6 (x.2.2.2.2/32) (by decide) (by decide) (by decide) r1.1 r1.2
 have r3:=bY _ 7 1 (x.2.2.2.2/2048) (by decide) (by decide) (by decide) r2.1 r2.2
 refine(st 1 8 (by decide) w hw hw' 4 (by decide) (by decide) (by decide) (by decide) 4 (by decide)).trans ?_
 refine(st 5 25 (by decide) _ r1.1 r1.2 6 (by decide) (by decide) (by decide) (by decide) 6 (by decide)).trans ?_
 refine(st 11 7 (by decide) _ r2.1 r2.2 1 (by decide) (by decide) (by decide) (by decide) 1 (by decide)).trans ?_
 refine(st 12 31 (by decide) _ r3.1 r3.2 1 (by decide) (by decide) (by decide) (by decide) 1 (by decide)).trans ?_
 exact Zh.b_eq _ _ _
theorem wv (x:Int×Int×Int×Int×Int) (hx: -9223372036854775808≤x.2.2.2.2) (hx':x.2.2.2.2≤9223372036854775807) (w:Int) (hw:0≤w) (hw':w<4294967296) (i:Nat) (h:5≤i) (h':i≤11):
  Zh.c x w (i:Int)=Zh.c x (c6 w (20+i:Nat) 1 (x.2.2.2.2/2^i%2)) ((i+1:Nat):Int):=by
 rw[Zh.c_eq,show decide ((i:Int)<12)=true by simp;omega,gG _ _ hx hx' (by omega) (by omega),aQ (n:=20+(i:Int)) (by omega) (by omega),aQ (n:=(i:Int)+1) (by omega) (by omega)]
 simp only[ac,aT,ae]
 rw[cE _ _ _ _ (by omega) (by omega) (by omega) hw hw' (by omega) (by omega),show((20+i:Nat):Int)=20+(i:Int) by omega];rfl
theorem zc (x:Int×Int×Int×Int×Int) (hx: -9223372036854775808≤x.2.2.2.2) (hx':x.2.2.2.2≤9223372036854775807) (w:Int) (hw:0≤w) (hw':w<4294967296):
  Zh.c x w 5=some (c6 w 25 7 (x.2.2.2.2/32)):=by
 have st:=pg (fun w i=>Zh.c x w (i:Int)) x.2.2.2.2 (fun i=>20+i) 5 12 (fun w i h1 h2 h3 h4=>wv x hx hx' w h1 h2 i h3 (by omega))
 refine(st 5 25 (by decide) w hw hw' 7 (by decide) (by decide) (by decide) (by decide) 7 (by decide)).trans ?_
 exact Zh.c_eq _ _ _
theorem iW {w v:Int} (hw:0≤w) (hw':w<4294967296) (h:w/128%32=0) (hv: -9223372036854775808≤v) (hv':v≤9223372036854775807):Zg w 7 5 v=some (w+v%32*128):=
 (cE w 7 5 v (by decide) (by decide) (by decide) hw hw' hv hv').trans (congrArg some (bB 7 5 128 32 rfl rfl h))
theorem zd {w v:Int} (hw:0≤w) (hw':w<4294967296) (h:w/4096%1048576=0) (hv: -9223372036854775808≤v) (hv':v≤9223372036854775807):Zg w 12 20 v=some (w+v%1048576*4096):=
 (cE w 12 20 v (by decide) (by decide) (by decide) hw hw' hv hv').trans (congrArg some (bB 12 20 4096 1048576 rfl rfl h))
theorem iB {w v:Int} (hw:0≤w) (hw':w<4294967296) (h:w/4096%8=0) (hv: -9223372036854775808≤v) (hv':v≤9223372036854775807):Zg w 12 3 v=some (w+v%8*4096):=
 (cE w 12 3 v (by decide) (by decide) (by decide) hw hw' hv hv').trans (congrArg some (bB 12 3 4096 8 rfl rfl h))
theorem iC {w v:Int} (hw:0≤w) (hw':w<4294967296) (h:w/32768%32=0) (hv: -9223372036854775808≤v) (hv':v≤9223372036854775807):Zg w 15 5 v=some (w+v%32*32768):=
 (cE w 15 5 v (by decide) (by decide) (by decide) hw hw' hv hv').trans (congrArg some (bB 15 5 32768 32 rfl rfl h))
theorem q6 {w v:Int} (hw:0≤w) (hw':w<4294967296) (h:w/1048576%4096=0) (hv: -9223372036854775808≤v) (hv':v≤9223372036854775807):Zg w 20 12 v=some (w+v%4096*1048576):=
 (cE w 20 12 v (by decide) (by decide) (by decide) hw hw' hv hv').trans (congrArg some (bB 20 12 1048576 4096 rfl rfl h))
theorem lN {w v:Int} (hw:0≤w) (hw':w<4294967296) (h:w/1048576%32=0) (hv: -9223372036854775808≤v) (hv':v≤9223372036854775807):Zg w 20 5 v=some (w+v%32*1048576):=
 (cE w 20 5 v (by decide) (by decide) (by decide) hw hw' hv hv').trans (congrArg some (bB 20 5 1048576 32 rfl rfl h))
theorem A3 {w v:Int} (hw:0≤w) (hw':w<4294967296) (h:w/1048576%64=0) (hv: -9223372036854775808≤v) (hv':v≤9223372036854775807):Zg w 20 6 v=some (w+v%64*1048576):=
 (cE w 20 6 v (by decide) (by decide) (by decide) hw hw' hv hv').trans (congrArg some (bB 20 6 1048576 64 rfl rfl h))
theorem pi {w v:Int} (hw:0≤w) (hw':w<4294967296) (h:w/33554432%128=0) (hv: -9223372036854775808≤v) (hv':v≤9223372036854775807):Zg w 25 7 v=some (w+v%128*33554432):=
 (cE w 25 7 v (by decide) (by decide) (by decide) hw hw' hv hv').trans (congrArg some (bB 25 7 33554432 128 rfl rfl h))
theorem ww {w v:Int} (h:w/2097152%1024=0):c6 w 21 10 v=w+v%1024*2097152:=bB 21 10 2097152 1024 rfl rfl h
theorem ze {w v:Int} (h:w/1048576%2=0):c6 w 20 1 v=w+v%2*1048576:=bB 20 1 1048576 2 rfl rfl h
theorem zf {w v:Int} (h:w/4096%256=0):c6 w 12 8 v=w+v%256*4096:=bB 12 8 4096 256 rfl rfl h
theorem q7 {w v:Int} (h:w/2147483648%2=0):c6 w 31 1 v=w+v%2*2147483648:=bB 31 1 2147483648 2 rfl rfl h
theorem A4 {w v:Int} (h:w/256%16=0):c6 w 8 4 v=w+v%16*256:=bB 8 4 256 16 rfl rfl h
theorem zg {w v:Int} (h:w/33554432%64=0):c6 w 25 6 v=w+v%64*33554432:=bB 25 6 33554432 64 rfl rfl h
theorem A5 {w v:Int} (h:w/128%2=0):c6 w 7 1 v=w+v%2*128:=bB 7 1 128 2 rfl rfl h
theorem zh {w v:Int} (h:w/33554432%128=0):c6 w 25 7 v=w+v%128*33554432:=bB 25 7 33554432 128 rfl rfl h
theorem fE (x:Int×Int×Int×Int×Int) (h:1≤x.1) (h':x.1≤64) (hr:jE x) (hu:(cP x.1).1=1→x.2.2.2.2%4096=0):Zh x=some (dO (cP x.1) x):=by
 rw[Hd,eZ _ (by omega) h']
 have hs:=mE x.1 h h'
 generalize cP x.1=s at*
 obtain⟨n,rd',rs1,rs2,imm⟩:=x
 obtain⟨f,c,f3,f7⟩:=s
 obtain⟨⟨d1,d2⟩,⟨a1,a2⟩,⟨b1,b2⟩,⟨i1,i2⟩⟩:=hr
 obtain⟨s1,⟨s2,s2'⟩,⟨s3,s3'⟩,⟨s4,s4'⟩,s5,s6⟩:=fP hs
 clear hs
 dsimp only at*
 simp only[ae,aA]
 rcases ga s1 with rfl|rfl|rfl|rfl|rfl|rfl|rfl|rfl|rfl
 ·have hu:=hu rfl
  have ht:imm.tdiv 4096=imm/4096:=by
   rw[Int.tdiv_eq_ediv_of_dvd];exact Int.dvd_of_emod_eq_zero hu
  simp only[eC,↓reduceIte,decide_true,ht]
  rw[aQ (n:=imm/4096) (by omega) (by omega),iW (by omega) (by omega) (by omega) (by omega) (by omega)]
  simp only[ae]
  rw[zd (by omega) (by omega) (by omega) (by omega) (by omega)]
  simp[dO];omega
 ·simp(disch:=omega) [iW,A0,dO]
  rw[ww (by omega)]
  have hb0:0≤imm/2%1024∧imm/2%1024<1024:=by omega
  generalize imm/2%1024=y0 at*
  rw[ze (by omega)]
  have hb1:0≤imm/2048%2∧imm/2048%2<2:=by omega
  generalize imm/2048%2=y1 at*
  rw[zf (by omega)]
  have hb2:0≤imm/4096%256∧imm/4096%256<256:=by omega
  generalize imm/4096%256=y2 at*
  rw[q7 (by omega)]
  have hb3:0≤imm/1048576%2∧imm/1048576%2<2:=by omega
  generalize imm/1048576%2=y3 at*
  omega
 ·simp(disch:=omega) [iW,iB,iC,q6,dO]
  omega
 ·simp(disch:=omega) [iB,iC,lN,wu,dO]
  rw[A4 (by omega)]
  have hb0:0≤imm/2%16∧imm/2%16<16:=by omega
  generalize imm/2%16=y0 at*
  rw[zg (by omega)]
  have hb1:0≤imm/32%64∧imm/32%64<64:=by omega
  generalize imm/32%64=y1 at*
  rw[A5 (by omega)]
  have hb2:0≤imm/2048%2∧imm/2048%2<2:=by omega
  generalize imm/2048%2=y2 at*
  rw[q7 (by omega)]
  have hb3:0≤imm/4096%2∧imm/4096%2<2:=by omega
  generalize imm/4096%2=y3 at*
  omega
 ·simp(disch:=omega) [iW,iB,iC,lN,zc,dO]
  have hb0:0≤imm%32∧imm%32<32:=by omega
  generalize imm%32=y0 at*
  rw[zh (by omega)]
  have hb1:0≤imm/32%128∧imm/32%128<128:=by omega
  generalize imm/32%128=y1 at*
  omega
 ·have hf:=s5 rfl
  simp(disch:=omega) [iW,iB,iC,pi,A3,dO]
  omega
 ·simp(disch:=omega) [iW,iB,iC,pi,lN,dO]
  omega
 ·simp(disch:=omega) [iW,iB,iC,pi,lN,dO]
  omega
 ·simp(disch:=omega) [q6,dO]
  omega
def fF (f w:Int):Int:=
 if f=1 then w/4096%1048576*4096
 else if f=2 then w/4096%256*4096+w/1048576%2*2048+w/2097152%1024*2+w/2147483648%2*1048576
 else if f=3 then w/1048576%4096
 else if f=4 then w/128%2*2048+w/256%16*2+w/33554432%64*32+w/2147483648%2*4096
 else if f=5 then w/128%32+w/33554432%128*32
 else if f=6 then w/1048576%64
 else if f=7 then w/1048576%32
 else 0
def eD (f:Int):Nat:=if f=1 then 32 else if f=2 then 21 else if f=3∨f=5 then 12 else if f=4 then 13 else 0
def nD (f w:Int):Int:=if 0<eD f then cu (fF f w) (eD f)else fF f w
def eL (n f w:Int):Int×Int×Int×Int×Int:=
 (n,(if(aX f).1 then w/128%32 else 0),(if(aX f).2.1 then w/32768%32 else 0),(if(aX f).2.2 then w/1048576%32 else 0),nD f w)
theorem uu {f:Int} (h:1≤f∧f≤9):Ig f=some ((eD f:Nat):Int):=by
 rw[EU]
 rcases ga h with rfl|rfl|rfl|rfl|rfl|rfl|rfl|rfl|rfl<;>rfl
theorem wx {f w:Int} (hf:1≤f∧f≤9) (h:0≤w) (h':w<4294967296): -2147483648≤nD f w∧nD f w≤2147483647:=by
 rcases ga hf with rfl|rfl|rfl|rfl|rfl|rfl|rfl|rfl|rfl<;>simp[nD,eD,fF,cu]<;>omega
theorem ge {n f w:Int} (hf:1≤f∧f≤9) (h:0≤w) (h':w<4294967296):jE (eL n f w):=by
 have hi:=wx hf h h'
 refine⟨?_, ?_, ?_, ?_⟩
 ·simp only[eL];split<;>omega
 ·simp only[eL];split<;>omega
 ·simp only[eL];split<;>omega
 ·simp only[eL];omega
def lO (w:Int) (i:Int) (p:Int×Int×Int):Int:=ib .i64 i (cT .i64 (w/2^p.2.2.toNat%2^p.2.1.toNat) p.1)
theorem A6 (w:Int) (z:Int×Int×Int×Int×Int) (s:Int×Int×Int×Int) (os:List (ByteArray×Int×Int×Int×Int)) (ln n:Int) (op rd' r1 r2:Int) (ps:List (Int×Int×Int)) (hp:lM ps):
  ∀(k j:Nat) (i:Int),j+k=ps.length→lj.b w z s (op,rd',r1,r2,i) os ln n ps (ps.length:Int) (j:Int)=lj.b w z s (op,rd',r1,r2,(ps.drop j).foldl (lO w) i) os ln n ps (ps.length:Int) (ps.length:Int):=by
 intro k
 induction k with
 |zero=>
   intro j i h;have:j=ps.length:=by omega
   subst this;simp
 |succ k ih=>
  intro j i h
  have hj:j<ps.length:=by omega
  obtain⟨p1,p2,p3,p4,p5,p6⟩:=hp.2 ps[j] (List.getElem_mem hj)
  have e:=bj (τ:= .pair (.int .i64) (.pair (.int .i64) (.int .i64))) ps j hj
  rw[lj.b_eq,ap,aq,e,au j ps.length hj (by have:=hp.1;omega)]
  simp only[ah hj,ac]
  rw[eY _ _ _ (by omega) (by omega) (by omega) (by omega)]
  simp only[ae]
  rw[show decide (ps[j].1<0)=false by simp;omega]
  simp only[af]
  rw[ih (j+1) _ (by omega),List.drop_eq_getElem_cons hj,List.foldl_cons]
  rfl
theorem A7 {y:Int} (h0:0≤y) (h:y≤2147483647):cT .i64 y 11=y*2048:=dT 11 2048 rfl (by decide) h0 (by omega)
theorem DA {y:Int} (h0:0≤y) (h:y≤2147483647):cT .i64 y 1=y*2:=dT 1 2 rfl (by decide) h0 (by omega)
theorem DB {y:Int} (h0:0≤y) (h:y≤2147483647):cT .i64 y 5=y*32:=dT 5 32 rfl (by decide) h0 (by omega)
theorem xL {y:Int} (h0:0≤y) (h:y≤2147483647):cT .i64 y 0=y:=by
 rw[lJ (by decide) (by decide)];simp;exact aQ (by omega) (by omega)
theorem nX {y:Int} (h0:0≤y) (h:y≤2147483647):ib .i64 0 y=y:=by
 have:=bw (x:=0) (y:=y) (P:=1) (Q:=2147483648) 0 31 rfl rfl (by decide) (by decide) (by decide) h0 (by omega) (by omega)
 simpa using this
theorem uv {f w:Int} (hf:1≤f∧f≤9) (h:0≤w) (h':w<4294967296):(bZ f).foldl (lO w) 0=fF f w:=by
 rcases ga hf with rfl|rfl|rfl|rfl|rfl|rfl|rfl|rfl|rfl
 ·simp[bZ,lO,fF]
  have hb0:0≤w/4096%1048576∧w/4096%1048576<1048576:=by omega
  generalize w/4096%1048576=y0 at*
  simp(disch:=omega) only[gb,um]
  omega
 ·simp[bZ,lO,fF]
  have hb0:0≤w/4096%256∧w/4096%256<256:=by omega
  generalize w/4096%256=y0 at*
  have hb1:0≤w/1048576%2∧w/1048576%2<2:=by omega
  generalize w/1048576%2=y1 at*
  have hb2:0≤w/2097152%1024∧w/2097152%1024<1024:=by omega
  generalize w/2097152%1024=y2 at*
  have hb3:0≤w/2147483648%2∧w/2147483648%2<2:=by omega
  generalize w/2147483648%2=y3 at*
  simp(disch:=omega) only[gb,A7,DA,iV,xI,xK,CP,sx]
  omega
 ·simp[bZ,lO,fF]
  have hb0:0≤w/1048576%4096∧w/1048576%4096<4096:=by omega
  generalize w/1048576%4096=y0 at*
  simp(disch:=omega) only[xL,nX]
 ·simp[bZ,lO,fF]
  have hb0:0≤w/128%2∧w/128%2<2:=by omega
  generalize w/128%2=y0 at*
  have hb1:0≤w/256%16∧w/256%16<16:=by omega
  generalize w/256%16=y1 at*
  have hb2:0≤w/33554432%64∧w/33554432%64<64:=by omega
  generalize w/33554432%64=y2 at*
  have hb3:0≤w/2147483648%2∧w/2147483648%2<2:=by omega
  generalize w/2147483648%2=y3 at*
  simp(disch:=omega) only[A7,DA,DB,gb,xK,Eb,Ec,CQ]
  omega
 ·simp[bZ,lO,fF]
  have hb0:0≤w/128%32∧w/128%32<32:=by omega
  generalize w/128%32=y0 at*
  have hb1:0≤w/33554432%128∧w/33554432%128<128:=by omega
  generalize w/33554432%128=y1 at*
  simp(disch:=omega) only[xL,DB,nX,Ed]
 ·simp[bZ,lO,fF]
  have hb0:0≤w/1048576%64∧w/1048576%64<64:=by omega
  generalize w/1048576%64=y0 at*
  simp(disch:=omega) only[xL,nX]
 ·simp[bZ,lO,fF]
  have hb0:0≤w/1048576%32∧w/1048576%32<32:=by omega
  generalize w/1048576%32=y0 at*
  simp(disch:=omega) only[xL,nX]
 ·rfl
 ·rfl
theorem CS {f w:Int} (hf:1≤f∧f≤9):(if 0<eD f then HN (fF f w) ((eD f:Nat):Int)else some (fF f w))=some (nD f w):=by
 unfold nD
 rcases ga hf with rfl|rfl|rfl|rfl|rfl|rfl|rfl|rfl|rfl<;>simp[eD]<;>rw[wt _ _ (by decide) (by decide)]<;>rfl
theorem Eh (n:Int) (h:0≤n) (h':n≤64):∃os:List (ByteArray×Int×Int×Int×Int),HK=some os∧os.length=65∧∀m:Nat,m≤64→((rd (τ:=(.pair .str (.pair (.int .i64) (.pair (.int .i64) (.pair (.int .i64) (.int .i64)))))) os m).2)=cP m:=by
 refine⟨_,Cc,rfl,fun m hm=> ?_⟩
 obtain⟨k,rfl⟩:∃k:Fin 65,m=k.val:=⟨⟨m,by omega⟩,rfl⟩
 clear hm;revert k
 decide+kernel
theorem qh (w:Int) (h:0≤w) (h':w<4294967296) (z:Int×Int×Int×Int×Int) (os:List (ByteArray×Int×Int×Int×Int)) (ho:os.length=65) (hs:∀m:Nat,m≤64→((rd (τ:=(.pair .str (.pair (.int .i64) (.pair (.int .i64) (.pair (.int .i64) (.int .i64)))))) os m).2)=cP m) (n:Nat) (h1:1≤n) (hn:n≤64):
  lj.a w z os 65 n=if(cP n).2.1=w%128∧dO (cP n) (eL n (cP n).1 w)=w then some (eL n (cP n).1 w,true)else lj.a w z os 65 ((n+1:Nat):Int):=by
 have hsf:=mE n (by omega) (by omega)
 rw[lj.a_eq,show decide ((n:Int)<65)=true by simp;omega,ho,show aH (n:Int) 65=true by rw[aq];simp;omega,hs n hn,show decide ((n:Int)=0)=false by simp;omega,eY w 0 7 (by decide) (by decide) (by decide) (by decide),aQ (n:=(n:Int)+1) (by omega) (by omega)]
 have e0:((n+1:Nat):Int)=(n:Int)+1:=by omega
 rw[e0]
 simp only[ac,af,aA,ae]
 rw[show w/2^(0:Int).toNat%2^(7:Int).toNat=w%128 by simp]
 by_cases hc:(cP n).2.1=w%128
 ·have henc:∀x:Int×Int×Int×Int×Int,x.1=(n:Int)→jE x→xX x=some (dO (cP n) x):=fun x hx hr=>by rw[←hx];exact jb x (by omega) (by omega) hr
  generalize hS:cP n=s at*
  obtain⟨f,c,f3,f7⟩:=s
  obtain⟨s1,⟨s2,s2'⟩,⟨s3,s3'⟩,⟨s4,s4'⟩,s5,s6⟩:=fP hsf
  obtain⟨hp,hpo⟩:=pd s1
  dsimp only at*
  rw[ah hc,hp]
  simp only[eq_true hc,true_and,aV,af,ae]
  clear hc
  rw[show(0:Int)=((0:Nat):Int) by rfl,A6 _ _ _ _ _ _ _ _ _ _ _ hpo (bZ f).length 0 _ (by omega),List.drop_zero,show(((0:Nat):Int))=0 by rfl,uv s1 h h',lj.b_eq,ap]
  simp only[a9,decide_false,af,uu s1,pf s1,ae,aA]
  have hi:=CS (w:=w) s1
  have he:=henc (eL n f w) rfl (ge s1 h h')
  have b1:Cd w 7 5=some (w/128%32):=eY w 7 5 (by decide) (by decide) (by decide) (by decide)
  have b2:Cd w 15 5=some (w/32768%32):=eY w 15 5 (by decide) (by decide) (by decide) (by decide)
  have b3:Cd w 20 5=some (w/1048576%32):=eY w 20 5 (by decide) (by decide) (by decide) (by decide)
  rw[aQ (n:=(n:Int)+1) (by omega) (by omega)]
  clear henc hS hs ho hp hpo s5 s6 hsf
  unfold eL at he⊢
  generalize lj.a w z os 65 (↑n+1)=nx
  generalize fF f w=iu at*
  generalize nD f w=im at*
  simp only[b1,b2,b3,ae]
  rcases ga s1 with rfl|rfl|rfl|rfl|rfl|rfl|rfl|rfl|rfl<;>simp[eD,aX]at hi he⊢ <;>first|(rw[hi,ae,he];simp[eC])|(rw[hi,he];simp[eC])
 ·rw[ak (fun hh=>hc hh.1),show decide ((cP n).2.1=w%128)=false by simpa using hc]
  rfl
theorem uw (n:Int):Iu n=some (decide (1≤n)&&decide (n≤64)):=by
 rw[FH,xh]
 by_cases h:n≥1<;>simp[h]
theorem sB (n:Int):Hz n=some (decide (0≤n)&&decide (n≤31)):=by
 rw[FI,xh]
 by_cases h:n≥0<;>simp[h]
theorem fu (n a b:Int):nJ n a b=some (decide (a≤n)&&decide (n≤b)):=by
 rw[xh]
 by_cases h:n≥a<;>simp[h]
theorem cU (n a b:Int):Zx n a b=some (decide (a≤n)&&decide (n≤b)):=by
 rw[xV]
 by_cases h:a≤n<;>simp[h]
def gf (f i:Int):Bool:=
 if f=1 then decide (-2147483648≤i)&&decide (i≤2147479552)&&decide (i%4096=0)
 else if f=2 then decide (-1048576≤i)&&decide (i≤1048574)&&decide (i%2=0)
 else if f=3∨f=5 then decide (-2048≤i)&&decide (i≤2047)
 else if f=4 then decide (-4096≤i)&&decide (i≤4094)&&decide (i%2=0)
 else if f=6 then decide (0≤i)&&decide (i≤63)
 else if f=7 then decide (0≤i)&&decide (i≤31)
 else decide (i=0)
def ce (x:Int×Int×Int×Int×Int):Bool:=
 decide (1≤x.1)&&decide (x.1≤64)&&decide (0≤x.2.1)&&decide (x.2.1≤31)&&decide (0≤x.2.2.1)&&decide (x.2.2.1≤31)&&decide (0≤x.2.2.2.1)&&decide (x.2.2.2.1≤31)
  &&((aX (cP x.1).1).1||decide (x.2.1=0))&&((aX (cP x.1).1).2.1||decide (x.2.2.1=0))&&((aX (cP x.1).1).2.2||decide (x.2.2.2.1=0))&&gf (cP x.1).1 x.2.2.2.2
theorem jF (x:Int×Int×Int×Int×Int):HW x=some (ce x):=by
 rw[FJ]
 obtain⟨n,d,a,b,i⟩:=x
 simp only[aA,uw,sB,fu,ae,ce]
 by_cases hn:1≤n∧n≤64
 ·by_cases hd:0≤d∧d≤31
  ·by_cases ha:0≤a∧a≤31
   ·by_cases hb:0≤b∧b≤31
    ·have hs:=mE n hn.1 hn.2
     rw[eZ n (by omega) hn.2]
     generalize cP n=s at*
     obtain⟨f,c,f3,f7⟩:=s
     have s1:=(fP hs).1
     simp only[hn,hd,ha,hb,decide_true,Bool.and_self,aV,af,ae,Bool.true_and]
     clear hs
     have t1:decide (i.tmod 4096=0)=decide (i%4096=0):=by
      congr 1;exact propext ⟨fun h=>by rw[←Int.dvd_iff_tmod_eq_zero]at h;omega,fun h=>by rw[←Int.dvd_iff_tmod_eq_zero];omega⟩
     have t2:decide (i.tmod 2=0)=decide (i%2=0):=by
      congr 1;exact propext ⟨fun h=>by rw[←Int.dvd_iff_tmod_eq_zero]at h;omega,fun h=>by rw[←Int.dvd_iff_tmod_eq_zero];omega⟩
     rw[t1,t2]
     rcases ga s1 with rfl|rfl|rfl|rfl|rfl|rfl|rfl|rfl|rfl<;>simp[aX,gf]<;>by_cases e1:d=0<;>by_cases e2:a=0<;>by_cases e3:b=0<;>simp[e1,e2,e3,eC]<;>(first|done|(split<;>first|(simp_all;done)|(simp;intro q1 q2;omega)))
    ·have:(decide (0≤b)&&decide (b≤31))=false:=by simpa using hb
     have h2:¬(0≤b∧b≤31):=hb
     rw[this]
     simp[hn,hd,ha]
     by_cases q:0≤b<;>simp[q]<;>intros<;>omega
   ·have:(decide (0≤a)&&decide (a≤31))=false:=by simpa using ha
    rw[this]
    simp[hn,hd]
    by_cases q:0≤a<;>simp[q]<;>intros<;>omega
  ·have:(decide (0≤d)&&decide (d≤31))=false:=by simpa using hd
   rw[this]
   simp[hn]
   by_cases q:0≤d<;>simp[q]<;>intros<;>omega
 ·have:(decide (1≤n)&&decide (n≤64))=false:=by simpa using hn
  rw[this]
  simp
theorem gg {n:Int} (h:1≤n) (h':n≤64):1≤(cP n).1∧(cP n).1≤9:=by
 have:=mE n h h'
 generalize cP n=s at*
 exact(fP this).1
theorem q8 {n f w:Int} (hn:1≤n) (hn':n≤64) (hf:f=(cP n).1) (h:0≤w) (h':w<4294967296):ce (eL n f w)=true:=by
 have s1:=gg hn hn'
 obtain⟨⟨d1,d2⟩,⟨a1,a2⟩,⟨b1,b2⟩,⟨i1,i2⟩⟩:=ge (n:=n) (hf▸s1) h h'
 have hi:gf f (nD f w)=true:=by
  subst hf
  rcases ga s1 with e|e|e|e|e|e|e|e|e<;>rw[e]<;>simp[gf,nD,eD,fF,cu]<;>omega
 subst hf
 unfold ce
 simp only[aB,Bool.or_eq_true,bh]
 simp only[eL]at d1 d2 a1 a2 b1 b2⊢
 refine⟨⟨⟨⟨⟨⟨⟨⟨⟨⟨⟨hn,hn'⟩,d1⟩,d2⟩,a1⟩,a2⟩,b1⟩,b2⟩, ?_⟩, ?_⟩, ?_⟩,hi⟩
 ·cases (aX (cP n).1).1<;>simp
 ·cases (aX (cP n).1).2.1<;>simp
 ·cases (aX (cP n).1).2.2<;>simp
theorem pj (w:Int) (h:0≤w) (h':w<4294967296) (n:Int) (h1:1≤n) (hn:n≤64):Iv n w=some (eL n (cP n).1 w):=by
 have s1:=gg h1 hn
 have fv:∀l c:Int,0≤l→0≤c→l+c≤62→pZ w l c=some (w/2^l.toNat%2^c.toNat):=fun l c a b d=>y7 w l c (by omega) (by omega) a b d
 have bv:∀l:Int,0≤l→l≤63→Zf w l=some (w/2^l.toNat%2):=fun l a b=>gG w l (by omega) (by omega) a b
 rw[FM,fv 7 5 (by decide) (by decide) (by decide),fv 15 5 (by decide) (by decide) (by decide),fv 20 5 (by decide) (by decide) (by decide),fv 12 20 (by decide) (by decide) (by decide),fv 21 10 (by decide) (by decide) (by decide),fv 12 8 (by decide) (by decide) (by decide),fv 20 12 (by decide) (by decide) (by decide),fv 8 4 (by decide) (by decide) (by decide),fv 25 6 (by decide) (by decide) (by decide),fv 25 7 (by decide) (by decide) (by decide),fv 20 6 (by decide) (by decide) (by decide),bv 20 (by decide) (by decide),bv 31 (by decide) (by decide),bv 7 (by decide) (by decide),eZ n (by omega) hn]
 generalize cP n=s at*
 obtain⟨f,c,f3,f7⟩:=s
 dsimp only at*
 simp only[ae,eL,nD]
 rcases ga s1 with rfl|rfl|rfl|rfl|rfl|rfl|rfl|rfl|rfl
 ·simp[aX,eD,fF]
  rw[iA _ 20 (by decide) (by decide) (by omega) (by omega)]
  simp[cu]
  rw[aQ (by omega) (by omega)]
  omega
 ·simp[aX,eD,fF]
  rw[aQ (n:=w/2097152%1024*2) (by omega) (by omega),aQ (n:=w/1048576%2*2048) (by omega) (by omega),aQ (n:=w/4096%256*4096) (by omega) (by omega),aQ (n:=w/2147483648%2*1048576) (by omega) (by omega),aQ (n:=w/2097152%1024*2+w/1048576%2*2048) (by omega) (by omega),aQ (n:=w/2097152%1024*2+w/1048576%2*2048+w/4096%256*4096) (by omega) (by omega),aQ (by omega) (by omega),iA _ 21 (by decide) (by decide) (by omega) (by omega)]
  simp
  congr 1;omega
 ·simp[aX,eD,fF]
  rw[iA _ 12 (by decide) (by decide) (by omega) (by omega)]
  simp
 ·simp[aX,eD,fF]
  rw[aQ (n:=w/256%16*2) (by omega) (by omega),aQ (n:=w/33554432%64*32) (by omega) (by omega),aQ (n:=w/128%2*2048) (by omega) (by omega),aQ (n:=w/2147483648%2*4096) (by omega) (by omega),aQ (n:=w/256%16*2+w/33554432%64*32) (by omega) (by omega),aQ (n:=w/256%16*2+w/33554432%64*32+w/128%2*2048) (by omega) (by omega),aQ (by omega) (by omega),iA _ 13 (by decide) (by decide) (by omega) (by omega)]
  simp
  congr 1;omega
 ·simp[aX,eD,fF]
  rw[aQ (n:=w/33554432%128*32) (by omega) (by omega),aQ (by omega) (by omega),iA _ 12 (by decide) (by decide) (by omega) (by omega)]
  simp
 ·simp[aX,eD,fF]
 ·simp[aX,eD,fF]
 ·simp[aX,eD,fF]
 ·simp[aX,eD,fF]
theorem Ei {n f c f3 f7 w:Int} (hs:xH (f,c,f3,f7)=true) (h:0≤w) (h':w<4294967296) (hc:c=w%128) (h3:3≤f) (h8:f≤8) (he:dO (f,c,f3,f7) (eL n f w)=w):f3=w/4096%8:=by
 obtain⟨s1,⟨s2,s2'⟩,⟨s3,s3'⟩,⟨s4,s4'⟩,s5,s6⟩:=fP hs
 clear hs
 have hd:=(ge (n:=n) s1 h h').d
 have ha:=(ge (n:=n) s1 h h').a
 have hb:=(ge (n:=n) s1 h h').b
 have:f=3∨f=4∨f=5∨f=6∨f=7∨f=8:=by omega
 generalize eL n f w=x at*
 obtain⟨n',d,a,b,i⟩:=x
 dsimp only at*
 rcases this with rfl|rfl|rfl|rfl|rfl|rfl<;>simp only[dO,Int.reduceEq,↓reduceIte]at he
 ·have hb0:0≤i%4096∧i%4096<4096:=by omega
  generalize i%4096=y0 at*;omega
 ·have hb0:0≤i/2048%2∧i/2048%2<2:=by omega
  generalize i/2048%2=y0 at*
  have hb1:0≤i/2%16∧i/2%16<16:=by omega
  generalize i/2%16=y1 at*
  have hb2:0≤i/32%64∧i/32%64<64:=by omega
  generalize i/32%64=y2 at*
  have hb3:0≤i/4096%2∧i/4096%2<2:=by omega
  generalize i/4096%2=y3 at*;omega
 ·have hb0:0≤i%32∧i%32<32:=by omega
  generalize i%32=y0 at*
  have hb1:0≤i/32%128∧i/32%128<128:=by omega
  generalize i/32%128=y1 at*;omega
 ·have hb0:0≤i%64∧i%64<64:=by omega
  generalize i%64=y0 at*;omega
 ·have hb0:0≤i%32∧i%32<32:=by omega
  generalize i%32=y0 at*;omega
 ·omega
theorem qi (w:Int) (h:0≤w) (h':w<4294967296) (z:Int×Int×Int×Int×Int) (n:Nat) (h1:1≤n) (hn:n≤64):
  vp.a w z n=if(cP n).2.1=w%128∧dO (cP n) (eL n (cP n).1 w)=w then some (eL n (cP n).1 w,true)else vp.a w z ((n+1:Nat):Int):=by
 have hsf:=mE n (by omega) (by omega)
 have s1:=gg (n:=n) (by omega) (by omega)
 have hr:=q8 (n:=n) (by omega) (by omega) rfl h h'
 have he:Zh (eL n (cP n).1 w)=some (dO (cP n) (eL n (cP n).1 w)):=fE (eL n (cP n).1 w) (by simp only[eL];omega) (by simp only[eL];omega) (ge s1 h h') (fun hf=>by
  have hf:(cP n).1=1:=hf
  show nD (cP n).1 w%4096=0
  rw[hf];simp[nD,eD,fF,cu];omega)
 have e0:((n+1:Nat):Int)=(n:Int)+1:=by omega
 rw[vp.a_eq,show decide ((n:Int)≤64)=true by simp;omega,eZ n (by omega) (by omega),aQ (n:=(n:Int)+1) (by omega) (by omega),e0]
 simp only[ac,aA,ae,fu,pj w h h' n (by omega) (by omega),jF,hr,he]
 have t1:w.tmod 128=w%128:=Int.tmod_eq_emod_of_nonneg h
 have t2:(w.tdiv 4096).tmod 8=w/4096%8:=by rw[Int.tdiv_eq_ediv_of_nonneg h,Int.tmod_eq_emod_of_nonneg (by omega)]
 have w1:IntKind.wrap .i64 (w.tdiv 4096)=w.tdiv 4096:=by rw[Int.tdiv_eq_ediv_of_nonneg h];exact aQ (by omega) (by omega)
 rw[w1,t1,t2]
 have h3:=fun(hc:(cP n).2.1=w%128) (h3:3≤(cP n).1) (h8:(cP n).1≤8) (he:dO (cP n) (eL n (cP n).1 w)=w)=>Ei (n:=n) (f:=(cP n).1) (c:=(cP n).2.1) (f3:=(cP n).2.2.1) (f7:=(cP n).2.2.2) hsf h h' hc h3 h8 he
 clear hsf hr he
 generalize cP n=s at*
 by_cases hc:s.2.1=w%128
 ·by_cases hf:3≤s.1∧s.1≤8
  ·by_cases hg:s.2.2.1=w/4096%8
   ·simp[hc,hf,hg,eC]
   ·have:¬dO s (eL n s.1 w)=w:=fun he=>hg (h3 hc hf.1 hf.2 he)
    simp[hc,hf,hg,this]
  ·have:(decide (3≤s.1)&&decide (s.1≤8))=false:=by simpa using hf
   simp[hc,this,eC]
 ·simp[hc]
def A8 (w:Int) (v:(Int×Int×Int×Int×Int)×Bool):Prop:=(v.2=true→1≤v.1.1∧v.1.1≤64∧v.1=eL v.1.1 (cP v.1.1).1 w∧dO (cP v.1.1) v.1=w)∧(v.2=false→v.1=(0,0,0,0,0))
theorem ni (w:Int) (h:0≤w) (h':w<4294967296):∃v,lj w=some v∧vp w=some v∧A8 w v:=by
 obtain⟨os,ho,hl,hs⟩:=Eh 0 (by decide) (by decide)
 rw[EW,FN,ho]
 simp only[ae,hl]
 have hz:lj.a w (0,0,0,0,0) os 65 0=lj.a w (0,0,0,0,0) os 65 1:=by
  rw[lj.a_eq,hl];rfl
 have key:∀(k n:Nat),n+k=65→1≤n→∃v,lj.a w (0,0,0,0,0) os 65 (n:Int)=some v∧vp.a w (0,0,0,0,0) (n:Int)=some v∧A8 w v:=by
  intro k
  induction k with
  |zero=>
   intro n hn h1
   have:n=65:=by omega
   subst this
   rw[lj.a_eq,vp.a_eq]
   exact⟨_,rfl,rfl,(fun hh=>by cases hh),fun _=>rfl⟩
  |succ k ih=>
   intro n hn h1
   obtain⟨v,e1,e2,e3⟩:=ih (n+1) (by omega) (by omega)
   rw[qh w h h' _ os hl hs n h1 (by omega),qi w h h' _ n h1 (by omega),e1,e2]
   by_cases hc:(cP n).2.1=w%128∧dO (cP n) (eL n (cP n).1 w)=w
   ·rw[av hc]
    exact⟨_,rfl,rfl,fun _=>⟨by simp only[eL];omega,by simp only[eL];omega,rfl,hc.2⟩,(fun hh=>by cases hh)⟩
   ·rw[ak hc]
    exact⟨v,rfl,rfl,e3⟩
 rw[show(((65:Nat)):Int)=65 by rfl,hz]
 exact key 64 1 (by omega) (by omega)
abbrev cp:Ty:= .pair (.int .i64) (.pair (.int .i64) (.pair (.int .i64) (.pair (.int .i64) (.int .i64))))
abbrev bS:Type:=Int×Int×Int×Int×Int
theorem zi (a b:ByteArray):(dd a b=true)=(a=b):=by
 unfold dd
 rw[beq_iff_eq]
 refine propext ⟨fun h=> ?_,fun h=>by rw[h]⟩
 have e:∀x:ByteArray,x.toList=x.data.toList:=by
  intro x
  have:∀(n i:Nat) (r:List UInt8),n=x.size-i→ByteArray.toList.loop x i r=r.reverse++x.data.toList.drop i:=by
   intro n
   induction n with
   |zero=>
     intro i r hn
     rw[ByteArray.toList.loop,ak (by omega),List.drop_eq_nil_of_le (by have:x.size=x.data.size:=rfl;simp;omega),List.append_nil]
   |succ n ih=>
    intro i r hn
    have hi:i<x.data.toList.length:=by have:x.size=x.data.size:=rfl;simp;omega
    rw[ByteArray.toList.loop,av (by omega),ih (i+1) _ (by omega),List.drop_eq_getElem_cons hi]
    have:x.get! i=x.data.toList[i]:=by
     have h2:i<x.data.size:=by simpa using hi
     rw[ByteArray.get!,getElem!_pos x.data i h2];simp
    rw[this];simp
  have:=this (x.size-0) 0 [] rfl
  rw[ByteArray.toList,this];simp
 rw[e,e]at h
 have:a.data=b.data:=Array.toList_inj.mp h
 cases a;cases b;simp_all
theorem cz (a b:ByteArray):dd a b=decide (a=b):=by
 have:=zi a b
 by_cases h:a=b
 ·rw[ah h,this.mpr h]
 ·rw[ai h]
  cases e:dd a b
  ·rfl
  ·exact absurd (this.mp e) h
theorem nY (a b:bS):kw cp a b=decide (a=b):=by
 obtain⟨a1,a2,a3,a4,a5⟩:=a
 obtain⟨b1,b2,b3,b4,b5⟩:=b
 simp[kw]
def je (t:ByteArray) (a:Nat):Nat→Nat
 |0=>0
 |n+1=>(t.data.getD a 0).toNat+256*je t (a+1) n
theorem Ej (t:ByteArray):∀(n a:Nat),je t a n<256^n:=by
 intro n
 induction n with
 |zero=>intro a;simp[je]
 |succ n ih=>
  intro a
  have h1:=ih (a+1)
  have h2:=(t.data.getD a 0).toNat_lt
  rw[je,Nat.pow_succ];omega
theorem jG (t:ByteArray) (a b:Nat) (hb:b≤t.size):∀(n i:Nat),i+n≤b-a→je (t.extract a b) i n=je t (a+i) n:=by
 intro n
 induction n with
 |zero=>intro i _;rfl
 |succ n ih=>
  intro i h
  rw[je,je,ih (i+1) (by omega)]
  congr 2
  rw[ByteArray.data_extract]
  have hs:t.size=t.data.size:=rfl
  simp[Array.getD]
  rw[dif_pos (by omega),dif_pos (by omega)]
theorem CT (V b:Int) (hV:0≤V) (hb:0≤b) (hb':b≤255):ib .i64 (cT .i64 (IntKind.wrap .i64 V) 8) b=IntKind.wrap .i64 (256*V+b):=by
 have h1:cT .i64 (IntKind.wrap .i64 V) 8=IntKind.wrap .i64 (V*256):=by
  rw[lJ (by decide) (by decide)]
  obtain⟨q,hq⟩:=wq V
  have e8:(2:Int)^(8:Int).toNat=256:=by decide
  rw[hq,e8,IntKind.wrap_i64,IntKind.wrap_i64];omega
 rw[h1]
 obtain⟨y,rfl⟩:=Int.eq_ofNat_of_zero_le hb
 unfold ib
 rw[BitVec.toNat_or]
 have f1:=wr (IntKind.wrap .i64 (V*256))
 have f2:(BitVec.ofInt IntKind.i64.bits (y:Int)).toNat=y:=by have:=wr (y:Int);omega
 have f3:IntKind.wrap .i64 (V*256)%18446744073709551616=V*256%18446744073709551616:=by
  rw[IntKind.wrap_i64];omega
 rw[f3]at f1
 rw[f2]
 generalize (BitVec.ofInt IntKind.i64.bits (IntKind.wrap .i64 (V*256))).toNat=x at*
 have h0:=lK x y 0 8 (by omega) (by omega)
 simp only[Nat.pow_zero,Nat.mul_one]at h0
 rw[h0,IntKind.wrap_i64,IntKind.wrap_i64]
 omega
theorem lP (n:Int):IntKind.wrap .u64 n=n%18446744073709551616:=by simp[IntKind.wrap,IntKind.bits,IntKind.signed]
theorem A9 (t:ByteArray) (i:Nat):bt t (i:Int)=((t.data.getD i 0).toNat:Int):=by unfold bt;rw[aT]
theorem pk (t:ByteArray) (hz:t.size≤9223372036854775807):∀(k:Nat),k≤t.size→xY.a t (IntKind.wrap .i64 (je t k (t.size-k))) ((k:Int)-1)=some (IntKind.wrap .i64 (je t 0 t.size)):=by
 intro k
 induction k with
 |zero=>
  intro _
  rw[xY.a_eq];rfl
 |succ k ih=>
  intro hk
  have hs:(((k+1:Nat):Int)-1)=(k:Int):=by omega
  have hb:=AR t (k:Int)
  rw[hs,xY.a_eq,show decide ((k:Int)≥0)=true by simp,aq,ah (show k<t.size by omega),aQ (n:=bt t (k:Int)) (by omega) (by omega),CT _ _ (by omega) hb.1 hb.2,aQ (n:=(k:Int)-1) (by omega) (by omega)]
  simp only[ac]
  have e:je t k (t.size-k)=(t.data.getD k 0).toNat+256*je t (k+1) (t.size-(k+1)):=by
   rw[show t.size-k=(t.size-(k+1))+1 by omega,je]
  have ih:=ih (by omega)
  rw[e]at ih
  rw[A9,show(256:Int)*(je t (k+1) (t.size-(k+1)):Nat)+((t.data.getD k 0).toNat:Nat)=(((t.data.getD k 0).toNat+256*je t (k+1) (t.size-(k+1)):Nat):Int) by omega]
  exact ih
theorem g9 (t:ByteArray) (hz:t.size≤9223372036854775807):xY t=some (IntKind.wrap .i64 (je t 0 t.size)):=by
 have:=pk t hz t.size (by omega)
 rw[Nat.sub_self,show IntKind.wrap .i64 (je t t.size 0:Nat)=0 by rfl]at this
 rw[E5,aQ (n:=(t.size:Int)-1) (by omega) (by omega)]
 exact this
theorem pm (t:ByteArray) (a n:Nat) (hz:t.size≤4611686018427387904) (han:a+n≤t.size):∀(k:Nat),k≤n→ya.a t (a:Int) (((je t (a+k) (n-k):Nat):Int)%18446744073709551616) ((k:Int)-1)=some (IntKind.wrap .i64 (je t a n)):=by
 intro k
 induction k with
 |zero=>
  intro _
  rw[ya.a_eq,show decide (((0:Nat):Int)-1≥0)=false by rfl]
  simp only[af,Nat.add_zero,Nat.sub_zero]
  congr 1
  rw[IntKind.wrap_i64,IntKind.wrap_i64];omega
 |succ k ih=>
  intro hk
  have hs:(((k+1:Nat):Int)-1)=(k:Int):=by omega
  have hi:((a:Int)+(k:Int))=((a+k:Nat):Int):=by omega
  rw[hs,ya.a_eq,show decide ((k:Int)≥0)=true by simp,hi,aQ (n:=((a+k:Nat):Int)) (by omega) (by omega),aq,ah (show a+k<t.size by omega),aQ (n:=(k:Int)-1) (by omega) (by omega)]
  simp only[ac]
  have e:je t (a+k) (n-k)=(t.data.getD (a+k) 0).toNat+256*je t (a+(k+1)) (n-(k+1)):=by
   rw[show n-k=(n-(k+1))+1 by omega,je];rfl
  have ih:=ih (by omega)
  rw[e]at ih
  rw[A9]
  have hb:=(t.data.getD (a+k) 0).toNat_lt
  refine Eq.trans ?_ ih
  congr 1
  rw[lP,lP,lP]
  generalize (t.data.getD (a+k) 0).toNat=b at*
  generalize je t (a+(k+1)) (n-(k+1))=L at*
  omega
theorem kC (t:ByteArray) (a n:Nat) (hz:t.size≤4611686018427387904) (han:a+n≤t.size):ya t (a:Int) (n:Int)=some (IntKind.wrap .i64 (je t a n)):=by
 have:=pm t a n hz han n (by omega)
 rw[Nat.sub_self,show((je t (a+n) 0:Nat):Int)%18446744073709551616=0 by rfl]at this
 rw[FT,aQ (n:=(n:Int)-1) (by omega) (by omega)]
 exact this
theorem H7 (t:ByteArray) (a:Nat):0≤((je t a 4:Nat):Int)∧((je t a 4:Nat):Int)<4294967296:=by
 have:=Ej t 4 a
 have e:256^4=4294967296:=by decide
 omega
def sC (x:bS):Prop:=1≤x.1∧x.1≤64∧jE x∧ce x=true
theorem A8.ins {w:Int} (h:0≤w) (h':w<4294967296) {v:bS×Bool} (hv:A8 w v) (hb:v.2=true):sC v.1:=by
 obtain⟨h1,h2,h3,h4⟩:=hv.1 hb
 refine⟨h1,h2, ?_, ?_⟩
 ·rw[h3];exact ge (gg h1 h2) h h'
 ·rw[h3];exact q8 h1 h2 rfl h h'
theorem aY {n b:Nat} (h:n*b≤140737488355328) (h':n≤140737488355328):aD n b=true:=by
 simp only[aD,aB,bh];omega
inductive GI (code:ByteArray):Prop where
 |ok (l:List bS) (hi:vk code=some (l,0,true)) (hs:Ab code=some (l,-1)) (hl:4*l.length=code.size) (hr:∀x∈l,sC x)
 |bad (k:Int) (hi:vk code=some ([],k,false)) (hs:Ab code=some ([],k)) (h0:0≤k)
theorem ux (code:ByteArray) (h4:code.size%4=0) (hz:code.size≤1048576):GI code:=by
 have key:∀(k i:Nat) (l:List bS),4*(i+k)=code.size→l.length=i→(∀x∈l,sC x)→
   (∃l',vk.a code l (4*i:Nat)=some (l',0,true)∧Ab.a code l (i:Int)=some (l',-1)∧4*l'.length=code.size∧∀x∈l',sC x)∨
   (∃b:Int,vk.a code l (4*i:Nat)=some ([],b,false)∧Ab.a code l (i:Int)=some ([],b)∧0≤b):=by
  intro k
  induction k with
  |zero=>
   intro i l hk hl hr
   rw[vk.a_eq,Ab.a_eq,aQ (n:=4*(i:Int)) (by omega) (by omega),show decide (((4*i:Nat):Int)< (code.size:Int))=false by simp;omega,show decide (4*(i:Int)< (code.size:Int))=false by simp;omega]
   exact Or.inl ⟨l,rfl,rfl,by omega,hr⟩
  |succ k ih=>
   intro i l hk hl hr
   have hw:=H7 code (4*i)
   obtain⟨v,e1,e2,e3⟩:=ni _ hw.1 hw.2
   have t1:xY (code.extract (4*i) (4*i+4))=some ((je code (4*i) 4:Nat):Int):=by
    have hsz:(code.extract (4*i) (4*i+4)).size=4:=by rw[ByteArray.size_extract];omega
    rw[g9 _ (by omega),hsz,jG code (4*i) (4*i+4) (by omega) 4 0 (by omega),Nat.add_zero,aQ (by omega) (by omega)]
   have t2:ya code ((4*i:Nat):Int) 4=some ((je code (4*i) 4:Nat):Int):=by
    rw[show(4:Int)=((4:Nat):Int) by rfl,kC _ _ _ (by omega) (by omega),aQ (by omega) (by omega)]
   rw[vk.a_eq,Ab.a_eq,aQ (n:=4*(i:Int)) (by omega) (by omega),aQ (n:=(i:Int)+1) (by omega) (by omega),aQ (n:=((4*i:Nat):Int)+4) (by omega) (by omega),show 4*(i:Int)=((4*i:Nat):Int) by omega,aT,show(((4*i:Nat):Int)+4).toNat=4*i+4 by omega,t1,t2]
   rw[show decide (((4*i:Nat):Int)< (code.size:Int))=true by simp;omega,show decide ((0:Int)≤((4*i:Nat):Int))=true by simp;omega,show decide (((4*i:Nat):Int)≤((4*i:Nat):Int)+4)=true by simp;omega,show decide (((4*i:Nat):Int)+4≤(code.size:Int))=true by simp;omega]
   simp only[ac,Bool.and_self,ae,e1,e2]
   cases hb:v.2 with
   |false=>
    refine Or.inr ⟨(i:Int), ?_,rfl,by omega⟩
    rw[show(((4*i:Nat):Int)).tdiv 4=(i:Int) by rw[Int.tdiv_eq_ediv_of_nonneg (by omega)];omega,aQ (by omega) (by omega)];rfl
   |true=>
    have hx:=A8.ins hw.1 hw.2 e3 hb
    rw[aY (by simp;omega) (by simp;omega)]
    simp only[aV,af,ac]
    have ih:=ih (i+1) (l++[v.1]) (by omega) (by simp;omega) (by
     intro x hx'
     rcases List.mem_append.mp hx' with h|h
     ·exact hr x h
     ·rw[List.mem_singleton.mp h];exact hx)
    rw[show((4*(i+1):Nat):Int)=((4*i:Nat):Int)+4 by omega,show((i+1:Nat):Int)=(i:Int)+1 by omega]at ih
    exact ih
 rcases key (code.size/4) 0 [] (by omega) rfl (by simp)with⟨l,a1,a2,a3,a4⟩|⟨b,a1,a2,a3⟩
 ·exact .ok l ((xf code).trans a1) ((Cg code).trans a2) a3 a4
 ·exact .bad b ((xf code).trans a1) ((Cg code).trans a2) a3
theorem dU {α:Type} {c d:Prop} [Decidable c] [Decidable d] {a b b':α} (h:c↔d) (hb:b=b'):(if c then a else b)=(if d then a else b'):=by
 subst hb
 by_cases hc:c
 ·rw[av hc,av (h.mp hc)]
 ·rw[ak hc,ak (fun hd=>hc (h.mpr hd))]
theorem GJ (f:Int) (h:16≤f∧f≤128):Z7 f=some [(14,1,2,0,f-8),(22,2,2,0,f),(4,0,1,0,0)]:=by
 rw[DF,aQ (n:=f-8) (by omega) (by omega)]
theorem Ba (f:Int) (h:16≤f∧f≤128):Il f=some [(14,1,2,0,f-8),(22,2,2,0,f),(4,0,1,0,0)]∧Z7 f=some [(14,1,2,0,f-8),(22,2,2,0,f),(4,0,1,0,0)]:=by
 rw[E9,DF,aQ (n:=f-8) (by omega) (by omega)];exact⟨rfl,rfl⟩
def bR (l:List bS) (f k:Int):Bool:=
 decide (2≤k)&&decide (k+2< (l.length:Int))&&decide (rd (τ:=cp) l k=((14,1,2,0,f-8):bS))&&decide (rd (τ:=cp) l (k+1)=((22,2,2,0,f):bS))&&decide (rd (τ:=cp) l (k+2)=((4,0,1,0,0):bS))
theorem CU (i:Int) (n:Nat):(aH i n=true)=(0≤i∧i< (n:Int)):=by simp[aH]
theorem inL_true {i:Int} {n:Nat} (h:0≤i) (h':i< (n:Int)):aH i n=true:=by rw[CU];exact⟨h,h'⟩
theorem dP (l:List bS) (f k:Int) (hf:16≤f∧f≤128) (hl:l.length≤1048576) (hk: -4611686018427387904≤k) (hk':k≤4611686018427387904):Do l k f=some (bR l f k):=by
 rw[FX,(Ba f hf).2,aQ (n:=k+1) (by omega) (by omega),aQ (n:=k+2) (by omega) (by omega)]
 simp only[ae]
 unfold bR
 by_cases h1:2≤k
 ·by_cases h2:k+2< (l.length:Int)
  ·rw[inL_true (i:=k) (by omega) (by omega),inL_true (i:=k+1) (by omega) (by omega),inL_true (i:=k+2) (by omega) (by omega),nY,nY,nY]
   simp only[h1,h2,decide_true,ac,Bool.true_and]
   have e0:∀a b c:bS,rd (τ:=cp) [a,b,c] 0=a:=fun _ _ _=>rfl
   have e1:∀a b c:bS,rd (τ:=cp) [a,b,c] 1=b:=fun _ _ _=>rfl
   have e2:∀a b c:bS,rd (τ:=cp) [a,b,c] 2=c:=fun _ _ _=>rfl
   rw[e0,e1,e2]
   show(bif true then bif decide _ then(bif true then bif decide _ then(bif true then some (decide _)else none)else some false else none)else some false else none)=_
   cases decide (rd (τ:=cp) l k=((14,1,2,0,f-8):bS))<;>cases decide (rd (τ:=cp) l (k+1)=((22,2,2,0,f):bS))<;>rfl
  ·simp[h1,h2]
 ·simp[h1]
theorem CV (l:List bS) (f k:Int):(bR l f k=true→bR l f (k-1)=false)∧(bR l f k=true→bR l f (k-2)=false)∧(bR l f (k-1)=true→bR l f (k-2)=false):=by
 have e1:k-1+1=k:=by omega
 have e2:k-2+2=k:=by omega
 have e3:k-2+1=k-1:=by omega
 have e4:k-1+2=k+1:=by omega
 unfold bR
 rw[e1,e2,e3,e4]
 simp only[aB,bh]
 refine⟨?_, ?_, ?_⟩
 ·rintro⟨⟨⟨_,h⟩,_⟩,_⟩
  rw[h];simp
 ·rintro⟨⟨⟨_,h⟩,_⟩,_⟩
  rw[h];simp
 ·rintro⟨⟨⟨_,h⟩,h2⟩,_⟩
  rw[h2];simp
def qj (l:List bS) (f:Int) (n j:Int):Int:=
 if j<n∧bR l f j=true then 1 else if j-1<n∧bR l f (j-1)=true then 2 else if j-2<n∧bR l f (j-2)=true then 3 else 0
def gH (l:List bS) (f:Int) (n:Int) (E:List Int):Prop:=E.length=l.length∧∀j:Nat,j<l.length→E[j]? =some (qj l f n (j:Int))
theorem wy (a b:List bS) (hl:a.length=b.length) (hz:a.length≤1048576):∀(k j:Nat),j+k=a.length→Ce.a a b (a.length:Int) (j:Int)=some (decide (a.drop j=b.drop j)):=by
 intro k
 induction k with
 |zero=>
  intro j hj
  rw[Ce.a_eq,ap,show decide (j<a.length)=false by simp;omega,List.drop_eq_nil_of_le (by omega),List.drop_eq_nil_of_le (by omega)];rfl
 |succ k ih=>
  intro j hj
  have h1:j<a.length:=by omega
  have h2:j<b.length:=by omega
  rw[Ce.a_eq,ap,aq,aq,ah h1,ah h2,au j a.length h1 (by omega),ih (j+1) (by omega)]
  simp only[ac]
  rw[bj (τ:=cp) a j h1,bj (τ:=cp) b j h2,nY,List.drop_eq_getElem_cons h1,List.drop_eq_getElem_cons h2]
  simp only[ay]
  by_cases h:a[j]=b[j]<;>simp[h]
theorem zj (a b:List bS) (hz:a.length≤1048576):Ce a b=some (decide (a=b)):=by
 rw[E8]
 by_cases h:a.length=b.length
 ·rw[show decide ((a.length:Int)=(b.length:Int))=true by simp[h]]
  have:=wy a b h hz a.length 0 (by omega)
  rw[show((0:Nat):Int)=0 by rfl]at this
  simp only[aV,af,this,List.drop_zero]
 ·rw[show decide ((a.length:Int)=(b.length:Int))=false by simp;omega]
  simp only[Bool.not_false,ac]
  rw[ai];rintro rfl;exact h rfl
theorem Bb (l:List bS) (k:Nat) (hk:k+3≤l.length) (a b c:bS):decide ((l.take (k+3)).drop k=[a,b,c])=(decide (rd (τ:=cp) l k=a)&&decide (rd (τ:=cp) l ((k:Int)+1)=b)&&decide (rd (τ:=cp) l ((k:Int)+2)=c)):=by
 rw[show(k:Int)+1=((k+1:Nat):Int) by omega,show(k:Int)+2=((k+2:Nat):Int) by omega,bj (τ:=cp) l k (by omega),bj (τ:=cp) l (k+1) (by omega),bj (τ:=cp) l (k+2) (by omega)]
 rw[List.drop_take,show k+3-k=3 by omega,List.drop_eq_getElem_cons (show k<l.length by omega),List.drop_eq_getElem_cons (show k+1<l.length by omega),List.drop_eq_getElem_cons (show k+1+1<l.length by omega)]
 simp[List.take]
 rw[Bool.and_assoc]
theorem zk (at_:Int) (calls:List Int) (l:List bS) (f:Int) (hf:16≤f∧f≤128) (hl:l.length≤1048576) (h2:2≤l.length):
  ∀(k i:Nat) (E:List Int),2≤i→i+k+2=l.length→gH l f i E→∃E',gH l f l.length E'∧iJ.b f l (l,f,at_,calls,E) i=iJ.c l (l,f,at_,calls,E') 2:=by
 intro k
 induction k with
 |zero=>
  intro i E h2i hk hE
  refine⟨E,⟨hE.1,fun j hj=> ?_⟩, ?_⟩
  ·rw[hE.2 j hj]
   congr 1
   have out:∀m:Int,(i:Int)≤m→bR l f m=false:=by
    intro m hm
    unfold bR
    rw[show decide (m+2< (l.length:Int))=false by simp;omega];simp
   have r:∀m:Int,m< (l.length:Int)→((m< (i:Int)∧bR l f m=true)↔(m< (l.length:Int)∧bR l f m=true)):=by
    intro m hm
    constructor
    ·rintro⟨_,h⟩;exact⟨hm,h⟩
    ·rintro⟨_,h⟩
     refine⟨?_,h⟩
     by_cases hmi:m< (i:Int)
     ·exact hmi
     ·rw[out m (by omega)]at h;cases h
   unfold qj
   exact dU (r j (by omega)) (dU (r (j-1) (by omega)) (dU (r (j-2) (by omega)) rfl))
  ·rw[iJ.b_eq,aQ (n:=(i:Int)+3) (by omega) (by omega),show decide ((i:Int)+3≤(l.length:Int))=false by simp;omega]
   rfl
 |succ k ih=>
  intro i E h2i hk hE
  have hstep:∀E':List Int,E'.length=l.length→(∀j:Nat,j<l.length→E'[j]? =some (qj l f ((i:Int)+1) j))→∃E'',gH l f l.length E''∧iJ.b f l (l,f,at_,calls,E') (((i+1:Nat)):Int)=iJ.c l (l,f,at_,calls,E'') 2:=by
   intro E' h1 h2'
   exact ih (i+1) E' (by omega) (by omega) ⟨h1,fun j hj=>by rw[h2' j hj];rfl⟩
  have hEl:=hE.1
  rw[iJ.b_eq,aQ (n:=(i:Int)+3) (by omega) (by omega),aQ (n:=(i:Int)+1) (by omega) (by omega),aQ (n:=(i:Int)+2) (by omega) (by omega),(Ba f hf).1,show decide ((i:Int)+3≤(l.length:Int))=true by simp;omega,show decide ((0:Int)≤(i:Int))=true by simp,show decide ((i:Int)≤(i:Int)+3)=true by simp;omega,show((i:Int)+3).toNat=i+3 by omega,aT,show((i:Int)+1).toNat=i+1 by omega,show((i:Int)+2).toNat=i+2 by omega]
  simp only[ac,Bool.and_self,ae]
  rw[zj _ _ (by simp;omega),Bb l i (by omega)]
  have hB:bR l f i=(decide (rd (τ:=cp) l i=((14,1,2,0,f-8):bS))&&decide (rd (τ:=cp) l ((i:Int)+1)=((22,2,2,0,f):bS))&&decide (rd (τ:=cp) l ((i:Int)+2)=((4,0,1,0,0):bS))):=by
   unfold bR
   rw[show decide (2≤(i:Int))=true by simp;omega,show decide ((i:Int)+2< (l.length:Int))=true by simp;omega];simp
  rw[←hB]
  simp only[ae]
  cases hb:bR l f i with
  |true=>
   simp only[ac,letB]
   rw[inL_true (by omega) (by rw[hEl];omega),inL_true (by omega) (by rw[List.length_set,hEl];omega),inL_true (by omega) (by rw[List.length_set,List.length_set,hEl];omega)]
   simp only[ac]
   rw[show(i:Int)+1=((i+1:Nat):Int) by omega]
   refine hstep _ (by simp[hEl]) (fun j hj=> ?_)
   have hj':=hE.2 j hj
   rw[List.getElem?_set,List.getElem?_set,List.getElem?_set]
   simp only[List.length_set,hEl]
   unfold qj
   by_cases c2:i+2=j
   ·rw[av c2,av (by omega),ak (by omega),ak (by omega),av ⟨by omega,by rw[show(j:Int)-2=(i:Int) by omega];exact hb⟩]
   ·rw[ak c2]
    by_cases c1:i+1=j
    ·rw[av c1,av (by omega),ak (by omega),av ⟨by omega,by rw[show(j:Int)-1=(i:Int) by omega];exact hb⟩]
    ·rw[ak c1]
     by_cases c0:i=j
     ·rw[av c0,av (by omega),av ⟨by omega,by rw[show(j:Int)=(i:Int) by omega];exact hb⟩]
     ·rw[ak c0,hj']
      unfold qj
      congr 1
      have r:∀m:Int,m≠(i:Int)→((m< (i:Int)∧bR l f m=true)↔(m< (i:Int)+1∧bR l f m=true)):=by
       intro m hm
       constructor
       ·rintro⟨_,h⟩;exact⟨by omega,h⟩
       ·rintro⟨_,h⟩;exact⟨by omega,h⟩
      exact dU (r j (by omega)) (dU (r (j-1) (by omega)) (dU (r (j-2) (by omega)) rfl))
  |false=>
   simp only[af]
   rw[show(i:Int)+1=((i+1:Nat):Int) by omega]
   refine hstep _ hEl (fun j hj=> ?_)
   rw[hE.2 j hj]
   unfold qj
   congr 1
   have r:∀m:Int,((m< (i:Int)∧bR l f m=true)↔(m< (i:Int)+1∧bR l f m=true)):=by
    intro m
    constructor
    ·rintro⟨_,h⟩;exact⟨by omega,h⟩
    ·rintro⟨_,h⟩
     refine⟨?_,h⟩
     by_cases hmi:m=(i:Int)
     ·rw[hmi,hb]at h;cases h
     ·omega
   exact dU (r j) (dU (r (j-1)) (dU (r (j-2)) rfl))
theorem wz (l:List Int) (n:Int) (hz:l.length≤1048576):∀(k j:Nat),j+k=l.length→∃r:Int,Cp.a l n (l.length:Int) (j:Int)=some r∧decide (r≥0)=decide (n∈l.drop j)∧Ch.a l n (j:Int)=some (decide (n∈l.drop j)):=by
 intro k
 induction k with
 |zero=>
  intro j hj
  rw[Cp.a_eq,Ch.a_eq,ap,show decide (j<l.length)=false by simp;omega,List.drop_eq_nil_of_le (by omega)]
  exact⟨-1,rfl,by simp,by simp⟩
 |succ k ih=>
  intro j hj
  have h1:j<l.length:=by omega
  obtain⟨r,i1,i2,i3⟩:=ih (j+1) (by omega)
  rw[Cp.a_eq,Ch.a_eq,ap,aq,ah h1,au j l.length h1 (by omega),bj (τ:= .int .i64) l j h1,List.drop_eq_getElem_cons h1]
  simp only[ac]
  by_cases h:n=l[j]
  ·rw[ah h,ah h.symm,ah (show n∈l[j]::l.drop (j+1) by rw[h];exact List.mem_cons_self)]
   exact⟨(j:Int),rfl,by simp,rfl⟩
  ·have e:decide (n∈l[j]::l.drop (j+1))=decide (n∈l.drop (j+1)):=by simp only[List.mem_cons,h,false_or]
   rw[e,ai h,ai (fun q:l[j]=n=>h q.symm)]
   exact⟨r,i1,i2,i3⟩
theorem xM (l:List Int) (n:Int) (hz:l.length≤1048576):Im l n=some (decide (n∈l))∧Ch l n=some (decide (n∈l)):=by
 obtain⟨r,i1,i2,i3⟩:=wz l n hz l.length 0 (by omega)
 rw[show((0:Nat):Int)=0 by rfl]at i1 i3
 rw[Fb,Fa,i1,FY,i3]
 rw[ae,i2,List.drop_zero]
 exact⟨rfl,rfl⟩
theorem pn (n:Int):HO n=some (decide (5≤n)&&decide (n≤10)):=by rw[EX,cU];rfl
theorem Bc (n:Int):In n=some (decide (11≤n)&&decide (n≤17)):=by rw[Fd,cU];rfl
theorem mG (n:Int):Gs n=some (decide (18≤n)&&decide (n≤21)):=by rw[EY,cU];rfl
def gh (n:Int):Int×Bool:=
 if n=11 then(1,true)else if n=12 then(2,true)else if n=13 then(4,true)else if n=14 then(8,true)else if n=15 then(1,false)else if n=16 then(2,false)else if n=17 then(4,false)
 else if n=18 then(1,false)else if n=19 then(2,false)else if n=20 then(4,false)else if n=21 then(8,false)else(0,false)
theorem Bd (n:Int) (h:1≤n) (h':n≤64):IA n=some (gh n):=by
 rw[FW]
 obtain⟨k,rfl⟩:=ng (show 0≤n by omega) h'
 clear h h';revert k
 decide+kernel
theorem Be (n:Int) (h:11≤n) (h':n≤21):Io n=some (gh n):=by
 rw[Fe,mG]
 have:n=11∨n=12∨n=13∨n=14∨n=15∨n=16∨n=17∨n=18∨n=19∨n=20∨n=21:=by omega
 rcases this with rfl|rfl|rfl|rfl|rfl|rfl|rfl|rfl|rfl|rfl|rfl<;>decide+kernel
theorem CW (n:Int) (h:11≤n) (h':n≤21):1≤(gh n).1∧(gh n).1≤8:=by
 have:n=11∨n=12∨n=13∨n=14∨n=15∨n=16∨n=17∨n=18∨n=19∨n=20∨n=21:=by omega
 rcases this with rfl|rfl|rfl|rfl|rfl|rfl|rfl|rfl|rfl|rfl|rfl<;>decide
theorem Bf (n:Int) (h:¬(11≤n∧n≤21)):(gh n).1=0:=by
 unfold gh
 repeat rw[ak (by omega)]
theorem nj (n:Int) (h:1≤n) (h':n≤64):decide ((cP n).1=4)=(decide (5≤n)&&decide (n≤10)):=by
 obtain⟨k,rfl⟩:=ng (show 0≤n by omega) h'
 clear h';revert k
 decide+kernel
theorem CX {l:List bS} {f:Int} {E:List Int} (hE:gH l f l.length E) (i:Int) (h:0≤i) (h':i< (l.length:Int)):rd (τ:= .int .i64) E i=qj l f l.length i:=by
 obtain⟨j,rfl⟩:=Int.eq_ofNat_of_zero_le h
 have:=hE.2 j (by omega)
 unfold rd
 rw[aT,List.getD_eq_getElem?_getD,this];rfl
theorem zl (l:List bS) (f i:Int) (h:i< (l.length:Int)):qj l f l.length i=if bR l f i=true then 1 else if bR l f (i-1)=true then 2 else if bR l f (i-2)=true then 3 else 0:=by
 unfold qj
 exact dU ⟨fun h=>h.2,fun hh=>⟨h,hh⟩⟩ (dU ⟨fun h=>h.2,fun hh=>⟨by omega,hh⟩⟩ (dU ⟨fun h=>h.2,fun hh=>⟨by omega,hh⟩⟩ rfl))
theorem q9 {l:List bS} {f:Int} {E:List Int} (hE:gH l f l.length E) (i:Int) (h:0≤i) (h':i< (l.length:Int)):
  decide (rd (τ:= .int .i64) E i=1)=bR l f i∧decide (rd (τ:= .int .i64) E i=2)=bR l f (i-1)∧decide (rd (τ:= .int .i64) E i=3)=bR l f (i-2)∧decide (rd (τ:= .int .i64) E i<2)=(!bR l f (i-1)&& !bR l f (i-2)):=by
 have hx:=CV l f i
 rw[CX hE i h h',zl l f i h']
 cases h0:bR l f i<;>cases h1:bR l f (i-1)<;>cases h2:bR l f (i-2)<;>simp_all
theorem zm (n:Int) (h: -9223372036854775808≤n) (h':n≤9223372036854775807):IntKind.wrap .i64 (n.tdiv 4)=n.tdiv 4:=by
 have: -9223372036854775808≤n.tdiv 4∧n.tdiv 4≤9223372036854775807:=by
  rcases Int.le_total 0 n with h0|h0
  ·rw[Int.tdiv_eq_ediv_of_nonneg h0];omega
  ·have:n.tdiv 4= -((-n).tdiv 4):=by rw[Int.neg_tdiv,Int.neg_neg]
   rw[this,Int.tdiv_eq_ediv_of_nonneg (by omega)];omega
 exact aQ this.1 this.2
theorem GK (n:Int) (h:n.tmod 4=0):n.tdiv 4=n/4:=by
 rw[Int.tdiv_eq_ediv_of_dvd];exact Int.dvd_iff_tmod_eq_zero.mpr h
theorem sC.imm {x:bS} (h:sC x): -2147483648≤x.2.2.2.2∧x.2.2.2.2≤2147483647:=by
 have hrv:=h.2.2.2
 have hsf:=gg h.1 h.2.1
 unfold ce at hrv
 simp only[aB]at hrv
 have hrv:=hrv.2
 generalize (cP x.1).1=ff at*
 unfold gf at hrv
 rcases ga hsf with rfl|rfl|rfl|rfl|rfl|rfl|rfl|rfl|rfl<;>simp at hrv<;>omega
theorem zn (l:List bS) (f at_:Int) (calls E:List Int) (hE:gH l f l.length E) (hf:16≤f∧f≤128) (hl:l.length≤1048576) (i:Int) (h:0≤i) (h':i< (l.length:Int)) (hr:sC (rd (τ:=cp) l i)):
  ∃b,HQ (l,f,at_,calls,E) i=some b∧HZ l i (rd (τ:=cp) l i).2.2.2.2 f=some b:=by
 have hi:=hr.imm
 rw[Fc,FZ]
 dsimp only
 rw[inL_true h h']
 generalize (rd (τ:=cp) l i).2.2.2.2=m at*
 rw[zm m (by omega) (by omega)]
 by_cases h4:m.tmod 4=0
 ·rw[GK m h4,aQ (n:=i+m/4) (by omega) (by omega),aQ (n:=(l.length:Int)-1) (by omega) (by omega),aQ (n:=i+m/4-1) (by omega) (by omega),aQ (n:=i+m/4-2) (by omega) (by omega),cU,dP l f _ hf hl (by omega) (by omega),dP l f _ hf hl (by omega) (by omega)]
  simp only[h4,decide_true,ac,ae]
  by_cases ha:2≤i+m/4
  ·by_cases hb:i+m/4< (l.length:Int)
   ·have he:=q9 hE (i+m/4) (by omega) hb
    rw[inL_true (by omega) (by rw[hE.1];exact hb),he.2.2.2,ah ha,show decide (i+m/4≤(l.length:Int)-1)=true by simp;omega,ah hb]
    simp only[Bool.and_self,ac]
    cases bR l f (i+m/4-1)<;>exact⟨_,rfl,rfl⟩
   ·rw[show decide (i+m/4≤(l.length:Int)-1)=false by simp;omega,ai hb]
    rw[ah ha]
    exact⟨_,rfl,rfl⟩
  ·rw[ai ha]
   exact⟨_,rfl,rfl⟩
 ·rw[ai h4]
  exact⟨_,rfl,rfl⟩
theorem wA (l:List bS) (f at_:Int) (calls E:List Int) (hE:gH l f l.length E) (hf:16≤f∧f≤128) (ha:0≤at_∧at_≤1048575) (hl:l.length≤1048576) (hc:calls.length≤1048576) (i:Int) (h:2≤i) (h':i< (l.length:Int)) (hr:sC (rd (τ:=cp) l i)):
  ∃b,Ip (l,f,at_,calls,E) i=some b∧IB l i at_ f calls=some b:=by
 obtain⟨g,g1,g2⟩:=zn l f at_ calls E hE hf hl i (by omega) h' hr
 have he:=q9 hE i (by omega) h'
 rw[Ff,F0]
 dsimp only
 rw[inL_true (by omega) h',inL_true (by omega) (by rw[hE.1];exact h'),g1,g2,he.1,he.2.1,he.2.2.1,aQ (n:=i-2) (by omega) (by omega),aQ (n:=i-1) (by omega) (by omega),dP l f i hf hl (by omega) (by omega),dP l f (i-1) hf hl (by omega) (by omega),dP l f (i-2) hf hl (by omega) (by omega),(xM calls _ hc).1,(xM calls _ hc).2,Bd _ hr.1 hr.2.1,eZ _ (by have:=hr.1;omega) hr.2.1,pn,Bc,mG]
 have hbf:=nj _ hr.1 hr.2.1
 simp only[ae,ac,aA,hbf,cU]
 clear g1 g2 he hr hE hbf
 generalize bR l f i=B0 at*
 generalize bR l f (i-1)=B1 at*
 generalize bR l f (i-2)=B2 at*
 obtain⟨x,hx⟩:∃x:bS,rd (τ:=cp) l i=x:=⟨_,rfl⟩
 rw[hx]at*
 clear hx
 obtain⟨n,d,a,b,m⟩:=x
 dsimp only at*
 have hw:=Be n
 have hwp:=CW n
 have hwz:=Bf n
 by_cases h4:n=4
 ·subst h4
  simp only[decide_true,ac]
  cases B2<;>exact⟨_,rfl,rfl⟩
 ·rw[ai h4]
  simp only[af]
  by_cases h3:n=3
  ·subst h3
   simp only[decide_true,ac]
   by_cases hd:d=1
   ·rw[ah hd]
    cases decide (IntKind.wrap .i64 (IntKind.wrap .i64 (at_+IntKind.wrap .i64 (4*i))+m)∈calls)<;>exact⟨_,rfl,rfl⟩
   ·rw[ai hd]
    cases decide (d=0)<;>cases g<;>exact⟨_,rfl,rfl⟩
  ·rw[ai h3]
   simp only[af]
   cases hb:(decide (5≤n)&&decide (n≤10))with
   |true=>cases g<;>exact⟨_,rfl,rfl⟩
   |false=>
    simp only[af]
    have hm:0≤(gh n).1∧(gh n).1≤8:=by
     by_cases q:11≤n∧n≤21
     ·have:=hwp q.1 q.2;omega
     ·rw[hwz q];decide
    rw[aQ (n:=f-8) (by omega) (by omega),aQ (n:=f-8-(gh n).1) (by omega) (by omega)]
    by_cases q:11≤n∧n≤21
    ·have hwn:=hwp q.1 q.2
     rw[hw q.1 q.2]
     simp only[ae]
     rw[aQ (n:=f-8-(gh n).1) (by omega) (by omega),show decide ((gh n).1>0)=true by simp;omega,show decide ((gh n).1=0)=false by simp;omega]
     have hls:(bif (decide (11≤n)&&decide (n≤17))then true else(decide (18≤n)&&decide (n≤21)))=true:=by
      by_cases q2:n≤17
      ·simp[q.1,q2]
      ·rw[ai q2,show decide (18≤n)=true by simp;omega,ah q.2];simp
     have hm2:(decide (0≤m)&&decide (m≤f-8-(gh n).1))=(!decide (m<0)&& !decide (m>f-8-(gh n).1)):=by
      by_cases z1:m<0<;>by_cases z2:m>f-8-(gh n).1<;>simp[z1,z2]<;>omega
     rw[hm2]
     clear hm hw hwp hwz hwn hm2 hb
     generalize (decide (11≤n)&&decide (n≤17))=L at*
     generalize (decide (18≤n)&&decide (n≤21))=S at*
     generalize decide (m<0)=z1
     generalize decide (m>f-8-(gh n).1)=z2
     generalize decide (m.tmod (gh n).1=0)=z3
     generalize decide (d=1)=z4
     generalize decide (d=2)=z5
     generalize decide (a=2)=z6
     cases L<;>cases S<;>first|(cases hls;done)|(cases z4<;>cases z5<;>cases B0<;>cases B1<;>first|exact⟨_,rfl,rfl⟩|(cases z6<;>first|exact⟨_,rfl,rfl⟩|(cases z1<;>cases z2<;>cases z3<;>exact⟨_,rfl,rfl⟩)))
    ·have hls1:(decide (11≤n)&&decide (n≤17))=false:=by
      by_cases q1:11≤n
      ·rw[show decide (n≤17)=false by simp;omega];simp
      ·simp[q1]
     have hls2:(decide (18≤n)&&decide (n≤21))=false:=by
      by_cases q1:18≤n
      ·rw[show decide (n≤21)=false by simp;omega];simp
      ·simp[q1]
     rw[hls1,hls2,hwz q]
     cases decide (d=1)<;>cases decide (d=2)<;>cases B0<;>cases B1<;>exact⟨_,rfl,rfl⟩
def dl (f:Int):Bool:=bif decide (16≤f)&&decide (f≤128)then decide (f.tmod 16=0)else false
theorem ef (f:Int):Zz f=some (dl f)∧Hy f=some (dl f):=by
 rw[Ht,Fo,cU,fu]
 simp only[ae,dl]
 cases (decide (16≤f)&&decide (f≤128))<;>exact⟨rfl,rfl⟩
theorem sD {f:Int} (h:dl f=true):16≤f∧f≤128:=by
 unfold dl at h
 cases hb:(decide (16≤f)&&decide (f≤128))with
 |true=>simpa using hb
 |false=>rw[hb]at h;cases h
def b6 (a:Int):Bool:=bif decide (0≤a)&&decide (a≤1048575)then decide (a.tmod 4=0)else false
theorem iX (a:Int):Zy a=some (b6 a):=by
 rw[Hs,cU]
 simp only[ae,b6]
 cases (decide (0≤a)&&decide (a≤1048575))<;>rfl
theorem kD {a:Int} (h:b6 a=true):0≤a∧a≤1048575:=by
 unfold b6 at h
 cases hb:(decide (0≤a)&&decide (a≤1048575))with
 |true=>simpa using hb
 |false=>rw[hb]at h;cases h
def bT (n:Nat):Bool:=bif decide ((n:Int).tmod 4=0)then decide ((n:Int)≤256)else false
theorem po (t:ByteArray):HF t=some (bT t.size):=by
 rw[EA]
 unfold bT
 cases decide ((t.size:Int).tmod 4=0)<;>rfl
theorem wB (t:ByteArray):HY t=some (bT t.size):=by
 rw[FV]
 unfold bT
 cases decide ((t.size:Int).tmod 4=0)<;>rfl
theorem sF (t:ByteArray):HF t=some (bT t.size)∧HY t=some (bT t.size):=⟨po t,wB t⟩
theorem dV {n:Nat} (h:bT n=true):n%4=0∧n≤256:=by
 unfold bT at h
 cases hb:decide ((n:Int).tmod 4=0)with
 |true=>
  rw[hb]at h
  simp only[ac,bh]at h hb
  rw[Int.tmod_eq_emod_of_nonneg (by omega)]at hb
  omega
 |false=>rw[hb]at h;cases h
def bz (n:Nat):Bool:=bif bT n then decide ((n:Int)≥20)else false
theorem fL (t:ByteArray):HG t=some (bz t.size):=by
 rw[EB,po t]
 simp only[ae,bz]
 cases bT t.size<;>rfl
theorem wC (l:List bS) (f at_:Int) (calls E:List Int) (hE:gH l f l.length E) (hf:16≤f∧f≤128) (ha:0≤at_∧at_≤1048575) (hl:l.length≤1048576) (hc:calls.length≤1048576) (hr:∀x∈l,sC x):
  ∀(k i:Nat),2≤i→i+k=l.length→∃v,iJ.c l (l,f,at_,calls,E) i=some v∧qt.b at_ f calls l ((l.length:Int)-1) i=some v:=by
 intro k
 induction k with
 |zero=>
  intro i h2 hk
  rw[iJ.c_eq,qt.b_eq,ap,show decide (i<l.length)=false by simp;omega,show decide ((i:Int)≤(l.length:Int)-1)=false by simp;omega]
  exact⟨_,rfl,rfl⟩
 |succ k ih=>
  intro i h2 hk
  obtain⟨v,v1,v2⟩:=ih (i+1) (by omega) (by omega)
  have hi:i<l.length:=by omega
  obtain⟨b,b1,b2⟩:=wA l f at_ calls E hE hf ha hl hc i (by omega) (by omega) (by rw[bj (τ:=cp) l i hi];exact hr _ (List.getElem_mem hi))
  rw[iJ.c_eq,qt.b_eq,ap,ah hi,show decide ((i:Int)≤(l.length:Int)-1)=true by simp;omega,b1,b2,au i l.length hi (by omega),v1,v2]
  simp only[ac,ae]
  cases decide (b=0)<;>exact⟨_,rfl,rfl⟩
theorem zo (code:ByteArray) (at_ f:Int) (calls:List Int) (hz:code.size≤1048576) (hc:calls.length≤1048576):∃v,iJ code at_ f calls=some v∧qt code at_ f calls=some v:=by
 rw[xg,F2,iX,fu,(ef f).1,(ef f).2,fL,(sF code).2]
 simp only[ae,aA]
 have ec:(bif !(decide (0≤at_)&&decide (at_≤1048575))then true else !decide (at_.tmod 4=0))= !b6 at_:=by
  unfold b6;cases (decide (0≤at_)&&decide (at_≤1048575))<;>rfl
 cases hA:b6 at_ with
 |false=>
  unfold b6 at hA
  cases hq:(decide (0≤at_)&&decide (at_≤1048575))with
  |false=>exact⟨_,rfl,rfl⟩
  |true=>rw[hq]at hA;simp only[ac]at hA;rw[hA];exact⟨_,rfl,rfl⟩
 |true=>
  have ha:=kD hA
  have hq:(decide (0≤at_)&&decide (at_≤1048575))=true:=by simp[ha]
  have h4:decide (at_.tmod 4=0)=true:=by unfold b6 at hA;rw[hq]at hA;exact hA
  rw[hq,h4]
  simp only[aV,af]
  cases hF:dl f with
  |false=>exact⟨_,rfl,rfl⟩
  |true=>
   have hf:=sD hF
   simp only[aV,af]
   cases hS:bT code.size with
   |false=>unfold bz;rw[hS];exact⟨_,rfl,rfl⟩
   |true=>
    have hs:=dV hS
    unfold bz
    rw[hS]
    simp only[aV,af,ac]
    by_cases h20:(code.size:Int)≥20
    ·rw[ah h20,show decide ((code.size:Int)<20)=false by simp;omega]
     simp only[aV,af]
     cases ux code hs.1 (by omega)with
     |bad k hi hsp h0=>
      rw[hi,hsp]
      simp only[ae,Bool.not_false,ac]
      rw[ah (show k≥0 from h0)]
      exact⟨_,rfl,rfl⟩
     |ok l hi hsp hll hr=>
      rw[hi,hsp,E7]
      simp only[ae,aV,af]
      rw[show decide ((-1:Int)≥0)=false by rfl]
      simp only[af]
      have hl5:5≤l.length:=by omega
      have hl64:l.length≤64:=by omega
      have last:∃v,iJ.a at_ f calls l [(22,2,2,0,(IntKind.wrap .i64 (0-f))),(21,0,2,1,(IntKind.wrap .i64 (f-8)))] 2 2=some v∧qt.a at_ f calls l 2=some v:=by
       rw[iJ.a_eq,qt.a_eq]
       rw[show decide ((2:Int)<2)=false by rfl]
       simp only[af,aA]
       rw[aQ (n:=(l.length:Int)-1) (by omega) (by omega),inL_true (by omega) (by omega),aY (by rw[aT];omega) (by rw[aT];omega),show decide ((0:Int)≤(l.length:Int))=true by simp,aT]
       simp only[ac,Bool.and_self]
       obtain⟨E,hE,e⟩:=zk at_ calls l f hf (by omega) (by omega) (l.length-4) 2 (List.replicate l.length 0) (by omega) (by omega) ⟨by simp,fun j hj=>by
        rw[List.getElem?_replicate,av hj]
        unfold qj
        have z:∀m:Int,m< ((2:Nat):Int)→bR l f m=false:=by
         intro m hm
         unfold bR
         rw[show decide (2≤m)=false by simp;omega];simp
        rw[ak (fun h=>by rw[z _ h.1]at h;cases h.2),ak (fun h=>by rw[z _ h.1]at h;cases h.2),ak (fun h=>by rw[z _ h.1]at h;cases h.2)]⟩
       rw[show((2:Nat):Int)=2 by rfl]at e
       rw[e]
       obtain⟨v,v1,v2⟩:=wC l f at_ calls E hE hf ha (by omega) (by omega) hr (l.length-2) 2 (by omega) (by omega)
       rw[show((2:Nat):Int)=2 by rfl]at v1 v2
       rw[v1,v2]
       cases decide ((rd (τ:=cp) l ((l.length:Int)-1)).1=4)<;>cases decide ((rd (τ:=cp) l ((l.length:Int)-1)).1=3)<;>cases decide ((rd (τ:=cp) l ((l.length:Int)-1)).2.1=0)<;>exact⟨_,rfl,rfl⟩
      have step:∀(j:Nat),j<2→(∃v,iJ.a at_ f calls l [(22,2,2,0,(IntKind.wrap .i64 (0-f))),(21,0,2,1,(IntKind.wrap .i64 (f-8)))] 2 ((j+1:Nat):Int)=some v∧qt.a at_ f calls l ((j+1:Nat):Int)=some v)→
        ∃v,iJ.a at_ f calls l [(22,2,2,0,(IntKind.wrap .i64 (0-f))),(21,0,2,1,(IntKind.wrap .i64 (f-8)))] 2 (j:Int)=some v∧qt.a at_ f calls l (j:Int)=some v:=by
       rintro j hj ⟨v,v1,v2⟩
       rw[iJ.a_eq,qt.a_eq,show decide ((j:Int)<2)=true by simp;omega,inL_true (i:=(j:Int)) (by omega) (by simp;omega),inL_true (i:=(j:Int)) (by omega) (by omega),aQ (n:=(j:Int)+1) (by omega) (by omega),show(j:Int)+1=((j+1:Nat):Int) by omega,v1,v2,DG]
       simp only[ac,ae]
       rw[inL_true (i:=(j:Int)) (by omega) (by simp;omega)]
       simp only[ac]
       cases kw cp (rd (τ:=cp) l (j:Int)) (rd (τ:=cp) [(22,2,2,0,(IntKind.wrap .i64 (0-f))),(21,0,2,1,(IntKind.wrap .i64 (f-8)))] (j:Int))<;>exact⟨_,rfl,rfl⟩
      exact step 0 (by omega) (step 1 (by omega) last)
    ·rw[ai h20,show decide ((code.size:Int)<20)=true by simp;omega]
     exact⟨_,rfl,rfl⟩
abbrev dz:Ty:= .pair .str (.pair (.int .i64) (.pair (.int .i64) (.pair (.int .i64) (.int .i64))))
abbrev iD:Type:=ByteArray×Int×Int×Int×Int
abbrev iY:Type:=ByteArray×ByteArray×List iD
noncomputable def cn (t:ByteArray):Bool:=(nt t).getD false
theorem eE (t:ByteArray):nt t=some (cn t)∧sW t=some (cn t):=by
 obtain⟨v,h1,h2⟩:=y6 t
 unfold cn
 rw[h1,h2];exact⟨rfl,rfl⟩
def zp (l:List iD) (name:ByteArray):Bool:=l.any fun y=>decide (y.1=name)
noncomputable def re (im:iY) (i:Nat) (s:iD) (e:Int×Int):Int×Int×Int:=
 if cn s.1=false then(3,e)
 else if zp (im.2.2.take i) s.1=true then(24,e)
 else if s.2.1=1 then
  if s.2.2.1=e.1∧1≤s.2.2.2.1∧s.2.2.2.1≤(im.1.size:Int)-e.1 then(0,s.2.2.1+s.2.2.2.1,e.2)else(4,e)
 else if s.2.1=2 then
  if e.2≤s.2.2.1∧s.2.2.1≤(im.2.1.size:Int)∧s.2.2.1%8=0∧s.2.2.2.1%8=0∧1≤s.2.2.2.1∧s.2.2.2.1≤(im.2.1.size:Int)-s.2.2.1 then
   if s.2.2.2.2=0 then(0,e.1,s.2.2.1+s.2.2.2.1)else(17,e.1,s.2.2.1+s.2.2.2.1)
  else(4,e)
 else(26,e)
structure DC (im:iY) (e:Int×Int):Prop where
 c:0≤e.1∧e.1≤(im.1.size:Int)
 d:0≤e.2∧e.2≤(im.2.1.size:Int)
structure xN (im:iY):Prop where
 n:im.2.2.length≤16
 c:im.1.size≤1024
 d:im.2.1.size≤256
def sG (im:iY) (n:Nat) (E:Nat→Int×Int):Prop:=E 0=(0,0)∧(∀i,i≤n→DC im (E i))∧∀(i:Nat) (h:i<im.2.2.length),i<n→re im i im.2.2[i] (E i)=(0,E (i+1))
structure uy (im:iY) (s:iD):Prop where
 name:cn s.1=true
 kind:s.2.1=1∨s.2.1=2
 at0:0≤s.2.2.1
 size:1≤s.2.2.2.1
 func:s.2.1=1→s.2.2.1+s.2.2.2.1≤(im.1.size:Int)
 data:s.2.1=2→s.2.2.1+s.2.2.2.1≤(im.2.1.size:Int)∧s.2.2.1%8=0∧s.2.2.2.1%8=0∧s.2.2.2.2=0
theorem Bg {im:iY} {i:Nat} {s:iD} {e:Int×Int} (he:DC im e) (h:(re im i s e).1=0):uy im s∧zp (im.2.2.take i) s.1=false:=by
 obtain⟨nm,kd,at_,sz,fr⟩:=s
 obtain⟨ec,ed⟩:=e
 obtain⟨⟨c1,c2⟩,⟨d1,d2⟩⟩:=he
 dsimp only at*
 unfold re at h
 dsimp only at*
 split at h<;>(try (cases h;done))
 split at h<;>(try (cases h;done))
 rename_i n1 n2
 refine⟨?_,by simpa using n2⟩
 have n1:cn nm=true:=by simpa using n1
 split at h
 ·rename_i k1
  split at h<;>(try (cases h;done))
  rename_i hh
  exact⟨n1,Or.inl k1,by dsimp only;omega,by dsimp only;omega,fun _=>by dsimp only;omega,fun h=>by dsimp only at h;omega⟩
 ·rename_i k1
  split at h
  ·rename_i k2
   split at h<;>(try (cases h;done))
   rename_i hh
   split at h<;>(try (cases h;done))
   rename_i h3
   exact⟨n1,Or.inr k2,by dsimp only;omega,by dsimp only;omega,fun h=>absurd h k1,fun _=>by dsimp only;omega⟩
  ·cases h
theorem rf {im:iY} {E:Nat→Int×Int} (h:sG im im.2.2.length E) (i:Nat) (hi:i<im.2.2.length):uy im im.2.2[i]∧zp (im.2.2.take i) im.2.2[i].1=false:=
 Bg (h.2.1 i (by omega)) (by rw[h.2.2 i hi hi])
def GL (s:iD):Prop:=s.2.1=1→b6 (4096+s.2.2.1)=true∧dl s.2.2.2.2=true∧bz s.2.2.2.1.toNat=true
theorem CY {code:ByteArray} {at_ f:Int} {calls:List Int} {v:Int×Int} (h:iJ code at_ f calls=some v) (hv:v.2=0):b6 at_=true∧dl f=true∧bz code.size=true:=by
 rw[xg,iX,(ef f).1,fL]at h
 simp only[ae]at h
 cases h1:b6 at_ with
 |false=>
  rw[h1]at h
  have e:(0,4)=v:=Option.some.inj h
  rw[←e]at hv;cases hv
 |true=>
  rw[h1]at h
  cases h2:dl f with
  |false=>
   rw[h2]at h
   have e:(0,17)=v:=Option.some.inj h
   rw[←e]at hv;cases hv
  |true=>
   rw[h2]at h
   cases h3:bz code.size with
   |false=>
    rw[h3]at h
    have e:(0,8)=v:=Option.some.inj h
    rw[←e]at hv;cases hv
   |true=>exact⟨rfl,rfl,rfl⟩
def GM (w:Int):Prop:=∃x,lj w=some (x,true)
def xO (code:ByteArray):Prop:=∀j:Nat,4*j+4≤code.size→GM ((je code (4*j) 4:Nat):Int)
theorem wD (code:ByteArray) (hz:code.size≤1048576):∀(k i:Nat) (l:List bS) (r:List bS×Int),4*(i+k)=code.size→vk.a code l ((4*i:Nat):Int)=some (r.1,r.2,true)→∀j:Nat,i≤j→4*j+4≤code.size→GM ((je code (4*j) 4:Nat):Int):=by
 intro k
 induction k with
 |zero=>intro i l r h _ j h1 h2;omega
 |succ k ih=>
  intro i l r h e j h1 h2
  have t1:xY (code.extract (4*i) (4*i+4))=some ((je code (4*i) 4:Nat):Int):=by
   have hsz:(code.extract (4*i) (4*i+4)).size=4:=by rw[ByteArray.size_extract];omega
   have hw:=H7 code (4*i)
   rw[g9 _ (by omega),hsz,jG code (4*i) (4*i+4) (by omega) 4 0 (by omega),Nat.add_zero,aQ (by omega) (by omega)]
  rw[vk.a_eq,aQ (n:=((4*i:Nat):Int)+4) (by omega) (by omega),aT,show(((4*i:Nat):Int)+4).toNat=4*i+4 by omega,t1]at e
  rw[show decide (((4*i:Nat):Int)< (code.size:Int))=true by simp;omega,show decide ((0:Int)≤((4*i:Nat):Int))=true by simp;omega,show decide (((4*i:Nat):Int)≤((4*i:Nat):Int)+4)=true by simp;omega,show decide (((4*i:Nat):Int)+4≤(code.size:Int))=true by simp;omega]at e
  simp only[ac,Bool.and_self,ae]at e
  cases hd:lj ((je code (4*i) 4:Nat):Int)with
  |none=>rw[hd]at e;cases e
  |some v=>
   rw[hd]at e
   simp only[ae]at e
   cases hv:v.2 with
   |false=>rw[hv]at e;simp at e
   |true=>
    rw[hv]at e
    simp only[aV,af]at e
    rcases Nat.lt_or_ge i j with hj|hj
    ·cases hr:aD (l.length+[v.1].length) 40 with
     |false=>rw[hr]at e;cases e
     |true=>
      rw[hr,ac,show((4*i:Nat):Int)+4=((4*(i+1):Nat):Int) by omega]at e
      exact ih (i+1) _ r (by omega) e j hj h2
    ·obtain rfl:j=i:=by omega
     exact⟨v.1,by rw[hd,←hv]⟩
theorem Bh {code:ByteArray} {at_ f:Int} {calls:List Int} {v:Int×Int} (h:iJ code at_ f calls=some v) (hv:v.2=0):xO code:=by
 obtain⟨h1,h2,h3⟩:=CY h hv
 have hs:code.size%4=0∧code.size≤256:=by
  unfold bz at h3
  cases h4:bT code.size with
  |false=>rw[h4]at h3;cases h3
  |true=>exact dV h4
 rw[xg,iX,(ef f).1,fL,h1,h2,h3]at h
 simp only[ae,aV,af]at h
 cases hi:vk code with
 |none=>rw[hi]at h;cases h
 |some r=>
  rw[hi]at h
  simp only[ae]at h
  cases hr:r.2.2 with
  |false=>
   rw[hr]at h
   have e:(r.2.1,(10:Int))=v:=Option.some.inj h
   rw[←e]at hv;cases hv
  |true=>
   intro j hj
   rw[xf]at hi
   refine wD code (by omega) (code.size/4) 0 [] (r.1,r.2.1) (by omega) ?_ j (Nat.zero_le _) hj
   rw[show((4*0:Nat):Int)=0 from rfl,hi]
   obtain⟨a,b,c⟩:=r
   simp only at hr
   rw[hr]
structure sH (im:iY):Prop where
 sz:xN im
 chain:∃E,sG im im.2.2.length E∧(E im.2.2.length).1=(im.1.size:Int)
 pos:1≤im.2.2.length
 first:(rd (τ:=dz) im.2.2 0).2.1=1
 funs:∀j (hj:j<im.2.2.length),GL im.2.2[j]
def pT (v:Int):Nat→List Int
 |0=>[]
 |n+1=>v%256::pT (v/256) n
theorem gj (n:Nat):∀v,(pT v n).length=n:=by
 induction n with
 |zero=>intro v;rfl
 |succ n ih=>intro v;simp[pT,ih]
theorem xP (n:Int):IntKind.wrap .u8 n=n%256:=by simp[IntKind.wrap,IntKind.bits,IntKind.signed]
theorem nE (n:Nat):∀(v:Int) (xs:List Int),n≤1000→xs.length+n≤1000→xW.a v n xs=some (bp (xs++pT v n)):=by
 induction n with
 |zero=>intro v xs _ _;rw[xW.a_eq];simp[pT]
 |succ n ih=>
  intro v xs hn hx
  rw[xW.a_eq,show decide (((n+1:Nat):Int)>0)=true from ah (by omega),aY (by simp;omega) (by simp;omega),aQ (n:=((n+1:Nat):Int)-1) (by omega) (by omega),nV (by decide) (by decide),xP,show((n+1:Nat):Int)-1=(n:Int) by omega]
  simp only[ac]
  rw[ih _ _ (by omega) (by simp;omega),pT,aZ]
  rfl
theorem pp (v:Int) (n:Nat) (h:n≤1000):xW v n=some (bp (pT v n)):=by
 rw[EO,nE n v [] h (by simpa using h)];rfl
theorem cV (xs:List Int):(bp xs).size=xs.length:=by simp[bp,ByteArray.size]
theorem kb {τ:Ty} (xs:List τ.den) (i:Nat) (v:τ.den) (h:xs[i]? =some v):rd (τ:=τ) xs (i:Int)=v:=by
 unfold rd;rw[aT,List.getD_eq_getElem?_getD,h];rfl
def mH (p:Nat→Bool):Nat→Nat→Bool
 |_,0=>true
 |i,k+1=>bif p i then mH p (i+1) k else false
theorem fw (p:Nat→Bool):∀k i,mH p i k=true↔∀j,i≤j→j<i+k→p j=true
 |0,i=>by simp[mH];omega
 |k+1,i=>by
  rw[mH,eC]
  by_cases h:p i=true
  ·rw[av h,fw p k (i+1)]
   refine⟨fun H j h1 h2=> ?_,fun H j h1 h2=>H j (by omega) (by omega)⟩
   by_cases e:j=i
   ·rw[e];exact h
   ·exact H j (by omega) (by omega)
  ·rw[ak h]
   refine⟨fun H=>(by cases H),fun H=>absurd (H i (Nat.le_refl _) (by omega)) h⟩
theorem Bi (L:Int→Option Bool) (p:Nat→Bool) (n:Nat) (hend:L (n:Int)=some true) (hstep:∀i:Nat,i<n→L (i:Int)=bif p i then L ((i+1:Nat):Int)else some false):
  ∀k i:Nat,i+k=n→L (i:Int)=some (mH p i k):=by
 intro k
 induction k with
 |zero=>
   intro i h;have:i=n:=by omega
   subst this;exact hend
 |succ k ih=>
  intro i h
  rw[hstep i (by omega),ih (i+1) (by omega),mH]
  cases p i<;>rfl
theorem fb {L:Int→Option Bool} (p:Nat→Bool) (n:Nat) (hend:L (n:Int)=some true) (hstep:∀i:Nat,i<n→L (i:Int)=bif p i then L ((i+1:Nat):Int)else some false):L 0=some (mH p 0 n):=
 Bi L p n hend hstep n 0 (by omega)
def eO (p:Nat→Bool):Nat→Nat→Int
 |_,0=> -1
 |i,k+1=>bif p i then(i:Int)else eO p (i+1) k
theorem zq (L:Int→Option Int) (p:Nat→Bool) (n:Nat) (hend:L (n:Int)=some (-1)) (hstep:∀i:Nat,i<n→L (i:Int)=bif p i then some (i:Int)else L ((i+1:Nat):Int)):
  ∀k i:Nat,i+k=n→L (i:Int)=some (eO p i k):=by
 intro k
 induction k with
 |zero=>
   intro i h;have:i=n:=by omega
   subst this;exact hend
 |succ k ih=>
  intro i h
  rw[hstep i (by omega),ih (i+1) (by omega),eO]
  cases p i<;>rfl
theorem kZ {L:Int→Option Int} (p:Nat→Bool) (n:Nat) (hend:L (n:Int)=some (-1)) (hstep:∀i:Nat,i<n→L (i:Int)=bif p i then some (i:Int)else L ((i+1:Nat):Int)):L 0=some (eO p 0 n):=
 zq L p n hend hstep n 0 (by omega)
theorem gk (p:Nat→Bool):∀k i,(eO p i k= -1∧∀j,i≤j→j<i+k→p j=false)∨∃j:Nat,eO p i k=(j:Int)∧i≤j∧j<i+k∧p j=true∧∀q,i≤q→q<j→p q=false
 |0,i=> .inl ⟨rfl,fun j h1 h2=>by omega⟩
 |k+1,i=>by
  rw[eO]
  cases h:p i with
  |true=>exact .inr ⟨i,rfl,Nat.le_refl _,by omega,h,fun q h1 h2=>by omega⟩
  |false=>
   rw[af]
   rcases gk p k (i+1)with⟨h1,h2⟩|⟨j,h1,h2,h3,h4,h5⟩
   ·refine .inl ⟨h1,fun j h3 h4=> ?_⟩
    by_cases e:j=i
    ·rw[e];exact h
    ·exact h2 j (by omega) (by omega)
   ·refine .inr ⟨j,h1,by omega,by omega,h4,fun q h6 h7=> ?_⟩
    by_cases e:q=i
    ·rw[e];exact h
    ·exact h5 q (by omega) (by omega)
theorem lQ (i:Nat) (h:0<i) (h':i≤1048576):IntKind.wrap .i64 ((i:Int)-1)=((i-1:Nat):Int):=by
 rw[aQ (by omega) (by omega)];omega
theorem rg (a b:Int):decide (a<b)= !decide (a≥b):=by
 rw[←decide_not];congr 1;apply propext;omega
def gw (n a b:Int):Bool:=decide (a≤n)&&decide (n≤b)
theorem cf (n a b:Int):Zx n a b=some (gw n a b)∧nJ n a b=some (gw n a b):=⟨cU n a b,fu n a b⟩
theorem bH {n a b:Int}:gw n a b=true↔a≤n∧n≤b:=by simp[gw]
abbrev cb:Ty:= .pair .str (.pair (.int .i64) (.pair (.int .i64) (.pair (.int .i64) (.pair (.int .i64) (.int .i64)))))
abbrev eF:Type:=ByteArray×Int×Int×Int×Int×Int
def eG (l:List eF) (name:ByteArray):Int:=eO (fun i=>decide ((rd (τ:=cb) l (i:Int)).1=name)) 0 l.length
theorem gI (l:List eF) (name:ByteArray) (hl:l.length≤1048576):Gr l name=some (eG l name)∧xZ l name=some (eG l name):=by
 rw[Ew,Ev,Fq]
 unfold eG
 constructor
 ·rw[kZ (L:=Cn.a name l (l.length:Int)) (fun i=>decide ((rd (τ:=cb) l (i:Int)).1=name)) l.length ?_ fun i hi=> ?_]
  ·rfl
  ·rw[Cn.a_eq,ap];simp
  ·rw[Cn.a_eq,ap,aq,ah hi,au i l.length hi (by omega),Eu,cz]
   simp only[ac,ae]
 ·refine kZ (L:=xZ.a l name) (fun i=>decide ((rd (τ:=cb) l (i:Int)).1=name)) l.length ?_ fun i hi=> ?_
  ·rw[xZ.a_eq,ap];simp
  ·rw[xZ.a_eq,ap,aq,ah hi,au i l.length hi (by omega),cz]
   simp only[ac]
def uz (k f:Int):Bool:=bif decide (k=1)then(bif dl f then true else bif decide (k=2)then decide (f=0)else false)else bif decide (k=2)then decide (f=0)else false
noncomputable def dG (e:eF):Bool:=
 bif cn e.1 then bif b6 e.2.2.1 then bif gw e.2.2.2.1 1 1024 then bif gw e.2.2.2.2.2 0 6 then uz e.2.1 e.2.2.2.2.1 else false else false else false else false
theorem rh (e:eF):Id e=some (dG e)∧Ir e=some (dG e):=by
 rw[Et,Fp]
 unfold dG
 rw[(eE _).1,(eE _).2,iX,(cf _ _ _).1,(cf _ _ _).1,(cf _ _ _).2,(cf _ _ _).2,(cf _ _ _).2,(ef _).1,(ef _).2]
 unfold b6 uz aA
 simp only[ae]
 rw[show(decide ((0:Int)≤e.2.2.1)&&decide (e.2.2.1≤1048575))=gw e.2.2.1 0 1048575 from rfl]
 cases cn e.1<;>cases gw e.2.2.1 0 1048575<;>cases decide (e.2.2.1.tmod 4=0)<;>cases gw e.2.2.2.1 1 1024<;>cases gw e.2.2.2.2.2 0 6<;>cases decide (e.2.1=1)<;>cases dl e.2.2.2.2.1<;>cases decide (e.2.1=2)<;>exact⟨rfl,rfl⟩
noncomputable def uA (l:List eF) (i:Nat):Bool:=bif dG (rd (τ:=cb) l i)then decide (eG (l.take i) (rd (τ:=cb) l i).1<0)else false
noncomputable def uB (l:List eF):Bool:=decide (l.length≤64)&&mH (uA l) 0 l.length
theorem k6 {α:Type} (l:List α) (i:Nat):(l.take (Int.toNat (i:Int))).drop (Int.toNat 0)=l.take i:=by
 rw[aT,show(Int.toNat 0)=0 from rfl,List.drop_zero]
theorem k7 (i n:Nat) (h:i≤n):(decide (0≤0)&&decide (0≤(i:Int))&&decide ((i:Int)≤(n:Int)))=true:=by simp;omega
theorem dA (l:List eF):xe l=some (uB l)∧Aa l=some (uB l):=by
 rw[Ex,Fr]
 unfold uB
 rcases Nat.lt_or_ge 64 l.length with h|h
 ·rw[show decide ((l.length:Int)>64)=true by simp;omega,ai (show¬l.length≤64 by omega)]
  cases decide ((l.length:Int)>4096)<;>exact⟨rfl,rfl⟩
 rw[show decide ((l.length:Int)>64)=false by simp;omega,show decide ((l.length:Int)>4096)=false by simp;omega,ah h,af,af,af,Bool.true_and]
 constructor
 ·refine fb (L:=xe.a l l (l.length:Int)) (uA l) l.length ?_ fun i hi=> ?_
  ·rw[xe.a_eq,ap];simp
  ·rw[xe.a_eq,ap,aq,ah hi,au i l.length hi (by omega),(rh _).1,k6,k7 i _ (by omega),(gI _ _ (by simp;omega)).1]
   unfold uA
   rw[rg]
   simp only[ac,ae]
   cases dG (rd (τ:=cb) l i)<;>cases decide (eG (l.take i) (rd (τ:=cb) l i).1≥0)<;>rfl
 ·refine fb (L:=Aa.a l) (uA l) l.length ?_ fun i hi=> ?_
  ·rw[Aa.a_eq,ap];simp
  ·rw[Aa.a_eq,ap,aq,ah hi,au i l.length hi (by omega),(rh _).2,k6,k7 i _ (by omega),(gI _ _ (by simp;omega)).2]
   unfold uA
   rw[rg]
   simp only[ac,ae]
   cases dG (rd (τ:=cb) l i)<;>cases decide (eG (l.take i) (rd (τ:=cb) l i).1≥0)<;>rfl
abbrev bU:Type:=Int×Int×Int
def rk (a:bU):Bool:=
 gw a.1 0 1048575&&gw a.2.1 0 (IntKind.wrap .i64 (1048576-a.1))&&gw a.2.2 a.1 (IntKind.wrap .i64 (a.1+a.2.1))&&decide (a.1.tmod 8=0)&&decide (a.2.1.tmod 8=0)&&decide (a.2.2.tmod 8=0)
theorem fe (a:bU):Ey a=some (rk a):=by
 rw[Ez,(cf _ _ _).1,(cf _ _ _).1,(cf _ _ _).1]
 unfold rk
 simp only[ae]
 cases gw a.1 0 1048575<;>cases gw a.2.1 0 (IntKind.wrap .i64 (1048576-a.1))<;>cases gw a.2.2 a.1 (IntKind.wrap .i64 (a.1+a.2.1))<;>cases decide (a.1.tmod 8=0)<;>cases decide (a.2.1.tmod 8=0)<;>cases decide (a.2.2.tmod 8=0)<;>rfl
theorem rm (a:bU):HT a=some (rk a):=by
 rw[Ft,(cf _ _ _).2,(cf _ _ _).2,(cf _ _ _).2]
 unfold rk
 simp only[ae]
 cases gw a.1 0 1048575<;>cases gw a.2.1 0 (IntKind.wrap .i64 (1048576-a.1))<;>cases gw a.2.2 a.1 (IntKind.wrap .i64 (a.1+a.2.1))<;>cases decide (a.1.tmod 8=0)<;>cases decide (a.2.1.tmod 8=0)<;>cases decide (a.2.2.tmod 8=0)<;>rfl
theorem zr (a b c d:Int):Zr [a,b] [c,d]=some (if a=c then decide (b<d)else decide (a<c)):=by
 rw[DH,Zr.a_eq,Zr.a_eq,Zr.a_eq]
 show(bif !decide (a=c)then some (decide (a<c))else bif !decide (b=d)then some (decide (b<d))else some false)=_
 by_cases h:a=c
 ·by_cases h2:b=d
  ·simp[h,h2]
  ·simp[h,h2]
 ·simp[h]
def mI (p:Nat→Bool):Nat→Nat→Bool
 |_,0=>false
 |i,k+1=>bif p i then true else mI p (i+1) k
theorem jH (p:Nat→Bool):∀k i,mI p i k=true↔∃j,i≤j∧j<i+k∧p j=true
 |0,i=>by simp[mI];omega
 |k+1,i=>by
  rw[mI,eC]
  by_cases h:p i=true
  ·rw[av h];simp only[true_iff];exact⟨i,Nat.le_refl _,by omega,h⟩
  ·rw[ak h,jH p k (i+1)]
   refine⟨fun⟨j,h1,h2,h3⟩=>⟨j,by omega,by omega,h3⟩,fun⟨j,h1,h2,h3⟩=>⟨j, ?_,by omega,h3⟩⟩
   rcases Nat.lt_or_ge i j with h4|h4
   ·exact h4
   ·have:j=i:=by omega
    subst this;exact absurd h3 h
theorem Bj {β:Type} (L:Int→Option β) (p:Nat→Bool) (n:Nat) (r:Option β) (hstep:∀i:Nat,i<n→L (i:Int)=bif p i then r else L ((i+1:Nat):Int)):
  ∀k i:Nat,i+k=n→L (i:Int)=bif mI p i k then r else L (n:Int):=by
 intro k
 induction k with
 |zero=>
   intro i h;have:i=n:=by omega
   subst this;rfl
 |succ k ih=>
  intro i h
  rw[hstep i (by omega),ih (i+1) (by omega),mI]
  cases p i<;>rfl
theorem mJ {β:Type} {L:Int→Option β} (p:Nat→Bool) (n:Nat) (r:Option β) (hstep:∀i:Nat,i<n→L (i:Int)=bif p i then r else L ((i+1:Nat):Int)):L 0=bif mI p 0 n then r else L (n:Int):=
 Bj L p n r hstep n 0 (by omega)
theorem Bl (p:Nat→Bool) (n:Nat):decide (eO p 0 n≥0)=mI p 0 n:=by
 rcases gk p n 0 with⟨h1,h2⟩|⟨j,h1,h2,h3,h4,h5⟩
 ·rw[h1]
  cases h:mI p 0 n with
  |false=>rfl
  |true=>obtain⟨j,h3,h4,h5⟩:=(jH p n 0).1 h;rw[h2 j h3 h4]at h5;cases h5
 ·rw[h1,(jH p n 0).2 ⟨j,h2,h3,h4⟩];simp
def bP {α:Type} (f:Nat→α):Nat→Nat→List α
 |_,0=>[]
 |i,k+1=>f i::bP f (i+1) k
theorem aW {α:Type} (f:Nat→α):∀k i,(bP f i k).length=k
 |0,_=>rfl
 |k+1,i=>by rw[bP,List.length_cons,aW f k]
theorem Bm {α β:Type} (L:List α→Int→Option β) (f:Nat→α) (n A:Nat) (hstep:∀acc (i:Nat),i<n→acc.length=A+i→L acc (i:Int)=L (acc++[f i]) ((i+1:Nat):Int)):
  ∀(k i:Nat) (acc:List α),i+k=n→acc.length=A+i→L acc (i:Int)=L (acc++bP f i k) (n:Int):=by
 intro k
 induction k with
 |zero=>
   intro i acc h _;have:i=n:=by omega
   subst this;rw[bP,List.append_nil]
 |succ k ih=>
  intro i acc h ha
  rw[hstep acc i (by omega) ha,ih (i+1) _ (by omega) (by simp;omega),bP,aZ];rfl
theorem fg {α β:Type} {L:List α→Int→Option β} (f:Nat→α) (n:Nat) (acc:List α) (hstep:∀acc' (i:Nat),i<n→acc'.length=acc.length+i→L acc' (i:Int)=L (acc'++[f i]) ((i+1:Nat):Int)):L acc 0=L (acc++bP f 0 n) (n:Int):=
 Bm L f n acc.length hstep n 0 acc (by omega) (by omega)
def bn (c:Nat→Int):Nat→Nat→Int×Int
 |_,0=>(0,0)
 |i,k+1=>if c i=0 then bn c (i+1) k else((i:Int),c i)
theorem zt (L:Int→Option (Int×Int)) (c:Nat→Int) (n:Nat) (hstep:∀i:Nat,i<n→L (i:Int)=if c i=0 then L ((i+1:Nat):Int)else some ((i:Int),c i)):
  ∀k i:Nat,i+k=n→L (i:Int)=if(bn c i k).2=0 then L (n:Int)else some (bn c i k):=by
 intro k
 induction k with
 |zero=>
   intro i h;have:i=n:=by omega
   subst this;rfl
 |succ k ih=>
  intro i h
  rw[hstep i (by omega),ih (i+1) (by omega),bn]
  by_cases h:c i=0
  ·rw[av h,av h]
  ·rw[ak h,ak h,ak h]
theorem dm {L:Int→Option (Int×Int)} (c:Nat→Int) (n:Nat) (hstep:∀i:Nat,i<n→L (i:Int)=if c i=0 then L ((i+1:Nat):Int)else some ((i:Int),c i)):L 0=if(bn c 0 n).2=0 then L (n:Int)else some (bn c 0 n):=
 zt L c n hstep n 0 (by omega)
theorem dn (c:Nat→Int):∀k i,(bn c i k).2=0↔∀j,i≤j→j<i+k→c j=0
 |0,i=>by simp[bn];omega
 |k+1,i=>by
  rw[bn]
  by_cases h:c i=0
  ·rw[av h,dn c k (i+1)]
   refine⟨fun H j h1 h2=> ?_,fun H j h1 h2=>H j (by omega) (by omega)⟩
   by_cases e:j=i
   ·rw[e];exact h
   ·exact H j (by omega) (by omega)
  ·rw[ak h]
   exact⟨fun H=>absurd H h,fun H=>absurd (H i (Nat.le_refl _) (by omega)) h⟩
abbrev aN:Ty:= .pair .str (.pair .bool (.pair (.int .i64) .str))
abbrev IX:Type:=ByteArray×Bool×Int×ByteArray
abbrev bI:Ty:= .pair .str .str
abbrev IY:Type:=ByteArray×ByteArray
abbrev a8:Ty:= .pair (.int .i64) (.pair (.int .i64) (.pair (.int .i64) (.pair .str (.int .i64))))
abbrev sI:Type:=Int×Int×Int×ByteArray×Int
abbrev pq:Ty:= .pair (.int .i64) .bool
abbrev IZ:Type:=Int×Bool
abbrev bo:Type:=ByteArray×Int×List IX×List IY×List sI×List IZ
structure ObjSz (o:bo):Prop where
 f:o.2.2.1.length≤4
 d:o.2.2.2.1.length≤4
 r:o.2.2.2.2.1.length≤32
 s:o.2.2.2.2.2.length≤4
def cO (o:bo):List ByteArray:=bP (fun i=>(rd (τ:=aN) o.2.2.1 (i:Int)).1) 0 o.2.2.1.length++bP (fun i=>(rd (τ:=bI) o.2.2.2.1 (i:Int)).1) 0 o.2.2.2.1.length
def fG (o:bo):List Int:=bP (fun i=>IntKind.wrap .i64 (((rd (τ:=aN) o.2.2.1 (i:Int)).2.2.2.size:Int).tdiv 4)) 0 o.2.2.1.length++bP (fun i=>IntKind.wrap .i64 (((rd (τ:=bI) o.2.2.2.1 (i:Int)).2.size:Int).tdiv 8)) 0 o.2.2.2.1.length
theorem k8 (n:Nat) (h:n≤4096):aD n 16=true:=by simp[aD];omega
theorem jI (n:Nat) (h:n≤4096):aD n 8=true:=by simp[aD];omega
theorem zu (o:bo) (hz:ObjSz o) (u:Nat) (hu:u≤(cO o).length):pW o (u:Int)=some ((cO o).take u):=by
 obtain⟨hf,hd,_,_⟩:=hz
 rw[EE]
 rw[fg (L:=fun acc i=>pW.a (u:Int) o acc o.2.2.1 (o.2.2.1.length:Int) i) (fun i=>(rd (τ:=aN) o.2.2.1 (i:Int)).1) o.2.2.1.length [] fun acc i hi ha=> ?_]
 ·rw[pW.a_eq,ap,ai (a9 _),af,List.nil_append]
  rw[fg (L:=fun acc i=>pW.b (u:Int) acc o.2.2.2.1 (o.2.2.2.1.length:Int) i) (fun i=>(rd (τ:=bI) o.2.2.2.1 (i:Int)).1) o.2.2.2.1.length (bP (fun i=>(rd (τ:=aN) o.2.2.1 (i:Int)).1) 0 o.2.2.1.length) fun acc i hi ha=> ?_]
  ·show pW.b (u:Int) (cO o) o.2.2.2.1 (o.2.2.2.1.length:Int) (o.2.2.2.1.length:Int)=_
   rw[pW.b_eq,ap,ai (a9 _),af,k7 u _ hu,ac,k6]
  ·rw[aW]at ha
   show pW.b (u:Int) acc o.2.2.2.1 (o.2.2.2.1.length:Int) (i:Int)=_
   rw[pW.b_eq,ap,aq,ah hi,au i _ hi (by omega),k8 _ (by simp;omega)];rfl
 ·show pW.a (u:Int) o acc o.2.2.1 (o.2.2.1.length:Int) (i:Int)=_
  rw[pW.a_eq,ap,aq,ah hi,au i _ hi (by omega),k8 _ (by simp at ha⊢;omega)];rfl
theorem zw (o:bo) (hz:ObjSz o):qr o=some (fG o):=by
 obtain⟨hf,hd,_,_⟩:=hz
 rw[EG]
 rw[fg (L:=fun acc i=>qr.a o acc o.2.2.1 (o.2.2.1.length:Int) i) (fun i=>IntKind.wrap .i64 (((rd (τ:=aN) o.2.2.1 (i:Int)).2.2.2.size:Int).tdiv 4)) o.2.2.1.length [] fun acc i hi ha=> ?_]
 ·rw[qr.a_eq,ap,ai (a9 _),af,List.nil_append]
  rw[fg (L:=fun acc i=>qr.b acc o.2.2.2.1 (o.2.2.2.1.length:Int) i) (fun i=>IntKind.wrap .i64 (((rd (τ:=bI) o.2.2.2.1 (i:Int)).2.size:Int).tdiv 8)) o.2.2.2.1.length (bP (fun i=>IntKind.wrap .i64 (((rd (τ:=aN) o.2.2.1 (i:Int)).2.2.2.size:Int).tdiv 4)) 0 o.2.2.1.length) fun acc i hi ha=> ?_]
  ·rw[qr.b_eq,ap,ai (a9 _),af];rfl
  ·rw[aW]at ha
   show qr.b acc o.2.2.2.1 (o.2.2.2.1.length:Int) (i:Int)=_
   rw[qr.b_eq,ap,aq,ah hi,au i _ hi (by omega),jI _ (by simp;omega)];rfl
 ·show qr.a o acc o.2.2.1 (o.2.2.1.length:Int) (i:Int)=_
  rw[qr.a_eq,ap,aq,ah hi,au i _ hi (by omega),jI _ (by simp at ha⊢;omega)];rfl
def hJ (l:List ByteArray) (n:ByteArray):Bool:=l.any fun y=>decide (y=n)
theorem jJ {l:List ByteArray} {n:ByteArray}:hJ l n=true↔n∈l:=by simp[hJ]
theorem wE (l:List ByteArray) (n:ByteArray) (hl:l.length≤4096):Ie l n=some (hJ l n):=by
 rw[ED,EC,kZ (L:=Co.a l n (l.length:Int)) (fun i=>decide (n=rd (τ:= .str) l (i:Int))) l.length ?_ fun i hi=> ?_]
 ·simp only[ae]
  rw[Bl]
  congr 1
  rw[Bool.eq_iff_iff,jH,jJ,List.mem_iff_getElem]
  refine⟨fun⟨j,h1,h2,h3⟩=>⟨j,by omega, ?_⟩,fun⟨j,h1,h2⟩=>⟨j,by omega,by omega, ?_⟩⟩
  ·rw[decide_eq_true_iff,bj (τ:= .str) l j (by omega)]at h3;exact h3.symm
  ·rw[decide_eq_true_iff,bj (τ:= .str) l j h1];exact h2.symm
 ·rw[Co.a_eq,ap];simp
 ·rw[Co.a_eq,ap,aq,ah hi,au i _ hi (by omega),cz];rfl
theorem eH {α:Type} (f:Nat→α) (x:α):∀k i,x∈bP f i k↔∃j,i≤j∧j<i+k∧f j=x
 |0,i=>by simp[bP];omega
 |k+1,i=>by
  rw[bP,List.mem_cons,eH f x k (i+1)]
  constructor
  ·rintro(h|⟨j,h1,h2,h3⟩)
   ·exact⟨i,Nat.le_refl _,by omega,h.symm⟩
   ·exact⟨j,by omega,by omega,h3⟩
  ·rintro⟨j,h1,h2,h3⟩
   by_cases e:j=i
   ·subst e;exact .inl h3.symm
   ·exact .inr ⟨j,by omega,by omega,h3⟩
theorem mK {α:Type} (f:Nat→α):∀k i n,(bP f i k).take n=bP f i (min n k)
 |0,i,n=>by simp[bP]
 |k+1,i,0=>by simp[bP]
 |k+1,i,n+1=>by rw[bP,List.take_succ_cons,mK f k (i+1) n,Nat.add_min_add_right,bP]
theorem lR (o:bo) (i:Nat) (hi:i≤o.2.2.1.length):(cO o).take i=bP (fun i=>(rd (τ:=aN) o.2.2.1 (i:Int)).1) 0 i:=by
 unfold cO
 rw[List.take_append_of_le_length (by rw[aW];exact hi),mK,Nat.min_eq_left hi]
theorem iZ (o:bo) (i:Nat) (hi:i≤o.2.2.2.1.length):(cO o).take (o.2.2.1.length+i)=bP (fun i=>(rd (τ:=aN) o.2.2.1 (i:Int)).1) 0 o.2.2.1.length++bP (fun i=>(rd (τ:=bI) o.2.2.2.1 (i:Int)).1) 0 i:=by
 unfold cO
 rw[List.take_append,aW,List.take_of_length_le (by rw[aW];omega),mK,show o.2.2.1.length+i-o.2.2.1.length=i by omega,Nat.min_eq_left hi]
theorem mL (o:bo):(cO o).length=o.2.2.1.length+o.2.2.2.1.length:=by unfold cO;rw[List.length_append,aW,aW]
theorem mM (f:Nat→ByteArray) (n:ByteArray) (k:Nat):hJ (bP f 0 k) n=mI (fun j=>decide (f j=n)) 0 k:=by
 rw[Bool.eq_iff_iff,jJ,eH,jH];simp
theorem pr (a b:List ByteArray) (n:ByteArray):hJ (a++b) n=(hJ a n||hJ b n):=by simp[hJ]
theorem pt (c:Nat→Int):∀k i,(bn c i k).2=0→bn c i k=(0,0)
 |0,_,_=>rfl
 |k+1,i,h=>by
  rw[bn]at h⊢
  by_cases e:c i=0
  ·rw[av e]at h⊢;exact pt c k (i+1) h
  ·rw[ak e]at h;exact absurd h e
theorem jK (c:Nat→Int) (i k:Nat):(if(bn c i k).2=0 then some ((0,0):Int×Int)else some (bn c i k))=some (bn c i k):=by
 by_cases h:(bn c i k).2=0
 ·rw[av h,pt c k i h]
 ·rw[ak h]
noncomputable def lS (o:bo) (i:Nat):Int:=
 if cn (rd (τ:=aN) o.2.2.1 (i:Int)).1=false then 3 else if hJ ((cO o).take i) (rd (τ:=aN) o.2.2.1 (i:Int)).1=true then 24
 else if dl (rd (τ:=aN) o.2.2.1 (i:Int)).2.2.1=false then 17 else if bz (rd (τ:=aN) o.2.2.1 (i:Int)).2.2.2.size=false then 8 else 0
def pw (n:Nat):Bool:=gw (n:Int) 8 64&&decide ((n:Int).tmod 8=0)
noncomputable def lT (o:bo) (i:Nat):Int:=
 if cn (rd (τ:=bI) o.2.2.2.1 (i:Int)).1=false then 3 else if hJ ((cO o).take (o.2.2.1.length+i)) (rd (τ:=bI) o.2.2.2.1 (i:Int)).1=true then 24
 else if pw (rd (τ:=bI) o.2.2.2.1 (i:Int)).2.size=false then 8 else 0
theorem lU (o:bo) (hz:ObjSz o) (n:ByteArray) (u:Nat) (hu:u≤(cO o).length):HH o n (u:Int)=some (if cn n=false then 3 else if hJ ((cO o).take u) n=true then 24 else 0):=by
 have:=hz.f;have:=hz.d;have:=mL o
 rw[EF,(eE _).1,zu o hz u hu]
 simp only[ae]
 rw[wE _ _ (by simp;omega)]
 cases cn n<;>cases hJ ((cO o).take u) n<;>rfl
theorem Bn (t:ByteArray):Is t=some (bz t.size):=by
 rw[Fu]
 unfold bz bT
 cases decide ((t.size:Int).tmod 4=0)<;>cases decide ((t.size:Int)≥20)<;>cases decide ((t.size:Int)≤256)<;>rfl
theorem zx (o:bo) (hz:ObjSz o):ia.a o o.2.2.1 (o.2.2.1.length:Int) 0=if(bn (lS o) 0 o.2.2.1.length).2=0 then ia.b o o.2.2.2.1 (o.2.2.2.1.length:Int) 0 else some (bn (lS o) 0 o.2.2.1.length):=by
 have:=hz.f
 rw[dm (L:=ia.a o o.2.2.1 (o.2.2.1.length:Int)) (lS o) o.2.2.1.length fun i hi=> ?_]
 ·rw[ia.a_eq,ap,ai (a9 _),af]
 ·rw[ia.a_eq,ap,aq,ah hi,au i _ hi (by omega),lU o hz _ i (by rw[mL];omega),(ef _).1,fL]
  unfold lS
  simp only[ac,ae]
  cases cn (rd (τ:=aN) o.2.2.1 (i:Int)).1 with
  |false=>rfl
  |true=>
   cases hJ ((cO o).take i) (rd (τ:=aN) o.2.2.1 (i:Int)).1 with
   |true=>rfl
   |false=>cases dl (rd (τ:=aN) o.2.2.1 (i:Int)).2.2.1<;>cases bz (rd (τ:=aN) o.2.2.1 (i:Int)).2.2.2.size<;>rfl
theorem zy (o:bo) (hz:ObjSz o):ia.b o o.2.2.2.1 (o.2.2.2.1.length:Int) 0=if(bn (lT o) 0 o.2.2.2.1.length).2=0 then ia.c o (o.2.2.2.2.1.length:Int) 0 else some (bn (lT o) 0 o.2.2.2.1.length):=by
 have h1:=hz.f
 have h2:=hz.d
 rw[dm (L:=ia.b o o.2.2.2.1 (o.2.2.2.1.length:Int)) (lT o) o.2.2.2.1.length fun i hi=> ?_]
 ·rw[ia.b_eq,ap,ai (a9 _),af]
 ·rw[ia.b_eq,ap,aq,ah hi,au i _ hi (by omega),aQ (n:=(o.2.2.1.length:Int)+(i:Int)) (by omega) (by omega),←Int.natCast_add,lU o hz _ (o.2.2.1.length+i) (by rw[mL];omega),(cf _ _ _).1]
  unfold lT pw
  simp only[ac,ae]
  cases cn (rd (τ:=bI) o.2.2.2.1 (i:Int)).1 with
  |false=>rfl
  |true=>
   cases hJ ((cO o).take (o.2.2.1.length+i)) (rd (τ:=bI) o.2.2.2.1 (i:Int)).1 with
   |true=>rfl
   |false=>cases gw ((rd (τ:=bI) o.2.2.2.1 (i:Int)).2.size:Int) 8 64<;>cases decide (((rd (τ:=bI) o.2.2.2.1 (i:Int)).2.size:Int).tmod 8=0)<;>rfl
theorem zz (o:bo) (hz:ObjSz o):sS o=some (bn (lS o) 0 o.2.2.1.length):=by
 have h1:=hz.f
 rw[Fv,dm (L:=sS.a o) (lS o) o.2.2.1.length fun i hi=> ?_]
 ·rw[sS.a_eq,ap,ai (a9 _),af]
  exact jK _ _ _
 ·rw[sS.a_eq,ap,aq,ah hi,(eE _).2]
  unfold lS
  simp only[ac,ae]
  cases cn (rd (τ:=aN) o.2.2.1 (i:Int)).1 with
  |false=>rfl
  |true=>
   rw[show(!true)=false from rfl,af,mJ (L:=sS.b o (i:Int) (rd (τ:=aN) o.2.2.1 (i:Int))) (fun j=>decide ((rd (τ:=aN) o.2.2.1 (j:Int)).1=(rd (τ:=aN) o.2.2.1 (i:Int)).1)) i (some ((i:Int),24)) fun j hj=> ?_]
   ·rw[lR o i (by omega),mM]
    cases mI (fun j=>decide ((rd (τ:=aN) o.2.2.1 (j:Int)).1=(rd (τ:=aN) o.2.2.1 (i:Int)).1)) 0 i with
    |true=>rfl
    |false=>
     rw[sS.b_eq,ap,ai (a9 _),af,af,(ef _).2,Bn,au i _ hi (by omega)]
     simp only[ae]
     cases dl (rd (τ:=aN) o.2.2.1 (i:Int)).2.2.1<;>cases bz (rd (τ:=aN) o.2.2.1 (i:Int)).2.2.2.size<;>rfl
   ·rw[sS.b_eq,ap,aq,ah hj,ah (show j<o.2.2.1.length by omega),au j _ hj (by omega),cz];rfl
theorem zA (o:bo) (hz:ObjSz o):mT o=some (bn (lT o) 0 o.2.2.2.1.length):=by
 have h1:=hz.f
 have h2:=hz.d
 rw[Fw,dm (L:=mT.a o) (lT o) o.2.2.2.1.length fun i hi=> ?_]
 ·rw[mT.a_eq,ap,ai (a9 _),af]
  exact jK _ _ _
 ·rw[mT.a_eq,ap,aq,ah hi,(eE _).2]
  unfold lT pw
  simp only[ac,ae]
  cases cn (rd (τ:=bI) o.2.2.2.1 (i:Int)).1 with
  |false=>rfl
  |true=>
   rw[show(!true)=false from rfl,af,mJ (L:=mT.b o (i:Int) (rd (τ:=bI) o.2.2.2.1 (i:Int))) (fun j=>decide ((rd (τ:=aN) o.2.2.1 (j:Int)).1=(rd (τ:=bI) o.2.2.2.1 (i:Int)).1)) o.2.2.1.length (some ((i:Int),24)) fun j hj=> ?_]
   ·rw[iZ o i (by omega),pr,mM,mM]
    cases mI (fun j=>decide ((rd (τ:=aN) o.2.2.1 (j:Int)).1=(rd (τ:=bI) o.2.2.2.1 (i:Int)).1)) 0 o.2.2.1.length with
    |true=>rfl
    |false=>
     rw[mT.b_eq,ap,ai (a9 _),af,af,mJ (L:=mT.c o (i:Int) (rd (τ:=bI) o.2.2.2.1 (i:Int))) (fun j=>decide ((rd (τ:=bI) o.2.2.2.1 (j:Int)).1=(rd (τ:=bI) o.2.2.2.1 (i:Int)).1)) i (some ((i:Int),24)) fun j hj=> ?_]
     ·cases mI (fun j=>decide ((rd (τ:=bI) o.2.2.2.1 (j:Int)).1=(rd (τ:=bI) o.2.2.2.1 (i:Int)).1)) 0 i with
      |true=>rfl
      |false=>
       rw[mT.c_eq,ap,ai (a9 _),af,af,au i _ hi (by omega)]
       unfold gw
       generalize (rd (τ:=bI) o.2.2.2.1 (i:Int)).2.size=n
       rw[show decide ((n:Int)<8)= !decide (8≤(n:Int)) by rw[←decide_not];congr 1;apply propext;omega,show decide ((n:Int)>64)= !decide ((n:Int)≤64) by rw[←decide_not];congr 1;apply propext;omega]
       cases decide ((n:Int).tmod 8=0)<;>cases decide (8≤(n:Int))<;>cases decide ((n:Int)≤64)<;>rfl
     ·rw[mT.c_eq,ap,aq,ah hj,ah (show j<o.2.2.2.1.length by omega),au j _ hj (by omega),cz];rfl
   ·rw[mT.b_eq,ap,aq,ah hj,au j _ hj (by omega),cz];rfl
def lV (a b c d:Int):Bool:=if a=c then decide (b<d)else decide (a<c)
def eP (o:bo) (u:Int):Int:=
 if 0≤u∧u< (o.2.2.1.length:Int)then((rd (τ:=aN) o.2.2.1 u).2.2.2.size:Int).tdiv 4
 else if(o.2.2.1.length:Int)≤u∧u< (o.2.2.1.length:Int)+(o.2.2.2.1.length:Int)then((rd (τ:=bI) o.2.2.2.1 (u-(o.2.2.1.length:Int))).2.size:Int).tdiv 8 else-1
structure UnitSz (o:bo):Prop extends ObjSz o where
 fs:∀i,i<o.2.2.1.length→(rd (τ:=aN) o.2.2.1 (i:Int)).2.2.2.size≤256
 ds:∀i,i<o.2.2.2.1.length→(rd (τ:=bI) o.2.2.2.1 (i:Int)).2.size≤64
theorem lW {α:Type} (f:Nat→α):∀k i j (h:j< (bP f i k).length),(bP f i k)[j]=f (i+j)
 |0,_,_,h=>by simp[bP]at h
 |k+1,i,0,_=>by simp[bP]
 |k+1,i,j+1,h=>by
  have:=lW f k (i+1) j (by rw[aW]at h⊢;omega)
  simp only[bP,List.getElem_cons_succ]
  rw[this];congr 1;omega
theorem CZ (n k:Nat) (h:n≤4096):IntKind.wrap .i64 ((n:Int).tdiv (k:Int))=(n:Int).tdiv (k:Int):=by
 rw[Int.tdiv_eq_ediv_of_nonneg (by omega)]
 have h1:0≤(n:Int)/(k:Int):=Int.ediv_nonneg (by omega) (by omega)
 have h2:(n:Int)/(k:Int)≤(n:Int):=Int.ediv_le_self _ (by omega)
 exact aQ (by omega) (by omega)
theorem rp (o:bo):(fG o).length=o.2.2.1.length+o.2.2.2.1.length:=by unfold fG;rw[List.length_append,aW,aW]
theorem Bo (o:bo) (hz:UnitSz o) (u:Nat) (hu:u<o.2.2.1.length+o.2.2.2.1.length):rd (τ:= .int .i64) (fG o) (u:Int)=eP o (u:Int):=by
 unfold eP
 have hl:=rp o
 rw[bj (τ:= .int .i64) (fG o) u (by omega)]
 by_cases h:u<o.2.2.1.length
 ·rw[av ⟨by omega,by omega⟩]
  have:(fG o)[u]'(by omega)=IntKind.wrap .i64 (((rd (τ:=aN) o.2.2.1 ((0+u:Nat):Int)).2.2.2.size:Int).tdiv 4):=by
   unfold fG
   rw[List.getElem_append_left (by rw[aW];exact h),lW]
  rw[this,Nat.zero_add]
  exact CZ _ 4 (by have:=hz.fs u h;omega)
 ·rw[ak (by omega),av ⟨by omega,by omega⟩]
  have:(fG o)[u]'(by omega)=IntKind.wrap .i64 (((rd (τ:=bI) o.2.2.2.1 ((0+(u-(bP (fun i=>IntKind.wrap .i64 (((rd (τ:=aN) o.2.2.1 (i:Int)).2.2.2.size:Int).tdiv 4)) 0 o.2.2.1.length).length):Nat):Int)).2.size:Int).tdiv 8):=by
   unfold fG
   rw[List.getElem_append_right (by rw[aW];omega),lW]
  rw[aW]at this
  rw[this,Nat.zero_add,show(u:Int)-(o.2.2.1.length:Int)=((u-o.2.2.1.length:Nat):Int) by omega]
  exact CZ _ 8 (by have:=hz.ds (u-o.2.2.1.length) (by omega);omega)
theorem uC (o:bo) (hz:UnitSz o) (u:Int): -1≤eP o u∧eP o u≤256:=by
 unfold eP
 split
 ·rename_i h
  have:=hz.fs u.toNat (by omega)
  rw[show((u.toNat:Nat):Int)=u by omega]at this
  rw[Int.tdiv_eq_ediv_of_nonneg (by omega)]
  omega
 ·split
  ·rename_i h
   have:=hz.ds (u-(o.2.2.1.length:Int)).toNat (by omega)
   rw[show(((u-(o.2.2.1.length:Int)).toNat:Nat):Int)=u-(o.2.2.1.length:Int) by omega]at this
   rw[Int.tdiv_eq_ediv_of_nonneg (by omega)]
   omega
  ·omega
theorem zB (o:bo) (hz:UnitSz o) (u:Int) (hu: -9223372036854775808≤u∧u≤9223372036854775807):HU o u=some (eP o u):=by
 rw[Fx]
 have h1:=hz.f
 have h2:=hz.d
 unfold eP
 by_cases h:0≤u∧u< (o.2.2.1.length:Int)
 ·have e1:decide (u≥0)=true:=ah h.1
  have e2:decide (u< (o.2.2.1.length:Int))=true:=ah h.2
  simp only[aA,e1,e2,ac,inL_true h.1 h.2,av h]
  have:=hz.fs u.toNat (by omega)
  rw[show((u.toNat:Nat):Int)=u by omega]at this
  rw[show(4:Int)=((4:Nat):Int) from rfl,CZ _ 4 (by omega)]
 ·have e0:(decide (u≥0)&&decide (u< (o.2.2.1.length:Int)))=false:=by simp;omega
  simp only[aA,ak h]
  generalize decide (u≥0)=b0 at*
  generalize decide (u< (o.2.2.1.length:Int))=b1 at*
  by_cases h3:(o.2.2.1.length:Int)≤u
  ·rw[ah (show u≥(o.2.2.1.length:Int) from h3),aQ (n:=u-(o.2.2.1.length:Int)) (by omega) (by omega)]
   by_cases h4:u< (o.2.2.1.length:Int)+(o.2.2.2.1.length:Int)
   ·rw[av ⟨h3,h4⟩,ah (show u-(o.2.2.1.length:Int)< (o.2.2.2.1.length:Int) by omega),inL_true (i:=u-(o.2.2.1.length:Int)) (n:=o.2.2.2.1.length) (by omega) (by omega)]
    have:=hz.ds (u-(o.2.2.1.length:Int)).toNat (by omega)
    rw[show(((u-(o.2.2.1.length:Int)).toNat:Nat):Int)=u-(o.2.2.1.length:Int) by omega]at this
    rw[show(8:Int)=((8:Nat):Int) from rfl,CZ _ 8 (by omega)]
    cases b0<;>cases b1<;>first|rfl|(exact absurd e0 (by decide))
   ·rw[ak (by omega),ai (show¬u-(o.2.2.1.length:Int)< (o.2.2.2.1.length:Int) by omega)]
    cases b0<;>cases b1<;>first|rfl|(exact absurd e0 (by decide))
  ·rw[ai (show¬u≥(o.2.2.1.length:Int) from h3),ak (by omega)]
   cases b0<;>cases b1<;>first|rfl|(exact absurd e0 (by decide))
def Ek (n:Int):Prop:= -9223372036854775808≤n∧n≤9223372036854775807
def iE (o:bo):Prop:=∀k,k<o.2.2.2.2.1.length→Ek (rd (τ:=a8) o.2.2.2.2.1 (k:Int)).1
def iF (o:bo) (r:sI):Bool:=gw r.1 0 ((o.2.2.1.length:Int)+(o.2.2.2.1.length:Int)-1)&&gw r.2.1 0 (eP o r.1-1)
noncomputable def k9 (o:bo) (k:Nat):Int:=
 if iF o (rd (τ:=a8) o.2.2.2.2.1 (k:Int))=false then 4
 else if(gw (rd (τ:=a8) o.2.2.2.2.1 (k:Int)).2.2.1 1 9&&(decide ((rd (τ:=a8) o.2.2.2.2.1 (k:Int)).2.2.1=9)==decide ((rd (τ:=a8) o.2.2.2.2.1 (k:Int)).1≥(o.2.2.1.length:Int))))=false then 26
 else if cn (rd (τ:=a8) o.2.2.2.2.1 (k:Int)).2.2.2.1=false then 3
 else if gw (rd (τ:=a8) o.2.2.2.2.1 (k:Int)).2.2.2.2 (-2147483648) 2147483647=false then 4
 else if k=0 then 0
 else if lV (rd (τ:=a8) o.2.2.2.2.1 ((k-1:Nat):Int)).1 (rd (τ:=a8) o.2.2.2.2.1 ((k-1:Nat):Int)).2.1 (rd (τ:=a8) o.2.2.2.2.1 (k:Int)).1 (rd (τ:=a8) o.2.2.2.2.1 (k:Int)).2.1=false then 24 else 0
theorem wF (pu pa u a:Int):(bif decide (u<pu)then some (24:Int)else bif decide (u=pu)then bif decide (a≤pa)then some 24 else some 0 else some 0)=some (if lV pu pa u a=false then 24 else 0):=by
 rcases Int.lt_trichotomy u pu with h|h|h
 ·rw[ah h,show lV pu pa u a=false by unfold lV;rw[ak (show¬pu=u by omega)];exact ai (by omega)];rfl
 ·subst h
  rw[ai (by omega),ah rfl,af,ac]
  have:lV u pa u a=decide (pa<a):=by unfold lV;rw[av rfl]
  rw[this]
  by_cases h:a≤pa
  ·rw[ah h,ai (show¬pa<a by omega)];rfl
  ·rw[ai h,ah (show pa<a by omega)];rfl
 ·rw[ai (by omega),ai (by omega),show lV pu pa u a=true by unfold lV;rw[ak (show¬pu=u by omega)];exact ah (by omega)];rfl
theorem wG (o:bo) (hz:UnitSz o) (r:sI) {β:Type} (K:Bool→Option β):
  ((Zx r.1 0 (IntKind.wrap .i64 (((fG o).length:Int)-1))).bind fun r2=>bif (!r2)then K true else(bif (aH r.1 (fG o).length)then((Zx r.2.1 0 (IntKind.wrap .i64 ((rd (τ:= .int .i64) (fG o) r.1)-1))).bind fun r3=>K (!r3))else none))=K (!iF o r):=by
 have h1:=hz.f
 have h2:=hz.d
 rw[rp,aQ (n:=((o.2.2.1.length+o.2.2.2.1.length:Nat):Int)-1) (by omega) (by omega),(cf _ _ _).1,(cf _ _ _).1]
 simp only[ae]
 unfold iF
 rw[Int.natCast_add]
 by_cases h:0≤r.1∧r.1≤(o.2.2.1.length:Int)+(o.2.2.2.1.length:Int)-1
 ·rw[bH.2 h,inL_true (by omega) (by omega)]
  have hu:=Bo o hz r.1.toNat (by omega)
  rw[show((r.1.toNat:Nat):Int)=r.1 by omega]at hu
  have hr:=uC o hz r.1
  simp only[aV,af,ac,Bool.true_and]
  rw[hu,aQ (n:=eP o r.1-1) (by omega) (by omega)]
 ·rw[show gw r.1 0 ((o.2.2.1.length:Int)+(o.2.2.2.1.length:Int)-1)=false by cases h5:gw r.1 0 ((o.2.2.1.length:Int)+(o.2.2.2.1.length:Int)-1);rfl;exact absurd (bH.1 h5) h];rfl
theorem wH (o:bo) (hz:UnitSz o) (r:sI) (hr:Ek r.1) {β:Type} (K:Bool→Option β):
  (bif decide (r.2.1<0)then K true else((HU o r.1).bind fun r1=>K (decide (r.2.1≥r1))))=K (!iF o r):=by
 rw[zB o hz _ hr]
 simp only[ae]
 have h1:=hz.f
 have h2:=hz.d
 have e:(decide (r.2.1<0)||decide (r.2.1≥eP o r.1))= !iF o r:=by
  unfold iF
  rw[Bool.eq_iff_iff]
  simp only[Bool.or_eq_true,bh,Bool.not_eq_true',Bool.and_eq_false_imp,bH]
  constructor
  ·intro h h3
   cases h4:gw r.2.1 0 (eP o r.1-1)with
   |false=>rfl
   |true=>rw[bH]at h4;omega
  ·intro h
   by_cases h3:0≤r.1∧r.1≤(o.2.2.1.length:Int)+(o.2.2.2.1.length:Int)-1
   ·have:=h h3
    by_cases h4:0≤r.2.1∧r.2.1≤eP o r.1-1
    ·rw[bH.2 h4]at this;cases this
    ·omega
   ·have:eP o r.1= -1:=by unfold eP;rw[ak (by omega),ak (by omega)]
    omega
 rw[←e]
 cases decide (r.2.1<0)<;>rfl
theorem zC (o:bo) (hz:UnitSz o):ia.c o (o.2.2.2.2.1.length:Int) 0=if(bn (k9 o) 0 o.2.2.2.2.1.length).2=0 then ia.d o o.2.2.2.2.2 (o.2.2.2.2.2.length:Int) 0 else some (bn (k9 o) 0 o.2.2.2.2.1.length):=by
 have h3:=hz.r
 rw[dm (L:=ia.c o (o.2.2.2.2.1.length:Int)) (k9 o) o.2.2.2.2.1.length fun i hi=> ?_]
 ·rw[ia.c_eq,ap,ai (a9 _),af]
 ·have e:If o (i:Int)=some (k9 o i):=by
   rw[EH,aq,ah hi,ac,zw o hz.toObjSz]
   simp only[ae,aA]
   rw[wG o hz (rd (τ:=a8) o.2.2.2.2.1 (i:Int)) (fun r5=>bif r5 then some 4 else _)]
   unfold k9
   generalize hrel:iF o (rd (τ:=a8) o.2.2.2.2.1 (i:Int))=ra
   rw[(cf _ _ _).1,(cf _ _ _).1,(eE _).1]
   simp only[ae]
   cases ra with
   |false=>rfl
   |true=>
    generalize gw (rd (τ:=a8) o.2.2.2.2.1 (i:Int)).2.2.1 1 9=b1
    generalize (decide ((rd (τ:=a8) o.2.2.2.2.1 (i:Int)).2.2.1=9)==decide ((rd (τ:=a8) o.2.2.2.2.1 (i:Int)).1≥(o.2.2.1.length:Int)))=b2
    cases b1 with
    |false=>rfl
    |true=>
     cases b2 with
     |false=>rfl
     |true=>
      generalize cn (rd (τ:=a8) o.2.2.2.2.1 (i:Int)).2.2.2.1=b3
      generalize gw (rd (τ:=a8) o.2.2.2.2.1 (i:Int)).2.2.2.2 (-2147483648) 2147483647=b4
      cases b3 with
      |false=>rfl
      |true=>
       cases b4 with
       |false=>rfl
       |true=>
        by_cases h0:i=0
        ·rw[show decide ((i:Int)>0)=false by simp[h0],av h0];rfl
        ·rw[show decide ((i:Int)>0)=true by simp;omega,ak h0,lQ i (by omega) (by omega),aq,ah (show i-1<o.2.2.2.2.1.length by omega),wF];rfl
  rw[ia.c_eq,ap,ah hi,au i _ hi (by omega),e]
  simp only[ae,ac]
  by_cases h:k9 o i=0
  ·rw[av h,ah h];rfl
  ·rw[ak h,ai h];rfl
theorem zD (o:bo) (hz:UnitSz o) (hr:iE o):Ae o=some (bn (k9 o) 0 o.2.2.2.2.1.length):=by
 have h3:=hz.r
 rw[Fy,dm (L:=Ae.a o) (k9 o) o.2.2.2.2.1.length fun i hi=> ?_]
 ·rw[Ae.a_eq,ap,ai (a9 _),af]
  exact jK _ _ _
 ·rw[Ae.a_eq,ap,aq,ah hi,ac,ac]
  simp only[aA]
  rw[wH o hz (rd (τ:=a8) o.2.2.2.2.1 (i:Int)) (hr i hi) (fun r5=>bif r5 then some ((i:Int),4)else _)]
  unfold k9
  generalize hrel:iF o (rd (τ:=a8) o.2.2.2.2.1 (i:Int))=ra
  rw[(cf _ _ _).2,(cf _ _ _).2,(eE _).2,au i _ hi (by omega)]
  simp only[ae]
  cases ra with
  |false=>rfl
  |true=>
   generalize gw (rd (τ:=a8) o.2.2.2.2.1 (i:Int)).2.2.1 1 9=b1
   generalize (decide ((rd (τ:=a8) o.2.2.2.2.1 (i:Int)).2.2.1=9)==decide ((rd (τ:=a8) o.2.2.2.2.1 (i:Int)).1≥(o.2.2.1.length:Int)))=b2
   cases b1 with
   |false=>rfl
   |true=>
    cases b2 with
    |false=>rfl
    |true=>
     generalize cn (rd (τ:=a8) o.2.2.2.2.1 (i:Int)).2.2.2.1=b3
     generalize gw (rd (τ:=a8) o.2.2.2.2.1 (i:Int)).2.2.2.2 (-2147483648) 2147483647=b4
     cases b3 with
     |false=>rfl
     |true=>
      cases b4 with
      |false=>rfl
      |true=>
       by_cases h0:i=0
       ·rw[show decide ((i:Int)>0)=false by simp[h0],av h0];rfl
       ·rw[show decide ((i:Int)>0)=true by simp;omega,ak h0,lQ i (by omega) (by omega),aq,ah (show i-1<o.2.2.2.2.1.length by omega),zr]
        unfold lV
        simp only[ae,ac,aV,af,Bool.and_self]
        generalize (if(rd (τ:=a8) o.2.2.2.2.1 ((i-1:Nat):Int)).1=(rd (τ:=a8) o.2.2.2.2.1 (i:Int)).1 then decide ((rd (τ:=a8) o.2.2.2.2.1 ((i-1:Nat):Int)).2.1< (rd (τ:=a8) o.2.2.2.2.1 (i:Int)).2.1)else decide ((rd (τ:=a8) o.2.2.2.2.1 ((i-1:Nat):Int)).1< (rd (τ:=a8) o.2.2.2.2.1 (i:Int)).1))=b5
        cases b5<;>rfl
def wI (o:bo) (k:Nat):Int:=
 if gw (rd (τ:=pq) o.2.2.2.2.2 (k:Int)).1 0 255=false then 4 else if k=0 then 0
 else if decide ((rd (τ:=pq) o.2.2.2.2.2 (k:Int)).1≤(rd (τ:=pq) o.2.2.2.2.2 ((k-1:Nat):Int)).1)=true then 24 else 0
theorem zE (o:bo) (hz:ObjSz o):ia.d o o.2.2.2.2.2 (o.2.2.2.2.2.length:Int) 0=some (bn (wI o) 0 o.2.2.2.2.2.length):=by
 have h3:=hz.s
 rw[dm (L:=ia.d o o.2.2.2.2.2 (o.2.2.2.2.2.length:Int)) (wI o) o.2.2.2.2.2.length fun i hi=> ?_]
 ·rw[ia.d_eq,ap,ai (a9 _),af]
  exact jK _ _ _
 ·rw[ia.d_eq,ap,aq,ah hi,au i _ hi (by omega),(cf _ _ _).1]
  unfold wI
  simp only[ae,ac]
  by_cases h0:i=0
  ·rw[show decide ((i:Int)>0)=false by simp[h0],av h0]
   cases gw (rd (τ:=pq) o.2.2.2.2.2 (i:Int)).1 0 255<;>rfl
  ·rw[show decide ((i:Int)>0)=true by simp;omega,ak h0,lQ i (by omega) (by omega),aq,ah (show i-1<o.2.2.2.2.2.length by omega)]
   cases gw (rd (τ:=pq) o.2.2.2.2.2 (i:Int)).1 0 255<;>cases decide ((rd (τ:=pq) o.2.2.2.2.2 (i:Int)).1≤(rd (τ:=pq) o.2.2.2.2.2 ((i-1:Nat):Int)).1)<;>rfl
theorem zF (o:bo) (hz:ObjSz o):Af o=some (bn (wI o) 0 o.2.2.2.2.2.length):=by
 have h3:=hz.s
 rw[Fz,dm (L:=Af.a o) (wI o) o.2.2.2.2.2.length fun i hi=> ?_]
 ·rw[Af.a_eq,ap,ai (a9 _),af]
  exact jK _ _ _
 ·rw[Af.a_eq,ap,aq,ah hi,au i _ hi (by omega),(cf _ _ _).2]
  unfold wI
  simp only[ae,ac]
  by_cases h0:i=0
  ·rw[show decide ((i:Int)>0)=false by simp[h0],av h0]
   cases gw (rd (τ:=pq) o.2.2.2.2.2 (i:Int)).1 0 255<;>rfl
  ·rw[show decide ((i:Int)>0)=true by simp;omega,ak h0,lQ i (by omega) (by omega),aq,ah (show i-1<o.2.2.2.2.2.length by omega)]
   cases gw (rd (τ:=pq) o.2.2.2.2.2 (i:Int)).1 0 255<;>cases decide ((rd (τ:=pq) o.2.2.2.2.2 (i:Int)).1≤(rd (τ:=pq) o.2.2.2.2.2 ((i-1:Nat):Int)).1)<;>rfl
noncomputable def uD (o:bo):Int×Int:=
 if cn o.1=false then(0,3)else if gw o.2.1 0 5=false then(0,27)else if o.2.2.1.length=0 then(0,5)
 else if¬(o.2.2.1.length≤4∧o.2.2.2.1.length≤4∧o.2.2.2.2.1.length≤32∧o.2.2.2.2.2.length≤4)then(0,6)
 else if(bn (lS o) 0 o.2.2.1.length).2≠0 then bn (lS o) 0 o.2.2.1.length
 else if(bn (lT o) 0 o.2.2.2.1.length).2≠0 then bn (lT o) 0 o.2.2.2.1.length
 else if(bn (k9 o) 0 o.2.2.2.2.1.length).2≠0 then bn (k9 o) 0 o.2.2.2.2.1.length
 else bn (wI o) 0 o.2.2.2.2.2.length
theorem uE {n:Nat} (h:bz n=true):n≤256:=by
 unfold bz at h
 cases h1:bT n with
 |false=>rw[h1]at h;cases h
 |true=>exact(dV h1).2
theorem ke {o:bo} {i:Nat} (h:lS o i=0):cn (rd (τ:=aN) o.2.2.1 (i:Int)).1=true∧hJ ((cO o).take i) (rd (τ:=aN) o.2.2.1 (i:Int)).1=false∧dl (rd (τ:=aN) o.2.2.1 (i:Int)).2.2.1=true∧bz (rd (τ:=aN) o.2.2.1 (i:Int)).2.2.2.size=true:=by
 unfold lS at h
 cases h1:cn (rd (τ:=aN) o.2.2.1 (i:Int)).1<;>cases h2:hJ ((cO o).take i) (rd (τ:=aN) o.2.2.1 (i:Int)).1<;>cases h3:dl (rd (τ:=aN) o.2.2.1 (i:Int)).2.2.1<;>cases h4:bz (rd (τ:=aN) o.2.2.1 (i:Int)).2.2.2.size<;>simp[h1,h2,h3,h4]at h⊢
theorem iG {o:bo} {i:Nat} (h:lT o i=0):cn (rd (τ:=bI) o.2.2.2.1 (i:Int)).1=true∧hJ ((cO o).take (o.2.2.1.length+i)) (rd (τ:=bI) o.2.2.2.1 (i:Int)).1=false∧pw (rd (τ:=bI) o.2.2.2.1 (i:Int)).2.size=true:=by
 unfold lT at h
 cases h1:cn (rd (τ:=bI) o.2.2.2.1 (i:Int)).1<;>cases h2:hJ ((cO o).take (o.2.2.1.length+i)) (rd (τ:=bI) o.2.2.2.1 (i:Int)).1<;>cases h4:pw (rd (τ:=bI) o.2.2.2.1 (i:Int)).2.size<;>simp[h1,h2,h4]at h⊢
theorem nk {n:Nat} (h:pw n=true):8≤n∧n≤64∧n%8=0:=by
 unfold pw at h
 rw[aB,bH,bh,Int.tmod_eq_emod_of_nonneg (by omega)]at h
 omega
theorem rq {o:bo} (hz:ObjSz o) (h1:(bn (lS o) 0 o.2.2.1.length).2=0) (h2:(bn (lT o) 0 o.2.2.2.1.length).2=0):UnitSz o:=
 ⟨hz,fun i hi=>uE (ke ((dn _ _ _).1 h1 i (Nat.zero_le _) (by omega))).2.2.2,fun i hi=>(nk (iG ((dn _ _ _).1 h2 i (Nat.zero_le _) (by omega))).2.2).2.1⟩
theorem rt (o:bo) (hr:iE o):ia o=some (uD o)∧It o=some (uD o):=by
 rw[EI,FA,(eE _).1,(eE _).2,(cf _ _ _).1,(cf _ _ _).2]
 unfold uD
 simp only[ae,aA]
 cases cn o.1 with
 |false=>exact⟨rfl,rfl⟩
 |true=>
  cases gw o.2.1 0 5 with
  |false=>exact⟨rfl,rfl⟩
  |true=>
   by_cases h0:o.2.2.1.length=0
   ·rw[av h0,ah (show(o.2.2.1.length:Int)=0 by omega)];exact⟨rfl,rfl⟩
   rw[ak h0,ai (show¬(o.2.2.1.length:Int)=0 by omega)]
   rcases Classical.em (o.2.2.1.length≤4∧o.2.2.2.1.length≤4∧o.2.2.2.2.1.length≤32∧o.2.2.2.2.2.length≤4)with hz|hz
   ·rw[ak (not_not_intro hz),ai (show¬(o.2.2.1.length:Int)>4 by omega),ai (show¬(o.2.2.2.1.length:Int)>4 by omega),ai (show¬(o.2.2.2.2.1.length:Int)>32 by omega),ai (show¬(o.2.2.2.2.2.length:Int)>4 by omega)]
    have hz':ObjSz o:=⟨hz.1,hz.2.1,hz.2.2.1,hz.2.2.2⟩
    simp only[aV,af]
    rw[zx o hz',zz o hz']
    simp only[ae]
    by_cases h1:(bn (lS o) 0 o.2.2.1.length).2=0
    ·rw[av h1,ak (not_not_intro h1),ah h1,zy o hz',zA o hz']
     simp only[ae,aV,af]
     by_cases h2:(bn (lT o) 0 o.2.2.2.1.length).2=0
     ·have hu:=rq hz' h1 h2
      rw[av h2,ak (not_not_intro h2),ah h2,zC o hu,zD o hu hr]
      simp only[ae,aV,af]
      by_cases h3:(bn (k9 o) 0 o.2.2.2.2.1.length).2=0
      ·rw[av h3,ak (not_not_intro h3),ah h3,zE o hz',zF o hz'];exact⟨rfl,rfl⟩
      ·rw[ak h3,av h3,ai h3];exact⟨rfl,rfl⟩
     ·rw[ak h2,av h2,ai h2];exact⟨rfl,rfl⟩
    ·rw[ak h1,av h1,ai h1];exact⟨rfl,rfl⟩
   ·rw[av hz]
    have e:(decide ((o.2.2.1.length:Int)>4)||decide ((o.2.2.2.1.length:Int)>4)||decide ((o.2.2.2.2.1.length:Int)>32)||decide ((o.2.2.2.2.2.length:Int)>4))=true:=by simp;omega
    generalize decide ((o.2.2.1.length:Int)>4)=b1 at*
    generalize decide ((o.2.2.2.1.length:Int)>4)=b2 at*
    generalize decide ((o.2.2.2.2.1.length:Int)>32)=b3 at*
    generalize decide ((o.2.2.2.2.2.length:Int)>4)=b4 at*
    cases b1<;>cases b2<;>cases b3<;>cases b4<;>first|exact⟨rfl,rfl⟩|(exact absurd e (by decide))
noncomputable def wJ (o:bo):Bool:=decide ((uD o).2=0)
theorem gm (o:bo) (hr:iE o):HI o=some (wJ o)∧HV o=some (wJ o):=by
 rw[EJ,FB,(rt o hr).1,(rt o hr).2];exact⟨rfl,rfl⟩
structure eg (o:bo):Prop extends UnitSz o where
 depth:0≤o.2.1∧o.2.1≤5
 pos:0<o.2.2.1.length
 fun_:∀i,i<o.2.2.1.length→lS o i=0
 dat:∀i,i<o.2.2.2.1.length→lT o i=0
 rel:∀i,i<o.2.2.2.2.1.length→k9 o i=0
theorem pz {o:bo} (h:wJ o=true):eg o:=by
 unfold wJ at h
 rw[bh]at h
 unfold uD at h
 split at h
 ·cases h
 split at h
 ·cases h
 rename_i hn hd
 split at h
 ·cases h
 split at h
 ·cases h
 rename_i h0 hz
 have hz:=Classical.not_not.1 hz
 split at h
 ·rename_i h1;exact absurd h h1
 split at h
 ·rename_i h2;exact absurd h h2
 split at h
 ·rename_i h3;exact absurd h h3
 rename_i h1 h2 h3
 have h1:=Classical.not_not.1 h1
 have h2:=Classical.not_not.1 h2
 have h3:=Classical.not_not.1 h3
 have hz':ObjSz o:=⟨hz.1,hz.2.1,hz.2.2.1,hz.2.2.2⟩
 have hd:gw o.2.1 0 5=true:=by cases h4:gw o.2.1 0 5;exact absurd h4 hd;rfl
 exact⟨rq hz' h1 h2,bH.1 hd,by omega,fun i hi=>(dn _ _ _).1 h1 i (Nat.zero_le _) (by omega),fun i hi=>(dn _ _ _).1 h2 i (Nat.zero_le _) (by omega),fun i hi=>(dn _ _ _).1 h3 i (Nat.zero_le _) (by omega)⟩
theorem Bp (X:Nat) (h:X<2^64):X&&&(2^64-1-4095)=X/4096*4096:=by
 have e:(2^64-1-4095:Nat)=(2^52-1)*2^12:=by decide
 have e2:X/4096*4096=(X/2^12)*2^12:=by rfl
 rw[e,e2]
 apply Nat.eq_of_testBit_eq
 intro i
 rw[Nat.testBit_and,Nat.testBit_mul_two_pow,Nat.testBit_mul_two_pow,Nat.testBit_two_pow_sub_one,Nat.testBit_div_two_pow]
 by_cases h1:12≤i
 ·rw[show i-12+12=i by omega]
  by_cases h2:i<64
  ·simp[h1];omega
  ·have:X.testBit i=false:=Nat.testBit_lt_two_pow (Nat.lt_of_lt_of_le h (Nat.pow_le_pow_right (by decide) (by omega)))
   rw[this];simp
 ·simp[h1]
def sV (v:Int):Int:=(v+2048)-(v+2048)%4096
def C0 (v:Int):Prop:= -1152921504606846976≤v∧v≤1152921504606846976
theorem mN (v:Int) (h:C0 v):Hx v=some (sV v):=by
 obtain⟨h1,h2⟩:=h
 rw[EZ,aQ (n:=v+2048) (by omega) (by omega)]
 congr 1
 unfold sn
 have e1:(BitVec.ofInt IntKind.i64.bits (v+2048)&&& ~~~BitVec.ofInt IntKind.i64.bits 4095).toNat=(BitVec.ofInt IntKind.i64.bits (v+2048)).toNat/4096*4096:=by
  rw[BitVec.toNat_and,BitVec.toNat_not]
  have:(BitVec.ofInt IntKind.i64.bits (4095:Int)).toNat=4095:=by decide
  rw[this]
  exact Bp _ (BitVec.isLt _)
 rw[e1]
 have e2:=wr (v+2048)
 generalize (BitVec.ofInt IntKind.i64.bits (v+2048)).toNat=X at*
 unfold sV
 have:(((X/4096*4096:Nat)):Int)=(v+2048)%18446744073709551616/4096*4096:=by omega
 rw[this]
 refine jD (if v+2048<0 then 1 else 0) ?_ (by omega) (by omega)
 split<;>omega
theorem El (v:Int):cu v 12=v-sV v:=by
 unfold cu sV
 have e1:(2:Int)^12=4096:=by decide
 have e2:(2:Int)^(12-1)=2048:=by decide
 rw[e1,e2]
 split<;>omega
theorem ru (v:Int) (h:C0 v):Gt v=some (v-sV v):=by
 rw[E0,mN v h]
 simp only[ae]
 rw[aQ (by have:=h.1;unfold sV;omega) (by unfold sV;omega)]
theorem sJ (v:Int) (h:C0 v):Gu v=some (v-sV v):=by
 obtain⟨h1,h2⟩:=h
 rw[FP,iA v 12 (by decide) (by decide) (by omega) (by omega)]
 simp only[ae]
 rw[show(12:Int).toNat=12 from rfl,El]
theorem uF (v:Int) (h:C0 v):HX v=some (sV v):=by
 rw[FQ,sJ v h]
 simp only[ae]
 have:v-(v-sV v)=sV v:=by omega
 rw[this,aQ (by have:=h.1;unfold sV;omega) (by have:=h.2;unfold sV;omega)]
theorem zG (f i:Int) (hf:1≤f∧f≤9):Ii f i=some (gf f i):=by
 rw[E3]
 have t1:decide (i.tmod 4096=0)=decide (i%4096=0):=by
  congr 1;exact propext ⟨fun h=>by rw[←Int.dvd_iff_tmod_eq_zero]at h;omega,fun h=>by rw[←Int.dvd_iff_tmod_eq_zero];omega⟩
 have t2:decide (i.tmod 2=0)=decide (i%2=0):=by
  congr 1;exact propext ⟨fun h=>by rw[←Int.dvd_iff_tmod_eq_zero]at h;omega,fun h=>by rw[←Int.dvd_iff_tmod_eq_zero];omega⟩
 rw[t1,t2]
 simp only[cU,ae,aA]
 rcases ga hf with rfl|rfl|rfl|rfl|rfl|rfl|rfl|rfl|rfl
 all_goals simp[gf,eC]
 all_goals (try (split<;>simp_all))
 all_goals (try (intro q1 q2;omega))
def uG (x:bS) (k:Int):Bool:=
 if k=1 then decide (x.1=1)else if k=2∨k=5 then decide ((cP x.1).1=3)&& !decide (x.1=4)else if k=3∨k=6 then decide ((cP x.1).1=5)
 else if k=4 then decide (x.1=2)else if k=7 then decide (x.1=3)else decide ((cP x.1).1=4)
def hX (k v p:Int):Int:=
 if k=1 then sV v else if k=2∨k=3 then v-sV v else if k=4 then sV (v-p)else if k=5∨k=6 then v-p+4-sV (v-p+4)else v-p
theorem wK (n:Int) (h:1≤n) (h':n≤64):decide ((cP n).1=5)=(decide (18≤n)&&decide (n≤21)):=by
 obtain⟨k,rfl⟩:=ng (n:=n) (by omega) h'
 revert k;decide
theorem Br (x:bS) (h:1≤x.1) (h':x.1≤64):HP x=some (decide ((cP x.1).1=3)&& !decide (x.1=4)):=by
 rw[E1,kX _ (by omega) h']
 simp only[ae]
 cases decide ((cP x.1).1=3)<;>rfl
theorem wL {k:Int} (h:1≤k∧k≤8):k=1∨k=2∨k=3∨k=4∨k=5∨k=6∨k=7∨k=8:=by omega
def DD (v:Int):Prop:= -1099511627776≤v∧v≤1099511627776
theorem uH (x:bS) (h:1≤x.1) (h':x.1≤64) (k v p:Int) (hk:1≤k∧k≤8) (hv:DD v) (hp:DD p):Ih x k v p=some (hX k v p,uG x k):=by
 have hb:=nj x.1 h h'
 have hs:=wK x.1 h h'
 rw[E2,Br x h h',mG,pn,←hb,←hs]
 obtain⟨v1,v2⟩:=hv
 obtain⟨p1,p2⟩:=hp
 rw[aQ (n:=v-p) (by omega) (by omega),aQ (n:=p-4) (by omega) (by omega),aQ (n:=v-(p-4)) (by omega) (by omega),show v-(p-4)=v-p+4 by omega,
  mN v ⟨by omega,by omega⟩,ru v ⟨by omega,by omega⟩,mN (v-p) ⟨by omega,by omega⟩,ru (v-p+4) ⟨by omega,by omega⟩]
 unfold hX uG
 rcases wL hk with rfl|rfl|rfl|rfl|rfl|rfl|rfl|rfl<;>rfl
theorem Bs (x:bS) (h:1≤x.1) (h':x.1≤64) (k:Int) (hk:1≤k∧k≤8):Iw x k=some (uG x k):=by
 rw[FO,eZ _ (by omega) h']
 unfold uG
 simp only[ae,aA]
 generalize (cP x.1).1=f
 rcases wL hk with rfl|rfl|rfl|rfl|rfl|rfl|rfl|rfl<;>first|rfl|(simp only[];cases decide (f=3)<;>rfl)
theorem C3 (k v p:Int) (hk:1≤k∧k≤8) (hv:DD v) (hp:DD p):Ix k v p=some (hX k v p):=by
 obtain⟨v1,v2⟩:=hv
 obtain⟨p1,p2⟩:=hp
 rw[FR,aQ (n:=v-p) (by omega) (by omega),aQ (n:=v-p+4) (by omega) (by omega),uF v ⟨by omega,by omega⟩,sJ v ⟨by omega,by omega⟩,uF (v-p) ⟨by omega,by omega⟩,sJ (v-p+4) ⟨by omega,by omega⟩]
 unfold hX
 rcases wL hk with rfl|rfl|rfl|rfl|rfl|rfl|rfl|rfl<;>rfl
theorem uI (k v p:Int) (hv:DD v) (hp:DD p):Ek (hX k v p):=by
 obtain⟨v1,v2⟩:=hv
 obtain⟨p1,p2⟩:=hp
 unfold hX Ek sV
 repeat' split
 all_goals omega
theorem zH {x:bS} {i:Int} (h:ce x=true):ce (x.1,x.2.1,x.2.2.1,x.2.2.2.1,i)=gf (cP x.1).1 i:=by
 unfold ce at h⊢
 simp only[aB]at h
 simp only[h.1,Bool.and_self,Bool.true_and]
theorem C4 {i:Int} (h:gf 1 i=true):i%4096=0:=by
 unfold gf at h
 rw[av rfl]at h
 simp only[aB,bh]at h
 exact h.2
theorem qk (w k v p:Int) (hw:0≤w∧w<4294967296) (hk:1≤k∧k≤8) (hv:DD v) (hp:DD p):∃r,Ij w k v p=some r∧Iy w k v p=some r:=by
 obtain⟨d,h1,h2,hd⟩:=ni w hw.1 hw.2
 rw[E4,FS,h1,h2]
 simp only[ae]
 cases hb:d.2 with
 |false=>exact⟨(0,10),rfl,rfl⟩
 |true=>
  obtain⟨n1,n2,hr,hri⟩:=hd.ins hw.1 hw.2 hb
  rw[uH _ n1 n2 k v p hk hv hp,Bs _ n1 n2 k hk,C3 k v p hk hv hp,kX _ (by omega) n2]
  simp only[ae,aV,af]
  cases uG d.1 k with
  |false=>exact⟨(0,26),rfl,rfl⟩
  |true=>
   rw[zG _ _ (gg n1 n2),jF,zH hri]
   simp only[ae,aV,af]
   cases hi:gf (cP d.1.1).1 (hX k v p)with
   |false=>exact⟨(0,25),rfl,rfl⟩
   |true=>
    have hR:jE (d.1.1,d.1.2.1,d.1.2.2.1,d.1.2.2.2.1,hX k v p):=⟨hr.d,hr.a,hr.b,uI k v p hv hp⟩
    rw[jb (d.1.1,d.1.2.1,d.1.2.2.1,d.1.2.2.2.1,hX k v p) n1 n2 hR,fE (d.1.1,d.1.2.1,d.1.2.2.1,d.1.2.2.2.1,hX k v p) n1 n2 hR fun h=>by
     rw[show(cP d.1.1).1=1 from h]at hi;exact C4 hi]
    exact⟨_,rfl,rfl⟩
theorem zI (L:Int→Option Int) (c:Nat→Int) (n:Nat) (hstep:∀i:Nat,i<n→L (i:Int)=if c i=0 then L ((i+1:Nat):Int)else some (c i)):
  ∀k i:Nat,i+k=n→L (i:Int)=if(bn c i k).2=0 then L (n:Int)else some (bn c i k).2:=by
 intro k
 induction k with
 |zero=>
   intro i h;have:i=n:=by omega
   subst this;rfl
 |succ k ih=>
  intro i h
  rw[hstep i (by omega),ih (i+1) (by omega),bn]
  by_cases h:c i=0
  ·rw[av h,av h]
  ·rw[ak h,ak h,ak h]
theorem i4 {L:Int→Option Int} (c:Nat→Int) (n:Nat) (hstep:∀i:Nat,i<n→L (i:Int)=if c i=0 then L ((i+1:Nat):Int)else some (c i)):L 0=if(bn c 0 n).2=0 then L (n:Int)else some (bn c 0 n).2:=
 zI L c n hstep n 0 (by omega)
abbrev gJ:Type:=List Int×List ByteArray×List Int×List ByteArray
abbrev IK:Type:=gJ×List eF×bo
theorem gp (t:List eF) (n:ByteArray):eG t n= -1∨(0≤eG t n∧eG t n< (t.length:Int)):=by
 unfold eG
 rcases gk (fun i=>decide ((rd (τ:=cb) t (i:Int)).1=n)) t.length 0 with⟨h,_⟩|⟨j,h1,_,h3,_⟩
 ·exact .inl h
 ·rw[h1];exact .inr ⟨by omega,by omega⟩
def Cm (t:List eF) (o:bo) (i:Nat):Int:=
 if(rd (τ:=aN) o.2.2.1 (i:Int)).2.1=true then(if eG t (rd (τ:=aN) o.2.2.1 (i:Int)).1<0 then 23 else if(rd (τ:=cb) t (eG t (rd (τ:=aN) o.2.2.1 (i:Int)).1)).2.1=1 then 0 else 26)
 else if eG t (rd (τ:=aN) o.2.2.1 (i:Int)).1≥0 then 24 else 0
def DE (t:List eF) (o:bo) (i:Nat):Int:=if eG t (rd (τ:=bI) o.2.2.2.1 (i:Int)).1≥0 then 24 else 0
def gq (t:List eF) (o:bo):Int:=
 if(bn (Cm t o) 0 o.2.2.1.length).2=0 then(bn (DE t o) 0 o.2.2.2.1.length).2 else(bn (Cm t o) 0 o.2.2.1.length).2
theorem uJ (c:Nat→Int) (i k:Nat):(if(bn c i k).2=0 then some (0:Int)else some (bn c i k).2)=some (bn c i k).2:=by
 by_cases h:(bn c i k).2=0
 ·rw[av h,h]
 ·rw[ak h]
theorem wM (l:gJ) (t:List eF) (o:bo) (ht:t.length≤64) (hz:ObjSz o):pX (l,t,o)=some (gq t o):=by
 have h1:=hz.f
 have h2:=hz.d
 rw[EK]
 show pX.a (l,t,o) o.2.2.1 (o.2.2.1.length:Int) 0=_
 rw[i4 (L:=pX.a (l,t,o) o.2.2.1 (o.2.2.1.length:Int)) (Cm t o) o.2.2.1.length fun i hi=> ?_]
 ·rw[pX.a_eq,ap,ai (a9 _),af]
  show(if _ then pX.b (l,t,o) o.2.2.2.1 (o.2.2.2.1.length:Int) 0 else _)=_
  rw[i4 (L:=pX.b (l,t,o) o.2.2.2.1 (o.2.2.2.1.length:Int)) (DE t o) o.2.2.2.1.length fun i hi=> ?_]
  ·rw[pX.b_eq,ap,ai (a9 _),af,uJ]
   unfold gq
   split<;>rfl
  ·rw[pX.b_eq,ap,aq,ah hi,au i _ hi (by omega),(gI t _ (by omega)).1]
   unfold DE
   simp only[ac,ae]
   by_cases h:eG t (rd (τ:=bI) o.2.2.2.1 (i:Int)).1≥0
   ·rw[av h,ah h];rfl
   ·rw[ak h,ai h];rfl
 ·rw[pX.a_eq,ap,aq,ah hi,au i _ hi (by omega),(gI t _ (by omega)).1]
  unfold Cm
  simp only[ac,ae,aA]
  have hr:=gp t (rd (τ:=aN) o.2.2.1 (i:Int)).1
  generalize eG t (rd (τ:=aN) o.2.2.1 (i:Int)).1=e at*
  cases (rd (τ:=aN) o.2.2.1 (i:Int)).2.1 with
  |false=>
   by_cases h:e≥0
   ·simp only[Bool.false_eq_true,if_false,av h,ah h];rfl
   ·simp only[Bool.false_eq_true,if_false,ak h,ai h];rfl
  |true=>
   rcases hr with h|h
   ·simp only[if_true,av (show e<0 by omega),ah (show e<0 by omega)];rfl
   ·simp only[if_true,ak (show¬e<0 by omega),ai (show¬e<0 by omega),inL_true h.1 h.2]
    by_cases h3:(rd (τ:=cb) t e).2.1=1
    ·simp only[av h3,ah h3];rfl
    ·simp only[ak h3,ai h3];rfl
theorem wN (t:List eF) (o:bo) (ht:t.length≤64) (hz:ObjSz o):rK t o=some (gq t o):=by
 have h1:=hz.f
 have h2:=hz.d
 rw[FC]
 rw[i4 (L:=rK.a t o) (Cm t o) o.2.2.1.length fun i hi=> ?_]
 ·rw[rK.a_eq,ap,ai (a9 _),af]
  rw[i4 (L:=rK.b t o) (DE t o) o.2.2.2.1.length fun i hi=> ?_]
  ·rw[rK.b_eq,ap,ai (a9 _),af,uJ]
   unfold gq
   split<;>rfl
  ·rw[rK.b_eq,ap,aq,ah hi,au i _ hi (by omega),(gI t _ (by omega)).2]
   unfold DE
   simp only[ac,ae]
   by_cases h:eG t (rd (τ:=bI) o.2.2.2.1 (i:Int)).1≥0
   ·rw[av h,ah h];rfl
   ·rw[ak h,ai h];rfl
 ·rw[rK.a_eq,ap,aq,ah hi,au i _ hi (by omega),(gI t _ (by omega)).2]
  unfold Cm
  simp only[ac,ae]
  have hr:=gp t (rd (τ:=aN) o.2.2.1 (i:Int)).1
  generalize eG t (rd (τ:=aN) o.2.2.1 (i:Int)).1=e at*
  cases (rd (τ:=aN) o.2.2.1 (i:Int)).2.1 with
  |false=>
   by_cases h:e≥0
   ·simp only[Bool.false_eq_true,if_false,av h,ah h];rfl
   ·simp only[Bool.false_eq_true,if_false,ak h,ai h];rfl
  |true=>
   rcases hr with h|h
   ·simp only[if_true,av (show e<0 by omega),ah (show e<0 by omega)];rfl
   ·simp only[if_true,ak (show¬e<0 by omega),ai (show¬e<0 by omega),inL_true h.1 h.2]
    by_cases h3:(rd (τ:=cb) t e).2.1=1
    ·simp only[av h3,ah h3];rfl
    ·simp only[ak h3,ai h3];rfl
structure cv (a:bU):Prop where
 base:0≤a.1∧a.1≤1048575∧a.1%8=0
 size:0≤a.2.1∧a.2.1≤1048576-a.1∧a.2.1%8=0
 top:a.1≤a.2.2∧a.2.2≤a.1+a.2.1∧a.2.2%8=0
theorem mO (n:Int):n.tmod 8=0↔n%8=0:=⟨fun h=>by rw[←Int.dvd_iff_tmod_eq_zero]at h;omega,fun h=>by rw[←Int.dvd_iff_tmod_eq_zero];omega⟩
theorem dB {a:bU}:rk a=true↔cv a:=by
 unfold rk
 simp only[aB,bH,bh,mO]
 constructor
 ·rintro⟨⟨⟨⟨⟨h1,h2⟩,h3⟩,h4⟩,h5⟩,h6⟩
  rw[aQ (n:=1048576-a.1) (by omega) (by omega)]at h2
  rw[aQ (n:=a.1+a.2.1) (by omega) (by omega)]at h3
  exact⟨⟨h1.1,h1.2,h4⟩,⟨h2.1,h2.2,h5⟩,⟨h3.1,h3.2,h6⟩⟩
 ·rintro⟨⟨h1,h2,h3⟩,⟨h4,h5,h6⟩,h7,h8,h9⟩
  rw[aQ (n:=1048576-a.1) (by omega) (by omega),aQ (n:=a.1+a.2.1) (by omega) (by omega)]
  exact⟨⟨⟨⟨⟨⟨h1,h2⟩,h4,h5⟩,h7,h8⟩,h3⟩,h6⟩,h9⟩
def rx (n:Nat):Nat:=(n+7)/8*8
def aJ (a:bU) (n:Nat):bU×Int×Bool:=if(rx n:Int)>a.1+a.2.1-a.2.2 then(a,0,false)else((a.1,a.2.1,a.2.2+(rx n:Int)),a.2.2,true)
theorem eh {a:bU} (h:cv a) (n:Nat):cv (aJ a n).1:=by
 unfold aJ
 split
 ·exact h
 ·obtain⟨⟨h1,h2,h3⟩,⟨h4,h5,h6⟩,h7,h8,h9⟩:=h
  have:rx n%8=0:=by unfold rx;omega
  refine⟨⟨h1,h2,h3⟩,⟨h4,h5,h6⟩, ?_, ?_, ?_⟩<;>simp only<;>omega
theorem gt (a:bU) (h:cv a) (n:Nat) (hn:n≤256):Hv a (n:Int)=some (aJ a n):=by
 obtain⟨⟨h1,h2,h3⟩,⟨h4,h5,h6⟩,h7,h8,h9⟩:=h
 rw[EL,aQ (n:=(n:Int)+7) (by omega) (by omega),Int.tdiv_eq_ediv_of_nonneg (by omega),aQ (n:=((n:Int)+7)/8) (by omega) (by omega),aQ (n:=((n:Int)+7)/8*8) (by omega) (by omega),aQ (n:=a.1+a.2.1) (by omega) (by omega),aQ (n:=a.1+a.2.1-a.2.2) (by omega) (by omega),show((n:Int)+7)/8*8=(rx n:Int) by unfold rx;omega]
 have:rx n≤264:=by unfold rx;omega
 rw[aQ (n:=a.2.2+(rx n:Int)) (by omega) (by omega)]
 unfold aJ
 by_cases h:(rx n:Int)>a.1+a.2.1-a.2.2
 ·rw[av h,ah h];rfl
 ·rw[ak h,ai h];rfl
theorem nF (a:bU) (h:cv a) (z:bU):∀(k n:Nat),n+k=rx n→n≤256→Ag.a (n:Int) a z=some (aJ a n):=by
 obtain⟨⟨h1,h2,h3⟩,⟨h4,h5,h6⟩,h7,h8,h9⟩:=h
 intro k
 induction k with
 |zero=>
  intro n hn hn2
  have h0:n%8=0:=by unfold rx at hn;omega
  have e:decide ((n:Int).tmod 8=0)=true:=ah ((mO _).2 (by omega))
  rw[Ag.a_eq,e,aQ (n:=a.1+a.2.1) (by omega) (by omega),aQ (n:=a.1+a.2.1-a.2.2) (by omega) (by omega),aQ (n:=a.2.2+(n:Int)) (by omega) (by omega)]
  unfold aJ
  rw[←hn,Nat.add_zero]
  by_cases h:(n:Int)>a.1+a.2.1-a.2.2
  ·rw[av h,ah h];rfl
  ·rw[ak h,ai h];rfl
 |succ k ih=>
  intro n hn hn2
  have h0:n%8≠0:=by unfold rx at hn;omega
  have h256:n≠256:=by intro h;subst h;exact h0 rfl
  have e:decide ((n:Int).tmod 8=0)=false:=ai (fun h=>h0 (by have:=(mO _).1 h;omega))
  have hu:rx (n+1)=rx n:=by unfold rx;omega
  rw[Ag.a_eq,e,aQ (n:=(n:Int)+1) (by omega) (by omega)]
  simp only[Bool.not_false,ac]
  rw[show(n:Int)+1=((n+1:Nat):Int) by omega,ih (n+1) (by rw[hu];omega) (by omega)]
  unfold aJ
  rw[hu]
theorem jL (a:bU) (h:cv a) (n:Nat) (hn:n≤256):Ag a (n:Int)=some (aJ a n):=by
 rw[FD];exact nF a h _ (rx n-n) n (by unfold rx;omega) hn
def eo (sz:Nat→Nat) (a:bU):Nat→Nat→bU×List Int×Bool
 |_,0=>(a,[],true)
 |i,k+1=>((eo sz (aJ a (sz i)).1 (i+1) k).1,(aJ a (sz i)).2.1::(eo sz (aJ a (sz i)).1 (i+1) k).2.1,(aJ a (sz i)).2.2&&(eo sz (aJ a (sz i)).1 (i+1) k).2.2)
theorem gu (sz:Nat→Nat):∀k i a,(eo sz a i k).2.1.length=k
 |0,_,_=>rfl
 |k+1,i,a=>by rw[eo,List.length_cons,gu sz k]
theorem lX (sz:Nat→Nat):∀k i a,cv a→cv (eo sz a i k).1
 |0,_,_,h=>h
 |k+1,i,a,h=>by rw[eo];exact lX sz k (i+1) _ (eh h _)
def fh (o:bo) (i:Nat):Nat:=(rd (τ:=aN) o.2.2.1 (i:Int)).2.2.2.size
def kj (o:bo) (i:Nat):Nat:=(rd (τ:=bI) o.2.2.2.1 (i:Int)).2.size
def kE (o:bo) (i:Nat):ByteArray:=(rd (τ:=aN) o.2.2.1 (i:Int)).2.2.2
def jM (o:bo) (i:Nat):ByteArray:=(rd (τ:=bI) o.2.2.2.1 (i:Int)).2
def after (f:Int) (ok:Bool):Int:=if f=0∧ok=false then 7 else f
theorem jN (f:Int) (a b:Bool):after (after f a) b=after f (a&&b):=by
 unfold after
 cases a<;>cases b<;>by_cases h:f=0<;>simp[h]
theorem wO (o:bo) (hz:UnitSz o) (x6:bU) (x8:gJ) (x9 x10:bU) (r:List eF×bo) (l3:List Int) (l4:List ByteArray):∀(k i:Nat) (a:bU) (ats:List Int) (codes:List ByteArray) (f:Int),i+k=o.2.2.1.length→cv a→ats.length=i→codes.length=i→
  ei.a a x6 o x8 x9 x10 ((ats,codes,l3,l4),r) f o.2.2.1 (o.2.2.1.length:Int) (i:Int)=
   ei.b (eo (fh o) a i k).1 x6 o x8 x9 x10 ((ats++(eo (fh o) a i k).2.1,codes++bP (kE o) i k,l3,l4),r) (after f (eo (fh o) a i k).2.2) o.2.2.2.1 (o.2.2.2.1.length:Int) 0:=by
 have h4:=hz.f
 intro k
 induction k with
 |zero=>
  intro i a ats codes f hk ha h1 h2
  have:i=o.2.2.1.length:=by omega
  subst this
  rw[ei.a_eq,ap,ai (a9 _),af,eo,bP,List.append_nil,List.append_nil]
  simp[after]
 |succ k ih=>
  intro i a ats codes f hk ha h1 h2
  have hi:i<o.2.2.1.length:=by omega
  rw[ei.a_eq,ap,aq,ah hi,au i _ hi (by omega)]
  rw[gt a ha _ (by have:=hz.fs i hi;omega)]
  simp only[ac,ae,aA]
  rw[jI _ (by simp;omega),k8 _ (by simp;omega)]
  simp only[ac]
  have e:(bif decide (f=0)then bif !(aJ a (rd (τ:=aN) o.2.2.1 (i:Int)).2.2.2.size).2.2 then ei.a (aJ a (rd (τ:=aN) o.2.2.1 (i:Int)).2.2.2.size).1 x6 o x8 x9 x10 ((ats++[(aJ a (rd (τ:=aN) o.2.2.1 (i:Int)).2.2.2.size).2.1],codes++[(rd (τ:=aN) o.2.2.1 (i:Int)).2.2.2],l3,l4),r) 7 o.2.2.1 (o.2.2.1.length:Int) ((i+1:Nat):Int)
    else ei.a (aJ a (rd (τ:=aN) o.2.2.1 (i:Int)).2.2.2.size).1 x6 o x8 x9 x10 ((ats++[(aJ a (rd (τ:=aN) o.2.2.1 (i:Int)).2.2.2.size).2.1],codes++[(rd (τ:=aN) o.2.2.1 (i:Int)).2.2.2],l3,l4),r) f o.2.2.1 (o.2.2.1.length:Int) ((i+1:Nat):Int)
    else bif false then ei.a (aJ a (rd (τ:=aN) o.2.2.1 (i:Int)).2.2.2.size).1 x6 o x8 x9 x10 ((ats++[(aJ a (rd (τ:=aN) o.2.2.1 (i:Int)).2.2.2.size).2.1],codes++[(rd (τ:=aN) o.2.2.1 (i:Int)).2.2.2],l3,l4),r) 7 o.2.2.1 (o.2.2.1.length:Int) ((i+1:Nat):Int)
    else ei.a (aJ a (rd (τ:=aN) o.2.2.1 (i:Int)).2.2.2.size).1 x6 o x8 x9 x10 ((ats++[(aJ a (rd (τ:=aN) o.2.2.1 (i:Int)).2.2.2.size).2.1],codes++[(rd (τ:=aN) o.2.2.1 (i:Int)).2.2.2],l3,l4),r) f o.2.2.1 (o.2.2.1.length:Int) ((i+1:Nat):Int))=
    ei.a (aJ a (fh o i)).1 x6 o x8 x9 x10 ((ats++[(aJ a (fh o i)).2.1],codes++[kE o i],l3,l4),r) (after f (aJ a (fh o i)).2.2) o.2.2.1 (o.2.2.1.length:Int) ((i+1:Nat):Int):=by
   unfold after fh kE
   generalize aJ a (rd (τ:=aN) o.2.2.1 (i:Int)).2.2.2.size=p
   by_cases h:f=0
   ·rw[ah h]
    cases hp:p.2.2<;>simp[h]
   ·rw[ai h];simp[h]
  rw[e,ih (i+1) _ _ _ _ (by omega) (eh ha _) (by simp;omega) (by simp;omega),eo,bP,jN,aZ,aZ]
  rfl
theorem wP (o:bo) (hz:UnitSz o) (x5:bU) (x8:gJ) (x9 x10:bU) (r:List eF×bo) (l1:List Int) (l2:List ByteArray):∀(k i:Nat) (a:bU) (ats:List Int) (codes:List ByteArray) (f:Int),i+k=o.2.2.2.1.length→cv a→ats.length=i→codes.length=i→
  ei.b x5 a o x8 x9 x10 ((l1,l2,ats,codes),r) f o.2.2.2.1 (o.2.2.2.1.length:Int) (i:Int)=
   ei.c x5 (eo (kj o) a i k).1 o x8 x9 x10 ((l1,l2,ats++(eo (kj o) a i k).2.1,codes++bP (jM o) i k),r) (after f (eo (kj o) a i k).2.2) o.2.2.2.2.1 (o.2.2.2.2.1.length:Int) 0:=by
 have h4:=hz.d
 intro k
 induction k with
 |zero=>
  intro i a ats codes f hk ha h1 h2
  have:i=o.2.2.2.1.length:=by omega
  subst this
  rw[ei.b_eq,ap,ai (a9 _),af,eo,bP,List.append_nil,List.append_nil]
  simp[after]
 |succ k ih=>
  intro i a ats codes f hk ha h1 h2
  have hi:i<o.2.2.2.1.length:=by omega
  rw[ei.b_eq,ap,aq,ah hi,au i _ hi (by omega)]
  rw[gt a ha _ (by have:=hz.ds i hi;omega)]
  simp only[ac,ae,aA]
  rw[jI _ (by simp;omega),k8 _ (by simp;omega)]
  simp only[ac]
  have e:(bif decide (f=0)then bif !(aJ a (rd (τ:=bI) o.2.2.2.1 (i:Int)).2.size).2.2 then ei.b x5 (aJ a (rd (τ:=bI) o.2.2.2.1 (i:Int)).2.size).1 o x8 x9 x10 ((l1,l2,ats++[(aJ a (rd (τ:=bI) o.2.2.2.1 (i:Int)).2.size).2.1],codes++[(rd (τ:=bI) o.2.2.2.1 (i:Int)).2]),r) 7 o.2.2.2.1 (o.2.2.2.1.length:Int) ((i+1:Nat):Int)
    else ei.b x5 (aJ a (rd (τ:=bI) o.2.2.2.1 (i:Int)).2.size).1 o x8 x9 x10 ((l1,l2,ats++[(aJ a (rd (τ:=bI) o.2.2.2.1 (i:Int)).2.size).2.1],codes++[(rd (τ:=bI) o.2.2.2.1 (i:Int)).2]),r) f o.2.2.2.1 (o.2.2.2.1.length:Int) ((i+1:Nat):Int)
    else bif false then ei.b x5 (aJ a (rd (τ:=bI) o.2.2.2.1 (i:Int)).2.size).1 o x8 x9 x10 ((l1,l2,ats++[(aJ a (rd (τ:=bI) o.2.2.2.1 (i:Int)).2.size).2.1],codes++[(rd (τ:=bI) o.2.2.2.1 (i:Int)).2]),r) 7 o.2.2.2.1 (o.2.2.2.1.length:Int) ((i+1:Nat):Int)
    else ei.b x5 (aJ a (rd (τ:=bI) o.2.2.2.1 (i:Int)).2.size).1 o x8 x9 x10 ((l1,l2,ats++[(aJ a (rd (τ:=bI) o.2.2.2.1 (i:Int)).2.size).2.1],codes++[(rd (τ:=bI) o.2.2.2.1 (i:Int)).2]),r) f o.2.2.2.1 (o.2.2.2.1.length:Int) ((i+1:Nat):Int))=
    ei.b x5 (aJ a (kj o i)).1 o x8 x9 x10 ((l1,l2,ats++[(aJ a (kj o i)).2.1],codes++[jM o i]),r) (after f (aJ a (kj o i)).2.2) o.2.2.2.1 (o.2.2.2.1.length:Int) ((i+1:Nat):Int):=by
   unfold after kj jM
   generalize aJ a (rd (τ:=bI) o.2.2.2.1 (i:Int)).2.size=p
   by_cases h:f=0
   ·rw[ah h]
    cases hp:p.2.2<;>simp[h]
   ·rw[ai h];simp[h]
  rw[e,ih (i+1) _ _ _ _ (by omega) (eh ha _) (by simp;omega) (by simp;omega),eo,bP,jN,aZ,aZ]
  rfl
theorem wQ (o:bo) (hz:UnitSz o) (x4:bU) (x6:gJ) (x7 x8:bU) (l3:List Int) (l4:List ByteArray):∀(k i:Nat) (a:bU) (ats:List Int) (codes:List ByteArray),i+k=o.2.2.1.length→cv a→ats.length=i→codes.length=i→
  ((eo (fh o) a i k).2.2=true→pP.a a x4 o x6 x7 x8 (ats,codes,l3,l4) (i:Int)=pP.b (eo (fh o) a i k).1 x4 o x6 x7 x8 (ats++(eo (fh o) a i k).2.1,codes++bP (kE o) i k,l3,l4) 0)∧
  ((eo (fh o) a i k).2.2=false→∃r,pP.a a x4 o x6 x7 x8 (ats,codes,l3,l4) (i:Int)=some r∧r.2.2.2=false):=by
 have h4:=hz.f
 intro k
 induction k with
 |zero=>
  intro i a ats codes hk ha h1 h2
  have:i=o.2.2.1.length:=by omega
  subst this
  rw[pP.a_eq,ap,ai (a9 _),af,eo,bP,List.append_nil,List.append_nil]
  exact⟨fun _=>rfl,fun h=>by cases h⟩
 |succ k ih=>
  intro i a ats codes hk ha h1 h2
  have hi:i<o.2.2.1.length:=by omega
  rw[pP.a_eq,ap,aq,ah hi,au i _ hi (by omega)]
  rw[jL a ha _ (by have:=hz.fs i hi;omega)]
  simp only[ac,ae]
  rw[jI _ (by simp;omega),k8 _ (by simp;omega)]
  simp only[ac]
  obtain⟨i1,i2⟩:=ih (i+1) (aJ a (fh o i)).1 (ats++[(aJ a (fh o i)).2.1]) (codes++[kE o i]) (by omega) (eh ha _) (by simp;omega) (by simp;omega)
  rw[eo,bP]
  rw[show aJ a (rd (τ:=aN) o.2.2.1 (i:Int)).2.2.2.size=aJ a (fh o i) from rfl]
  cases hp:(aJ a (fh o i)).2.2 with
  |false=>exact⟨fun h=>by simp at h,fun _=>⟨_,rfl,rfl⟩⟩
  |true=>
   simp only[Bool.true_and,aV,af]
   refine⟨fun h=> ?_,fun h=>i2 h⟩
   have:=i1 h
   rw[aZ,aZ]at this
   exact this
theorem wR (o:bo) (hz:UnitSz o) (x3:bU) (x6:gJ) (x7 x8:bU) (l1:List Int) (l2:List ByteArray):∀(k i:Nat) (a:bU) (ats:List Int) (codes:List ByteArray),i+k=o.2.2.2.1.length→cv a→ats.length=i→codes.length=i→
  ((eo (kj o) a i k).2.2=true→pP.b x3 a o x6 x7 x8 (l1,l2,ats,codes) (i:Int)=some ((l1,l2,ats++(eo (kj o) a i k).2.1,codes++bP (jM o) i k),x3,(eo (kj o) a i k).1,true))∧
  ((eo (kj o) a i k).2.2=false→∃r,pP.b x3 a o x6 x7 x8 (l1,l2,ats,codes) (i:Int)=some r∧r.2.2.2=false):=by
 have h4:=hz.d
 intro k
 induction k with
 |zero=>
  intro i a ats codes hk ha h1 h2
  have:i=o.2.2.2.1.length:=by omega
  subst this
  rw[pP.b_eq,ap,ai (a9 _),af,eo,bP,List.append_nil,List.append_nil]
  exact⟨fun _=>rfl,fun h=>by cases h⟩
 |succ k ih=>
  intro i a ats codes hk ha h1 h2
  have hi:i<o.2.2.2.1.length:=by omega
  rw[pP.b_eq,ap,aq,ah hi,au i _ hi (by omega)]
  rw[jL a ha _ (by have:=hz.ds i hi;omega)]
  simp only[ac,ae]
  rw[jI _ (by simp;omega),k8 _ (by simp;omega)]
  simp only[ac]
  obtain⟨i1,i2⟩:=ih (i+1) (aJ a (kj o i)).1 (ats++[(aJ a (kj o i)).2.1]) (codes++[jM o i]) (by omega) (eh ha _) (by simp;omega) (by simp;omega)
  rw[eo,bP]
  rw[show aJ a (rd (τ:=bI) o.2.2.2.1 (i:Int)).2.size=aJ a (kj o i) from rfl]
  cases hp:(aJ a (kj o i)).2.2 with
  |false=>exact⟨fun h=>by simp at h,fun _=>⟨_,rfl,rfl⟩⟩
  |true=>
   simp only[Bool.true_and,aV,af]
   refine⟨fun h=> ?_,fun h=>i2 h⟩
   have:=i1 h
   rw[aZ,aZ]at this
   exact this
def dC (o:bo) (a b:bU):gJ×bU×bU×Bool:=
 (((eo (fh o) a 0 o.2.2.1.length).2.1,bP (kE o) 0 o.2.2.1.length,(eo (kj o) b 0 o.2.2.2.1.length).2.1,bP (jM o) 0 o.2.2.2.1.length),
  (eo (fh o) a 0 o.2.2.1.length).1,(eo (kj o) b 0 o.2.2.2.1.length).1,(eo (fh o) a 0 o.2.2.1.length).2.2&&(eo (kj o) b 0 o.2.2.2.1.length).2.2)
theorem Bt (o:bo) (hz:UnitSz o) (a b:bU) (ha:cv a) (hb:cv b):((dC o a b).2.2.2=true→pP a b o=some (dC o a b))∧((dC o a b).2.2.2=false→∃r,pP a b o=some r∧r.2.2.2=false):=by
 rw[FE]
 obtain⟨f1,f2⟩:=wQ o hz b ([],[],[],[]) (0,0,0) (0,0,0) [] [] o.2.2.1.length 0 a [] [] (by omega) ha rfl rfl
 obtain⟨d1,d2⟩:=wR o hz (eo (fh o) a 0 o.2.2.1.length).1 ([],[],[],[]) (0,0,0) (0,0,0) (eo (fh o) a 0 o.2.2.1.length).2.1 (bP (kE o) 0 o.2.2.1.length) o.2.2.2.1.length 0 b [] [] (by omega) hb rfl rfl
 simp only[List.nil_append]at f1 d1
 unfold dC
 simp only
 cases h1:(eo (fh o) a 0 o.2.2.1.length).2.2 with
 |false=>exact⟨fun h=>(by cases h),fun _=>f2 h1⟩
 |true=>
  rw[Bool.true_and]
  refine⟨fun h=> ?_,fun h=> ?_⟩
  ·rw[h]
   exact(f1 h1).trans (d1 h)
  ·obtain⟨r,h3,h4⟩:=d2 h
   exact⟨r,(f1 h1).trans h3,h4⟩
theorem Bu (o:bo) (hz:UnitSz o) (a b:bU) (ha:cv a) (hb:cv b) (x8:gJ) (x9 x10:bU) (t:List eF) (f:Int):
  ei.a a b o x8 x9 x10 (([],[],[],[]),t,o) f o.2.2.1 (o.2.2.1.length:Int) 0=
   ei.c (dC o a b).2.1 (dC o a b).2.2.1 o x8 x9 x10 ((dC o a b).1,t,o) (after f (dC o a b).2.2.2) o.2.2.2.2.1 (o.2.2.2.2.1.length:Int) 0:=by
 have h1:=wO o hz b x8 x9 x10 (t,o) [] [] o.2.2.1.length 0 a [] [] f (by omega) ha rfl rfl
 have h2:=wP o hz (eo (fh o) a 0 o.2.2.1.length).1 x8 x9 x10 (t,o) (eo (fh o) a 0 o.2.2.1.length).2.1 (bP (kE o) 0 o.2.2.1.length) o.2.2.2.1.length 0 b [] [] (after f (eo (fh o) a 0 o.2.2.1.length).2.2) (by omega) hb rfl rfl
 simp only[List.nil_append]at h1 h2
 rw[jN]at h2
 exact h1.trans h2
def Em (x:Int):Prop:=0≤x∧x≤1048575∧x%8=0
theorem zJ {a:bU} (h:cv a) (n:Nat) (hn:1≤n):Em (aJ a n).2.1:=by
 obtain⟨⟨h1,h2,h3⟩,⟨h4,h5,h6⟩,h7,h8,h9⟩:=h
 unfold aJ
 split
 ·exact⟨by simp,by simp,by simp⟩
 ·have:8≤rx n:=by unfold rx;omega
  refine⟨?_, ?_, ?_⟩<;>simp only<;>omega
theorem wS (sz:Nat→Nat):∀k i a,cv a→(∀j,i≤j→j<i+k→1≤sz j)→∀x∈(eo sz a i k).2.1,Em x
 |0,_,_,_,_,x,hx=>by cases hx
 |k+1,i,a,h,hs,x,hx=>by
  rw[eo]at hx
  rcases List.mem_cons.1 hx with rfl|hx
  ·exact zJ h _ (hs i (Nat.le_refl _) (by omega))
  ·exact wS sz k (i+1) _ (eh h _) (fun j h1 h2=>hs j (by omega) (by omega)) x hx
structure fM (o:bo) (l:gJ):Prop where
 a:l.1.length=o.2.2.1.length
 c:l.2.1.length=o.2.2.1.length
 d:l.2.2.1.length=o.2.2.2.1.length
 b:l.2.2.2.length=o.2.2.2.1.length
 cs:∀i:Nat,i<o.2.2.1.length→(rd (τ:= .str) l.2.1 (i:Int)).size=fh o i
 bs:∀i:Nat,i<o.2.2.2.1.length→(rd (τ:= .str) l.2.2.2 (i:Int)).size=kj o i
 fa:∀i:Nat,i<o.2.2.1.length→Em (rd (τ:= .int .i64) l.1 (i:Int))
 ds:∀i:Nat,i<o.2.2.2.1.length→Em (rd (τ:= .int .i64) l.2.2.1 (i:Int))
theorem xQ {τ:Ty} (f:Nat→τ.den) (k j:Nat) (h:j<k):rd (τ:=τ) (bP f 0 k) (j:Int)=f j:=by
 rw[bj _ _ (by rw[aW];exact h),lW,Nat.zero_add]
theorem eg.fsz_pos {o:bo} (h:eg o) (i:Nat) (hi:i<o.2.2.1.length):20≤fh o i∧fh o i≤256∧fh o i%4=0:=by
 have:=(ke (h.fun_ i hi)).2.2.2
 unfold bz at this
 unfold fh
 cases h1:bT (rd (τ:=aN) o.2.2.1 (i:Int)).2.2.2.size with
 |false=>rw[h1]at this;cases this
 |true=>
  rw[h1,ac,bh]at this
  have h2:=dV h1
  exact⟨by omega,h2.2,h2.1⟩
theorem eg.dsz_pos {o:bo} (h:eg o) (i:Nat) (hi:i<o.2.2.2.1.length):8≤kj o i∧kj o i≤64∧kj o i%8=0:=nk (iG (h.dat i hi)).2.2
theorem Bv (o:bo) (h:eg o) (a b:bU) (ha:cv a) (hb:cv b):fM o (dC o a b).1∧cv (dC o a b).2.1∧cv (dC o a b).2.2.1:=by
 refine⟨⟨gu _ _ _ _,aW _ _ _,gu _ _ _ _,aW _ _ _,fun i hi=> ?_,fun i hi=> ?_,fun i hi=> ?_,fun i hi=> ?_⟩,lX _ _ _ _ ha,lX _ _ _ _ hb⟩
 ·show(rd (τ:= .str) (bP (kE o) 0 o.2.2.1.length) (i:Int)).size=_
  rw[xQ (τ:= .str) (kE o) _ _ hi];rfl
 ·show(rd (τ:= .str) (bP (jM o) 0 o.2.2.2.1.length) (i:Int)).size=_
  rw[xQ (τ:= .str) (jM o) _ _ hi];rfl
 ·have hl:=gu (fh o) o.2.2.1.length 0 a
  show Em (rd (τ:= .int .i64) (eo (fh o) a 0 o.2.2.1.length).2.1 (i:Int))
  rw[bj (τ:= .int .i64) _ i (by rw[hl];exact hi)]
  exact wS _ _ _ _ ha (fun j _ h2=>by have:=h.fsz_pos j (by omega);omega) _ (List.getElem_mem _)
 ·have hl:=gu (kj o) o.2.2.2.1.length 0 b
  show Em (rd (τ:= .int .i64) (eo (kj o) b 0 o.2.2.2.1.length).2.1 (i:Int))
  rw[bj (τ:= .int .i64) _ i (by rw[hl];exact hi)]
  exact wS _ _ _ _ hb (fun j _ h2=>by have:=h.dsz_pos j (by omega);omega) _ (List.getElem_mem _)
theorem C5 (v:Int) (i:Nat) (hi:i<8):(v%18446744073709551616)/2^(8*i)%256=v/2^(8*i)%256:=by
 match i,hi with
 |0,_=>omega
 |1,_=>omega
 |2,_=>omega
 |3,_=>omega
 |4,_=>omega
 |5,_=>omega
 |6,_=>omega
 |7,_=>omega
theorem GN (n:Nat) (h:n≤4096):aD n 1=true:=by simp[aD];omega
theorem mP (v:Int) (n:Nat) (hn:n≤8):∀(k i:Nat) (xs:List Int),i+k=n→xs.length=i→Zd.a v (n:Int) xs (i:Int)=some (bp (xs++pT (v/2^(8*i)) k)):=by
 intro k
 induction k with
 |zero=>
  intro i xs h hx
  have:i=n:=by omega
  subst this
  rw[Zd.a_eq,ap,ai (a9 _),af,pT,List.append_nil]
 |succ k ih=>
  intro i xs h hx
  rw[Zd.a_eq,ap,ah (show i<n by omega),aQ (n:=8*(i:Int)) (by omega) (by omega),AS (n:=8*(i:Int)) (by omega) (by omega),ai (show¬8*(i:Int)<0 by omega),au i n (by omega) (by omega),lP,qX (by omega) (by omega),xP,GN _ (by simp;omega),ih (i+1) _ (by omega) (by simp;omega),pT,aZ]
  have e1:(8*(i:Int)).toNat=8*i:=by omega
  rw[e1,C5 v i (by omega)]
  have e2:v/2^(8*i)/256=v/2^(8*(i+1)):=by
   rw[Int.ediv_ediv_of_nonneg (Int.pow_nonneg (by decide))]
   congr 1
   rw[show 8*(i+1)=8*i+8 by omega,Int.pow_add];rfl
  rw[e2];rfl
theorem gK (v:Int) (n:Nat) (hn:n≤8):Zd v (n:Int)=some (bp (pT v n)):=by
 rw[G9]
 have:=mP v n hn n 0 [] (by omega) rfl
 simpa using this
theorem zK {β:Type} (L:Int→Option β) (p:Nat→Bool) (g:Nat→Option β) (n:Nat) (hstep:∀i:Nat,i<n→L (i:Int)=bif p i then g i else L ((i+1:Nat):Int)):
  ∀k i:Nat,i+k=n→L (i:Int)=if eO p i k<0 then L (n:Int)else g (eO p i k).toNat:=by
 intro k
 induction k with
 |zero=>
   intro i h;have:i=n:=by omega
   subst this;rfl
 |succ k ih=>
  intro i h
  rw[hstep i (by omega),ih (i+1) (by omega),eO]
  cases p i with
  |false=>rfl
  |true=>rw[ac,ac,ak (by omega)];rfl
theorem i5 {β:Type} {L:Int→Option β} (p:Nat→Bool) (g:Nat→Option β) (n:Nat) (hstep:∀i:Nat,i<n→L (i:Int)=bif p i then g i else L ((i+1:Nat):Int)):L 0=if eO p 0 n<0 then L (n:Int)else g (eO p 0 n).toNat:=
 zK L p g n hstep n 0 (by omega)
theorem uK (p:Nat→Bool) (n:Nat) (h:¬eO p 0 n<0):(eO p 0 n).toNat<n:=by
 rcases gk p n 0 with⟨h1,_⟩|⟨j,h1,h2,h3,_⟩
 ·omega
 ·omega
def uL (o:bo) (name:ByteArray):Int:=eO (fun i=>decide ((rd (τ:=aN) o.2.2.1 (i:Int)).1=name)&& !(rd (τ:=aN) o.2.2.1 (i:Int)).2.1) 0 o.2.2.1.length
def uM (o:bo) (name:ByteArray):Int:=eO (fun i=>decide ((rd (τ:=bI) o.2.2.2.1 (i:Int)).1=name)) 0 o.2.2.2.1.length
def uN (t:List eF) (o:bo) (l:gJ) (name:ByteArray):Int×Bool:=
 if uL o name<0 then if uM o name<0 then if eG t name<0 then(0,false)else((rd (τ:=cb) t (eG t name)).2.2.1,true)
  else(rd (τ:= .int .i64) l.2.2.1 ((uM o name).toNat:Int),true)
 else(rd (τ:= .int .i64) l.1 ((uL o name).toNat:Int),true)
theorem Bw (t:List eF) (o:bo) (l:gJ) (name:ByteArray) (ht:t.length≤64) (hz:ObjSz o) (hl:fM o l):pY (l,t,o) name=some (uN t o l name):=by
 have h1:=hz.f
 have h2:=hz.d
 rw[EM]
 show pY.a (l,t,o) name o.2.2.1 (o.2.2.1.length:Int) 0=_
 rw[i5 (L:=pY.a (l,t,o) name o.2.2.1 (o.2.2.1.length:Int)) (fun i=>decide ((rd (τ:=aN) o.2.2.1 (i:Int)).1=name)&& !(rd (τ:=aN) o.2.2.1 (i:Int)).2.1) (fun i=>some (rd (τ:= .int .i64) l.1 (i:Int),true)) o.2.2.1.length fun i hi=> ?_]
 ·unfold uN
  show(if uL o name<0 then _ else _)=some (if uL o name<0 then _ else _)
  by_cases hf:uL o name<0
  ·rw[av hf,av hf,pY.a_eq,ap,ai (a9 _),af]
   show pY.b (l,t,o) name o.2.2.2.1 (o.2.2.2.1.length:Int) 0=_
   rw[i5 (L:=pY.b (l,t,o) name o.2.2.2.1 (o.2.2.2.1.length:Int)) (fun i=>decide ((rd (τ:=bI) o.2.2.2.1 (i:Int)).1=name)) (fun i=>some (rd (τ:= .int .i64) l.2.2.1 (i:Int),true)) o.2.2.2.1.length fun i hi=> ?_]
   ·show(if uM o name<0 then _ else _)=some (if uM o name<0 then _ else _)
    by_cases hd:uM o name<0
    ·rw[av hd,av hd,pY.b_eq,ap,ai (a9 _),af,(gI t _ (by omega)).1]
     simp only[ae]
     have hr:=gp t name
     by_cases he:eG t name<0
     ·rw[av he,ah he];rfl
     ·rw[ak he,ai he,inL_true (by omega) (by omega)];rfl
    ·rw[ak hd,ak hd];rfl
   ·rw[pY.b_eq,ap,aq,ah hi,au i _ hi (by omega),cz,aq,show decide (i<l.2.2.1.length)=true from ah (by rw[hl.d];exact hi)]
    simp only[ac]
  ·rw[ak hf,ak hf];rfl
 ·rw[pY.a_eq,ap,aq,ah hi,au i _ hi (by omega),cz,aq,show decide (i<l.1.length)=true from ah (by rw[hl.a];exact hi)]
  simp only[ac]
  cases decide ((rd (τ:=aN) o.2.2.1 (i:Int)).1=name)<;>cases (rd (τ:=aN) o.2.2.1 (i:Int)).2.1<;>rfl
theorem By (t:List eF) (o:bo) (l:gJ) (name:ByteArray) (ht:t.length≤64) (hz:ObjSz o) (hl:fM o l):rL t o l name=some (uN t o l name):=by
 have h1:=hz.f
 have h2:=hz.d
 rw[FF]
 rw[i5 (L:=rL.a t name o l) (fun i=>decide ((rd (τ:=aN) o.2.2.1 (i:Int)).1=name)&& !(rd (τ:=aN) o.2.2.1 (i:Int)).2.1) (fun i=>some (rd (τ:= .int .i64) l.1 (i:Int),true)) o.2.2.1.length fun i hi=> ?_]
 ·unfold uN
  show(if uL o name<0 then _ else _)=some (if uL o name<0 then _ else _)
  by_cases hf:uL o name<0
  ·rw[av hf,av hf,rL.a_eq,ap,ai (a9 _),af]
   rw[i5 (L:=rL.b t name o l) (fun i=>decide ((rd (τ:=bI) o.2.2.2.1 (i:Int)).1=name)) (fun i=>some (rd (τ:= .int .i64) l.2.2.1 (i:Int),true)) o.2.2.2.1.length fun i hi=> ?_]
   ·show(if uM o name<0 then _ else _)=some (if uM o name<0 then _ else _)
    by_cases hd:uM o name<0
    ·rw[av hd,av hd,rL.b_eq,ap,ai (a9 _),af,(gI t _ (by omega)).2]
     simp only[ae]
     have hr:=gp t name
     by_cases he:eG t name<0
     ·rw[av he,ah he];rfl
     ·rw[ak he,ai he,inL_true (by omega) (by omega)];rfl
    ·rw[ak hd,ak hd];rfl
   ·rw[rL.b_eq,ap,aq,ah hi,au i _ hi (by omega),cz,aq,show decide (i<l.2.2.1.length)=true from ah (by rw[hl.d];exact hi)]
    simp only[ac]
  ·rw[ak hf,ak hf];rfl
 ·rw[rL.a_eq,ap,aq,ah hi,au i _ hi (by omega),cz,aq,show decide (i<l.1.length)=true from ah (by rw[hl.a];exact hi)]
  simp only[ac]
  cases decide ((rd (τ:=aN) o.2.2.1 (i:Int)).1=name)<;>cases (rd (τ:=aN) o.2.2.1 (i:Int)).2.1<;>rfl
def zL (t:List eF):Prop:=t.length≤64∧∀i:Nat,i<t.length→dG (rd (τ:=cb) t (i:Int))=true
theorem Bz {e:eF} (h:dG e=true):0≤e.2.2.1∧e.2.2.1≤1048575:=by
 unfold dG at h
 cases h1:cn e.1 with
 |false=>rw[h1]at h;cases h
 |true=>
  cases h2:b6 e.2.2.1 with
  |false=>rw[h1,h2]at h;cases h
  |true=>exact kD h2
theorem wT (t:List eF) (o:bo) (l:gJ) (name:ByteArray) (ht:zL t) (hl:fM o l):0≤(uN t o l name).1∧(uN t o l name).1≤1048575:=by
 unfold uN
 split
 ·split
  ·split
   ·simp
   ·rename_i h1 h2 h3
    have hr:=gp t name
    have:=ht.2 (eG t name).toNat (by omega)
    rw[show(((eG t name).toNat:Nat):Int)=eG t name by omega]at this
    exact Bz this
  ·rename_i h1 h2
   have:=hl.ds _ (uK _ _ h2)
   exact⟨this.1,this.2.1⟩
 ·rename_i h1
  have:=hl.fa _ (uK _ _ h1)
  exact⟨this.1,this.2.1⟩
def gL (t:ByteArray) (i:Nat) (b:ByteArray):ByteArray:=t.extract 0 i++b++t.extract (i+b.size) t.size
theorem lY (t:ByteArray) (i:Nat) (b:ByteArray) (h:i+b.size≤t.size):(gL t i b).size=t.size:=by
 unfold gL
 simp only[ByteArray.size_append,ByteArray.size_extract]
 omega
theorem nl (t:ByteArray) (i:Nat) (b:ByteArray) (h:i+b.size≤t.size) (ht:t.size≤4096):HJ t (i:Int) b=some (gL t i b):=by
 rw[EN,aQ (n:=(i:Int)+(b.size:Int)) (by omega) (by omega)]
 unfold gL
 rw[show(decide (0≤0)&&decide (0≤(i:Int))&&decide ((i:Int)≤(t.size:Int)))=true by simp;omega,show(decide (0≤(i:Int)+(b.size:Int))&&decide ((i:Int)+(b.size:Int)≤(t.size:Int))&&decide ((t.size:Int)≤(t.size:Int)))=true by simp;omega]
 rw[show(Int.toNat 0)=0 from rfl,aT,show((i:Int)+(b.size:Int)).toNat=i+b.size by omega,aT]
 rw[ah (show(t.extract 0 i).size+b.size≤9223372036854775807 by simp only[ByteArray.size_extract];omega),ah (show(t.extract 0 i++b).size+(t.extract (i+b.size) t.size).size≤9223372036854775807 by simp only[ByteArray.size_append,ByteArray.size_extract];omega)]
 rfl
theorem BA {τ:Ty} (l:List τ.den) (k:Nat) (x:τ.den) (hk:k<l.length) (i:Nat) (hi:i<l.length):rd (τ:=τ) (l.set k x) (i:Int)=if i=k then x else rd (τ:=τ) l (i:Int):=by
 rw[bj _ _ (by rw[List.length_set];exact hi),bj _ _ hi,List.getElem_set]
 by_cases h:i=k
 ·rw[av h,av h.symm]
 ·rw[ak h,ak (fun e=>h e.symm)]
theorem fM.setB {o:bo} {l:gJ} (h:fM o l) (k:Nat) (hk:k<o.2.2.2.1.length) (x:ByteArray) (hx:x.size=kj o k):fM o (l.1,l.2.1,l.2.2.1,l.2.2.2.set k x):=by
 refine⟨h.a,h.c,h.d,by simp only[List.length_set];exact h.b,h.cs,fun i hi=> ?_,h.fa,h.ds⟩
 simp only
 rw[BA (τ:= .str) l.2.2.2 k x (by rw[h.b];exact hk) i (by rw[h.b];exact hi)]
 split
 ·rename_i e;rw[e];exact hx
 ·exact h.bs i hi
theorem fM.setC {o:bo} {l:gJ} (h:fM o l) (k:Nat) (hk:k<o.2.2.1.length) (x:ByteArray) (hx:x.size=fh o k):fM o (l.1,l.2.1.set k x,l.2.2.1,l.2.2.2):=by
 refine⟨h.a,by simp only[List.length_set];exact h.c,h.d,h.b,fun i hi=> ?_,h.bs,h.fa,h.ds⟩
 simp only
 rw[BA (τ:= .str) l.2.1 k x (by rw[h.c];exact hk) i (by rw[h.c];exact hi)]
 split
 ·rename_i e;rw[e];exact hx
 ·exact h.cs i hi
structure zM (o:bo) (r:sI):Prop where
 at_:iF o r=true
 kind:1≤r.2.2.1∧r.2.2.1≤9
 word:r.2.2.1=9↔(o.2.2.1.length:Int)≤r.1
 add: -2147483648≤r.2.2.2.2∧r.2.2.2.2≤2147483647
theorem zN {o:bo} {k:Nat} (h:k9 o k=0):zM o (rd (τ:=a8) o.2.2.2.2.1 (k:Int)):=by
 unfold k9 at h
 generalize rd (τ:=a8) o.2.2.2.2.1 (k:Int)=r at*
 split at h
 ·cases h
 split at h
 ·cases h
 split at h
 ·cases h
 split at h
 ·cases h
 rename_i h1 h2 h3 h4
 have h2:(gw r.2.2.1 1 9&&(decide (r.2.2.1=9)==decide (r.1≥(o.2.2.1.length:Int))))=true:=by
  cases h5:(gw r.2.2.1 1 9&&(decide (r.2.2.1=9)==decide (r.1≥(o.2.2.1.length:Int))));exact absurd h5 h2;rfl
 rw[aB,bH]at h2
 refine⟨?_,h2.1, ?_, ?_⟩
 ·cases h5:iF o r;exact absurd h5 h1;rfl
 ·have:=h2.2
  rw[beq_iff_eq,decide_eq_decide]at this
  exact this
 ·rw[←bH]
  cases h5:gw r.2.2.2.2 (-2147483648) 2147483647;exact absurd h5 h4;rfl
theorem zM.data {o:bo} {r:sI} (ho:eg o) (h:zM o r) (hu:(o.2.2.1.length:Int)≤r.1):∃k j:Nat,r.1-(o.2.2.1.length:Int)=(k:Int)∧k<o.2.2.2.1.length∧r.2.1=(j:Int)∧8*j+8≤kj o k:=by
 have h1:=h.at_
 unfold iF at h1
 rw[aB,bH,bH]at h1
 refine⟨(r.1-(o.2.2.1.length:Int)).toNat,r.2.1.toNat,by omega,by omega,by omega, ?_⟩
 have hv:eP o r.1=((kj o (r.1-(o.2.2.1.length:Int)).toNat:Nat):Int)/8:=by
  unfold eP
  rw[ak (by omega),av ⟨hu,by omega⟩,Int.tdiv_eq_ediv_of_nonneg (by omega)]
  unfold kj
  rw[show(((r.1-(o.2.2.1.length:Int)).toNat:Nat):Int)=r.1-(o.2.2.1.length:Int) by omega]
 have:=ho.dsz_pos (r.1-(o.2.2.1.length:Int)).toNat (by omega)
 omega
theorem zM.code {o:bo} {r:sI} (ho:eg o) (h:zM o r) (hu:¬(o.2.2.1.length:Int)≤r.1):∃k j:Nat,r.1=(k:Int)∧k<o.2.2.1.length∧r.2.1=(j:Int)∧4*j+4≤fh o k:=by
 have h1:=h.at_
 unfold iF at h1
 rw[aB,bH,bH]at h1
 refine⟨r.1.toNat,r.2.1.toNat,by omega,by omega,by omega, ?_⟩
 have hv:eP o r.1=((fh o r.1.toNat:Nat):Int)/4:=by
  unfold eP
  rw[av ⟨by omega,by omega⟩,Int.tdiv_eq_ediv_of_nonneg (by omega)]
  unfold fh
  rw[show((r.1.toNat:Nat):Int)=r.1 by omega]
 have:=ho.fsz_pos r.1.toNat (by omega)
 omega
theorem xR (n:Nat) (h:n≤4096):aD (0+n) 16=true:=k8 _ (by omega)
theorem wU (t:List eF) (o:bo) (l:gJ) (r:sI) (ht:zL t) (ho:eg o) (hl:fM o l) (hr:zM o r):
  ∃l' c,Ik (l,t,o) r=some (c,l',t,o)∧Iz t o l r=some (l',c)∧fM o l'∧(l'.1,l'.2.2.1)=(l.1,l.2.2.1):=by
 have h1:=ho.f
 have h2:=ho.d
 have hs:=wT t o l r.2.2.2.1 ht hl
 have hadd:=hr.add
 rw[E6,FU,Bw t o l _ ht.1 ho.toObjSz hl,By t o l _ ht.1 ho.toObjSz hl]
 simp only[ae]
 generalize uN t o l r.2.2.2.1=s at*
 cases hs2:s.2 with
 |false=>exact⟨l,23,rfl,rfl,hl,rfl⟩
 |true=>
  have hat:=hr.at_
  unfold iF at hat
  rw[aB,bH,bH]at hat
  rw[aQ (n:=r.1-(o.2.2.1.length:Int)) (by omega) (by omega),aQ (n:=s.1+r.2.2.2.2) (by omega) (by omega)]
  simp only[aV,af]
  by_cases hu:(o.2.2.1.length:Int)≤r.1
  ·obtain⟨k,j,e1,hk,e2,hj⟩:=hr.data ho hu
   have hd:=ho.dsz_pos k hk
   have hsz:=hl.bs k hk
   rw[ah (show r.1-(o.2.2.1.length:Int)≥0 by omega),ah (show r.1≥(o.2.2.1.length:Int) from hu),e1,e2,aq,ah (show k<l.2.2.2.length by rw[hl.b];exact hk),aQ (n:=8*(j:Int)) (by omega) (by omega),aQ (n:=8*(j:Int)+8) (by omega) (by omega),xR l.2.2.2.length (by rw[hl.b];omega),
    show(8:Int)*(j:Int)=((8*j:Nat):Int) by omega,show xW (s.1+r.2.2.2.2) 8=some (bp (pT (s.1+r.2.2.2.2) 8)) from pp _ 8 (by omega)]
   rw[show Zd (s.1+r.2.2.2.2) 8=some (bp (pT (s.1+r.2.2.2.2) 8)) from gK _ 8 (by omega)]
   simp only[ae,ac,letB]
   have hb:(bp (pT (s.1+r.2.2.2.2) 8)).size=8:=by rw[cV,gj]
   generalize bp (pT (s.1+r.2.2.2.2) 8)=b at*
   rw[nl _ _ _ (by rw[hsz,hb];omega) (by rw[hsz];omega)]
   simp only[ae]
   generalize rd (τ:= .str) l.2.2.2 (k:Int)=d at*
   refine⟨_,0,rfl, ?_,hl.setB k hk (gL d (8*j) b) (by rw[lY _ _ _ (by rw[hsz,hb];omega),hsz]),rfl⟩
   rw[show(decide (0≤0)&&decide (0≤((8*j:Nat):Int))&&decide (((8*j:Nat):Int)≤(d.size:Int)))=true by simp;omega,show(decide (0≤((8*j:Nat):Int)+8)&&decide (((8*j:Nat):Int)+8≤(d.size:Int))&&decide ((d.size:Int)≤(d.size:Int)))=true by simp;omega]
   rw[show(Int.toNat 0)=0 from rfl,aT,show(((8*j:Nat):Int)+8).toNat=8*j+8 by omega,aT,aT]
   rw[ah (show(d.extract 0 (8*j)).size+b.size≤9223372036854775807 by simp only[ByteArray.size_extract];omega),ah (show(d.extract 0 (8*j)++b).size+(d.extract (8*j+8) d.size).size≤9223372036854775807 by simp only[ByteArray.size_append,ByteArray.size_extract];omega)]
   unfold gL
   rw[hb]
   rfl
  ·obtain⟨k,j,e1,hk,e2,hj⟩:=hr.code ho hu
   have hd:=ho.fsz_pos k hk
   have hsz:=hl.cs k hk
   have hk8:1≤r.2.2.1∧r.2.2.1≤8:=by
    have:=hr.kind
    have h9:r.2.2.1≠9:=fun e=>hu (hr.word.1 e)
    omega
   have hat2:=hl.fa k hk
   rw[ai (show¬r.1-(o.2.2.1.length:Int)≥0 by omega),ai (show¬r.1≥(o.2.2.1.length:Int) from hu),e1,e2,aq,aq,ah (show k<l.2.1.length by rw[hl.c];exact hk),ah (show k<l.1.length by rw[hl.a];exact hk),aQ (n:=4*(j:Int)) (by omega) (by omega),aQ (n:=4*(j:Int)+4) (by omega) (by omega),xR l.2.1.length (by rw[hl.c];omega),
    show(4:Int)*(j:Int)=((4*j:Nat):Int) by omega]
   simp only[af,ac,letB]
   generalize rd (τ:= .str) l.2.1 (k:Int)=d at*
   obtain⟨a,ha⟩:∃x:Int,rd (τ:= .int .i64) l.1 (k:Int)=x:=⟨_,rfl⟩
   rw[ha]at hat2
   simp only[ha]
   have hat3:0≤a∧a≤1048575:=⟨hat2.1,hat2.2.1⟩
   rw[show(decide (0≤((4*j:Nat):Int))&&decide (((4*j:Nat):Int)≤((4*j:Nat):Int)+4)&&decide (((4*j:Nat):Int)+4≤(d.size:Int)))=true by simp;omega,show(decide (0≤0)&&decide (0≤((4*j:Nat):Int))&&decide (((4*j:Nat):Int)≤(d.size:Int)))=true by simp;omega,show(decide (0≤((4*j:Nat):Int)+4)&&decide (((4*j:Nat):Int)+4≤(d.size:Int))&&decide ((d.size:Int)≤(d.size:Int)))=true by simp;omega]
   rw[show(Int.toNat 0)=0 from rfl,aT,show(((4*j:Nat):Int)+4).toNat=4*j+4 by omega,aT,aT]
   have hx:(d.extract (4*j) (4*j+4)).size=4:=by simp only[ByteArray.size_extract];omega
   rw[g9 _ (by omega),hx,jG d (4*j) (4*j+4) (by omega) 4 0 (by omega),Nat.add_zero]
   rw[show ya d ((4*j:Nat):Int) 4=some (IntKind.wrap .i64 (je d (4*j) 4)) from kC d (4*j) 4 (by omega) (by omega)]
   have h4:=H7 d (4*j)
   rw[aQ (n:=(je d (4*j) 4:Int)) (by omega) (by omega),aQ (n:=a+((4*j:Nat):Int)) (by omega) (by omega)]
   simp only[ae,ac]
   obtain⟨q,q1,q2⟩:=qk (je d (4*j) 4:Int) r.2.2.1 (s.1+r.2.2.2.2) (a+((4*j:Nat):Int)) h4 hk8 ⟨by omega,by omega⟩ ⟨by omega,by omega⟩
   rw[q1,q2]
   simp only[ae]
   by_cases hq:q.2=0
   ·rw[ah hq,show xW q.1 4=some (bp (pT q.1 4)) from pp _ 4 (by omega),show Zd q.1 4=some (bp (pT q.1 4)) from gK _ 4 (by omega)]
    have hb:(bp (pT q.1 4)).size=4:=by rw[cV,gj]
    simp only[ae,ac,aV,af]
    generalize bp (pT q.1 4)=b at*
    rw[nl _ _ _ (by omega) (by omega)]
    simp only[ae]
    refine⟨_,q.2,rfl, ?_,hl.setC k hk (gL d (4*j) b) (by rw[lY _ _ _ (by omega),hsz]),rfl⟩
    rw[ah (show(d.extract 0 (4*j)).size+b.size≤9223372036854775807 by simp only[ByteArray.size_extract];omega),ah (show(d.extract 0 (4*j)++b).size+(d.extract (4*j+4) d.size).size≤9223372036854775807 by simp only[ByteArray.size_append,ByteArray.size_extract];omega),hq]
    unfold gL
    rw[hb]
    rfl
   ·rw[ai hq]
    exact⟨l,q.2,rfl,rfl,hl,rfl⟩
def cQ {α:Type} (p:Nat→Bool) (f:Nat→α):Nat→Nat→List α
 |_,0=>[]
 |i,k+1=>bif p i then f i::cQ p f (i+1) k else cQ p f (i+1) k
theorem cF {α:Type} (p:Nat→Bool) (f:Nat→α):∀k i,(cQ p f i k).length≤k
 |0,_=>Nat.le_refl _
 |k+1,i=>by
  have:=cF p f k (i+1)
  rw[cQ]
  cases p i
  ·rw[af];omega
  ·rw[ac,List.length_cons];omega
theorem zO {α β:Type} (L:List α→Int→Option β) (p:Nat→Bool) (f:Nat→α) (n A:Nat) (hstep:∀acc (i:Nat),i<n→acc.length≤A+i→L acc (i:Int)=bif p i then L (acc++[f i]) ((i+1:Nat):Int)else L acc ((i+1:Nat):Int)):
  ∀(k i:Nat) (acc:List α),i+k=n→acc.length≤A+i→L acc (i:Int)=L (acc++cQ p f i k) (n:Int):=by
 intro k
 induction k with
 |zero=>
   intro i acc h _;have:i=n:=by omega
   subst this;rw[cQ,List.append_nil]
 |succ k ih=>
  intro i acc h ha
  rw[hstep acc i (by omega) ha,cQ]
  cases p i with
  |false=>rw[af,af,ih (i+1) _ (by omega) (by omega)]
  |true=>rw[ac,ac,ih (i+1) _ (by omega) (by simp;omega),aZ];rfl
theorem d7 {α β:Type} {L:List α→Int→Option β} (p:Nat→Bool) (f:Nat→α) (n:Nat) (acc:List α) (hstep:∀acc' (i:Nat),i<n→acc'.length≤acc.length+i→L acc' (i:Int)=bif p i then L (acc'++[f i]) ((i+1:Nat):Int)else L acc' ((i+1:Nat):Int)):L acc 0=L (acc++cQ p f 0 n) (n:Int):=
 zO L p f n acc.length hstep n 0 acc (by omega) (by omega)
def fH (t:List eF) (o:bo) (l:gJ):List Int:=
 cQ (fun i=>decide ((rd (τ:=cb) t (i:Int)).2.1=1)) (fun i=>(rd (τ:=cb) t (i:Int)).2.2.1) 0 t.length++
  cQ (fun i=> !(rd (τ:=aN) o.2.2.1 (i:Int)).2.1) (fun i=>rd (τ:= .int .i64) l.1 (i:Int)) 0 o.2.2.1.length
theorem kF (t:List eF) (o:bo) (l:gJ) (ht:t.length≤64) (hz:ObjSz o):(fH t o l).length≤68:=by
 have:=hz.f
 unfold fH
 have h1:=cF (fun i=>decide ((rd (τ:=cb) t (i:Int)).2.1=1)) (fun i=>(rd (τ:=cb) t (i:Int)).2.2.1) t.length 0
 have h2:=cF (fun i=> !(rd (τ:=aN) o.2.2.1 (i:Int)).2.1) (fun i=>rd (τ:= .int .i64) l.1 (i:Int)) o.2.2.1.length 0
 rw[List.length_append];omega
theorem wV (t:List eF) (o:bo) (l:gJ) (ht:t.length≤64) (hz:ObjSz o) (hl:fM o l):nu (l,t,o)=some (fH t o l):=by
 have h1:=hz.f
 rw[Fg]
 show nu.a (l,t,o) [] t (t.length:Int) 0=_
 rw[d7 (L:=fun acc i=>nu.a (l,t,o) acc t (t.length:Int) i) (fun i=>decide ((rd (τ:=cb) t (i:Int)).2.1=1)) (fun i=>(rd (τ:=cb) t (i:Int)).2.2.1) t.length [] fun acc i hi ha=> ?_]
 ·rw[nu.a_eq,ap,ai (a9 _),af,List.nil_append]
  have hf:=cF (fun i=>decide ((rd (τ:=cb) t (i:Int)).2.1=1)) (fun i=>(rd (τ:=cb) t (i:Int)).2.2.1) t.length 0
  show nu.b (l,t,o) _ o.2.2.1 (o.2.2.1.length:Int) 0=_
  rw[d7 (L:=fun acc i=>nu.b (l,t,o) acc o.2.2.1 (o.2.2.1.length:Int) i) (fun i=> !(rd (τ:=aN) o.2.2.1 (i:Int)).2.1) (fun i=>rd (τ:= .int .i64) l.1 (i:Int)) o.2.2.1.length (cQ (fun i=>decide ((rd (τ:=cb) t (i:Int)).2.1=1)) (fun i=>(rd (τ:=cb) t (i:Int)).2.2.1) 0 t.length) fun acc i hi ha=> ?_]
  ·show nu.b (l,t,o) _ o.2.2.1 (o.2.2.1.length:Int) (o.2.2.1.length:Int)=_
   rw[nu.b_eq,ap,ai (a9 _),af];rfl
  ·show nu.b (l,t,o) acc o.2.2.1 (o.2.2.1.length:Int) (i:Int)=_
   rw[nu.b_eq,ap,aq,ah hi,au i _ hi (by omega),aq,show decide (i<l.1.length)=true from ah (by rw[hl.a];exact hi),jI _ (by simp;omega)]
   cases (rd (τ:=aN) o.2.2.1 (i:Int)).2.1<;>rfl
 ·show nu.a (l,t,o) acc t (t.length:Int) (i:Int)=_
  rw[nu.a_eq,ap,aq,ah hi,au i _ hi (by omega),jI _ (by simp at ha⊢;omega)]
  cases decide ((rd (τ:=cb) t (i:Int)).2.1=1)<;>rfl
theorem wW (t:List eF) (o:bo) (l:gJ) (ht:t.length≤64) (hz:ObjSz o) (hl:fM o l) (x8:gJ) (x9 x10 a b:bU):gQ.b t o x8 x9 x10 l a b [] 0=gQ.d o x8 x9 x10 l a b (fH t o l) 0:=by
 have h1:=hz.f
 rw[d7 (L:=fun acc i=>gQ.b t o x8 x9 x10 l a b acc i) (fun i=>decide ((rd (τ:=cb) t (i:Int)).2.1=1)) (fun i=>(rd (τ:=cb) t (i:Int)).2.2.1) t.length [] fun acc i hi ha=> ?_]
 ·rw[gQ.b_eq,ap,ai (a9 _),af,List.nil_append]
  have hf:=cF (fun i=>decide ((rd (τ:=cb) t (i:Int)).2.1=1)) (fun i=>(rd (τ:=cb) t (i:Int)).2.2.1) t.length 0
  rw[d7 (L:=fun acc i=>gQ.c o x8 x9 x10 l a b acc i) (fun i=> !(rd (τ:=aN) o.2.2.1 (i:Int)).2.1) (fun i=>rd (τ:= .int .i64) l.1 (i:Int)) o.2.2.1.length (cQ (fun i=>decide ((rd (τ:=cb) t (i:Int)).2.1=1)) (fun i=>(rd (τ:=cb) t (i:Int)).2.2.1) 0 t.length) fun acc i hi ha=> ?_]
  ·rw[gQ.c_eq,ap,ai (a9 _),af];rfl
  ·show gQ.c o x8 x9 x10 l a b acc (i:Int)=_
   rw[gQ.c_eq,ap,aq,ah hi,au i _ hi (by omega),aq,show decide (i<l.1.length)=true from ah (by rw[hl.a];exact hi),jI _ (by simp;omega)]
   cases (rd (τ:=aN) o.2.2.1 (i:Int)).2.1<;>rfl
 ·show gQ.b t o x8 x9 x10 l a b acc (i:Int)=_
  rw[gQ.b_eq,ap,aq,ah hi,au i _ hi (by omega),jI _ (by simp at ha⊢;omega)]
  cases decide ((rd (τ:=cb) t (i:Int)).2.1=1)<;>rfl
end Go.Proofs.YtfgjcohcpehcjaaGreat.S
