import Derived.Test.YtiahcgampoehdaaGreatDoorSxI
import Derived.IntWalk
namespace Go.Proofs.YtiahcgampoehdaaGreatDoor.S
open Go.Ps
set_option linter.unusedVariables false
set_option maxRecDepth 100000
theorem aH {n:Int} (h: -9223372036854775808≤n) (h':n≤9223372036854775807):IntKind.wrap .i64 n=n:=IntWalk.i64_in n ⟨h,h'⟩
theorem lX (n:Int):PL n=Zx n:=by rw[GJ,PF]
theorem wr (n:Int):Ql n=Zy n:=by rw[GK,PG]
theorem B9 (t:ByteArray) (ht:t.size≤20):∀(k:Nat) (i:Int),0≤i→t.size≤i.toNat+k→oD.a t i=Zz.a t i:=by
 intro k
 induction k with
 |zero=>
  intro i h0 hk
  have:decide (i< (t.size:Int))=false:=by simp;omega
  rw[oD.a_eq,Zz.a_eq,this];rfl
 |succ k ih=>
  intro i h0 hk
  rw[oD.a_eq,Zz.a_eq,lX,wr]
  by_cases hi:i< (t.size:Int)
  ·rw[aH (n:=i+1) (by omega) (by omega),ih (i+1) (by omega) (by omega)]
  ·rw[show decide (i< (t.size:Int))=false by simp;omega];rfl
theorem Jf (t:ByteArray):oD t=Zz t:=by
 rw[GL,IS,zi]
 by_cases h1:(t.size:Int)<1
 ·rw[show decide ((1:Int)≤(t.size:Int))=false by simp;omega,show decide ((t.size:Int)<1)=true by simp;omega];rfl
 ·rw[show decide ((1:Int)≤(t.size:Int))=true by simp;omega,show decide ((t.size:Int)<1)=false by simp;omega]
  by_cases h2:(t.size:Int)>20
  ·rw[show decide ((t.size:Int)>20)=true by simp;omega,show decide ((t.size:Int)≤20)=false by simp;omega];rfl
  ·rw[show decide ((t.size:Int)>20)=false by simp;omega,show decide ((t.size:Int)≤20)=true by simp;omega]
   simp only[cond_true,cond_false,Option.bind_some,Bool.not_true]
   rw[lX,B9 t (by omega) t.size 1 (by omega) (by omega)]
theorem ws (t:ByteArray) (i:Int):0≤bt t i∧bt t i≤255:=by
 unfold bt
 have:=(t.data.getD i.toNat 0).toNat_lt
 omega
theorem FL {n:Int} (h:0≤n) (h':n≤18446744073709551615):IntKind.wrap .u64 n=n:=by
 have:IntKind.wrap .u64 n=n%18446744073709551616:=by simp[IntKind.wrap,IntKind.bits,IntKind.signed]
 rw[this];omega
def wt {α:Type} (x y:Option α):Prop:=∃v,x=some v∧y=some v
theorem wt.bind {α β:Type} {x y:Option α} {f g:α→Option β} (h:wt x y) (k:∀v,x=some v→wt (f v) (g v)):wt (x.bind f) (y.bind g):=by
 obtain⟨v,h1,h2⟩:=h
 rw[h1,h2];exact k v h1
theorem wt.some {α:Type} {x y:Option α} (e:x=y) (h:∃v,x=some v):wt x y:=by obtain⟨v,h⟩:=h;exact⟨v,h,e▸h⟩
theorem nC (n:Int):∃v,PL n=some v:=by
 rw[GJ]
 cases decide (n≥97)<;>cases decide (n≤122)<;>cases decide (n≥65)<;>cases decide (n≤90)<;>exact⟨_,rfl⟩
theorem yG (n:Int):∃v,Ql n=some v:=by
 rw[GK];cases decide (n≥48)<;>exact⟨_,rfl⟩
theorem qf (t:ByteArray) (ht:t.size≤20):∀(k:Nat) (i:Int),0≤i→t.size≤i.toNat+k→∃v,oD.a t i=some v:=by
 intro k
 induction k with
 |zero=>
  intro i h0 hk
  have:decide (i< (t.size:Int))=false:=by simp;omega
  rw[oD.a_eq,this];exact⟨_,rfl⟩
 |succ k ih=>
  intro i h0 hk
  rw[oD.a_eq]
  by_cases hi:i< (t.size:Int)
  ·have e:ao i t.size=true:=by simp[ao];omega
   obtain⟨v1,h1⟩:=nC (bt t i)
   obtain⟨v2,h2⟩:=yG (bt t i)
   obtain⟨v3,h3⟩:=ih (i+1) (by omega) (by omega)
   rw[aH (n:=i+1) (by omega) (by omega),e,h1,h2,h3]
   simp only[decide_eq_true hi,cond_true,Option.bind_some]
   cases v1<;>cases v2<;>exact⟨_,rfl⟩
  ·rw[show decide (i< (t.size:Int))=false by simp;omega];exact⟨_,rfl⟩
theorem sJ (t:ByteArray):∃v,oD t=some v:=by
 rw[GL,zi]
 by_cases h1:(1:Int)≤(t.size:Int)
 ·by_cases h2:(t.size:Int)≤20
  ·obtain⟨v1,e1⟩:=nC (bt t 0)
   obtain⟨v2,e2⟩:=qf t (by omega) t.size 1 (by omega) (by omega)
   have e:ao 0 t.size=true:=by simp[ao];omega
   simp only[decide_eq_true h1,decide_eq_true h2,cond_true,Option.bind_some,Bool.not_true,cond_false,e,e1,e2]
   cases v1<;>exact⟨_,rfl⟩
  ·simp only[decide_eq_true h1,cond_true,Option.bind_some,decide_eq_false h2,Bool.not_false];exact⟨_,rfl⟩
 ·simp only[decide_eq_false h1,cond_false,Option.bind_some,Bool.not_false,cond_true];exact⟨_,rfl⟩
theorem Ca (t:ByteArray):wt (oD t) (Zz t):=wt.some (Jf t) (sJ t)
theorem dB {α:Type} (c:Bool) (a b:α):cond c a b=if c=true then a else b:=by cases c<;>rfl
theorem yH (n:Int):∃q:Int,IntKind.wrap .i64 n=n-18446744073709551616*q:=by
 rw[IntKind.wrap_i64];exact⟨(n+9223372036854775808)/18446744073709551616,by omega⟩
theorem yI (x:Int):((BitVec.ofInt IntKind.i64.bits x).toNat:Int)=x%18446744073709551616:=by
 rw[BitVec.toNat_ofInt]
 have hb:((2^IntKind.i64.bits:Nat):Int)=18446744073709551616:=rfl
 rw[hb];omega
theorem wu (x:Int) (c:Nat) (hc:c≤62):x%18446744073709551616%2^c=x%2^c:=by
 apply Int.emod_emod_of_dvd
 exact⟨2^(64-c),by rw[←Int.pow_add,show c+(64-c)=64 by omega];rfl⟩
theorem ik (c:Nat) (hc:c≤62):(1:Int)≤2^c∧(2:Int)^c≤4611686018427387904:=by
 have h1:2^c≤2^62:=Nat.pow_le_pow_right (by decide) hc
 have h2:1≤2^c:=Nat.one_le_two_pow
 have e:((2^c:Nat):Int)=(2:Int)^c:=by simp
 omega
theorem FM (x:Int) (c:Nat) (hc:c≤62):andI .i64 x (2^c-1)=x%2^c:=by
 have hp:=ik c hc
 have e:((2^c:Nat):Int)=(2:Int)^c:=by simp
 unfold andI
 have h1:(BitVec.ofInt IntKind.i64.bits x&&&BitVec.ofInt IntKind.i64.bits ((2:Int)^c-1)).toNat=(BitVec.ofInt IntKind.i64.bits x).toNat%2^c:=by
  rw[BitVec.toNat_and]
  have:(BitVec.ofInt IntKind.i64.bits ((2:Int)^c-1)).toNat=2^c-1:=by
   have:=yI ((2:Int)^c-1);omega
  rw[this,Nat.and_two_pow_sub_one_eq_mod]
 rw[h1]
 have h2:(((BitVec.ofInt IntKind.i64.bits x).toNat%2^c:Nat):Int)=x%2^c:=by
  rw[Int.natCast_emod,yI,e,wu x c hc]
 rw[h2]
 have h3:0≤x%2^c:=Int.emod_nonneg _ (by omega)
 have h4:x%2^c<2^c:=Int.emod_lt_of_pos _ (by omega)
 exact aH (by omega) (by omega)
theorem ov {x:Int} {k:Int} (h:0≤k) (h':k≤64):lH .i64 x k=x/2^k.toNat:=by
 unfold lH
 have hb:IntKind.i64.bits=64:=rfl
 rw[show min k.toNat IntKind.i64.bits=k.toNat by omega,Int.fdiv_eq_ediv_of_nonneg]
 have:=ik
 exact Int.le_of_lt (Int.pow_pos (by decide))
theorem sK {x:Int} {k:Int} (h:0≤k) (h':k≤64):lH .u64 x k=x/2^k.toNat:=by
 unfold lH
 have hb:IntKind.u64.bits=64:=rfl
 rw[show min k.toNat IntKind.u64.bits=k.toNat by omega,Int.fdiv_eq_ediv_of_nonneg]
 exact Int.le_of_lt (Int.pow_pos (by decide))
theorem lY {x:Int} {k:Int} (h:0≤k) (h':k≤64):cG .i64 x k=IntKind.wrap .i64 (x*2^k.toNat):=by
 unfold cG
 have hb:IntKind.i64.bits=64:=rfl
 rw[show min k.toNat IntKind.i64.bits=k.toNat by omega]
theorem eF (v low count:Int) (h:0≤low) (h':low≤64) (hc:0≤count) (hc':count≤62):GM v low count=some (v/2^low.toNat%2^count.toNat):=by
 rw[LI]
 have hp:=ik count.toNat (by omega)
 rw[show decide (low<0)=false by simp;omega,show decide (count<0)=false by simp;omega,lY hc (by omega),ov h h',Int.one_mul,aH (n:=2^count.toNat) (by omega) (by omega),aH (n:=2^count.toNat-1) (by omega) (by omega),FM _ _ (by omega)]
 rfl
theorem lZ (x y k c:Nat) (hy:y<2^c) (h:x/2^k%2^c=0):x|||y*2^k=x+y*2^k:=by
 have hk:0<2^k:=Nat.two_pow_pos k
 have hkc:0<2^(k+c):=Nat.two_pow_pos _
 have e1:x%2^(k+c)<2^k:=by
  rw[Nat.pow_add]
  have:x% (2^k*2^c)=x%2^k+2^k*(x/2^k%2^c):=Nat.mod_mul
  rw[this,h]
  have:=Nat.mod_lt x hk
  omega
 have e2:y*2^k+x%2^(k+c)<2^(k+c):=by
  have:(y+1)*2^k≤2^c*2^k:=Nat.mul_le_mul_right _ (by omega)
  rw[Nat.pow_add,Nat.mul_comm (2^k) (2^c)]
  rw[Nat.pow_add,Nat.mul_comm (2^k) (2^c)]at e1
  rw[Nat.add_mul]at this
  omega
 have hx:x=(x/2^(k+c))<<< (k+c)|||x%2^(k+c):=by
  rw[←Nat.shiftLeft_add_eq_or_of_lt (Nat.mod_lt x hkc),Nat.shiftLeft_eq]
  have:=Nat.div_add_mod x (2^(k+c))
  rw[Nat.mul_comm]at this;exact this.symm
 have h3:x%2^(k+c)|||y*2^k=y*2^k+x%2^(k+c):=by
  rw[Nat.or_comm,←Nat.shiftLeft_eq y k,←Nat.shiftLeft_add_eq_or_of_lt e1,Nat.shiftLeft_eq]
 calc
  x|||y*2^k=(x/2^(k+c))<<< (k+c)||| (x%2^(k+c)|||y*2^k):=by
    conv=>lhs;rw[hx]
    rw[Nat.or_assoc]
  _=(x/2^(k+c))<<< (k+c)+(y*2^k+x%2^(k+c)):=by rw[h3,Nat.shiftLeft_add_eq_or_of_lt e2]
  _=x+y*2^k:=by
    rw[Nat.shiftLeft_eq]
    have:=Nat.div_add_mod x (2^(k+c))
    rw[Nat.mul_comm]at this;omega
theorem bf {x y P Q:Int} (k c:Nat) (hP:P=2^k) (hQ:Q=2^c) (hkc:k+c≤62) (hx:0≤x) (hx':x<4611686018427387904) (hy:0≤y) (hy':y<Q) (h:x/P%Q=0):gU .i64 x (y*P)=x+y*P:=by
 subst hP hQ
 obtain⟨a,rfl⟩:=Int.eq_ofNat_of_zero_le hx
 obtain⟨b,rfl⟩:=Int.eq_ofNat_of_zero_le hy
 have hp:=ik k (by omega)
 have ek:((2^k:Nat):Int)=(2:Int)^k:=by simp
 have ec:((2^c:Nat):Int)=(2:Int)^c:=by simp
 have hb:b<2^c:=by omega
 have hlt:b*2^k<4611686018427387904:=by
  have h1:b*2^k<2^c*2^k:=Nat.mul_lt_mul_of_pos_right hb (Nat.two_pow_pos k)
  rw[←Nat.pow_add]at h1
  have h2:2^(c+k)≤2^62:=Nat.pow_le_pow_right (by decide) (by omega)
  omega
 have h0:a/2^k%2^c=0:=by
  have:((a/2^k%2^c:Nat):Int)=(a:Int)/2^k%2^c:=by
   rw[Int.natCast_emod,Int.natCast_ediv,ek,ec]
  omega
 have em:((b*2^k:Nat):Int)=(b:Int)*2^k:=by rw[Int.natCast_mul,ek]
 unfold gU
 rw[BitVec.toNat_or]
 have f1:(BitVec.ofInt IntKind.i64.bits (a:Int)).toNat=a:=by have:=yI (a:Int);omega
 have f2:(BitVec.ofInt IntKind.i64.bits ((b:Int)*2^k)).toNat=b*2^k:=by have:=yI ((b:Int)*2^k);omega
 rw[f1,f2,lZ a b k c hb h0,Int.natCast_add,em]
 exact aH (by omega) (by omega)
theorem gv (v i:Int) (hv: -9223372036854775808≤v) (hv':v≤9223372036854775807) (h:0≤i) (h':i≤63):wV v i=some (v/2^i.toNat%2):=by
 rw[JG,FL (n:=i) (by omega) (by omega),show decide (i<0)=false by simp;omega,sK h (by omega)]
 have hu:IntKind.wrap .u64 v=v%18446744073709551616:=by simp[IntKind.wrap,IntKind.bits,IntKind.signed]
 have h0:0≤v%18446744073709551616:=by omega
 have hp:(0:Int)<2^i.toNat:=Int.pow_pos (by decide)
 have hd:0≤v%18446744073709551616/2^i.toNat:=Int.ediv_nonneg h0 (by omega)
 rw[hu,Int.tmod_eq_emod_of_nonneg hd]
 have e:v%18446744073709551616/2^i.toNat%2=v/2^i.toNat%2:=by
  have hpe:(18446744073709551616:Int)=2^i.toNat*(2^(63-i.toNat)*2):=by
   rw[←Int.pow_succ,←Int.pow_add,show i.toNat+(63-i.toNat+1)=64 by omega];rfl
  have h1:v%18446744073709551616=v-2^i.toNat*(2^(63-i.toNat)*2*(v/18446744073709551616)):=by
   rw[Int.emod_def,←Int.mul_assoc,←hpe]
  rw[h1,Int.sub_eq_add_neg,←Int.mul_neg,Int.add_mul_ediv_left _ _ (by omega)]
  rw[Int.mul_comm (2^(63-i.toNat)) 2,Int.mul_assoc,←Int.mul_neg,Int.add_mul_emod_self_left]
 rw[e]
 have:v/2^i.toNat%2=0∨v/2^i.toNat%2=1:=by omega
 rcases this with h|h<;>rw[h]<;>rfl
theorem yJ (w low:Int) (hw: -9223372036854775808≤w) (hw':w≤9223372036854775807) (h:0≤low):∀(k:Nat) (x:Int),low+k≤63→k≤62→0≤x→(x+1)*2^k≤4611686018427387904→qM.a w low x ((k:Int)-1)=some (x*2^k+w/2^low.toNat%2^k):=by
 intro k
 induction k with
 |zero=>
  intro x _ _ _ _
  rw[qM.a_eq,show decide (((0:Nat):Int)-1≥0)=false by rfl]
  simp only[cond_false,Int.pow_zero,Int.emod_one,Int.mul_one,Int.add_zero]
 |succ k ih=>
  intro x h1 h2 h3 h4
  have hpk:=ik k (by omega)
  have hx:2*x+2≤4611686018427387904:=by
   rw[Int.pow_succ]at h4
   have:(x+1)*2≤(x+1)*(2^k*2):=Int.mul_le_mul_of_nonneg_left (by omega) (by omega)
   omega
  have hs:(((k+1:Nat):Int)-1)=(k:Int):=by omega
  rw[hs,qM.a_eq,show decide ((k:Int)≥0)=true by simp,aH (n:=low+k) (by omega) (by omega),gv w (low+k) hw hw' (by omega) (by omega)]
  have hb:0≤w/2^(low+k).toNat%2∧w/2^(low+k).toNat%2≤1:=by omega
  simp only[cond_true,Option.bind_some]
  rw[aH (n:=2*x) (by omega) (by omega),aH (n:=2*x+_) (by omega) (by omega),aH (n:=(k:Int)-1) (by omega) (by omega)]
  rw[ih _ (by omega) (by omega) (by omega) (by
   rw[Int.pow_succ,Int.mul_comm (2^k) 2,←Int.mul_assoc]at h4
   exact Int.le_trans (Int.mul_le_mul_of_nonneg_right (by omega) (by omega)) h4)]
  congr 1
  have e1:(low+k).toNat=low.toNat+k:=by omega
  have e2:w/2^low.toNat%2^(k+1)=w/2^low.toNat%2^k+2^k*(w/2^(low.toNat+k)%2):=by
   rw[Int.pow_succ,Int.pow_add,←Int.ediv_ediv_of_nonneg (Int.le_of_lt (Int.pow_pos (by decide)))]
   generalize w/2^low.toNat=z
   have hk:(0:Int)≤2^k:=by omega
   rw[Int.emod_def z (2^k*2),←Int.ediv_ediv_of_nonneg hk,Int.emod_def (z/2^k) 2,Int.emod_def z (2^k),Int.mul_sub]
   rw[Int.mul_assoc (2^k) 2];omega
  rw[e1,e2,Int.add_mul,Int.pow_succ,Int.mul_comm (2^k) 2,←Int.mul_assoc,Int.mul_comm x 2,Int.mul_comm (2^k) (w/2^(low.toNat+k)%2)]
  omega
theorem Cb (w low count:Int) (hw: -9223372036854775808≤w) (hw':w≤9223372036854775807) (h:0≤low) (hc:0≤count) (hlc:low+count≤62):qM w low count=some (w/2^low.toNat%2^count.toNat):=by
 have hp:=ik count.toNat (by omega)
 rw[JJ,aH (n:=count-1) (by omega) (by omega),show count-1=(count.toNat:Int)-1 by omega,yJ w low hw hw' h count.toNat 0 (by omega) (by omega) (by omega) (by omega)]
 rw[Int.zero_mul,Int.zero_add]
theorem ki (a z:Int) (n i:Nat) (h:i<n):(a+2^n*z)/2^i%2=a/2^i%2:=by
 have e:(2:Int)^n=2^i*(2*2^(n-i-1)):=by
  rw[←Int.mul_assoc,←Int.pow_succ,←Int.pow_add,show i+1+(n-i-1)=n by omega]
 have hp:(0:Int)<2^i:=Int.pow_pos (by decide)
 rw[e,Int.mul_assoc,Int.add_mul_ediv_left _ _ (by omega),Int.mul_assoc,Int.add_mul_emod_self_left]
theorem l5 (t:Int) (i:Nat):2*(t/2^(i+1))+t/2^i%2=t/2^i:=by
 have hp:(0:Int)≤2^i:=Int.le_of_lt (Int.pow_pos (by decide))
 rw[Int.pow_succ,←Int.ediv_ediv_of_nonneg hp];omega
def cL (w low count v:Int):Int:=w%2^low.toNat+2^low.toNat*(v%2^count.toNat+2^count.toNat*(w/2^(low.toNat+count.toNat)))
theorem jG (w low count v:Int) (h:0≤low) (hc:0≤count) (i:Nat):cL w low count v/2^i%2=if low≤i∧(i:Int)<low+count then v/2^(i-low.toNat)%2 else w/2^i%2:=by
 obtain⟨l,rfl⟩:=Int.eq_ofNat_of_zero_le h
 obtain⟨c,rfl⟩:=Int.eq_ofNat_of_zero_le hc
 have hl:(0:Int)<2^l:=Int.pow_pos (by decide)
 have hcc:(0:Int)<2^c:=Int.pow_pos (by decide)
 simp only[cL,Int.toNat_natCast]
 by_cases h1:i<l
 ·rw[ki _ _ _ _ h1,if_neg (by omega)]
  conv=>rhs;rw[←Int.emod_add_mul_ediv w (2^l)]
  rw[ki _ _ _ _ h1]
 ·have e:(2:Int)^i=2^l*2^(i-l):=by rw[←Int.pow_add,show l+(i-l)=i by omega]
  rw[e,←Int.ediv_ediv_of_nonneg (by omega:(0:Int)≤2^l),Int.add_mul_ediv_left _ _ (by omega),Int.ediv_eq_zero_of_lt (Int.emod_nonneg _ (by omega)) (Int.emod_lt_of_pos _ hl),Int.zero_add]
  by_cases h2:i<l+c
  ·rw[if_pos (by omega),ki _ _ _ _ (show i-l<c by omega)]
   conv=>rhs;rw[←Int.emod_add_mul_ediv v (2^c)]
   rw[ki _ _ _ _ (show i-l<c by omega)]
  ·have e2:(2:Int)^(i-l)=2^c*2^(i-l-c):=by rw[←Int.pow_add,show c+(i-l-c)=i-l by omega]
   rw[if_neg (by omega),e2,←Int.ediv_ediv_of_nonneg (by omega:(0:Int)≤2^c),Int.add_mul_ediv_left _ _ (by omega),Int.ediv_eq_zero_of_lt (Int.emod_nonneg _ (by omega)) (Int.emod_lt_of_pos _ hcc),Int.zero_add,Int.pow_add,←Int.ediv_ediv_of_nonneg (by omega:(0:Int)≤2^l),Int.ediv_ediv_of_nonneg (by omega:(0:Int)≤2^c),←e2,Int.ediv_ediv_of_nonneg (by omega:(0:Int)≤2^l)]
theorem bG (w low count v:Int) (h:0≤low) (hc:0≤count) (hlc:low+count≤32) (hw:0≤w) (hw':w<4294967296):0≤cL w low count v∧cL w low count v<4294967296:=by
 obtain⟨l,rfl⟩:=Int.eq_ofNat_of_zero_le h
 obtain⟨c,rfl⟩:=Int.eq_ofNat_of_zero_le hc
 have hl:(0:Int)<2^l:=Int.pow_pos (by decide)
 have hcc:(0:Int)<2^c:=Int.pow_pos (by decide)
 simp only[cL,Int.toNat_natCast]
 have a1:=Int.emod_nonneg w (show(2:Int)^l≠0 by omega)
 have a2:=Int.emod_lt_of_pos w hl
 have b1:=Int.emod_nonneg v (show(2:Int)^c≠0 by omega)
 have b2:=Int.emod_lt_of_pos v hcc
 have hlcp:(0:Int)<2^(l+c):=Int.pow_pos (by decide)
 have c1:0≤w/2^(l+c):=Int.ediv_nonneg hw (by omega)
 have c2:w/2^(l+c)+1≤2^(32-l-c):=by
  have:w/2^(l+c)<2^(32-l-c):=by
   apply Int.ediv_lt_of_lt_mul hlcp
   rw[←Int.pow_add,show 32-l-c+(l+c)=32 by omega];exact hw'
  omega
 generalize w/2^(l+c)=z at*
 generalize w%2^l=x at*
 generalize v%2^c=y at*
 have d1:0≤2^c*z:=Int.mul_nonneg (by omega) c1
 have d2:2^c*z+2^c≤2^c*2^(32-l-c):=by
  have:=Int.mul_le_mul_of_nonneg_left c2 (show(0:Int)≤2^c by omega)
  rw[Int.mul_add,Int.mul_one]at this;exact this
 rw[←Int.pow_add,show c+(32-l-c)=32-l by omega]at d2
 have d3:0≤2^l*(y+2^c*z):=Int.mul_nonneg (by omega) (by omega)
 have d4:2^l*(y+2^c*z)+2^l≤2^l*2^(32-l):=by
  have:=Int.mul_le_mul_of_nonneg_left (show y+2^c*z+1≤2^(32-l) by omega) (show(0:Int)≤2^l by omega)
  rw[Int.mul_add (2^l) _ 1,Int.mul_one]at this;exact this
 rw[←Int.pow_add,show l+(32-l)=32 by omega,show(2:Int)^32=4294967296 by rfl]at d4
 omega
theorem FN (w low count v:Int) (h:0≤low) (hc:0≤count) (hlc:low+count≤32) (hw:0≤w) (hw':w<4294967296) (hv: -9223372036854775808≤v) (hv':v≤9223372036854775807):
  ∀(k:Nat),k≤32→gb.a w low count v (cL w low count v/2^k) ((k:Int)-1)=some (cL w low count v):=by
 have hr:=bG w low count v h hc hlc hw hw'
 intro k
 induction k with
 |zero=>
  intro _
  rw[gb.a_eq,show decide (((0:Nat):Int)-1≥0)=false by rfl]
  simp only[cond_false,Int.pow_zero,Int.ediv_one]
 |succ k ih=>
  intro hk
  have ih:=ih (by omega)
  have hb:=jG w low count v h hc k
  have hst:=l5 (cL w low count v) k
  generalize ht:cL w low count v=T at*
  have hp:(0:Int)<2^(k+1):=Int.pow_pos (by decide)
  have q0:0≤T/2^(k+1):=Int.ediv_nonneg hr.1 (by omega)
  have q1:T/2^(k+1)≤T:=Int.ediv_le_self _ hr.1
  have hs:(((k+1:Nat):Int)-1)=(k:Int):=by omega
  rw[hs,gb.a_eq,show decide ((k:Int)≥0)=true by simp,gv w k (by omega) (by omega) (by omega) (by omega),aH (n:=low+count) (by omega) (by omega),aH (n:=2*(T/2^(k+1))) (by omega) (by omega),aH (n:=(k:Int)-1) (by omega) (by omega)]
  simp only[cond_true,Option.bind_some,Int.toNat_natCast]
  by_cases h1:low≤(k:Int)
  ·by_cases h2:(k:Int)<low+count
   ·rw[show decide ((k:Int)≥low)=true by simp;omega,show decide ((k:Int)<low+count)=true by simp;omega,aH (n:=(k:Int)-low) (by omega) (by omega),gv v _ hv hv' (by omega) (by omega)]
    rw[if_pos ⟨h1,h2⟩]at hb
    simp only[cond_true,Option.bind_some]
    rw[show((k:Int)-low).toNat=k-low.toNat by omega,←hb,aH (by omega) (by omega),hst,ih]
   ·rw[show decide ((k:Int)≥low)=true by simp;omega,show decide ((k:Int)<low+count)=false by simp;omega]
    rw[if_neg (by omega)]at hb
    simp only[cond_true,cond_false]
    rw[←hb,aH (by omega) (by omega),hst,ih]
  ·rw[show decide ((k:Int)≥low)=false by simp;omega]
   rw[if_neg (by omega)]at hb
   simp only[cond_false]
   rw[←hb,aH (by omega) (by omega),hst,ih]
theorem co (w low count v:Int) (h:0≤low) (hc:0≤count) (hlc:low+count≤32) (hw:0≤w) (hw':w<4294967296) (hv: -9223372036854775808≤v) (hv':v≤9223372036854775807):
  gb w low count v=some (cL w low count v):=by
 have hr:=bG w low count v h hc hlc hw hw'
 have:=FN w low count v h hc hlc hw hw' hv hv' 32 (by omega)
 rw[JH]
 rw[Int.ediv_eq_zero_of_lt hr.1 (by rw[show(2:Int)^32=4294967296 by rfl];exact hr.2)]at this
 exact this
def ce (v:Int) (c:Nat):Int:=if v%2^c<2^(c-1)then v%2^c else v%2^c-2^c
theorem wv (c:Nat) (h:1≤c):(2:Int)^c=2*2^(c-1):=by
 obtain⟨d,rfl⟩:=Nat.exists_eq_add_of_le h
 rw[Nat.add_comm,Int.pow_succ,Int.mul_comm];rfl
theorem sL (v:Int) (c:Nat):∃q,ce v c=v+2^c*q:=by
 unfold ce
 rw[Int.emod_def]
 split
 ·exact⟨-(v/2^c),by rw[Int.mul_neg];omega⟩
 ·exact⟨-(v/2^c)-1,by rw[Int.mul_sub,Int.mul_neg];omega⟩
theorem jH (v:Int) (c:Nat) (h:1≤c): -2^(c-1)≤ce v c∧ce v c<2^(c-1):=by
 have hp:=wv c h
 have hp1:(0:Int)<2^(c-1):=Int.pow_pos (by decide)
 have a1:=Int.emod_nonneg v (show(2:Int)^c≠0 by omega)
 have a2:=Int.emod_lt_of_pos v (show(0:Int)<2^c by omega)
 unfold ce
 split<;>omega
theorem II (c:Nat) (h:c≤63):(2:Int)^c≤9223372036854775808:=by
 have h1:2^c≤2^63:=Nat.pow_le_pow_right (by decide) h
 have e:((2^c:Nat):Int)=(2:Int)^c:=by simp
 omega
theorem jI {n s:Int} (q:Int) (h:n=s+18446744073709551616*q) (h1: -9223372036854775808≤s) (h2:s≤9223372036854775807):IntKind.wrap .i64 n=s:=by
 rw[IntKind.wrap_i64];omega
theorem yK (v count:Int) (h:1≤count) (h':count≤64):Qr v count=some (ce v count.toNat):=by
 rw[LP,aH (n:=64-count) (by omega) (by omega),show decide (64-count<0)=false by simp;omega,lY (by omega) (by omega),ov (by omega) (by omega)]
 simp only[cond_false]
 congr 1
 obtain⟨c,rfl⟩:=Int.eq_ofNat_of_zero_le (show 0≤count by omega)
 rw[show((64:Int)-(c:Int)).toNat=64-c by omega,Int.toNat_natCast]
 have hp1:(0:Int)<2^(c-1):=Int.pow_pos (by decide)
 have hk:(0:Int)<2^(64-c):=Int.pow_pos (by decide)
 obtain⟨q,hq⟩:=sL v c
 have hr:=jH v c (by omega)
 have e64:(2:Int)^c*2^(64-c)=18446744073709551616:=by rw[←Int.pow_add,show c+(64-c)=64 by omega];rfl
 have e63:(2:Int)^(c-1)*2^(64-c)=9223372036854775808:=by rw[←Int.pow_add,show c-1+(64-c)=63 by omega];rfl
 have hv:v*2^(64-c)=ce v c*2^(64-c)+18446744073709551616*(-q):=by
  rw[hq,←e64,Int.add_mul,Int.mul_neg,Int.mul_assoc,Int.mul_comm q,←Int.mul_assoc];omega
 have l1: -9223372036854775808≤ce v c*2^(64-c):=by
  have:=Int.mul_le_mul_of_nonneg_right hr.1 (show(0:Int)≤2^(64-c) by omega)
  rw[Int.neg_mul,e63]at this;exact this
 have l2:ce v c*2^(64-c)≤9223372036854775807:=by
  have:=Int.mul_lt_mul_of_pos_right hr.2 hk
  rw[e63]at this;omega
 rw[jI (-q) hv l1 l2,Int.mul_ediv_cancel _ (by omega)]
theorem FO (v:Int) (c i:Nat) (h:1≤c):ce v c/2^i%2=v/2^(min i (c-1))%2:=by
 obtain⟨q,hq⟩:=sL v c
 by_cases h1:i<c
 ·rw[show min i (c-1)=i by omega,hq,ki _ _ _ _ h1]
 ·have hr:=jH v c h
  rw[show min i (c-1)=c-1 by omega]
  have e:v/2^(c-1)%2=ce v c/2^(c-1)%2:=by rw[hq,ki _ _ _ _ (by omega)]
  rw[e]
  have hp1:(0:Int)<2^(c-1):=Int.pow_pos (by decide)
  have hm:(2:Int)^(c-1)≤2^i:=by
   have h9:2^(c-1)≤2^i:=Nat.pow_le_pow_right (by decide) (show c-1≤i by omega)
   have e1:((2^(c-1):Nat):Int)=(2:Int)^(c-1):=by simp
   have e2:((2^i:Nat):Int)=(2:Int)^i:=by simp
   omega
  by_cases hs:0≤ce v c
  ·rw[Int.ediv_eq_zero_of_lt hs (by omega),Int.ediv_eq_zero_of_lt hs hr.2]
  ·have f:∀P:Int,0<P→ -P≤ce v c→ce v c/P= -1:=by
    intro P hP hle
    have:ce v c/P<0:=Int.ediv_neg_of_neg_of_pos (by omega) hP
    have h2: -1≤ce v c/P:=Int.le_ediv_of_mul_le hP (by omega)
    omega
   rw[f _ (by omega) (by omega),f _ hp1 hr.1]
theorem Cc (v:Int) (c:Nat) (h:1≤c) (h':c≤64) (hv: -9223372036854775808≤v) (hv':v≤9223372036854775807):
  ∀k:Nat,k≤64→wW.a v c (ce v c/2^k%2^(64-k)) ((k:Int)-1)=some (ce v c):=by
 have hr:=jH v c h
 have hp:=II (c-1) (by omega)
 intro k
 induction k with
 |zero=>
  intro _
  rw[wW.a_eq,show decide (((0:Nat):Int)-1≥0)=false by rfl]
  simp only[cond_false,Int.pow_zero,Int.ediv_one]
  congr 1
  rw[show(2:Int)^(64-0)=18446744073709551616 by rfl,Int.emod_def]
  exact jI (-(ce v c/18446744073709551616)) (by omega) (by omega) (by omega)
 |succ k ih=>
  intro hk
  have ih:=ih (by omega)
  have hs:(((k+1:Nat):Int)-1)=(k:Int):=by omega
  have hmin:(if IntKind.wrap .i64 ((c:Int)-1)< (k:Int)then IntKind.wrap .i64 ((c:Int)-1)else(k:Int))=((min k (c-1):Nat):Int):=by
   rw[aH (n:=(c:Int)-1) (by omega) (by omega)];split<;>omega
  rw[hs,wW.a_eq,show decide ((k:Int)≥0)=true by simp,hmin,gv v _ hv hv' (by omega) (by omega),aH (n:=(k:Int)-1) (by omega) (by omega)]
  simp only[cond_true,Option.bind_some,Int.toNat_natCast]
  rw[←FO v c k h]
  have hst:=l5 (ce v c) k
  have e:(2:Int)^(64-k)=2*2^(64-(k+1)):=by
   have:=wv (64-k) (by omega);rw[this,show 64-k-1=64-(k+1) by omega]
  have hq:(0:Int)<2^(64-(k+1)):=Int.pow_pos (by decide)
  have hq':=II (64-(k+1)) (by omega)
  generalize ce v c/2^(k+1)=z at*
  generalize ce v c/2^k=y at*
  rw[e]at ih
  have z1:=Int.emod_nonneg z (show(2:Int)^(64-(k+1))≠0 by omega)
  have z2:=Int.emod_lt_of_pos z hq
  have ey:2*(z%2^(64-(k+1)))+y%2=y% (2*2^(64-(k+1))):=by
   rw[Int.emod_def z,Int.emod_def y (2*_),←Int.ediv_ediv_of_nonneg (by decide),show y/2=z by omega,Int.mul_assoc];omega
  rw[FL (n:=2*_) (by omega) (by omega),FL (n:=y%2) (by omega) (by omega),FL (n:=2*_+y%2) (by omega) (by omega),ey,ih]
theorem il (v count:Int) (h:1≤count) (h':count≤64) (hv: -9223372036854775808≤v) (hv':v≤9223372036854775807):wW v count=some (ce v count.toNat):=by
 obtain⟨c,rfl⟩:=Int.eq_ofNat_of_zero_le (show 0≤count by omega)
 have:=Cc v c (by omega) (by omega) hv hv' 64 (by omega)
 rw[show(64-64:Nat)=0 by rfl,Int.pow_zero,Int.emod_one]at this
 rw[JK,Int.toNat_natCast]
 exact this
def Q5:List (Int×Int×Int×Int):=[(0,0,0,0),(1,55,0,0),(1,23,0,0),(2,111,0,0),(3,103,0,0),(4,99,0,0),(4,99,1,0),(4,99,4,0),(4,99,5,0),(4,99,6,0),(4,99,7,0),(3,3,0,0),(3,3,1,0),(3,3,2,0),(3,3,3,0),(3,3,4,0),(3,3,5,0),(3,3,6,0),(5,35,0,0),(5,35,1,0),(5,35,2,0),(5,35,3,0),(3,19,0,0),(3,19,2,0),(3,19,3,0),(3,19,4,0),(3,19,6,0),(3,19,7,0),(6,19,1,0),(6,19,5,0),(6,19,5,32),(8,51,0,0),(8,51,0,32),(8,51,1,0),(8,51,2,0),(8,51,3,0),(8,51,4,0),(8,51,5,0),(8,51,5,32),(8,51,6,0),(8,51,7,0),(3,27,0,0),(7,27,1,0),(7,27,5,0),(7,27,5,32),(8,59,0,0),(8,59,0,32),(8,59,1,0),(8,59,5,0),(8,59,5,32),(8,51,0,1),(8,51,1,1),(8,51,2,1),(8,51,3,1),(8,51,4,1),(8,51,5,1),(8,51,6,1),(8,51,7,1),(8,59,0,1),(8,59,4,1),(8,59,5,1),(8,59,6,1),(8,59,7,1),(9,115,0,0),(9,115,0,1)]
def cW (n:Int):Int×Int×Int×Int:=Q5.getD n.toNat (0,0,0,0)
theorem qg {n:Int} (h:0≤n) (h':n≤64):∃k:Fin 65,n=(k.val:Int):=⟨⟨n.toNat,by omega⟩,by simp;omega⟩
theorem ld (n:Int) (h:0≤n) (h':n≤64):PN n=some (cW n):=by
 rw[LM,GN]
 simp only[Option.bind_some]
 obtain⟨k,rfl⟩:=qg h h'
 clear h h';revert k
 decide+kernel
theorem eG (n:Int) (h:0≤n) (h':n≤64):IT n=some (cW n):=by
 rw[JF]
 obtain⟨k,rfl⟩:=qg h h'
 clear h h';revert k
 decide+kernel
def zU (s:Int×Int×Int×Int):Bool:=decide (1≤s.1)&&decide (s.1≤9)&&decide (0≤s.2.1)&&decide (s.2.1<128)&&decide (0≤s.2.2.1)&&decide (s.2.2.1<8)&&decide (0≤s.2.2.2)&&decide (s.2.2.2<64)&&(!decide (s.1=6)||decide (s.2.2.2%2=0))&&(!decide (s.1=9)|| (decide (s.2.2.2<2)&&decide (s.2.2.1=0)))
theorem mY (n:Int) (h:1≤n) (h':n≤64):zU (cW n)=true:=by
 obtain⟨k,rfl⟩:=qg (show 0≤n by omega) h'
 clear h';revert k
 decide+kernel
theorem Jg {x y:Int} (hx:0≤x) (hx':x<4611686018427387904) (hy:0≤y) (hy':y<2) (h:x/128%2=0):gU .i64 x (y*128)=x+y*128:=bf 7 1 rfl rfl (by decide) hx hx' hy hy' h
theorem lf {x y:Int} (hx:0≤x) (hx':x<4611686018427387904) (hy:0≤y) (hy':y<32) (h:x/128%32=0):gU .i64 x (y*128)=x+y*128:=bf 7 5 rfl rfl (by decide) hx hx' hy hy' h
theorem Jh {x y:Int} (hx:0≤x) (hx':x<4611686018427387904) (hy:0≤y) (hy':y<16) (h:x/256%16=0):gU .i64 x (y*256)=x+y*256:=bf 8 4 rfl rfl (by decide) hx hx' hy hy' h
theorem kj {x y:Int} (hx:0≤x) (hx':x<4611686018427387904) (hy:0≤y) (hy':y<8) (h:x/4096%8=0):gU .i64 x (y*4096)=x+y*4096:=bf 12 3 rfl rfl (by decide) hx hx' hy hy' h
theorem zV {x y:Int} (hx:0≤x) (hx':x<4611686018427387904) (hy:0≤y) (hy':y<256) (h:x/4096%256=0):gU .i64 x (y*4096)=x+y*4096:=bf 12 8 rfl rfl (by decide) hx hx' hy hy' h
theorem ww {x y:Int} (hx:0≤x) (hx':x<4611686018427387904) (hy:0≤y) (hy':y<1048576) (h:x/4096%1048576=0):gU .i64 x (y*4096)=x+y*4096:=bf 12 20 rfl rfl (by decide) hx hx' hy hy' h
theorem uc {x y:Int} (hx:0≤x) (hx':x<4611686018427387904) (hy:0≤y) (hy':y<2) (h:x/1048576%2=0):gU .i64 x (y*1048576)=x+y*1048576:=bf 20 1 rfl rfl (by decide) hx hx' hy hy' h
theorem ow {x y:Int} (hx:0≤x) (hx':x<4611686018427387904) (hy:0≤y) (hy':y<32) (h:x/1048576%32=0):gU .i64 x (y*1048576)=x+y*1048576:=bf 20 5 rfl rfl (by decide) hx hx' hy hy' h
theorem Ib {x y:Int} (hx:0≤x) (hx':x<4611686018427387904) (hy:0≤y) (hy':y<64) (h:x/1048576%64=0):gU .i64 x (y*1048576)=x+y*1048576:=bf 20 6 rfl rfl (by decide) hx hx' hy hy' h
theorem FP {x y:Int} (hx:0≤x) (hx':x<4611686018427387904) (hy:0≤y) (hy':y<4096) (h:x/1048576%4096=0):gU .i64 x (y*1048576)=x+y*1048576:=bf 20 12 rfl rfl (by decide) hx hx' hy hy' h
theorem FQ {x y:Int} (hx:0≤x) (hx':x<4611686018427387904) (hy:0≤y) (hy':y<1024) (h:x/2097152%1024=0):gU .i64 x (y*2097152)=x+y*2097152:=bf 21 10 rfl rfl (by decide) hx hx' hy hy' h
theorem Ic {x y:Int} (hx:0≤x) (hx':x<4611686018427387904) (hy:0≤y) (hy':y<64) (h:x/33554432%64=0):gU .i64 x (y*33554432)=x+y*33554432:=bf 25 6 rfl rfl (by decide) hx hx' hy hy' h
theorem ud {x y:Int} (hx:0≤x) (hx':x<4611686018427387904) (hy:0≤y) (hy':y<128) (h:x/33554432%128=0):gU .i64 x (y*33554432)=x+y*33554432:=bf 25 7 rfl rfl (by decide) hx hx' hy hy' h
theorem Id {x y:Int} (hx:0≤x) (hx':x<4611686018427387904) (hy:0≤y) (hy':y<64) (h:x/67108864%64=0):gU .i64 x (y*67108864)=x+y*67108864:=bf 26 6 rfl rfl (by decide) hx hx' hy hy' h
theorem zW {x y:Int} (hx:0≤x) (hx':x<4611686018427387904) (hy:0≤y) (hy':y<2) (h:x/2147483648%2=0):gU .i64 x (y*2147483648)=x+y*2147483648:=bf 31 1 rfl rfl (by decide) hx hx' hy hy' h
theorem Ji {x y:Int} (hx:0≤x) (hx':x<4611686018427387904) (hy:0≤y) (hy':y<16) (h:x/2%16=0):gU .i64 x (y*2)=x+y*2:=bf 1 4 rfl rfl (by decide) hx hx' hy hy' h
theorem Ie {x y:Int} (hx:0≤x) (hx':x<4611686018427387904) (hy:0≤y) (hy':y<1024) (h:x/2%1024=0):gU .i64 x (y*2)=x+y*2:=bf 1 10 rfl rfl (by decide) hx hx' hy hy' h
theorem Jj {x y:Int} (hx:0≤x) (hx':x<4611686018427387904) (hy:0≤y) (hy':y<64) (h:x/32%64=0):gU .i64 x (y*32)=x+y*32:=bf 5 6 rfl rfl (by decide) hx hx' hy hy' h
theorem Jk {x y:Int} (hx:0≤x) (hx':x<4611686018427387904) (hy:0≤y) (hy':y<128) (h:x/32%128=0):gU .i64 x (y*32)=x+y*32:=bf 5 7 rfl rfl (by decide) hx hx' hy hy' h
theorem zX {x y:Int} (hx:0≤x) (hx':x<4611686018427387904) (hy:0≤y) (hy':y<2) (h:x/2048%2=0):gU .i64 x (y*2048)=x+y*2048:=bf 11 1 rfl rfl (by decide) hx hx' hy hy' h
theorem If {x y:Int} (hx:0≤x) (hx':x<4611686018427387904) (hy:0≤y) (hy':y<2) (h:x/4096%2=0):gU .i64 x (y*4096)=x+y*4096:=bf 12 1 rfl rfl (by decide) hx hx' hy hy' h
theorem sM {w a b:Int} (hw:0≤w) (hw':w<4611686018427387904) (ha:0≤a) (ha':a<32) (hb:0≤b) (hb':b<8) (h:w/4096%256=0):gU .i64 w (a*32768+b*4096)=w+(a*32768+b*4096):=by
 have:=bf (x:=w) (y:=a*8+b) (P:=4096) (Q:=256) 12 8 rfl rfl (by decide) hw hw' (by omega) (by omega) h
 rw[show a*32768+b*4096=(a*8+b)*4096 by omega];exact this
def dZ (s:Int×Int×Int×Int) (x:Int×Int×Int×Int×Int):Int:=
 if s.1=1 then s.2.1+x.2.1*128+x.2.2.2.2/4096%1048576*4096
 else if s.1=2 then s.2.1+x.2.1*128+x.2.2.2.2/4096%256*4096+x.2.2.2.2/2048%2*1048576+x.2.2.2.2/2%1024*2097152+x.2.2.2.2/1048576%2*2147483648
 else if s.1=3 then s.2.1+x.2.1*128+s.2.2.1*4096+x.2.2.1*32768+x.2.2.2.2%4096*1048576
 else if s.1=4 then s.2.1+x.2.2.2.2/2048%2*128+x.2.2.2.2/2%16*256+s.2.2.1*4096+x.2.2.1*32768+x.2.2.2.1*1048576+x.2.2.2.2/32%64*33554432+x.2.2.2.2/4096%2*2147483648
 else if s.1=5 then s.2.1+x.2.2.2.2%32*128+s.2.2.1*4096+x.2.2.1*32768+x.2.2.2.1*1048576+x.2.2.2.2/32%128*33554432
 else if s.1=6 then s.2.1+x.2.1*128+s.2.2.1*4096+x.2.2.1*32768+x.2.2.2.2%64*1048576+s.2.2.2/2*67108864
 else if s.1=7 then s.2.1+x.2.1*128+s.2.2.1*4096+x.2.2.1*32768+x.2.2.2.2%32*1048576+s.2.2.2*33554432
 else if s.1=8 then s.2.1+x.2.1*128+s.2.2.1*4096+x.2.2.1*32768+x.2.2.2.1*1048576+s.2.2.2*33554432
 else s.2.1+s.2.2.2*1048576
structure lg (x:Int×Int×Int×Int×Int):Prop where
 d:0≤x.2.1∧x.2.1≤31
 a:0≤x.2.2.1∧x.2.2.1≤31
 b:0≤x.2.2.2.1∧x.2.2.2.1≤31
 i: -9223372036854775808≤x.2.2.2.2∧x.2.2.2.2≤9223372036854775807
theorem fC {f c f3 f7:Int} (h:zU (f,c,f3,f7)=true):(1≤f∧f≤9)∧(0≤c∧c<128)∧(0≤f3∧f3<8)∧(0≤f7∧f7<64)∧(f=6→f7%2=0)∧(f=9→f7<2∧f3=0):=by
 simp only[zU,Bool.and_eq_true,Bool.or_eq_true,Bool.not_eq_true',decide_eq_true_eq,decide_eq_false_iff_not]at h
 omega
theorem gw {f:Int} (h:1≤f∧f≤9):f=1∨f=2∨f=3∨f=4∨f=5∨f=6∨f=7∨f=8∨f=9:=by omega
theorem ae (j n:Nat):ao (j:Int) n=decide (j<n):=by
 unfold ao;rw[show decide (0≤(j:Int))=true by simp,Bool.true_and];congr 1;simp
theorem aM {τ:Ty} (xs:List τ.den) (j:Nat) (h:j<xs.length):rd (τ:=τ) xs (j:Int)=xs[j]:=by
 unfold rd;rw[Int.toNat_natCast,List.getD_eq_getElem?_getD,List.getElem?_eq_getElem h];rfl
theorem ah (j n:Nat) (h:j<n) (h':n≤9223372036854775807):IntKind.wrap .i64 ((j:Int)+1)=((j+1:Nat):Int):=by
 rw[aH (by omega) (by omega)];omega
theorem ab (j n:Nat):decide ((j:Int)< (n:Int))=decide (j<n):=by congr 1;simp
def wx (imm:Int) (w:Int) (p:Int×Int×Int):Int:=gU .i64 w (cG .i64 (imm/2^p.1.toNat%2^p.2.1.toNat) p.2.2)
def l6 (ps:List (Int×Int×Int)):Prop:=ps.length≤4∧∀p∈ps,0≤p.1∧p.1≤62∧0≤p.2.1∧p.2.1≤62∧0≤p.2.2∧p.2.2≤62
theorem FS (x:Int×Int×Int×Int×Int) (s:Int×Int×Int×Int) (ps:List (Int×Int×Int)) (hp:l6 ps):
  ∀(k j:Nat) (w:Int),j+k=ps.length→w5.a x s w ps (ps.length:Int) (j:Int)=w5.a x s ((ps.drop j).foldl (wx x.2.2.2.2) w) ps (ps.length:Int) (ps.length:Int):=by
 intro k
 induction k with
 |zero=>
   intro j w h;have:j=ps.length:=by omega
   subst this;simp
 |succ k ih=>
  intro j w h
  have hj:j<ps.length:=by omega
  obtain⟨p1,p2,p3,p4,p5,p6⟩:=hp.2 ps[j] (List.getElem_mem hj)
  have e:=aM (τ:= .pair (.int .i64) (.pair (.int .i64) (.int .i64))) ps j hj
  rw[w5.a_eq,ab,ae,e,ah j ps.length hj (by have:=hp.1;omega)]
  simp only[decide_eq_true hj,cond_true]
  rw[eF _ _ _ (by omega) (by omega) (by omega) (by omega)]
  simp only[Option.bind_some]
  rw[show decide (ps[j].2.2<0)=false by simp;omega]
  simp only[cond_false]
  rw[ih (j+1) _ (by omega),List.drop_eq_getElem_cons hj,List.foldl_cons]
  rfl
def bJ (f:Int):List (Int×Int×Int):=
 if f=1 then[(12,20,12)]else if f=2 then[(12,8,12),(11,1,20),(1,10,21),(20,1,31)]else if f=3 then[(0,12,20)]else if f=4 then[(11,1,7),(1,4,8),(5,6,25),(12,1,31)]
 else if f=5 then[(0,5,7),(5,7,25)]else if f=6 then[(0,6,20)]else if f=7 then[(0,5,20)]else[]
theorem qh {f:Int} (h:1≤f∧f≤9):Qo f=some (bJ f)∧l6 (bJ f):=by
 rw[LJ]
 rcases gw h with rfl|rfl|rfl|rfl|rfl|rfl|rfl|rfl|rfl<;>exact⟨rfl,by unfold l6;decide⟩
theorem dG {y:Int} (k:Nat) (P:Int) (hP:P=2^k) (hk:k≤62) (h0:0≤y) (h:y*P≤9223372036854775807):cG .i64 y (k:Int)=y*P:=by
 rw[lY (by omega) (by omega),Int.toNat_natCast,←hP]
 have:0≤y*P:=Int.mul_nonneg h0 (by rw[hP];exact Int.le_of_lt (Int.pow_pos (by decide)))
 exact aH (by omega) (by omega)
theorem nD {y:Int} (h0:0≤y) (h:y≤2147483647):cG .i64 y 7=y*128:=dG 7 128 rfl (by decide) h0 (by omega)
theorem O1 {y:Int} (h0:0≤y) (h:y≤2147483647):cG .i64 y 8=y*256:=dG 8 256 rfl (by decide) h0 (by omega)
theorem fW {y:Int} (h0:0≤y) (h:y≤2147483647):cG .i64 y 12=y*4096:=dG 12 4096 rfl (by decide) h0 (by omega)
theorem mZ {y:Int} (h0:0≤y) (h:y≤2147483647):cG .i64 y 15=y*32768:=dG 15 32768 rfl (by decide) h0 (by omega)
theorem iS {y:Int} (h0:0≤y) (h:y≤2147483647):cG .i64 y 20=y*1048576:=dG 20 1048576 rfl (by decide) h0 (by omega)
theorem Jl {y:Int} (h0:0≤y) (h:y≤2147483647):cG .i64 y 21=y*2097152:=dG 21 2097152 rfl (by decide) h0 (by omega)
theorem ue {y:Int} (h0:0≤y) (h:y≤2147483647):cG .i64 y 25=y*33554432:=dG 25 33554432 rfl (by decide) h0 (by omega)
theorem Jm {y:Int} (h0:0≤y) (h:y≤2147483647):cG .i64 y 26=y*67108864:=dG 26 67108864 rfl (by decide) h0 (by omega)
theorem FT {y:Int} (h0:0≤y) (h:y≤2147483647):cG .i64 y 31=y*2147483648:=dG 31 2147483648 rfl (by decide) h0 (by omega)
theorem Ig {x:Int}:lH .i64 x 1=x/2:=by rw[ov (by decide) (by decide)];rfl
def aU (f:Int):Bool×Bool×Bool:=
 if f=1∨f=2 then(true,false,false)else if f=3∨f=6∨f=7 then(true,true,false)else if f=4∨f=5 then(false,true,true)else if f=8 then(true,true,true)else(false,false,false)
theorem qi {f:Int} (h:1≤f∧f≤9):Qp f=some (aU f):=by
 rw[LL]
 rcases gw h with rfl|rfl|rfl|rfl|rfl|rfl|rfl|rfl|rfl<;>rfl
theorem fg (x:Int×Int×Int×Int×Int) (h:1≤x.1) (h':x.1≤64) (hr:lg x):w5 x=some (dZ (cW x.1) x):=by
 rw[LN,ld _ (by omega) h']
 have hs:=mY x.1 h h'
 generalize cW x.1=s at*
 obtain⟨n,rd',rs1,rs2,imm⟩:=x
 obtain⟨f,c,f3,f7⟩:=s
 obtain⟨⟨d1,d2⟩,⟨a1,a2⟩,⟨b1,b2⟩,⟨i1,i2⟩⟩:=hr
 obtain⟨s1,⟨s2,s2'⟩,⟨s3,s3'⟩,⟨s4,s4'⟩,s5,s6⟩:=fC hs
 clear hs
 dsimp only at*
 obtain⟨hp,hpo⟩:=qh s1
 have hf:=qi s1
 simp only[Option.bind_some,hp]
 rw[show(0:Int)=((0:Nat):Int) by rfl,FS _ _ _ hpo (bJ f).length 0 _ (by omega),w5.a_eq,ab]
 simp only[Nat.lt_irrefl,decide_false,cond_false,hf,List.drop_zero,Option.bind_some,av]
 clear hp hpo hf
 rcases gw s1 with rfl|rfl|rfl|rfl|rfl|rfl|rfl|rfl|rfl
 ·simp[bJ,aU,wx,dZ]
  have hb0:0≤imm/4096%1048576∧imm/4096%1048576<1048576:=by omega
  generalize imm/4096%1048576=y0 at*
  simp(disch:=omega) only[fW,nD,ww,lf]
  try omega
 ·simp[bJ,aU,wx,dZ]
  have hb0:0≤imm/4096%256∧imm/4096%256<256:=by omega
  generalize imm/4096%256=y0 at*
  have hb1:0≤imm/2048%2∧imm/2048%2<2:=by omega
  generalize imm/2048%2=y1 at*
  have hb2:0≤imm/2%1024∧imm/2%1024<1024:=by omega
  generalize imm/2%1024=y2 at*
  have hb3:0≤imm/1048576%2∧imm/1048576%2<2:=by omega
  generalize imm/1048576%2=y3 at*
  simp(disch:=omega) only[fW,iS,Jl,FT,nD,zV,uc,FQ,zW,lf]
  try omega
 ·simp[bJ,aU,wx,dZ]
  have hb0:0≤imm%4096∧imm%4096<4096:=by omega
  generalize imm%4096=y0 at*
  simp(disch:=omega) only[iS,nD,mZ,fW,FP,lf,kj,sM]
  try omega
 ·simp[bJ,aU,wx,dZ]
  have hb0:0≤imm/2048%2∧imm/2048%2<2:=by omega
  generalize imm/2048%2=y0 at*
  have hb1:0≤imm/2%16∧imm/2%16<16:=by omega
  generalize imm/2%16=y1 at*
  have hb2:0≤imm/32%64∧imm/32%64<64:=by omega
  generalize imm/32%64=y2 at*
  have hb3:0≤imm/4096%2∧imm/4096%2<2:=by omega
  generalize imm/4096%2=y3 at*
  simp(disch:=omega) only[nD,O1,ue,FT,mZ,fW,iS,Jg,Jh,Ic,zW,kj,sM,ow]
  try omega
 ·simp[bJ,aU,wx,dZ]
  have hb0:0≤imm%32∧imm%32<32:=by omega
  generalize imm%32=y0 at*
  have hb1:0≤imm/32%128∧imm/32%128<128:=by omega
  generalize imm/32%128=y1 at*
  simp(disch:=omega) only[nD,ue,mZ,fW,iS,lf,ud,kj,sM,ow]
  try omega
 ·simp[bJ,aU,wx,dZ,Ig]
  have hb0:0≤imm%64∧imm%64<64:=by omega
  generalize imm%64=y0 at*
  have hs:0≤f7/2∧f7/2<64:=by omega
  generalize f7/2=z at*
  simp(disch:=omega) only[iS,nD,mZ,fW,Jm,Ib,lf,kj,sM,Id]
  try omega
 ·simp[bJ,aU,wx,dZ]
  have hb0:0≤imm%32∧imm%32<32:=by omega
  generalize imm%32=y0 at*
  simp(disch:=omega) only[iS,nD,mZ,fW,ue,ow,lf,kj,sM,ud]
  try omega
 ·simp[bJ,aU,dZ]
  simp(disch:=omega) only[nD,mZ,fW,iS,ue,lf,kj,sM,ow,ud]
  try omega
 ·simp[bJ,aU,dZ]
  simp(disch:=omega) only[iS,uc]
  try omega
theorem wy {a b:Int} (ha:0≤a∧a<4294967296) (hb:0≤b∧b<4294967296) (h:∀i:Nat,i<32→a/2^i%2=b/2^i%2):a=b:=by
 have:∀k:Nat,k≤32→a/2^(32-k)=b/2^(32-k):=by
  intro k
  induction k with
  |zero=>intro _;rw[show(2:Int)^(32-0)=4294967296 by rfl];omega
  |succ k ih=>
   intro hk
   have ih:=ih (by omega)
   have h1:=h (32-(k+1)) (by omega)
   have e:32-k=32-(k+1)+1:=by omega
   rw[e]at ih
   have ea:=l5 a (32-(k+1))
   have eb:=l5 b (32-(k+1))
   omega
 have:=this 32 (by omega)
 simpa using this
theorem Cd (w low v:Int) (c:Nat) (h:0≤low) (hlc:low+c+1≤32) (hw:0≤w) (hw':w<4294967296):cL (cL w low c v) (low+c) 1 (v/2^c%2)=cL w low ((c+1:Nat):Int) v:=by
 have r1:=bG w low c v h (by omega) (by omega) hw hw'
 apply wy (bG _ _ _ _ (by omega) (by omega) (by omega) r1.1 r1.2) (bG _ _ _ _ h (by omega) (by omega) hw hw')
 intro i hi
 rw[jG _ _ _ _ (by omega) (by omega),jG _ _ _ _ h (by omega),jG _ _ _ _ h (by omega)]
 by_cases h1:low+c≤(i:Int)∧(i:Int)<low+c+1
 ·rw[if_pos h1,if_pos (by omega),show i-(low+(c:Int)).toNat=0 by omega,show i-low.toNat=c by omega,Int.pow_zero,Int.ediv_one];omega
 ·rw[if_neg h1]
  by_cases h2:low≤(i:Int)∧(i:Int)<low+c
  ·rw[if_pos h2,if_pos (by omega)]
  ·rw[if_neg h2,if_neg (by omega)]
theorem Ce (w low v:Int) (h:0≤low) (hl:low≤31) (hw:0≤w) (hw':w<4294967296):cL w low 0 v=w:=by
 apply wy (bG _ _ _ _ h (by omega) (by omega) hw hw') ⟨hw,hw'⟩
 intro i hi
 rw[jG _ _ _ _ h (by omega),if_neg (by omega)]
theorem bi {w v:Int} (k c:Nat) (P Q:Int) (hP:P=2^k) (hQ:Q=2^c) (h:w/P%Q=0):cL w (k:Int) (c:Int) v=w+v%Q*P:=by
 subst hP hQ
 simp only[cL,Int.toNat_natCast]
 have hk:(0:Int)<2^k:=Int.pow_pos (by decide)
 have hc:(0:Int)<2^c:=Int.pow_pos (by decide)
 have e1:=Int.emod_add_mul_ediv w (2^k)
 have e2:=Int.emod_add_mul_ediv (w/2^k) (2^c)
 rw[h,Int.zero_add,Int.ediv_ediv_of_nonneg (by omega),←Int.pow_add]at e2
 rw[e2,Int.mul_add]
 rw[Int.mul_comm (v%2^c)]
 omega
theorem Cf (x:Int×Int×Int×Int×Int) (hx: -9223372036854775808≤x.2.2.2.2) (hx':x.2.2.2.2≤9223372036854775807) (w:Int) (hw:0≤w) (hw':w<4294967296) (i:Nat) (h:1≤i) (h':i≤20):
  gX.a x w (i:Int)=gX.a x (cL w (if i=20 then 31 else if 11<i then i else if 10<i then 9+i else 20+i:Nat) 1 (x.2.2.2.2/2^i%2)) ((i+1:Nat):Int):=by
 rw[gX.a_eq,show decide ((i:Int)<21)=true by simp;omega,gv _ _ hx hx' (by omega) (by omega),aH (n:=9+(i:Int)) (by omega) (by omega),aH (n:=20+(i:Int)) (by omega) (by omega),aH (n:=(i:Int)+1) (by omega) (by omega)]
 simp only[av,cond_true,Int.toNat_natCast,Option.bind_some]
 have e0:((i+1:Nat):Int)=(i:Int)+1:=by omega
 rw[e0]
 by_cases h1:i=20
 ·subst h1;rw[show decide (((20:Nat):Int)=20)=true by rfl,co _ _ _ _ (by omega) (by omega) (by omega) hw hw' (by omega) (by omega)];rfl
 ·by_cases h2:11<i
  ·rw[show decide ((i:Int)=20)=false by simp;omega,show decide ((i:Int)>11)=true by simp;omega,show decide ((i:Int)>10)=true by simp;omega,if_neg h1,if_pos h2]
   simp only[cond_true,cond_false]
   rw[co _ _ _ _ (by omega) (by omega) (by omega) hw hw' (by omega) (by omega)];rfl
  ·by_cases h3:10<i
   ·rw[show decide ((i:Int)=20)=false by simp;omega,show decide ((i:Int)>11)=false by simp;omega,show decide ((i:Int)>10)=true by simp;omega,if_neg h1,if_neg h2,if_pos h3]
    simp only[cond_true,cond_false]
    rw[co _ _ _ _ (by omega) (by omega) (by omega) hw hw' (by omega) (by omega),show((9+i:Nat):Int)=9+(i:Int) by omega];rfl
   ·rw[show decide ((i:Int)=20)=false by simp;omega,show decide ((i:Int)>11)=false by simp;omega,show decide ((i:Int)>10)=false by simp;omega,if_neg h1,if_neg h2,if_neg h3]
    simp only[cond_false]
    rw[co _ _ _ _ (by omega) (by omega) (by omega) hw hw' (by omega) (by omega),show((20+i:Nat):Int)=20+(i:Int) by omega];rfl
theorem qj (L:Int→Nat→Option Int) (v:Int) (pl:Nat→Nat) (lo hi:Nat) (step:∀(w:Int) (i:Nat),0≤w→w<4294967296→lo≤i→i<hi→L w i=L (cL w (pl i:Nat) 1 (v/2^i%2)) (i+1))
  (a p:Nat) (ha:lo≤a) (w:Int) (hw:0≤w) (hw':w<4294967296) (n:Nat) (hn:a+n≤hi) (hp1:p≤31) (hpn:p+n≤32) (hp:∀c:Nat,c<n→pl (a+c)=p+c):
  ∀c:Nat,c≤n→L w a=L (cL w (p:Int) (c:Int) (v/2^a)) (a+c):=by
 intro c
 induction c with
 |zero=>intro _;rw[show((0:Nat):Int)=0 by rfl,Ce _ _ _ (by omega) (by omega) hw hw',Nat.add_zero]
 |succ c ih=>
  intro hc
  have r:=bG w p c (v/2^a) (by omega) (by omega) (by omega) hw hw'
  rw[ih (by omega),step _ (a+c) r.1 r.2 (by omega) (by omega),hp c (by omega)]
  have e:v/2^(a+c)=v/2^a/2^c:=by rw[Int.pow_add,Int.ediv_ediv_of_nonneg (Int.le_of_lt (Int.pow_pos (by decide)))]
  rw[e,show((p+c:Nat):Int)=(p:Int)+(c:Int) by omega,Cd _ _ _ _ (by omega) (by omega) hw hw']
  rfl
def Jn (i:Nat):Nat:=if i=20 then 31 else if 11<i then i else if 10<i then 9+i else 20+i
def qk (i:Nat):Nat:=if i=12 then 31 else if i=11 then 7 else if 4<i then 20+i else 7+i
theorem FU (x:Int×Int×Int×Int×Int) (hx: -9223372036854775808≤x.2.2.2.2) (hx':x.2.2.2.2≤9223372036854775807) (w:Int) (hw:0≤w) (hw':w<4294967296):
  gX.a x w 1=some (cL (cL (cL (cL w 21 10 (x.2.2.2.2/2)) 20 1 (x.2.2.2.2/2048)) 12 8 (x.2.2.2.2/4096)) 31 1 (x.2.2.2.2/1048576)):=by
 have st:=qj (fun w i=>gX.a x w (i:Int)) x.2.2.2.2 Jn 1 21 (fun w i h1 h2 h3 h4=>Cf x hx hx' w h1 h2 i h3 (by omega))
 have r1:=bG w 21 10 (x.2.2.2.2/2) (by decide) (by decide) (by decide) hw hw'
 have r2:=bG _ 20 1 (x.2.2.2.2/2048) (by decide) (by decide) (by decide) r1.1 r1.2
 have r3:=bG _ 12 8 (x.2.2.2.2/4096) (by decide) (by decide) (by decide) r2.1 r2.2
 refine(st 1 21 (by decide) w hw hw' 10 (by decide) (by decide) (by decide) (by decide) 10 (by decide)).trans ?_
 refine(st 11 20 (by decide) _ r1.1 r1.2 1 (by decide) (by decide) (by decide) (by decide) 1 (by decide)).trans ?_
 refine(st 12 12 (by decide) _ r2.1 r2.2 8 (by decide) (by decide) (by decide) (by decide) 8 (by decide)).trans ?_
 refine(st 20 31 (by decide) _ r3.1 r3.2 1 (by decide) (by decide) (by decide) (by decide) 1 (by decide)).trans ?_
 exact gX.a_eq _ _ _
theorem wz (x:Int×Int×Int×Int×Int) (hx: -9223372036854775808≤x.2.2.2.2) (hx':x.2.2.2.2≤9223372036854775807) (w:Int) (hw:0≤w) (hw':w<4294967296) (i:Nat) (h:1≤i) (h':i≤12):
  gX.b x w (i:Int)=gX.b x (cL w (qk i:Nat) 1 (x.2.2.2.2/2^i%2)) ((i+1:Nat):Int):=by
 rw[gX.b_eq,show decide ((i:Int)<13)=true by simp;omega,gv _ _ hx hx' (by omega) (by omega),aH (n:=7+(i:Int)) (by omega) (by omega),aH (n:=20+(i:Int)) (by omega) (by omega),aH (n:=(i:Int)+1) (by omega) (by omega)]
 simp only[av,cond_true,Int.toNat_natCast,Option.bind_some,qk]
 have e0:((i+1:Nat):Int)=(i:Int)+1:=by omega
 rw[e0]
 by_cases h1:i=12
 ·subst h1;rw[show decide (((12:Nat):Int)=12)=true by rfl,co _ _ _ _ (by omega) (by omega) (by omega) hw hw' (by omega) (by omega)];rfl
 ·by_cases h2:i=11
  ·subst h2
   rw[show decide (((11:Nat):Int)=12)=false by rfl,show decide (((11:Nat):Int)>4)=true by rfl,show decide (((11:Nat):Int)=11)=true by rfl]
   simp only[cond_true,cond_false]
   rw[co _ _ _ _ (by omega) (by omega) (by omega) hw hw' (by omega) (by omega)];rfl
  ·by_cases h3:4<i
   ·rw[show decide ((i:Int)=12)=false by simp;omega,show decide ((i:Int)=11)=false by simp;omega,show decide ((i:Int)>4)=true by simp;omega,if_neg h1,if_neg h2,if_pos h3]
    simp only[cond_true,cond_false]
    rw[co _ _ _ _ (by omega) (by omega) (by omega) hw hw' (by omega) (by omega),show((20+i:Nat):Int)=20+(i:Int) by omega];rfl
   ·rw[show decide ((i:Int)=12)=false by simp;omega,show decide ((i:Int)=11)=false by simp;omega,show decide ((i:Int)>4)=false by simp;omega,if_neg h1,if_neg h2,if_neg h3]
    simp only[cond_false]
    rw[co _ _ _ _ (by omega) (by omega) (by omega) hw hw' (by omega) (by omega),show((7+i:Nat):Int)=7+(i:Int) by omega];rfl
theorem yL (x:Int×Int×Int×Int×Int) (hx: -9223372036854775808≤x.2.2.2.2) (hx':x.2.2.2.2≤9223372036854775807) (w:Int) (hw:0≤w) (hw':w<4294967296):
  gX.b x w 1=some (cL (cL (cL (cL w 8 4 (x.2.2.2.2/2)) 25 6 (x.2.2.2.2/32)) 7 1 (x.2.2.2.2/2048)) 31 1 (x.2.2.2.2/4096)):=by
 have st:=qj (fun w i=>gX.b x w (i:Int)) x.2.2.2.2 qk 1 13 (fun w i h1 h2 h3 h4=>wz x hx hx' w h1 h2 i h3 (by omega))
 have r1:=bG w 8 4 (x.2.2.2.2/2) (by decide) (by decide) (by decide) hw hw'
 have r2:=bG _ 25 6 (x.2.2.2.2/32) (by decide) (by decide) (by decide) r1.1 r1.2
 have r3:=bG _ 7 1 (x.2.2.2.2/2048) (by decide) (by decide) (by decide) r2.1 r2.2
 refine(st 1 8 (by decide) w hw hw' 4 (by decide) (by decide) (by decide) (by decide) 4 (by decide)).trans ?_
 refine(st 5 25 (by decide) _ r1.1 r1.2 6 (by decide) (by decide) (by decide) (by decide) 6 (by decide)).trans ?_
 refine(st 11 7 (by decide) _ r2.1 r2.2 1 (by decide) (by decide) (by decide) (by decide) 1 (by decide)).trans ?_
 refine(st 12 31 (by decide) _ r3.1 r3.2 1 (by decide) (by decide) (by decide) (by decide) 1 (by decide)).trans ?_
 exact gX.b_eq _ _ _
theorem yM (x:Int×Int×Int×Int×Int) (hx: -9223372036854775808≤x.2.2.2.2) (hx':x.2.2.2.2≤9223372036854775807) (w:Int) (hw:0≤w) (hw':w<4294967296) (i:Nat) (h:5≤i) (h':i≤11):
  gX.c x w (i:Int)=gX.c x (cL w (20+i:Nat) 1 (x.2.2.2.2/2^i%2)) ((i+1:Nat):Int):=by
 rw[gX.c_eq,show decide ((i:Int)<12)=true by simp;omega,gv _ _ hx hx' (by omega) (by omega),aH (n:=20+(i:Int)) (by omega) (by omega),aH (n:=(i:Int)+1) (by omega) (by omega)]
 simp only[cond_true,Int.toNat_natCast,Option.bind_some]
 rw[co _ _ _ _ (by omega) (by omega) (by omega) hw hw' (by omega) (by omega),show((20+i:Nat):Int)=20+(i:Int) by omega];rfl
theorem Cg (x:Int×Int×Int×Int×Int) (hx: -9223372036854775808≤x.2.2.2.2) (hx':x.2.2.2.2≤9223372036854775807) (w:Int) (hw:0≤w) (hw':w<4294967296):
  gX.c x w 5=some (cL w 25 7 (x.2.2.2.2/32)):=by
 have st:=qj (fun w i=>gX.c x w (i:Int)) x.2.2.2.2 (fun i=>20+i) 5 12 (fun w i h1 h2 h3 h4=>yM x hx hx' w h1 h2 i h3 (by omega))
 refine(st 5 25 (by decide) w hw hw' 7 (by decide) (by decide) (by decide) (by decide) 7 (by decide)).trans ?_
 exact gX.c_eq _ _ _
theorem iT {w v:Int} (hw:0≤w) (hw':w<4294967296) (h:w/128%32=0) (hv: -9223372036854775808≤v) (hv':v≤9223372036854775807):gb w 7 5 v=some (w+v%32*128):=
 (co w 7 5 v (by decide) (by decide) (by decide) hw hw' hv hv').trans (congrArg some (bi 7 5 128 32 rfl rfl h))
theorem Ch {w v:Int} (hw:0≤w) (hw':w<4294967296) (h:w/4096%1048576=0) (hv: -9223372036854775808≤v) (hv':v≤9223372036854775807):gb w 12 20 v=some (w+v%1048576*4096):=
 (co w 12 20 v (by decide) (by decide) (by decide) hw hw' hv hv').trans (congrArg some (bi 12 20 4096 1048576 rfl rfl h))
theorem io {w v:Int} (hw:0≤w) (hw':w<4294967296) (h:w/4096%8=0) (hv: -9223372036854775808≤v) (hv':v≤9223372036854775807):gb w 12 3 v=some (w+v%8*4096):=
 (co w 12 3 v (by decide) (by decide) (by decide) hw hw' hv hv').trans (congrArg some (bi 12 3 4096 8 rfl rfl h))
theorem ip {w v:Int} (hw:0≤w) (hw':w<4294967296) (h:w/32768%32=0) (hv: -9223372036854775808≤v) (hv':v≤9223372036854775807):gb w 15 5 v=some (w+v%32*32768):=
 (co w 15 5 v (by decide) (by decide) (by decide) hw hw' hv hv').trans (congrArg some (bi 15 5 32768 32 rfl rfl h))
theorem sN {w v:Int} (hw:0≤w) (hw':w<4294967296) (h:w/1048576%4096=0) (hv: -9223372036854775808≤v) (hv':v≤9223372036854775807):gb w 20 12 v=some (w+v%4096*1048576):=
 (co w 20 12 v (by decide) (by decide) (by decide) hw hw' hv hv').trans (congrArg some (bi 20 12 1048576 4096 rfl rfl h))
theorem l7 {w v:Int} (hw:0≤w) (hw':w<4294967296) (h:w/1048576%32=0) (hv: -9223372036854775808≤v) (hv':v≤9223372036854775807):gb w 20 5 v=some (w+v%32*1048576):=
 (co w 20 5 v (by decide) (by decide) (by decide) hw hw' hv hv').trans (congrArg some (bi 20 5 1048576 32 rfl rfl h))
theorem FV {w v:Int} (hw:0≤w) (hw':w<4294967296) (h:w/1048576%64=0) (hv: -9223372036854775808≤v) (hv':v≤9223372036854775807):gb w 20 6 v=some (w+v%64*1048576):=
 (co w 20 6 v (by decide) (by decide) (by decide) hw hw' hv hv').trans (congrArg some (bi 20 6 1048576 64 rfl rfl h))
theorem ql {w v:Int} (hw:0≤w) (hw':w<4294967296) (h:w/33554432%128=0) (hv: -9223372036854775808≤v) (hv':v≤9223372036854775807):gb w 25 7 v=some (w+v%128*33554432):=
 (co w 25 7 v (by decide) (by decide) (by decide) hw hw' hv hv').trans (congrArg some (bi 25 7 33554432 128 rfl rfl h))
theorem yN {w v:Int} (h:w/2097152%1024=0):cL w 21 10 v=w+v%1024*2097152:=bi 21 10 2097152 1024 rfl rfl h
theorem Ci {w v:Int} (h:w/1048576%2=0):cL w 20 1 v=w+v%2*1048576:=bi 20 1 1048576 2 rfl rfl h
theorem Cj {w v:Int} (h:w/4096%256=0):cL w 12 8 v=w+v%256*4096:=bi 12 8 4096 256 rfl rfl h
theorem sO {w v:Int} (h:w/2147483648%2=0):cL w 31 1 v=w+v%2*2147483648:=bi 31 1 2147483648 2 rfl rfl h
theorem FW {w v:Int} (h:w/256%16=0):cL w 8 4 v=w+v%16*256:=bi 8 4 256 16 rfl rfl h
theorem Ck {w v:Int} (h:w/33554432%64=0):cL w 25 6 v=w+v%64*33554432:=bi 25 6 33554432 64 rfl rfl h
theorem FX {w v:Int} (h:w/128%2=0):cL w 7 1 v=w+v%2*128:=bi 7 1 128 2 rfl rfl h
theorem Cl {w v:Int} (h:w/33554432%128=0):cL w 25 7 v=w+v%128*33554432:=bi 25 7 33554432 128 rfl rfl h
theorem fh (x:Int×Int×Int×Int×Int) (h:1≤x.1) (h':x.1≤64) (hr:lg x) (hu:(cW x.1).1=1→x.2.2.2.2%4096=0):gX x=some (dZ (cW x.1) x):=by
 rw[JI,eG _ (by omega) h']
 have hs:=mY x.1 h h'
 generalize cW x.1=s at*
 obtain⟨n,rd',rs1,rs2,imm⟩:=x
 obtain⟨f,c,f3,f7⟩:=s
 obtain⟨⟨d1,d2⟩,⟨a1,a2⟩,⟨b1,b2⟩,⟨i1,i2⟩⟩:=hr
 obtain⟨s1,⟨s2,s2'⟩,⟨s3,s3'⟩,⟨s4,s4'⟩,s5,s6⟩:=fC hs
 clear hs
 dsimp only at*
 simp only[Option.bind_some,av]
 rcases gw s1 with rfl|rfl|rfl|rfl|rfl|rfl|rfl|rfl|rfl
 ·have hu:=hu rfl
  have ht:imm.tdiv 4096=imm/4096:=by
   rw[Int.tdiv_eq_ediv_of_dvd];exact Int.dvd_of_emod_eq_zero hu
  simp only[dB,↓reduceIte,decide_true,ht]
  rw[aH (n:=imm/4096) (by omega) (by omega),iT (by omega) (by omega) (by omega) (by omega) (by omega)]
  simp only[Option.bind_some]
  rw[Ch (by omega) (by omega) (by omega) (by omega) (by omega)]
  simp[dZ];omega
 ·simp(disch:=omega) [iT,FU,dZ]
  rw[yN (by omega)]
  have hb0:0≤imm/2%1024∧imm/2%1024<1024:=by omega
  generalize imm/2%1024=y0 at*
  rw[Ci (by omega)]
  have hb1:0≤imm/2048%2∧imm/2048%2<2:=by omega
  generalize imm/2048%2=y1 at*
  rw[Cj (by omega)]
  have hb2:0≤imm/4096%256∧imm/4096%256<256:=by omega
  generalize imm/4096%256=y2 at*
  rw[sO (by omega)]
  have hb3:0≤imm/1048576%2∧imm/1048576%2<2:=by omega
  generalize imm/1048576%2=y3 at*
  omega
 ·simp(disch:=omega) [iT,io,ip,sN,dZ]
  omega
 ·simp(disch:=omega) [io,ip,l7,yL,dZ]
  rw[FW (by omega)]
  have hb0:0≤imm/2%16∧imm/2%16<16:=by omega
  generalize imm/2%16=y0 at*
  rw[Ck (by omega)]
  have hb1:0≤imm/32%64∧imm/32%64<64:=by omega
  generalize imm/32%64=y1 at*
  rw[FX (by omega)]
  have hb2:0≤imm/2048%2∧imm/2048%2<2:=by omega
  generalize imm/2048%2=y2 at*
  rw[sO (by omega)]
  have hb3:0≤imm/4096%2∧imm/4096%2<2:=by omega
  generalize imm/4096%2=y3 at*
  omega
 ·simp(disch:=omega) [iT,io,ip,l7,Cg,dZ]
  have hb0:0≤imm%32∧imm%32<32:=by omega
  generalize imm%32=y0 at*
  rw[Cl (by omega)]
  have hb1:0≤imm/32%128∧imm/32%128<128:=by omega
  generalize imm/32%128=y1 at*
  omega
 ·have hf:=s5 rfl
  simp(disch:=omega) [iT,io,ip,ql,FV,dZ]
  omega
 ·simp(disch:=omega) [iT,io,ip,ql,l7,dZ]
  omega
 ·simp(disch:=omega) [iT,io,ip,ql,l7,dZ]
  omega
 ·simp(disch:=omega) [sN,dZ]
  omega
def fj (f w:Int):Int:=
 if f=1 then w/4096%1048576*4096
 else if f=2 then w/4096%256*4096+w/1048576%2*2048+w/2097152%1024*2+w/2147483648%2*1048576
 else if f=3 then w/1048576%4096
 else if f=4 then w/128%2*2048+w/256%16*2+w/33554432%64*32+w/2147483648%2*4096
 else if f=5 then w/128%32+w/33554432%128*32
 else if f=6 then w/1048576%64
 else if f=7 then w/1048576%32
 else 0
def eg (f:Int):Nat:=if f=1 then 32 else if f=2 then 21 else if f=3∨f=5 then 12 else if f=4 then 13 else 0
def nS (f w:Int):Int:=if 0<eg f then ce (fj f w) (eg f)else fj f w
def ei (n f w:Int):Int×Int×Int×Int×Int:=
 (n,(if(aU f).1 then w/128%32 else 0),(if(aU f).2.1 then w/32768%32 else 0),(if(aU f).2.2 then w/1048576%32 else 0),nS f w)
theorem wA {f:Int} (h:1≤f∧f≤9):Rz f=some ((eg f:Nat):Int):=by
 rw[LO]
 rcases gw h with rfl|rfl|rfl|rfl|rfl|rfl|rfl|rfl|rfl<;>rfl
theorem yO {f w:Int} (hf:1≤f∧f≤9) (h:0≤w) (h':w<4294967296): -2147483648≤nS f w∧nS f w≤2147483647:=by
 rcases gw hf with rfl|rfl|rfl|rfl|rfl|rfl|rfl|rfl|rfl<;>simp[nS,eg,fj,ce]<;>omega
theorem fX {n f w:Int} (hf:1≤f∧f≤9) (h:0≤w) (h':w<4294967296):lg (ei n f w):=by
 have hi:=yO hf h h'
 refine⟨?_, ?_, ?_, ?_⟩
 ·simp only[ei];split<;>omega
 ·simp only[ei];split<;>omega
 ·simp only[ei];split<;>omega
 ·simp only[ei];omega
def l8 (w:Int) (i:Int) (p:Int×Int×Int):Int:=gU .i64 i (cG .i64 (w/2^p.2.2.toNat%2^p.2.1.toNat) p.1)
theorem FY (w:Int) (z:Int×Int×Int×Int×Int) (s:Int×Int×Int×Int) (os:List (ByteArray×Int×Int×Int×Int)) (ln n:Int) (op rd' r1 r2:Int) (ps:List (Int×Int×Int)) (hp:l6 ps):
  ∀(k j:Nat) (i:Int),j+k=ps.length→ml.b w z s (op,rd',r1,r2,i) os ln n ps (ps.length:Int) (j:Int)=ml.b w z s (op,rd',r1,r2,(ps.drop j).foldl (l8 w) i) os ln n ps (ps.length:Int) (ps.length:Int):=by
 intro k
 induction k with
 |zero=>
   intro j i h;have:j=ps.length:=by omega
   subst this;simp
 |succ k ih=>
  intro j i h
  have hj:j<ps.length:=by omega
  obtain⟨p1,p2,p3,p4,p5,p6⟩:=hp.2 ps[j] (List.getElem_mem hj)
  have e:=aM (τ:= .pair (.int .i64) (.pair (.int .i64) (.int .i64))) ps j hj
  rw[ml.b_eq,ab,ae,e,ah j ps.length hj (by have:=hp.1;omega)]
  simp only[decide_eq_true hj,cond_true]
  rw[eF _ _ _ (by omega) (by omega) (by omega) (by omega)]
  simp only[Option.bind_some]
  rw[show decide (ps[j].1<0)=false by simp;omega]
  simp only[cond_false]
  rw[ih (j+1) _ (by omega),List.drop_eq_getElem_cons hj,List.foldl_cons]
  rfl
theorem FZ {y:Int} (h0:0≤y) (h:y≤2147483647):cG .i64 y 11=y*2048:=dG 11 2048 rfl (by decide) h0 (by omega)
theorem IJ {y:Int} (h0:0≤y) (h:y≤2147483647):cG .i64 y 1=y*2:=dG 1 2 rfl (by decide) h0 (by omega)
theorem IK {y:Int} (h0:0≤y) (h:y≤2147483647):cG .i64 y 5=y*32:=dG 5 32 rfl (by decide) h0 (by omega)
theorem zY {y:Int} (h0:0≤y) (h:y≤2147483647):cG .i64 y 0=y:=by
 rw[lY (by decide) (by decide)];simp;exact aH (by omega) (by omega)
theorem ox {y:Int} (h0:0≤y) (h:y≤2147483647):gU .i64 0 y=y:=by
 have:=bf (x:=0) (y:=y) (P:=1) (Q:=2147483648) 0 31 rfl rfl (by decide) (by decide) (by decide) h0 (by omega) (by omega)
 simpa using this
theorem wB {f w:Int} (hf:1≤f∧f≤9) (h:0≤w) (h':w<4294967296):(bJ f).foldl (l8 w) 0=fj f w:=by
 rcases gw hf with rfl|rfl|rfl|rfl|rfl|rfl|rfl|rfl|rfl
 ·simp[bJ,l8,fj]
  have hb0:0≤w/4096%1048576∧w/4096%1048576<1048576:=by omega
  generalize w/4096%1048576=y0 at*
  simp(disch:=omega) only[fW,ww]
  omega
 ·simp[bJ,l8,fj]
  have hb0:0≤w/4096%256∧w/4096%256<256:=by omega
  generalize w/4096%256=y0 at*
  have hb1:0≤w/1048576%2∧w/1048576%2<2:=by omega
  generalize w/1048576%2=y1 at*
  have hb2:0≤w/2097152%1024∧w/2097152%1024<1024:=by omega
  generalize w/2097152%1024=y2 at*
  have hb3:0≤w/2147483648%2∧w/2147483648%2<2:=by omega
  generalize w/2147483648%2=y3 at*
  simp(disch:=omega) only[fW,FZ,IJ,iS,zV,zX,Ie,uc]
  omega
 ·simp[bJ,l8,fj]
  have hb0:0≤w/1048576%4096∧w/1048576%4096<4096:=by omega
  generalize w/1048576%4096=y0 at*
  simp(disch:=omega) only[zY,ox]
 ·simp[bJ,l8,fj]
  have hb0:0≤w/128%2∧w/128%2<2:=by omega
  generalize w/128%2=y0 at*
  have hb1:0≤w/256%16∧w/256%16<16:=by omega
  generalize w/256%16=y1 at*
  have hb2:0≤w/33554432%64∧w/33554432%64<64:=by omega
  generalize w/33554432%64=y2 at*
  have hb3:0≤w/2147483648%2∧w/2147483648%2<2:=by omega
  generalize w/2147483648%2=y3 at*
  simp(disch:=omega) only[FZ,IJ,IK,fW,zX,Ji,Jj,If]
  omega
 ·simp[bJ,l8,fj]
  have hb0:0≤w/128%32∧w/128%32<32:=by omega
  generalize w/128%32=y0 at*
  have hb1:0≤w/33554432%128∧w/33554432%128<128:=by omega
  generalize w/33554432%128=y1 at*
  simp(disch:=omega) only[zY,IK,ox,Jk]
 ·simp[bJ,l8,fj]
  have hb0:0≤w/1048576%64∧w/1048576%64<64:=by omega
  generalize w/1048576%64=y0 at*
  simp(disch:=omega) only[zY,ox]
 ·simp[bJ,l8,fj]
  have hb0:0≤w/1048576%32∧w/1048576%32<32:=by omega
  generalize w/1048576%32=y0 at*
  simp(disch:=omega) only[zY,ox]
 ·rfl
 ·rfl
theorem Ih {f w:Int} (hf:1≤f∧f≤9):(if 0<eg f then Qr (fj f w) ((eg f:Nat):Int)else some (fj f w))=some (nS f w):=by
 unfold nS
 rcases gw hf with rfl|rfl|rfl|rfl|rfl|rfl|rfl|rfl|rfl<;>simp[eg]<;>rw[yK _ _ (by decide) (by decide)]<;>rfl
theorem Jo (n:Int) (h:0≤n) (h':n≤64):∃os:List (ByteArray×Int×Int×Int×Int),Qq=some os∧os.length=65∧∀m:Nat,m≤64→((rd (τ:=(.pair .str (.pair (.int .i64) (.pair (.int .i64) (.pair (.int .i64) (.int .i64)))))) os m).2)=cW m:=by
 refine⟨_,GN,rfl,fun m hm=> ?_⟩
 obtain⟨k,rfl⟩:∃k:Fin 65,m=k.val:=⟨⟨m,by omega⟩,rfl⟩
 clear hm;revert k
 decide+kernel
theorem rA (w:Int) (h:0≤w) (h':w<4294967296) (z:Int×Int×Int×Int×Int) (os:List (ByteArray×Int×Int×Int×Int)) (ho:os.length=65) (hs:∀m:Nat,m≤64→((rd (τ:=(.pair .str (.pair (.int .i64) (.pair (.int .i64) (.pair (.int .i64) (.int .i64)))))) os m).2)=cW m) (n:Nat) (h1:1≤n) (hn:n≤64):
  ml.a w z os 65 n=if(cW n).2.1=w%128∧dZ (cW n) (ei n (cW n).1 w)=w then some (ei n (cW n).1 w,true)else ml.a w z os 65 ((n+1:Nat):Int):=by
 have hsf:=mY n (by omega) (by omega)
 rw[ml.a_eq,show decide ((n:Int)<65)=true by simp;omega,ho,show ao (n:Int) 65=true by rw[ae];simp;omega,hs n hn,show decide ((n:Int)=0)=false by simp;omega,eF w 0 7 (by decide) (by decide) (by decide) (by decide),aH (n:=(n:Int)+1) (by omega) (by omega)]
 have e0:((n+1:Nat):Int)=(n:Int)+1:=by omega
 rw[e0]
 simp only[cond_true,cond_false,av,Option.bind_some]
 rw[show w/2^(0:Int).toNat%2^(7:Int).toNat=w%128 by simp]
 by_cases hc:(cW n).2.1=w%128
 ·have henc:∀x:Int×Int×Int×Int×Int,x.1=(n:Int)→lg x→w5 x=some (dZ (cW n) x):=fun x hx hr=>by rw[←hx];exact fg x (by omega) (by omega) hr
  generalize hS:cW n=s at*
  obtain⟨f,c,f3,f7⟩:=s
  obtain⟨s1,⟨s2,s2'⟩,⟨s3,s3'⟩,⟨s4,s4'⟩,s5,s6⟩:=fC hsf
  obtain⟨hp,hpo⟩:=qh s1
  dsimp only at*
  rw[decide_eq_true hc,hp]
  simp only[eq_true hc,true_and,Bool.not_true,cond_false,Option.bind_some]
  clear hc
  rw[show(0:Int)=((0:Nat):Int) by rfl,FY _ _ _ _ _ _ _ _ _ _ _ hpo (bJ f).length 0 _ (by omega),List.drop_zero,show(((0:Nat):Int))=0 by rfl,wB s1 h h',ml.b_eq,ab]
  simp only[Nat.lt_irrefl,decide_false,cond_false,wA s1,qi s1,Option.bind_some,av]
  have hi:=Ih (w:=w) s1
  have he:=henc (ei n f w) rfl (fX s1 h h')
  have b1:GM w 7 5=some (w/128%32):=eF w 7 5 (by decide) (by decide) (by decide) (by decide)
  have b2:GM w 15 5=some (w/32768%32):=eF w 15 5 (by decide) (by decide) (by decide) (by decide)
  have b3:GM w 20 5=some (w/1048576%32):=eF w 20 5 (by decide) (by decide) (by decide) (by decide)
  rw[aH (n:=(n:Int)+1) (by omega) (by omega)]
  clear henc hS hs ho hp hpo s5 s6 hsf
  unfold ei at he⊢
  generalize ml.a w z os 65 (↑n+1)=nx
  generalize fj f w=iu at*
  generalize nS f w=im at*
  simp only[b1,b2,b3,Option.bind_some]
  rcases gw s1 with rfl|rfl|rfl|rfl|rfl|rfl|rfl|rfl|rfl<;>simp[eg,aU]at hi he⊢ <;>first|(rw[hi,Option.bind_some,he];simp[dB])|(rw[hi,he];simp[dB])
 ·rw[if_neg (fun hh=>hc hh.1),show decide ((cW n).2.1=w%128)=false by simpa using hc]
  rfl
theorem wC (n:Int):Ra n=some (decide (1≤n)&&decide (n≤64)):=by
 rw[JM,zh]
 by_cases h:n≥1<;>simp[h]
theorem uf (n:Int):PI n=some (decide (0≤n)&&decide (n≤31)):=by
 rw[JN,zh]
 by_cases h:n≥0<;>simp[h]
theorem eU (n a b:Int):nK n a b=some (decide (a≤n)&&decide (n≤b)):=by
 rw[zh]
 by_cases h:n≥a<;>simp[h]
theorem cb (n a b:Int):gg n a b=some (decide (a≤n)&&decide (n≤b)):=by
 rw[zi]
 by_cases h:a≤n<;>simp[h]
def l9 (f i:Int):Bool:=
 if f=1 then decide (-2147483648≤i)&&decide (i≤2147479552)&&decide (i%4096=0)
 else if f=2 then decide (-1048576≤i)&&decide (i≤1048574)&&decide (i%2=0)
 else if f=3∨f=5 then decide (-2048≤i)&&decide (i≤2047)
 else if f=4 then decide (-4096≤i)&&decide (i≤4094)&&decide (i%2=0)
 else if f=6 then decide (0≤i)&&decide (i≤63)
 else if f=7 then decide (0≤i)&&decide (i≤31)
 else decide (i=0)
def eH (x:Int×Int×Int×Int×Int):Bool:=
 decide (1≤x.1)&&decide (x.1≤64)&&decide (0≤x.2.1)&&decide (x.2.1≤31)&&decide (0≤x.2.2.1)&&decide (x.2.2.1≤31)&&decide (0≤x.2.2.2.1)&&decide (x.2.2.2.1≤31)
  &&((aU (cW x.1).1).1||decide (x.2.1=0))&&((aU (cW x.1).1).2.1||decide (x.2.2.1=0))&&((aU (cW x.1).1).2.2||decide (x.2.2.2.1=0))&&l9 (cW x.1).1 x.2.2.2.2
theorem jJ (x:Int×Int×Int×Int×Int):PZ x=some (eH x):=by
 rw[JO]
 obtain⟨n,d,a,b,i⟩:=x
 simp only[av,wC,uf,eU,Option.bind_some,eH]
 by_cases hn:1≤n∧n≤64
 ·by_cases hd:0≤d∧d≤31
  ·by_cases ha:0≤a∧a≤31
   ·by_cases hb:0≤b∧b≤31
    ·have hs:=mY n hn.1 hn.2
     rw[eG n (by omega) hn.2]
     generalize cW n=s at*
     obtain⟨f,c,f3,f7⟩:=s
     have s1:=(fC hs).1
     simp only[hn,hd,ha,hb,decide_true,Bool.and_self,Bool.not_true,cond_false,Option.bind_some,Bool.true_and]
     clear hs
     have t1:decide (i.tmod 4096=0)=decide (i%4096=0):=by
      congr 1;exact propext ⟨fun h=>by rw[←Int.dvd_iff_tmod_eq_zero]at h;omega,fun h=>by rw[←Int.dvd_iff_tmod_eq_zero];omega⟩
     have t2:decide (i.tmod 2=0)=decide (i%2=0):=by
      congr 1;exact propext ⟨fun h=>by rw[←Int.dvd_iff_tmod_eq_zero]at h;omega,fun h=>by rw[←Int.dvd_iff_tmod_eq_zero];omega⟩
     rw[t1,t2]
     rcases gw s1 with rfl|rfl|rfl|rfl|rfl|rfl|rfl|rfl|rfl<;>simp[aU,l9]<;>by_cases e1:d=0<;>by_cases e2:a=0<;>by_cases e3:b=0<;>simp[e1,e2,e3,dB]<;>(first|done|(split<;>first|(simp_all;done)|(simp;intro q1 q2;omega)))
    ·have:(decide (0≤b)&&decide (b≤31))=false:=by simpa using hb
     have h2:¬(0≤b∧b≤31):=hb
     rw[this]
     simp[hn,hd,ha]
     by_cases q:0≤b<;>simp[q]<;>intros<;>omega
   ·have:(decide (0≤a)&&decide (a≤31))=false:=by simpa using ha
    rw[this]
    simp[hn,hd]
    by_cases q:0≤a<;>simp[q]<;>intros<;>omega
  ·have:(decide (0≤d)&&decide (d≤31))=false:=by simpa using hd
   rw[this]
   simp[hn]
   by_cases q:0≤d<;>simp[q]<;>intros<;>omega
 ·have:(decide (1≤n)&&decide (n≤64))=false:=by simpa using hn
  rw[this]
  simp
theorem iq {n:Int} (h:1≤n) (h':n≤64):1≤(cW n).1∧(cW n).1≤9:=by
 have:=mY n h h'
 generalize cW n=s at*
 exact(fC this).1
theorem sP {n f w:Int} (hn:1≤n) (hn':n≤64) (hf:f=(cW n).1) (h:0≤w) (h':w<4294967296):eH (ei n f w)=true:=by
 have s1:=iq hn hn'
 obtain⟨⟨d1,d2⟩,⟨a1,a2⟩,⟨b1,b2⟩,⟨i1,i2⟩⟩:=fX (n:=n) (hf▸s1) h h'
 have hi:l9 f (nS f w)=true:=by
  subst hf
  rcases gw s1 with e|e|e|e|e|e|e|e|e<;>rw[e]<;>simp[l9,nS,eg,fj,ce]<;>omega
 subst hf
 unfold eH
 simp only[Bool.and_eq_true,Bool.or_eq_true,decide_eq_true_eq]
 simp only[ei]at d1 d2 a1 a2 b1 b2⊢
 refine⟨⟨⟨⟨⟨⟨⟨⟨⟨⟨⟨hn,hn'⟩,d1⟩,d2⟩,a1⟩,a2⟩,b1⟩,b2⟩, ?_⟩, ?_⟩, ?_⟩,hi⟩
 ·cases (aU (cW n).1).1<;>simp
 ·cases (aU (cW n).1).2.1<;>simp
 ·cases (aU (cW n).1).2.2<;>simp
theorem qm (w:Int) (h:0≤w) (h':w<4294967296) (n:Int) (h1:1≤n) (hn:n≤64):Q9 n w=some (ei n (cW n).1 w):=by
 have s1:=iq h1 hn
 have fv:∀l c:Int,0≤l→0≤c→l+c≤62→qM w l c=some (w/2^l.toNat%2^c.toNat):=fun l c a b d=>Cb w l c (by omega) (by omega) a b d
 have bv:∀l:Int,0≤l→l≤63→wV w l=some (w/2^l.toNat%2):=fun l a b=>gv w l (by omega) (by omega) a b
 rw[JL,fv 7 5 (by decide) (by decide) (by decide),fv 15 5 (by decide) (by decide) (by decide),fv 20 5 (by decide) (by decide) (by decide),fv 12 20 (by decide) (by decide) (by decide),fv 21 10 (by decide) (by decide) (by decide),fv 12 8 (by decide) (by decide) (by decide),fv 20 12 (by decide) (by decide) (by decide),fv 8 4 (by decide) (by decide) (by decide),fv 25 6 (by decide) (by decide) (by decide),fv 25 7 (by decide) (by decide) (by decide),fv 20 6 (by decide) (by decide) (by decide),bv 20 (by decide) (by decide),bv 31 (by decide) (by decide),bv 7 (by decide) (by decide),eG n (by omega) hn]
 generalize cW n=s at*
 obtain⟨f,c,f3,f7⟩:=s
 dsimp only at*
 simp only[Option.bind_some,ei,nS]
 rcases gw s1 with rfl|rfl|rfl|rfl|rfl|rfl|rfl|rfl|rfl
 ·simp[aU,eg,fj]
  rw[il _ 20 (by decide) (by decide) (by omega) (by omega)]
  simp[ce]
  rw[aH (by omega) (by omega)]
  omega
 ·simp[aU,eg,fj]
  rw[aH (n:=w/2097152%1024*2) (by omega) (by omega),aH (n:=w/1048576%2*2048) (by omega) (by omega),aH (n:=w/4096%256*4096) (by omega) (by omega),aH (n:=w/2147483648%2*1048576) (by omega) (by omega),aH (n:=w/2097152%1024*2+w/1048576%2*2048) (by omega) (by omega),aH (n:=w/2097152%1024*2+w/1048576%2*2048+w/4096%256*4096) (by omega) (by omega),aH (by omega) (by omega),il _ 21 (by decide) (by decide) (by omega) (by omega)]
  simp
  congr 1;omega
 ·simp[aU,eg,fj]
  rw[il _ 12 (by decide) (by decide) (by omega) (by omega)]
  simp
 ·simp[aU,eg,fj]
  rw[aH (n:=w/256%16*2) (by omega) (by omega),aH (n:=w/33554432%64*32) (by omega) (by omega),aH (n:=w/128%2*2048) (by omega) (by omega),aH (n:=w/2147483648%2*4096) (by omega) (by omega),aH (n:=w/256%16*2+w/33554432%64*32) (by omega) (by omega),aH (n:=w/256%16*2+w/33554432%64*32+w/128%2*2048) (by omega) (by omega),aH (by omega) (by omega),il _ 13 (by decide) (by decide) (by omega) (by omega)]
  simp
  congr 1;omega
 ·simp[aU,eg,fj]
  rw[aH (n:=w/33554432%128*32) (by omega) (by omega),aH (by omega) (by omega),il _ 12 (by decide) (by decide) (by omega) (by omega)]
  simp
 ·simp[aU,eg,fj]
 ·simp[aU,eg,fj]
 ·simp[aU,eg,fj]
 ·simp[aU,eg,fj]
theorem Jp {n f c f3 f7 w:Int} (hs:zU (f,c,f3,f7)=true) (h:0≤w) (h':w<4294967296) (hc:c=w%128) (h3:3≤f) (h8:f≤8) (he:dZ (f,c,f3,f7) (ei n f w)=w):f3=w/4096%8:=by
 obtain⟨s1,⟨s2,s2'⟩,⟨s3,s3'⟩,⟨s4,s4'⟩,s5,s6⟩:=fC hs
 clear hs
 have hd:=(fX (n:=n) s1 h h').d
 have ha:=(fX (n:=n) s1 h h').a
 have hb:=(fX (n:=n) s1 h h').b
 have:f=3∨f=4∨f=5∨f=6∨f=7∨f=8:=by omega
 generalize ei n f w=x at*
 obtain⟨n',d,a,b,i⟩:=x
 dsimp only at*
 rcases this with rfl|rfl|rfl|rfl|rfl|rfl<;>simp only[dZ,Int.reduceEq,↓reduceIte]at he
 ·have hb0:0≤i%4096∧i%4096<4096:=by omega
  generalize i%4096=y0 at*;omega
 ·have hb0:0≤i/2048%2∧i/2048%2<2:=by omega
  generalize i/2048%2=y0 at*
  have hb1:0≤i/2%16∧i/2%16<16:=by omega
  generalize i/2%16=y1 at*
  have hb2:0≤i/32%64∧i/32%64<64:=by omega
  generalize i/32%64=y2 at*
  have hb3:0≤i/4096%2∧i/4096%2<2:=by omega
  generalize i/4096%2=y3 at*;omega
 ·have hb0:0≤i%32∧i%32<32:=by omega
  generalize i%32=y0 at*
  have hb1:0≤i/32%128∧i/32%128<128:=by omega
  generalize i/32%128=y1 at*;omega
 ·have hb0:0≤i%64∧i%64<64:=by omega
  generalize i%64=y0 at*;omega
 ·have hb0:0≤i%32∧i%32<32:=by omega
  generalize i%32=y0 at*;omega
 ·omega
theorem rB (w:Int) (h:0≤w) (h':w<4294967296) (z:Int×Int×Int×Int×Int) (n:Nat) (h1:1≤n) (hn:n≤64):
  wX.a w z n=if(cW n).2.1=w%128∧dZ (cW n) (ei n (cW n).1 w)=w then some (ei n (cW n).1 w,true)else wX.a w z ((n+1:Nat):Int):=by
 have hsf:=mY n (by omega) (by omega)
 have s1:=iq (n:=n) (by omega) (by omega)
 have hr:=sP (n:=n) (by omega) (by omega) rfl h h'
 have he:gX (ei n (cW n).1 w)=some (dZ (cW n) (ei n (cW n).1 w)):=fh (ei n (cW n).1 w) (by simp only[ei];omega) (by simp only[ei];omega) (fX s1 h h') (fun hf=>by
  have hf:(cW n).1=1:=hf
  show nS (cW n).1 w%4096=0
  rw[hf];simp[nS,eg,fj,ce];omega)
 have e0:((n+1:Nat):Int)=(n:Int)+1:=by omega
 rw[wX.a_eq,show decide ((n:Int)≤64)=true by simp;omega,eG n (by omega) (by omega),aH (n:=(n:Int)+1) (by omega) (by omega),e0]
 simp only[cond_true,av,Option.bind_some,eU,qm w h h' n (by omega) (by omega),jJ,hr,he]
 have t1:w.tmod 128=w%128:=Int.tmod_eq_emod_of_nonneg h
 have t2:(w.tdiv 4096).tmod 8=w/4096%8:=by rw[Int.tdiv_eq_ediv_of_nonneg h,Int.tmod_eq_emod_of_nonneg (by omega)]
 have w1:IntKind.wrap .i64 (w.tdiv 4096)=w.tdiv 4096:=by rw[Int.tdiv_eq_ediv_of_nonneg h];exact aH (by omega) (by omega)
 rw[w1,t1,t2]
 have h3:=fun(hc:(cW n).2.1=w%128) (h3:3≤(cW n).1) (h8:(cW n).1≤8) (he:dZ (cW n) (ei n (cW n).1 w)=w)=>Jp (n:=n) (f:=(cW n).1) (c:=(cW n).2.1) (f3:=(cW n).2.2.1) (f7:=(cW n).2.2.2) hsf h h' hc h3 h8 he
 clear hsf hr he
 generalize cW n=s at*
 by_cases hc:s.2.1=w%128
 ·by_cases hf:3≤s.1∧s.1≤8
  ·by_cases hg:s.2.2.1=w/4096%8
   ·simp[hc,hf,hg,dB]
   ·have:¬dZ s (ei n s.1 w)=w:=fun he=>hg (h3 hc hf.1 hf.2 he)
    simp[hc,hf,hg,this]
  ·have:(decide (3≤s.1)&&decide (s.1≤8))=false:=by simpa using hf
   simp[hc,this,dB]
 ·simp[hc]
def F2 (w:Int) (v:(Int×Int×Int×Int×Int)×Bool):Prop:=(v.2=true→1≤v.1.1∧v.1.1≤64∧v.1=ei v.1.1 (cW v.1.1).1 w∧dZ (cW v.1.1) v.1=w)∧(v.2=false→v.1=(0,0,0,0,0))
theorem nE (w:Int) (h:0≤w) (h':w<4294967296):∃v,ml w=some v∧wX w=some v∧F2 w v:=by
 obtain⟨os,ho,hl,hs⟩:=Jo 0 (by decide) (by decide)
 rw[LQ,JP,ho]
 simp only[Option.bind_some,hl]
 have hz:ml.a w (0,0,0,0,0) os 65 0=ml.a w (0,0,0,0,0) os 65 1:=by
  rw[ml.a_eq,hl];rfl
 have key:∀(k n:Nat),n+k=65→1≤n→∃v,ml.a w (0,0,0,0,0) os 65 (n:Int)=some v∧wX.a w (0,0,0,0,0) (n:Int)=some v∧F2 w v:=by
  intro k
  induction k with
  |zero=>
   intro n hn h1
   have:n=65:=by omega
   subst this
   rw[ml.a_eq,wX.a_eq]
   exact⟨_,rfl,rfl,(fun hh=>by cases hh),fun _=>rfl⟩
  |succ k ih=>
   intro n hn h1
   obtain⟨v,e1,e2,e3⟩:=ih (n+1) (by omega) (by omega)
   rw[rA w h h' _ os hl hs n h1 (by omega),rB w h h' _ n h1 (by omega),e1,e2]
   by_cases hc:(cW n).2.1=w%128∧dZ (cW n) (ei n (cW n).1 w)=w
   ·rw[if_pos hc]
    exact⟨_,rfl,rfl,fun _=>⟨by simp only[ei];omega,by simp only[ei];omega,rfl,hc.2⟩,(fun hh=>by cases hh)⟩
   ·rw[if_neg hc]
    exact⟨v,rfl,rfl,e3⟩
 rw[show(((65:Nat)):Int)=65 by rfl,hz]
 exact key 64 1 (by omega) (by omega)
abbrev dC:Ty:= .pair (.int .i64) (.pair (.int .i64) (.pair (.int .i64) (.pair (.int .i64) (.int .i64))))
abbrev iU:Type:=Int×Int×Int×Int×Int
theorem Cm (a b:ByteArray):(bo a b=true)=(a=b):=by
 unfold bo
 rw[beq_iff_eq]
 refine propext ⟨fun h=> ?_,fun h=>by rw[h]⟩
 have e:∀x:ByteArray,x.toList=x.data.toList:=by
  intro x
  have:∀(n i:Nat) (r:List UInt8),n=x.size-i→ByteArray.toList.loop x i r=r.reverse++x.data.toList.drop i:=by
   intro n
   induction n with
   |zero=>
     intro i r hn
     rw[ByteArray.toList.loop,if_neg (by omega),List.drop_eq_nil_of_le (by have:x.size=x.data.size:=rfl;simp;omega),List.append_nil]
   |succ n ih=>
    intro i r hn
    have hi:i<x.data.toList.length:=by have:x.size=x.data.size:=rfl;simp;omega
    rw[ByteArray.toList.loop,if_pos (by omega),ih (i+1) _ (by omega),List.drop_eq_getElem_cons hi]
    have:x.get! i=x.data.toList[i]:=by
     have h2:i<x.data.size:=by simpa using hi
     rw[ByteArray.get!,getElem!_pos x.data i h2];simp
    rw[this];simp
  have:=this (x.size-0) 0 [] rfl
  rw[ByteArray.toList,this];simp
 rw[e,e]at h
 have:a.data=b.data:=Array.toList_inj.mp h
 cases a;cases b;simp_all
theorem aL (a b:ByteArray):bo a b=decide (a=b):=by
 have:=Cm a b
 by_cases h:a=b
 ·rw[decide_eq_true h,this.mpr h]
 ·rw[decide_eq_false h]
  cases e:bo a b
  ·rfl
  ·exact absurd (this.mp e) h
theorem oy (a b:iU):ka dC a b=decide (a=b):=by
 obtain⟨a1,a2,a3,a4,a5⟩:=a
 obtain⟨b1,b2,b3,b4,b5⟩:=b
 simp[ka]
def ks (t:ByteArray) (a:Nat):Nat→Nat
 |0=>0
 |n+1=>(t.data.getD a 0).toNat+256*ks t (a+1) n
theorem Jq (t:ByteArray):∀(n a:Nat),ks t a n<256^n:=by
 intro n
 induction n with
 |zero=>intro a;simp[ks]
 |succ n ih=>
  intro a
  have h1:=ih (a+1)
  have h2:=(t.data.getD a 0).toNat_lt
  rw[ks,Nat.pow_succ];omega
theorem nF (t:ByteArray) (a b:Nat) (hb:b≤t.size):∀(n i:Nat),i+n≤b-a→ks (t.extract a b) i n=ks t (a+i) n:=by
 intro n
 induction n with
 |zero=>intro i _;rfl
 |succ n ih=>
  intro i h
  rw[ks,ks,ih (i+1) (by omega)]
  congr 2
  rw[ByteArray.data_extract]
  have hs:t.size=t.data.size:=rfl
  simp[Array.getD]
  rw[dif_pos (by omega),dif_pos (by omega)]
theorem Ii (V b:Int) (hV:0≤V) (hb:0≤b) (hb':b≤255):gU .i64 (cG .i64 (IntKind.wrap .i64 V) 8) b=IntKind.wrap .i64 (256*V+b):=by
 have h1:cG .i64 (IntKind.wrap .i64 V) 8=IntKind.wrap .i64 (V*256):=by
  rw[lY (by decide) (by decide)]
  obtain⟨q,hq⟩:=yH V
  have e8:(2:Int)^(8:Int).toNat=256:=by decide
  rw[hq,e8,IntKind.wrap_i64,IntKind.wrap_i64];omega
 rw[h1]
 obtain⟨y,rfl⟩:=Int.eq_ofNat_of_zero_le hb
 unfold gU
 rw[BitVec.toNat_or]
 have f1:=yI (IntKind.wrap .i64 (V*256))
 have f2:(BitVec.ofInt IntKind.i64.bits (y:Int)).toNat=y:=by have:=yI (y:Int);omega
 have f3:IntKind.wrap .i64 (V*256)%18446744073709551616=V*256%18446744073709551616:=by
  rw[IntKind.wrap_i64];omega
 rw[f3]at f1
 rw[f2]
 generalize (BitVec.ofInt IntKind.i64.bits (IntKind.wrap .i64 (V*256))).toNat=x at*
 have h0:=lZ x y 0 8 (by omega) (by omega)
 simp only[Nat.pow_zero,Nat.mul_one]at h0
 rw[h0,IntKind.wrap_i64,IntKind.wrap_i64]
 omega
theorem ma (n:Int):IntKind.wrap .u64 n=n%18446744073709551616:=by simp[IntKind.wrap,IntKind.bits,IntKind.signed]
theorem fY (t:ByteArray) (i:Nat):bt t (i:Int)=((t.data.getD i 0).toNat:Int):=by unfold bt;rw[Int.toNat_natCast]
theorem qn (t:ByteArray) (hz:t.size≤9223372036854775807):∀(k:Nat),k≤t.size→Ak.a t (IntKind.wrap .i64 (ks t k (t.size-k))) ((k:Int)-1)=some (IntKind.wrap .i64 (ks t 0 t.size)):=by
 intro k
 induction k with
 |zero=>
  intro _
  rw[Ak.a_eq];rfl
 |succ k ih=>
  intro hk
  have hs:(((k+1:Nat):Int)-1)=(k:Int):=by omega
  have hb:=ws t (k:Int)
  rw[hs,Ak.a_eq,show decide ((k:Int)≥0)=true by simp,ae,decide_eq_true (show k<t.size by omega),aH (n:=bt t (k:Int)) (by omega) (by omega),Ii _ _ (by omega) hb.1 hb.2,aH (n:=(k:Int)-1) (by omega) (by omega)]
  simp only[cond_true]
  have e:ks t k (t.size-k)=(t.data.getD k 0).toNat+256*ks t (k+1) (t.size-(k+1)):=by
   rw[show t.size-k=(t.size-(k+1))+1 by omega,ks]
  have ih:=ih (by omega)
  rw[e]at ih
  rw[fY,show(256:Int)*(ks t (k+1) (t.size-(k+1)):Nat)+((t.data.getD k 0).toNat:Nat)=(((t.data.getD k 0).toNat+256*ks t (k+1) (t.size-(k+1)):Nat):Int) by omega]
  exact ih
theorem gJ (t:ByteArray) (hz:t.size≤9223372036854775807):Ak t=some (IntKind.wrap .i64 (ks t 0 t.size)):=by
 have:=qn t hz t.size (by omega)
 rw[Nat.sub_self,show IntKind.wrap .i64 (ks t t.size 0:Nat)=0 by rfl]at this
 rw[LH,aH (n:=(t.size:Int)-1) (by omega) (by omega)]
 exact this
theorem qo (t:ByteArray) (a n:Nat) (hz:t.size≤4611686018427387904) (han:a+n≤t.size):∀(k:Nat),k≤n→wY.a t (a:Int) (((ks t (a+k) (n-k):Nat):Int)%18446744073709551616) ((k:Int)-1)=some (IntKind.wrap .i64 (ks t a n)):=by
 intro k
 induction k with
 |zero=>
  intro _
  rw[wY.a_eq,show decide (((0:Nat):Int)-1≥0)=false by rfl]
  simp only[cond_false,Nat.add_zero,Nat.sub_zero]
  congr 1
  rw[IntKind.wrap_i64,IntKind.wrap_i64];omega
 |succ k ih=>
  intro hk
  have hs:(((k+1:Nat):Int)-1)=(k:Int):=by omega
  have hi:((a:Int)+(k:Int))=((a+k:Nat):Int):=by omega
  rw[hs,wY.a_eq,show decide ((k:Int)≥0)=true by simp,hi,aH (n:=((a+k:Nat):Int)) (by omega) (by omega),ae,decide_eq_true (show a+k<t.size by omega),aH (n:=(k:Int)-1) (by omega) (by omega)]
  simp only[cond_true]
  have e:ks t (a+k) (n-k)=(t.data.getD (a+k) 0).toNat+256*ks t (a+(k+1)) (n-(k+1)):=by
   rw[show n-k=(n-(k+1))+1 by omega,ks];rfl
  have ih:=ih (by omega)
  rw[e]at ih
  rw[fY]
  have hb:=(t.data.getD (a+k) 0).toNat_lt
  refine Eq.trans ?_ ih
  congr 1
  rw[ma,ma,ma]
  generalize (t.data.getD (a+k) 0).toNat=b at*
  generalize ks t (a+(k+1)) (n-(k+1))=L at*
  omega
theorem gK (t:ByteArray) (a n:Nat) (hz:t.size≤4611686018427387904) (han:a+n≤t.size):wY t (a:Int) (n:Int)=some (IntKind.wrap .i64 (ks t a n)):=by
 have:=qo t a n hz han n (by omega)
 rw[Nat.sub_self,show((ks t (a+n) 0:Nat):Int)%18446744073709551616=0 by rfl]at this
 rw[JQ,aH (n:=(n:Int)-1) (by omega) (by omega)]
 exact this
theorem R1 (t:ByteArray) (a:Nat):0≤((ks t a 4:Nat):Int)∧((ks t a 4:Nat):Int)<4294967296:=by
 have:=Jq t 4 a
 have e:256^4=4294967296:=by decide
 omega
def ug (x:iU):Prop:=1≤x.1∧x.1≤64∧lg x∧eH x=true
theorem F2.ins {w:Int} (h:0≤w) (h':w<4294967296) {v:iU×Bool} (hv:F2 w v) (hb:v.2=true):ug v.1:=by
 obtain⟨h1,h2,h3,h4⟩:=hv.1 hb
 refine⟨h1,h2, ?_, ?_⟩
 ·rw[h3];exact fX (iq h1 h2) h h'
 ·rw[h3];exact sP h1 h2 rfl h h'
theorem oz {n b:Nat} (h:n*b≤140737488355328) (h':n≤140737488355328):ar n b=true:=by
 simp only[ar,Bool.and_eq_true,decide_eq_true_eq];omega
inductive O2 (code:ByteArray):Prop where
 |ok (l:List iU) (hi:CS code=some (l,0,true)) (hs:CO code=some (l,-1)) (hl:4*l.length=code.size) (hr:∀x∈l,ug x)
 |bad (k:Int) (hi:CS code=some ([],k,false)) (hs:CO code=some ([],k)) (h0:0≤k)
theorem wD (code:ByteArray) (h4:code.size%4=0) (hz:code.size≤1048576):O2 code:=by
 have key:∀(k i:Nat) (l:List iU),4*(i+k)=code.size→l.length=i→(∀x∈l,ug x)→
   (∃l',CS.a code l (4*i:Nat)=some (l',0,true)∧CO.a code l (i:Int)=some (l',-1)∧4*l'.length=code.size∧∀x∈l',ug x)∨
   (∃b:Int,CS.a code l (4*i:Nat)=some ([],b,false)∧CO.a code l (i:Int)=some ([],b)∧0≤b):=by
  intro k
  induction k with
  |zero=>
   intro i l hk hl hr
   rw[CS.a_eq,CO.a_eq,aH (n:=4*(i:Int)) (by omega) (by omega),show decide (((4*i:Nat):Int)< (code.size:Int))=false by simp;omega,show decide (4*(i:Int)< (code.size:Int))=false by simp;omega]
   exact Or.inl ⟨l,rfl,rfl,by omega,hr⟩
  |succ k ih=>
   intro i l hk hl hr
   have hw:=R1 code (4*i)
   obtain⟨v,e1,e2,e3⟩:=nE _ hw.1 hw.2
   have t1:Ak (code.extract (4*i) (4*i+4))=some ((ks code (4*i) 4:Nat):Int):=by
    have hsz:(code.extract (4*i) (4*i+4)).size=4:=by rw[ByteArray.size_extract];omega
    rw[gJ _ (by omega),hsz,nF code (4*i) (4*i+4) (by omega) 4 0 (by omega),Nat.add_zero,aH (by omega) (by omega)]
   have t2:wY code ((4*i:Nat):Int) 4=some ((ks code (4*i) 4:Nat):Int):=by
    rw[show(4:Int)=((4:Nat):Int) by rfl,gK _ _ _ (by omega) (by omega),aH (by omega) (by omega)]
   rw[CS.a_eq,CO.a_eq,aH (n:=4*(i:Int)) (by omega) (by omega),aH (n:=(i:Int)+1) (by omega) (by omega),aH (n:=((4*i:Nat):Int)+4) (by omega) (by omega),show 4*(i:Int)=((4*i:Nat):Int) by omega,Int.toNat_natCast,show(((4*i:Nat):Int)+4).toNat=4*i+4 by omega,t1,t2]
   rw[show decide (((4*i:Nat):Int)< (code.size:Int))=true by simp;omega,show decide ((0:Int)≤((4*i:Nat):Int))=true by simp;omega,show decide (((4*i:Nat):Int)≤((4*i:Nat):Int)+4)=true by simp;omega,show decide (((4*i:Nat):Int)+4≤(code.size:Int))=true by simp;omega]
   simp only[cond_true,Bool.and_self,Option.bind_some,e1,e2]
   cases hb:v.2 with
   |false=>
    refine Or.inr ⟨(i:Int), ?_,rfl,by omega⟩
    rw[show(((4*i:Nat):Int)).tdiv 4=(i:Int) by rw[Int.tdiv_eq_ediv_of_nonneg (by omega)];omega,aH (by omega) (by omega)];rfl
   |true=>
    have hx:=F2.ins hw.1 hw.2 e3 hb
    rw[oz (by simp;omega) (by simp;omega)]
    simp only[Bool.not_true,cond_false,cond_true]
    have ih:=ih (i+1) (l++[v.1]) (by omega) (by simp;omega) (by
     intro x hx'
     rcases List.mem_append.mp hx' with h|h
     ·exact hr x h
     ·rw[List.mem_singleton.mp h];exact hx)
    rw[show((4*(i+1):Nat):Int)=((4*i:Nat):Int)+4 by omega,show((i+1:Nat):Int)=(i:Int)+1 by omega]at ih
    exact ih
 rcases key (code.size/4) 0 [] (by omega) rfl (by simp)with⟨l,a1,a2,a3,a4⟩|⟨b,a1,a2,a3⟩
 ·exact .ok l ((GO code).trans a1) ((GB code).trans a2) a3 a4
 ·exact .bad b ((GO code).trans a1) ((GB code).trans a2) a3
theorem dH {α:Type} {c d:Prop} [Decidable c] [Decidable d] {a b b':α} (h:c↔d) (hb:b=b'):(if c then a else b)=(if d then a else b'):=by
 subst hb
 by_cases hc:c
 ·rw[if_pos hc,if_pos (h.mp hc)]
 ·rw[if_neg hc,if_neg (fun hd=>hc (h.mpr hd))]
theorem F3 (f:Int) (h:16≤f∧f≤128):RA f=some [(14,1,2,0,f-8),(22,2,2,0,f),(4,0,1,0,0)]∧Rc f=some [(14,1,2,0,f-8),(22,2,2,0,f),(4,0,1,0,0)]:=by
 rw[LT,JT,aH (n:=f-8) (by omega) (by omega)];exact⟨rfl,rfl⟩
def bz (l:List iU) (f k:Int):Bool:=
 decide (2≤k)&&decide (k+2< (l.length:Int))&&decide (rd (τ:=dC) l k=((14,1,2,0,f-8):iU))&&decide (rd (τ:=dC) l (k+1)=((22,2,2,0,f):iU))&&decide (rd (τ:=dC) l (k+2)=((4,0,1,0,0):iU))
theorem Ij (i:Int) (n:Nat):(ao i n=true)=(0≤i∧i< (n:Int)):=by simp[ao]
theorem inL_true {i:Int} {n:Nat} (h:0≤i) (h':i< (n:Int)):ao i n=true:=by rw[Ij];exact⟨h,h'⟩
theorem dD (l:List iU) (f k:Int) (hf:16≤f∧f≤128) (hl:l.length≤1048576) (hk: -4611686018427387904≤k) (hk':k≤4611686018427387904):Iv l k f=some (bz l f k):=by
 rw[JU,(F3 f hf).2,aH (n:=k+1) (by omega) (by omega),aH (n:=k+2) (by omega) (by omega)]
 simp only[Option.bind_some]
 unfold bz
 by_cases h1:2≤k
 ·by_cases h2:k+2< (l.length:Int)
  ·rw[inL_true (i:=k) (by omega) (by omega),inL_true (i:=k+1) (by omega) (by omega),inL_true (i:=k+2) (by omega) (by omega),oy,oy,oy]
   simp only[h1,h2,decide_true,cond_true,Bool.true_and]
   have e0:∀a b c:iU,rd (τ:=dC) [a,b,c] 0=a:=fun _ _ _=>rfl
   have e1:∀a b c:iU,rd (τ:=dC) [a,b,c] 1=b:=fun _ _ _=>rfl
   have e2:∀a b c:iU,rd (τ:=dC) [a,b,c] 2=c:=fun _ _ _=>rfl
   rw[e0,e1,e2]
   show(bif true then bif decide _ then(bif true then bif decide _ then(bif true then some (decide _)else none)else some false else none)else some false else none)=_
   cases decide (rd (τ:=dC) l k=((14,1,2,0,f-8):iU))<;>cases decide (rd (τ:=dC) l (k+1)=((22,2,2,0,f):iU))<;>rfl
  ·simp[h1,h2]
 ·simp[h1]
theorem Ik (l:List iU) (f k:Int):(bz l f k=true→bz l f (k-1)=false)∧(bz l f k=true→bz l f (k-2)=false)∧(bz l f (k-1)=true→bz l f (k-2)=false):=by
 have e1:k-1+1=k:=by omega
 have e2:k-2+2=k:=by omega
 have e3:k-2+1=k-1:=by omega
 have e4:k-1+2=k+1:=by omega
 unfold bz
 rw[e1,e2,e3,e4]
 simp only[Bool.and_eq_true,decide_eq_true_eq]
 refine⟨?_, ?_, ?_⟩
 ·rintro⟨⟨⟨_,h⟩,_⟩,_⟩
  rw[h];simp
 ·rintro⟨⟨⟨_,h⟩,_⟩,_⟩
  rw[h];simp
 ·rintro⟨⟨⟨_,h⟩,h2⟩,_⟩
  rw[h2];simp
def rC (l:List iU) (f:Int) (n j:Int):Int:=
 if j<n∧bz l f j=true then 1 else if j-1<n∧bz l f (j-1)=true then 2 else if j-2<n∧bz l f (j-2)=true then 3 else 0
def gy (l:List iU) (f:Int) (n:Int) (E:List Int):Prop:=E.length=l.length∧∀j:Nat,j<l.length→E[j]? =some (rC l f n (j:Int))
theorem yP (a b:List iU) (hl:a.length=b.length) (hz:a.length≤1048576):∀(k j:Nat),j+k=a.length→GP.a a b (a.length:Int) (j:Int)=some (decide (a.drop j=b.drop j)):=by
 intro k
 induction k with
 |zero=>
  intro j hj
  rw[GP.a_eq,ab,show decide (j<a.length)=false by simp;omega,List.drop_eq_nil_of_le (by omega),List.drop_eq_nil_of_le (by omega)];rfl
 |succ k ih=>
  intro j hj
  have h1:j<a.length:=by omega
  have h2:j<b.length:=by omega
  rw[GP.a_eq,ab,ae,ae,decide_eq_true h1,decide_eq_true h2,ah j a.length h1 (by omega),ih (j+1) (by omega)]
  simp only[cond_true]
  rw[aM (τ:=dC) a j h1,aM (τ:=dC) b j h2,oy,List.drop_eq_getElem_cons h1,List.drop_eq_getElem_cons h2]
  simp only[List.cons.injEq]
  by_cases h:a[j]=b[j]<;>simp[h]
theorem Cn (a b:List iU) (hz:a.length≤1048576):GP a b=some (decide (a=b)):=by
 rw[LS]
 by_cases h:a.length=b.length
 ·rw[show decide ((a.length:Int)=(b.length:Int))=true by simp[h]]
  have:=yP a b h hz a.length 0 (by omega)
  rw[show((0:Nat):Int)=0 by rfl]at this
  simp only[Bool.not_true,cond_false,this,List.drop_zero]
 ·rw[show decide ((a.length:Int)=(b.length:Int))=false by simp;omega]
  simp only[Bool.not_false,cond_true]
  rw[decide_eq_false];rintro rfl;exact h rfl
theorem F4 (l:List iU) (k:Nat) (hk:k+3≤l.length) (a b c:iU):decide ((l.take (k+3)).drop k=[a,b,c])=(decide (rd (τ:=dC) l k=a)&&decide (rd (τ:=dC) l ((k:Int)+1)=b)&&decide (rd (τ:=dC) l ((k:Int)+2)=c)):=by
 rw[show(k:Int)+1=((k+1:Nat):Int) by omega,show(k:Int)+2=((k+2:Nat):Int) by omega,aM (τ:=dC) l k (by omega),aM (τ:=dC) l (k+1) (by omega),aM (τ:=dC) l (k+2) (by omega)]
 rw[List.drop_take,show k+3-k=3 by omega,List.drop_eq_getElem_cons (show k<l.length by omega),List.drop_eq_getElem_cons (show k+1<l.length by omega),List.drop_eq_getElem_cons (show k+1+1<l.length by omega)]
 simp[List.take]
 rw[Bool.and_assoc]
theorem Co (at_:Int) (calls:List Int) (l:List iU) (f:Int) (hf:16≤f∧f≤128) (hl:l.length≤1048576) (h2:2≤l.length):
  ∀(k i:Nat) (E:List Int),2≤i→i+k+2=l.length→gy l f i E→∃E',gy l f l.length E'∧jT.b f l (l,f,at_,calls,E) i=jT.c l (l,f,at_,calls,E') 2:=by
 intro k
 induction k with
 |zero=>
  intro i E h2i hk hE
  refine⟨E,⟨hE.1,fun j hj=> ?_⟩, ?_⟩
  ·rw[hE.2 j hj]
   congr 1
   have out:∀m:Int,(i:Int)≤m→bz l f m=false:=by
    intro m hm
    unfold bz
    rw[show decide (m+2< (l.length:Int))=false by simp;omega];simp
   have r:∀m:Int,m< (l.length:Int)→((m< (i:Int)∧bz l f m=true)↔(m< (l.length:Int)∧bz l f m=true)):=by
    intro m hm
    constructor
    ·rintro⟨_,h⟩;exact⟨hm,h⟩
    ·rintro⟨_,h⟩
     refine⟨?_,h⟩
     by_cases hmi:m< (i:Int)
     ·exact hmi
     ·rw[out m (by omega)]at h;cases h
   unfold rC
   exact dH (r j (by omega)) (dH (r (j-1) (by omega)) (dH (r (j-2) (by omega)) rfl))
  ·rw[jT.b_eq,aH (n:=(i:Int)+3) (by omega) (by omega),show decide ((i:Int)+3≤(l.length:Int))=false by simp;omega]
   rfl
 |succ k ih=>
  intro i E h2i hk hE
  have hstep:∀E':List Int,E'.length=l.length→(∀j:Nat,j<l.length→E'[j]? =some (rC l f ((i:Int)+1) j))→∃E'',gy l f l.length E''∧jT.b f l (l,f,at_,calls,E') (((i+1:Nat)):Int)=jT.c l (l,f,at_,calls,E'') 2:=by
   intro E' h1 h2'
   exact ih (i+1) E' (by omega) (by omega) ⟨h1,fun j hj=>by rw[h2' j hj];rfl⟩
  have hEl:=hE.1
  rw[jT.b_eq,aH (n:=(i:Int)+3) (by omega) (by omega),aH (n:=(i:Int)+1) (by omega) (by omega),aH (n:=(i:Int)+2) (by omega) (by omega),(F3 f hf).1,show decide ((i:Int)+3≤(l.length:Int))=true by simp;omega,show decide ((0:Int)≤(i:Int))=true by simp,show decide ((i:Int)≤(i:Int)+3)=true by simp;omega,show((i:Int)+3).toNat=i+3 by omega,Int.toNat_natCast,show((i:Int)+1).toNat=i+1 by omega,show((i:Int)+2).toNat=i+2 by omega]
  simp only[cond_true,Bool.and_self,Option.bind_some]
  rw[Cn _ _ (by simp;omega),F4 l i (by omega)]
  have hB:bz l f i=(decide (rd (τ:=dC) l i=((14,1,2,0,f-8):iU))&&decide (rd (τ:=dC) l ((i:Int)+1)=((22,2,2,0,f):iU))&&decide (rd (τ:=dC) l ((i:Int)+2)=((4,0,1,0,0):iU))):=by
   unfold bz
   rw[show decide (2≤(i:Int))=true by simp;omega,show decide ((i:Int)+2< (l.length:Int))=true by simp;omega];simp
  rw[←hB]
  simp only[Option.bind_some]
  cases hb:bz l f i with
  |true=>
   simp only[cond_true,letB]
   rw[inL_true (by omega) (by rw[hEl];omega),inL_true (by omega) (by rw[List.length_set,hEl];omega),inL_true (by omega) (by rw[List.length_set,List.length_set,hEl];omega)]
   simp only[cond_true]
   rw[show(i:Int)+1=((i+1:Nat):Int) by omega]
   refine hstep _ (by simp[hEl]) (fun j hj=> ?_)
   have hj':=hE.2 j hj
   rw[List.getElem?_set,List.getElem?_set,List.getElem?_set]
   simp only[List.length_set,hEl]
   unfold rC
   by_cases c2:i+2=j
   ·rw[if_pos c2,if_pos (by omega),if_neg (by omega),if_neg (by omega),if_pos ⟨by omega,by rw[show(j:Int)-2=(i:Int) by omega];exact hb⟩]
   ·rw[if_neg c2]
    by_cases c1:i+1=j
    ·rw[if_pos c1,if_pos (by omega),if_neg (by omega),if_pos ⟨by omega,by rw[show(j:Int)-1=(i:Int) by omega];exact hb⟩]
    ·rw[if_neg c1]
     by_cases c0:i=j
     ·rw[if_pos c0,if_pos (by omega),if_pos ⟨by omega,by rw[show(j:Int)=(i:Int) by omega];exact hb⟩]
     ·rw[if_neg c0,hj']
      unfold rC
      congr 1
      have r:∀m:Int,m≠(i:Int)→((m< (i:Int)∧bz l f m=true)↔(m< (i:Int)+1∧bz l f m=true)):=by
       intro m hm
       constructor
       ·rintro⟨_,h⟩;exact⟨by omega,h⟩
       ·rintro⟨_,h⟩;exact⟨by omega,h⟩
      exact dH (r j (by omega)) (dH (r (j-1) (by omega)) (dH (r (j-2) (by omega)) rfl))
  |false=>
   simp only[cond_false]
   rw[show(i:Int)+1=((i+1:Nat):Int) by omega]
   refine hstep _ hEl (fun j hj=> ?_)
   rw[hE.2 j hj]
   unfold rC
   congr 1
   have r:∀m:Int,((m< (i:Int)∧bz l f m=true)↔(m< (i:Int)+1∧bz l f m=true)):=by
    intro m
    constructor
    ·rintro⟨_,h⟩;exact⟨by omega,h⟩
    ·rintro⟨_,h⟩
     refine⟨?_,h⟩
     by_cases hmi:m=(i:Int)
     ·rw[hmi,hb]at h;cases h
     ·omega
   exact dH (r j) (dH (r (j-1)) (dH (r (j-2)) rfl))
theorem yQ (l:List Int) (n:Int) (hz:l.length≤1048576):∀(k j:Nat),j+k=l.length→∃r:Int,G7.a l n (l.length:Int) (j:Int)=some r∧decide (r≥0)=decide (n∈l.drop j)∧GC.a l n (j:Int)=some (decide (n∈l.drop j)):=by
 intro k
 induction k with
 |zero=>
  intro j hj
  rw[G7.a_eq,GC.a_eq,ab,show decide (j<l.length)=false by simp;omega,List.drop_eq_nil_of_le (by omega)]
  exact⟨-1,rfl,by simp,by simp⟩
 |succ k ih=>
  intro j hj
  have h1:j<l.length:=by omega
  obtain⟨r,i1,i2,i3⟩:=ih (j+1) (by omega)
  rw[G7.a_eq,GC.a_eq,ab,ae,decide_eq_true h1,ah j l.length h1 (by omega),aM (τ:= .int .i64) l j h1,List.drop_eq_getElem_cons h1]
  simp only[cond_true]
  by_cases h:n=l[j]
  ·rw[decide_eq_true h,decide_eq_true h.symm,decide_eq_true (show n∈l[j]::l.drop (j+1) by rw[h];exact List.mem_cons_self)]
   exact⟨(j:Int),rfl,by simp,rfl⟩
  ·have e:decide (n∈l[j]::l.drop (j+1))=decide (n∈l.drop (j+1)):=by simp only[List.mem_cons,h,false_or]
   rw[e,decide_eq_false h,decide_eq_false (fun q:l[j]=n=>h q.symm)]
   exact⟨r,i1,i2,i3⟩
theorem zZ (l:List Int) (n:Int) (hz:l.length≤1048576):RB l n=some (decide (n∈l))∧GC l n=some (decide (n∈l)):=by
 obtain⟨r,i1,i2,i3⟩:=yQ l n hz l.length 0 (by omega)
 rw[show((0:Nat):Int)=0 by rfl]at i1 i3
 rw[LV,LU,i1,JV,i3]
 rw[Option.bind_some,i2,List.drop_zero]
 exact⟨rfl,rfl⟩
theorem qp (n:Int):Qt n=some (decide (5≤n)&&decide (n≤10)):=by rw[LX,cb];rfl
theorem F5 (n:Int):RC n=some (decide (11≤n)&&decide (n≤17)):=by rw[LY,cb];rfl
theorem m4 (n:Int):OE n=some (decide (18≤n)&&decide (n≤21)):=by rw[LZ,cb];rfl
def jK (n:Int):Int×Bool:=
 if n=11 then(1,true)else if n=12 then(2,true)else if n=13 then(4,true)else if n=14 then(8,true)else if n=15 then(1,false)else if n=16 then(2,false)else if n=17 then(4,false)
 else if n=18 then(1,false)else if n=19 then(2,false)else if n=20 then(4,false)else if n=21 then(8,false)else(0,false)
theorem F6 (n:Int) (h:1≤n) (h':n≤64):Rb n=some (jK n):=by
 rw[JS]
 obtain⟨k,rfl⟩:=qg (show 0≤n by omega) h'
 clear h h';revert k
 decide+kernel
theorem F7 (n:Int) (h:11≤n) (h':n≤21):RD n=some (jK n):=by
 rw[L8,m4]
 have:n=11∨n=12∨n=13∨n=14∨n=15∨n=16∨n=17∨n=18∨n=19∨n=20∨n=21:=by omega
 rcases this with rfl|rfl|rfl|rfl|rfl|rfl|rfl|rfl|rfl|rfl|rfl<;>decide+kernel
theorem Il (n:Int) (h:11≤n) (h':n≤21):1≤(jK n).1∧(jK n).1≤8:=by
 have:n=11∨n=12∨n=13∨n=14∨n=15∨n=16∨n=17∨n=18∨n=19∨n=20∨n=21:=by omega
 rcases this with rfl|rfl|rfl|rfl|rfl|rfl|rfl|rfl|rfl|rfl|rfl<;>decide
theorem F8 (n:Int) (h:¬(11≤n∧n≤21)):(jK n).1=0:=by
 unfold jK
 repeat rw[if_neg (by omega)]
theorem nG (n:Int) (h:1≤n) (h':n≤64):decide ((cW n).1=4)=(decide (5≤n)&&decide (n≤10)):=by
 obtain⟨k,rfl⟩:=qg (show 0≤n by omega) h'
 clear h';revert k
 decide+kernel
theorem Im {l:List iU} {f:Int} {E:List Int} (hE:gy l f l.length E) (i:Int) (h:0≤i) (h':i< (l.length:Int)):rd (τ:= .int .i64) E i=rC l f l.length i:=by
 obtain⟨j,rfl⟩:=Int.eq_ofNat_of_zero_le h
 have:=hE.2 j (by omega)
 unfold rd
 rw[Int.toNat_natCast,List.getD_eq_getElem?_getD,this];rfl
theorem Cp (l:List iU) (f i:Int) (h:i< (l.length:Int)):rC l f l.length i=if bz l f i=true then 1 else if bz l f (i-1)=true then 2 else if bz l f (i-2)=true then 3 else 0:=by
 unfold rC
 exact dH ⟨fun h=>h.2,fun hh=>⟨h,hh⟩⟩ (dH ⟨fun h=>h.2,fun hh=>⟨by omega,hh⟩⟩ (dH ⟨fun h=>h.2,fun hh=>⟨by omega,hh⟩⟩ rfl))
theorem sQ {l:List iU} {f:Int} {E:List Int} (hE:gy l f l.length E) (i:Int) (h:0≤i) (h':i< (l.length:Int)):
  decide (rd (τ:= .int .i64) E i=1)=bz l f i∧decide (rd (τ:= .int .i64) E i=2)=bz l f (i-1)∧decide (rd (τ:= .int .i64) E i=3)=bz l f (i-2)∧decide (rd (τ:= .int .i64) E i<2)=(!bz l f (i-1)&& !bz l f (i-2)):=by
 have hx:=Ik l f i
 rw[Im hE i h h',Cp l f i h']
 cases h0:bz l f i<;>cases h1:bz l f (i-1)<;>cases h2:bz l f (i-2)<;>simp_all
theorem Cq (n:Int) (h: -9223372036854775808≤n) (h':n≤9223372036854775807):IntKind.wrap .i64 (n.tdiv 4)=n.tdiv 4:=by
 have: -9223372036854775808≤n.tdiv 4∧n.tdiv 4≤9223372036854775807:=by
  rcases Int.le_total 0 n with h0|h0
  ·rw[Int.tdiv_eq_ediv_of_nonneg h0];omega
  ·have:n.tdiv 4= -((-n).tdiv 4):=by rw[Int.neg_tdiv,Int.neg_neg]
   rw[this,Int.tdiv_eq_ediv_of_nonneg (by omega)];omega
 exact aH this.1 this.2
theorem O3 (n:Int) (h:n.tmod 4=0):n.tdiv 4=n/4:=by
 rw[Int.tdiv_eq_ediv_of_dvd];exact Int.dvd_iff_tmod_eq_zero.mpr h
theorem ug.imm {x:iU} (h:ug x): -2147483648≤x.2.2.2.2∧x.2.2.2.2≤2147483647:=by
 have hrv:=h.2.2.2
 have hsf:=iq h.1 h.2.1
 unfold eH at hrv
 simp only[Bool.and_eq_true]at hrv
 have hrv:=hrv.2
 generalize (cW x.1).1=ff at*
 unfold l9 at hrv
 rcases gw hsf with rfl|rfl|rfl|rfl|rfl|rfl|rfl|rfl|rfl<;>simp at hrv<;>omega
theorem Cr (l:List iU) (f at_:Int) (calls E:List Int) (hE:gy l f l.length E) (hf:16≤f∧f≤128) (hl:l.length≤1048576) (i:Int) (h:0≤i) (h':i< (l.length:Int)) (hr:ug (rd (τ:=dC) l i)):
  ∃b,Qs (l,f,at_,calls,E) i=some b∧P0 l i (rd (τ:=dC) l i).2.2.2.2 f=some b:=by
 have hi:=hr.imm
 rw[LW,JW]
 dsimp only
 rw[inL_true h h']
 generalize (rd (τ:=dC) l i).2.2.2.2=m at*
 rw[Cq m (by omega) (by omega)]
 by_cases h4:m.tmod 4=0
 ·rw[O3 m h4,aH (n:=i+m/4) (by omega) (by omega),aH (n:=(l.length:Int)-1) (by omega) (by omega),aH (n:=i+m/4-1) (by omega) (by omega),aH (n:=i+m/4-2) (by omega) (by omega),cb,dD l f _ hf hl (by omega) (by omega),dD l f _ hf hl (by omega) (by omega)]
  simp only[h4,decide_true,cond_true,Option.bind_some]
  by_cases ha:2≤i+m/4
  ·by_cases hb:i+m/4< (l.length:Int)
   ·have he:=sQ hE (i+m/4) (by omega) hb
    rw[inL_true (by omega) (by rw[hE.1];exact hb),he.2.2.2,decide_eq_true ha,show decide (i+m/4≤(l.length:Int)-1)=true by simp;omega,decide_eq_true hb]
    simp only[Bool.and_self,cond_true]
    cases bz l f (i+m/4-1)<;>exact⟨_,rfl,rfl⟩
   ·rw[show decide (i+m/4≤(l.length:Int)-1)=false by simp;omega,decide_eq_false hb]
    rw[decide_eq_true ha]
    exact⟨_,rfl,rfl⟩
  ·rw[decide_eq_false ha]
   exact⟨_,rfl,rfl⟩
 ·rw[decide_eq_false h4]
  exact⟨_,rfl,rfl⟩
theorem yR (l:List iU) (f at_:Int) (calls E:List Int) (hE:gy l f l.length E) (hf:16≤f∧f≤128) (ha:0≤at_∧at_≤1048575) (hl:l.length≤1048576) (hc:calls.length≤1048576) (i:Int) (h:2≤i) (h':i< (l.length:Int)) (hr:ug (rd (τ:=dC) l i)):
  ∃b,RE (l,f,at_,calls,E) i=some b∧Rd l i at_ f calls=some b:=by
 obtain⟨g,g1,g2⟩:=Cr l f at_ calls E hE hf hl i (by omega) h' hr
 have he:=sQ hE i (by omega) h'
 rw[L9,JX]
 dsimp only
 rw[inL_true (by omega) h',inL_true (by omega) (by rw[hE.1];exact h'),g1,g2,he.1,he.2.1,he.2.2.1,aH (n:=i-2) (by omega) (by omega),aH (n:=i-1) (by omega) (by omega),dD l f i hf hl (by omega) (by omega),dD l f (i-1) hf hl (by omega) (by omega),dD l f (i-2) hf hl (by omega) (by omega),(zZ calls _ hc).1,(zZ calls _ hc).2,F6 _ hr.1 hr.2.1,eG _ (by have:=hr.1;omega) hr.2.1,qp,F5,m4]
 have hbf:=nG _ hr.1 hr.2.1
 simp only[Option.bind_some,cond_true,av,hbf,cb]
 clear g1 g2 he hr hE hbf
 generalize bz l f i=B0 at*
 generalize bz l f (i-1)=B1 at*
 generalize bz l f (i-2)=B2 at*
 obtain⟨x,hx⟩:∃x:iU,rd (τ:=dC) l i=x:=⟨_,rfl⟩
 rw[hx]at*
 clear hx
 obtain⟨n,d,a,b,m⟩:=x
 dsimp only at*
 have hw:=F7 n
 have hwp:=Il n
 have hwz:=F8 n
 by_cases h4:n=4
 ·subst h4
  simp only[decide_true,cond_true]
  cases B2<;>exact⟨_,rfl,rfl⟩
 ·rw[decide_eq_false h4]
  simp only[cond_false]
  by_cases h3:n=3
  ·subst h3
   simp only[decide_true,cond_true]
   by_cases hd:d=1
   ·rw[decide_eq_true hd]
    cases decide (IntKind.wrap .i64 (IntKind.wrap .i64 (at_+IntKind.wrap .i64 (4*i))+m)∈calls)<;>exact⟨_,rfl,rfl⟩
   ·rw[decide_eq_false hd]
    cases decide (d=0)<;>cases g<;>exact⟨_,rfl,rfl⟩
  ·rw[decide_eq_false h3]
   simp only[cond_false]
   cases hb:(decide (5≤n)&&decide (n≤10))with
   |true=>cases g<;>exact⟨_,rfl,rfl⟩
   |false=>
    simp only[cond_false]
    have hm:0≤(jK n).1∧(jK n).1≤8:=by
     by_cases q:11≤n∧n≤21
     ·have:=hwp q.1 q.2;omega
     ·rw[hwz q];decide
    rw[aH (n:=f-8) (by omega) (by omega),aH (n:=f-8-(jK n).1) (by omega) (by omega)]
    by_cases q:11≤n∧n≤21
    ·have hwn:=hwp q.1 q.2
     rw[hw q.1 q.2]
     simp only[Option.bind_some]
     rw[aH (n:=f-8-(jK n).1) (by omega) (by omega),show decide ((jK n).1>0)=true by simp;omega,show decide ((jK n).1=0)=false by simp;omega]
     have hls:(bif (decide (11≤n)&&decide (n≤17))then true else(decide (18≤n)&&decide (n≤21)))=true:=by
      by_cases q2:n≤17
      ·simp[q.1,q2]
      ·rw[decide_eq_false q2,show decide (18≤n)=true by simp;omega,decide_eq_true q.2];simp
     have hm2:(decide (0≤m)&&decide (m≤f-8-(jK n).1))=(!decide (m<0)&& !decide (m>f-8-(jK n).1)):=by
      by_cases z1:m<0<;>by_cases z2:m>f-8-(jK n).1<;>simp[z1,z2]<;>omega
     rw[hm2]
     clear hm hw hwp hwz hwn hm2 hb
     generalize (decide (11≤n)&&decide (n≤17))=L at*
     generalize (decide (18≤n)&&decide (n≤21))=S at*
     generalize decide (m<0)=z1
     generalize decide (m>f-8-(jK n).1)=z2
     generalize decide (m.tmod (jK n).1=0)=z3
     generalize decide (d=1)=z4
     generalize decide (d=2)=z5
     generalize decide (a=2)=z6
     cases L<;>cases S<;>first|(cases hls;done)|(cases z4<;>cases z5<;>cases B0<;>cases B1<;>first|exact⟨_,rfl,rfl⟩|(cases z6<;>first|exact⟨_,rfl,rfl⟩|(cases z1<;>cases z2<;>cases z3<;>exact⟨_,rfl,rfl⟩)))
    ·have hls1:(decide (11≤n)&&decide (n≤17))=false:=by
      by_cases q1:11≤n
      ·rw[show decide (n≤17)=false by simp;omega];simp
      ·simp[q1]
     have hls2:(decide (18≤n)&&decide (n≤21))=false:=by
      by_cases q1:18≤n
      ·rw[show decide (n≤21)=false by simp;omega];simp
      ·simp[q1]
     rw[hls1,hls2,hwz q]
     cases decide (d=1)<;>cases decide (d=2)<;>cases B0<;>cases B1<;>exact⟨_,rfl,rfl⟩
def dv (f:Int):Bool:=bif decide (16≤f)&&decide (f≤128)then decide (f.tmod 16=0)else false
theorem eI (f:Int):PM f=some (dv f)∧PH f=some (dv f):=by
 rw[LD,JD,cb,eU]
 simp only[Option.bind_some,dv]
 cases (decide (16≤f)&&decide (f≤128))<;>exact⟨rfl,rfl⟩
theorem uh {f:Int} (h:dv f=true):16≤f∧f≤128:=by
 unfold dv at h
 cases hb:(decide (16≤f)&&decide (f≤128))with
 |true=>simpa using hb
 |false=>rw[hb]at h;cases h
def bQ (a:Int):Bool:=bif decide (0≤a)&&decide (a≤1048575)then decide (a.tmod 4=0)else false
theorem lh (a:Int):Qn a=some (bQ a):=by
 rw[LG,cb]
 simp only[Option.bind_some,bQ]
 cases (decide (0≤a)&&decide (a≤1048575))<;>rfl
theorem kI {a:Int} (h:bQ a=true):0≤a∧a≤1048575:=by
 unfold bQ at h
 cases hb:(decide (0≤a)&&decide (a≤1048575))with
 |true=>simpa using hb
 |false=>rw[hb]at h;cases h
def ci (n:Nat):Bool:=bif decide ((n:Int).tmod 4=0)then decide ((n:Int)≤256)else false
theorem mb (t:ByteArray):Ry t=some (ci t.size)∧Q8 t=some (ci t.size):=by
 rw[LE,JE]
 unfold ci
 cases decide ((t.size:Int).tmod 4=0)<;>exact⟨rfl,rfl⟩
theorem fk {n:Nat} (h:ci n=true):n%4=0∧n≤256:=by
 unfold ci at h
 cases hb:decide ((n:Int).tmod 4=0)with
 |true=>
  rw[hb]at h
  simp only[cond_true,decide_eq_true_eq]at h hb
  rw[Int.tmod_eq_emod_of_nonneg (by omega)]at hb
  omega
 |false=>rw[hb]at h;cases h
def bg (n:Nat):Bool:=bif ci n then decide ((n:Int)≥20)else false
theorem iV (t:ByteArray):Qm t=some (bg t.size):=by
 rw[LF,(mb t).1]
 simp only[Option.bind_some,bg]
 cases ci t.size<;>rfl
theorem yS (l:List iU) (f at_:Int) (calls E:List Int) (hE:gy l f l.length E) (hf:16≤f∧f≤128) (ha:0≤at_∧at_≤1048575) (hl:l.length≤1048576) (hc:calls.length≤1048576) (hr:∀x∈l,ug x):
  ∀(k i:Nat),2≤i→i+k=l.length→∃v,jT.c l (l,f,at_,calls,E) i=some v∧qN.b at_ f calls l ((l.length:Int)-1) i=some v:=by
 intro k
 induction k with
 |zero=>
  intro i h2 hk
  rw[jT.c_eq,qN.b_eq,ab,show decide (i<l.length)=false by simp;omega,show decide ((i:Int)≤(l.length:Int)-1)=false by simp;omega]
  exact⟨_,rfl,rfl⟩
 |succ k ih=>
  intro i h2 hk
  obtain⟨v,v1,v2⟩:=ih (i+1) (by omega) (by omega)
  have hi:i<l.length:=by omega
  obtain⟨b,b1,b2⟩:=yR l f at_ calls E hE hf ha hl hc i (by omega) (by omega) (by rw[aM (τ:=dC) l i hi];exact hr _ (List.getElem_mem hi))
  rw[jT.c_eq,qN.b_eq,ab,decide_eq_true hi,show decide ((i:Int)≤(l.length:Int)-1)=true by simp;omega,b1,b2,ah i l.length hi (by omega),v1,v2]
  simp only[cond_true,Option.bind_some]
  cases decide (b=0)<;>exact⟨_,rfl,rfl⟩
theorem sR (code:ByteArray) (at_ f:Int) (calls:List Int) (hz:code.size≤1048576) (hc:calls.length≤1048576):∃v,jT code at_ f calls=some v∧qN code at_ f calls=some v:=by
 rw[GQ,JY,lh,eU,(eI f).1,(eI f).2,iV,(mb code).2]
 simp only[Option.bind_some,av]
 have ec:(bif !(decide (0≤at_)&&decide (at_≤1048575))then true else !decide (at_.tmod 4=0))= !bQ at_:=by
  unfold bQ;cases (decide (0≤at_)&&decide (at_≤1048575))<;>rfl
 cases hA:bQ at_ with
 |false=>
  unfold bQ at hA
  cases hq:(decide (0≤at_)&&decide (at_≤1048575))with
  |false=>exact⟨_,rfl,rfl⟩
  |true=>rw[hq]at hA;simp only[cond_true]at hA;rw[hA];exact⟨_,rfl,rfl⟩
 |true=>
  have ha:=kI hA
  have hq:(decide (0≤at_)&&decide (at_≤1048575))=true:=by simp[ha]
  have h4:decide (at_.tmod 4=0)=true:=by unfold bQ at hA;rw[hq]at hA;exact hA
  rw[hq,h4]
  simp only[Bool.not_true,cond_false]
  cases hF:dv f with
  |false=>exact⟨_,rfl,rfl⟩
  |true=>
   have hf:=uh hF
   simp only[Bool.not_true,cond_false]
   cases hS:ci code.size with
   |false=>unfold bg;rw[hS];exact⟨_,rfl,rfl⟩
   |true=>
    have hs:=fk hS
    unfold bg
    rw[hS]
    simp only[Bool.not_true,cond_false,cond_true]
    by_cases h20:(code.size:Int)≥20
    ·rw[decide_eq_true h20,show decide ((code.size:Int)<20)=false by simp;omega]
     simp only[Bool.not_true,cond_false]
     cases wD code hs.1 (by omega)with
     |bad k hi hsp h0=>
      rw[hi,hsp]
      simp only[Option.bind_some,Bool.not_false,cond_true]
      rw[decide_eq_true (show k≥0 from h0)]
      exact⟨_,rfl,rfl⟩
     |ok l hi hsp hll hr=>
      rw[hi,hsp,LR]
      simp only[Option.bind_some,Bool.not_true,cond_false]
      rw[show decide ((-1:Int)≥0)=false by rfl]
      simp only[cond_false]
      have hl5:5≤l.length:=by omega
      have hl64:l.length≤64:=by omega
      have last:∃v,jT.a at_ f calls l [(22,2,2,0,(IntKind.wrap .i64 (0-f))),(21,0,2,1,(IntKind.wrap .i64 (f-8)))] 2 2=some v∧qN.a at_ f calls l 2=some v:=by
       rw[jT.a_eq,qN.a_eq]
       rw[show decide ((2:Int)<2)=false by rfl]
       simp only[cond_false,av]
       rw[aH (n:=(l.length:Int)-1) (by omega) (by omega),inL_true (by omega) (by omega),oz (by rw[Int.toNat_natCast];omega) (by rw[Int.toNat_natCast];omega),show decide ((0:Int)≤(l.length:Int))=true by simp,Int.toNat_natCast]
       simp only[cond_true,Bool.and_self]
       obtain⟨E,hE,e⟩:=Co at_ calls l f hf (by omega) (by omega) (l.length-4) 2 (List.replicate l.length 0) (by omega) (by omega) ⟨by simp,fun j hj=>by
        rw[List.getElem?_replicate,if_pos hj]
        unfold rC
        have z:∀m:Int,m< ((2:Nat):Int)→bz l f m=false:=by
         intro m hm
         unfold bz
         rw[show decide (2≤m)=false by simp;omega];simp
        rw[if_neg (fun h=>by rw[z _ h.1]at h;cases h.2),if_neg (fun h=>by rw[z _ h.1]at h;cases h.2),if_neg (fun h=>by rw[z _ h.1]at h;cases h.2)]⟩
       rw[show((2:Nat):Int)=2 by rfl]at e
       rw[e]
       obtain⟨v,v1,v2⟩:=yS l f at_ calls E hE hf ha (by omega) (by omega) hr (l.length-2) 2 (by omega) (by omega)
       rw[show((2:Nat):Int)=2 by rfl]at v1 v2
       rw[v1,v2]
       cases decide ((rd (τ:=dC) l ((l.length:Int)-1)).1=4)<;>cases decide ((rd (τ:=dC) l ((l.length:Int)-1)).1=3)<;>cases decide ((rd (τ:=dC) l ((l.length:Int)-1)).2.1=0)<;>exact⟨_,rfl,rfl⟩
      have step:∀(j:Nat),j<2→(∃v,jT.a at_ f calls l [(22,2,2,0,(IntKind.wrap .i64 (0-f))),(21,0,2,1,(IntKind.wrap .i64 (f-8)))] 2 ((j+1:Nat):Int)=some v∧qN.a at_ f calls l ((j+1:Nat):Int)=some v)→
        ∃v,jT.a at_ f calls l [(22,2,2,0,(IntKind.wrap .i64 (0-f))),(21,0,2,1,(IntKind.wrap .i64 (f-8)))] 2 (j:Int)=some v∧qN.a at_ f calls l (j:Int)=some v:=by
       rintro j hj ⟨v,v1,v2⟩
       rw[jT.a_eq,qN.a_eq,show decide ((j:Int)<2)=true by simp;omega,inL_true (i:=(j:Int)) (by omega) (by simp;omega),inL_true (i:=(j:Int)) (by omega) (by omega),aH (n:=(j:Int)+1) (by omega) (by omega),show(j:Int)+1=((j+1:Nat):Int) by omega,v1,v2,JR]
       simp only[cond_true,Option.bind_some]
       rw[inL_true (i:=(j:Int)) (by omega) (by simp;omega)]
       simp only[cond_true]
       cases ka dC (rd (τ:=dC) l (j:Int)) (rd (τ:=dC) [(22,2,2,0,(IntKind.wrap .i64 (0-f))),(21,0,2,1,(IntKind.wrap .i64 (f-8)))] (j:Int))<;>exact⟨_,rfl,rfl⟩
      exact step 0 (by omega) (step 1 (by omega) last)
    ·rw[decide_eq_false h20,show decide ((code.size:Int)<20)=true by simp;omega]
     exact⟨_,rfl,rfl⟩
abbrev bO:Ty:= .pair .str (.pair (.int .i64) (.pair (.int .i64) (.pair (.int .i64) (.int .i64))))
abbrev nT:Type:=ByteArray×Int×Int×Int×Int
abbrev gL:Type:=ByteArray×ByteArray×List nT
noncomputable def bW (t:ByteArray):Bool:=(oD t).getD false
theorem Jr (t:ByteArray):oD t=some (bW t):=by
 obtain⟨v,h1⟩:=sJ t
 unfold bW
 rw[h1];rfl
theorem db (t:ByteArray):oD t=some (bW t)∧Zz t=some (bW t):=by
 obtain⟨v,h1,h2⟩:=Ca t
 unfold bW
 rw[h1,h2];exact⟨rfl,rfl⟩
def li (l:List nT) (name:ByteArray):Bool:=l.any fun y=>decide (y.1=name)
theorem wE {y:nT} {l:List nT} {n:ByteArray} (h:y.1=n):li (y::l) n=true:=by simp[li,h]
theorem wF {y:nT} {l:List nT} {n:ByteArray} (h:¬y.1=n):li (y::l) n=li l n:=by simp[li,h]
theorem F9 (e:Int×Int) (im:gL) (s:nT) (l:List nT) (hl:l.length≤16):∀(k j:Nat),j+k=l.length→Du.a e im s l (l.length:Int) (j:Int)=if li (l.drop j) s.1=true then some (24,e)else Du.a e im s l (l.length:Int) (l.length:Int):=by
 intro k
 induction k with
 |zero=>
   intro j h;have:j=l.length:=by omega
   subst this;simp[li]
 |succ k ih=>
  intro j h
  have hj:j<l.length:=by omega
  rw[Du.a_eq,ab,ae,decide_eq_true hj,ah j l.length hj (by omega),ih (j+1) (by omega),aM (τ:=bO) l j hj,aL,List.drop_eq_getElem_cons hj]
  by_cases hn:l[j].1=s.1
  ·rw[wE hn,decide_eq_true hn];rfl
  ·rw[wF hn,decide_eq_false hn];rfl
theorem Ga (im:gL) (c d:Int) (i:Nat) (s:nT) (hi:i≤im.2.2.length) (hl:im.2.2.length≤16):∀(k j:Nat),j+k=i→nX.b im c d (i:Int) s (j:Int)=if li ((im.2.2.take i).drop j) s.1=true then some ((i:Int),24)else nX.b im c d (i:Int) s (i:Int):=by
 intro k
 induction k with
 |zero=>
   intro j h;have:j=i:=by omega
   subst this;simp[li]
 |succ k ih=>
  intro j h
  have hj:j<i:=by omega
  rw[nX.b_eq,ab,ae,decide_eq_true hj,decide_eq_true (show j<im.2.2.length by omega),ah j i hj (by omega),ih (j+1) (by omega),aM (τ:=bO) im.2.2 j (by omega),aL,List.drop_eq_getElem_cons (show j< (im.2.2.take i).length by simp;omega)]
  have hg:(im.2.2.take i)[j]'(by simp;omega)=im.2.2[j]:=List.getElem_take
  rw[hg]
  by_cases hn:im.2.2[j].1=s.1
  ·rw[wE hn,decide_eq_true hn];rfl
  ·rw[wF hn,decide_eq_false hn];rfl
noncomputable def eV (im:gL) (i:Nat) (s:nT) (e:Int×Int):Int×Int×Int:=
 if bW s.1=false then(3,e)
 else if li (im.2.2.take i) s.1=true then(24,e)
 else if s.2.1=1 then
  if s.2.2.1=e.1∧1≤s.2.2.2.1∧s.2.2.2.1≤(im.1.size:Int)-e.1 then(0,s.2.2.1+s.2.2.2.1,e.2)else(4,e)
 else if s.2.1=2 then
  if e.2≤s.2.2.1∧s.2.2.1≤(im.2.1.size:Int)∧s.2.2.1%8=0∧s.2.2.2.1%8=0∧1≤s.2.2.2.1∧s.2.2.2.1≤(im.2.1.size:Int)-s.2.2.1 then
   if s.2.2.2.2=0 then(0,e.1,s.2.2.1+s.2.2.2.1)else(17,e.1,s.2.2.1+s.2.2.2.1)
  else(4,e)
 else(26,e)
structure sS (im:gL) (e:Int×Int):Prop where
 c:0≤e.1∧e.1≤(im.1.size:Int)
 d:0≤e.2∧e.2≤(im.2.1.size:Int)
structure kJ (im:gL):Prop where
 n:im.2.2.length≤16
 c:im.1.size≤1024
 d:im.2.1.size≤256
theorem Gb {n:Int}:decide (n.tmod 8=0)=decide (n%8=0):=by
 congr 1;exact propext ⟨fun h=>by rw[←Int.dvd_iff_tmod_eq_zero]at h;omega,fun h=>by rw[←Int.dvd_iff_tmod_eq_zero];omega⟩
theorem yT (im:gL) (hz:kJ im) (i:Nat) (hi:i<im.2.2.length) (e:Int×Int) (he:sS im e):Du im i e=some (eV im i im.2.2[i] e):=by
 obtain⟨hn,hc,hd⟩:=hz
 rw[Lz,ae,decide_eq_true hi,aM (τ:=bO) im.2.2 i hi,Jr _,Int.toNat_natCast,show(Int.toNat 0)=0 by rfl,List.drop_zero,show decide ((0:Int)≤(i:Int))=true by simp,show decide ((i:Int)≤(im.2.2.length:Int))=true by simp;omega]
 simp only[cond_true,Bool.and_self,Nat.le_refl,decide_true,Option.bind_some]
 have hlt:(im.2.2.take i).length=i:=by simp;omega
 have hd':=F9 e im im.2.2[i] (im.2.2.take i) (by omega) i 0 (by omega)
 rw[hlt,show((0:Nat):Int)=0 by rfl,List.drop_zero]at hd'
 rw[hlt,hd',Du.a_eq,show decide ((i:Int)< (i:Int))=false by simp]
 obtain⟨s,hs⟩:∃s:nT,im.2.2[i]=s:=⟨_,rfl⟩
 rw[hs]
 obtain⟨nm,kd,at_,sz,fr⟩:=s
 obtain⟨ec,ed⟩:=e
 obtain⟨⟨hc1,hc2⟩,⟨hd1,hd2⟩⟩:=he
 dsimp only at*
 unfold eV
 dsimp only
 simp only[cond_false,cb,Option.bind_some,av]
 cases bW nm with
 |false=>rfl
 |true=>
  simp only[Bool.not_true,cond_false,Bool.true_eq_false,↓reduceIte]
  by_cases hdup:li (im.2.2.take i) nm=true
  ·rw[if_pos hdup,if_pos hdup]
  ·rw[if_neg hdup,if_neg hdup]
   by_cases k1:kd=1
   ·rw[decide_eq_true k1,if_pos k1]
    simp only[cond_true]
    by_cases h1:at_=ec
    ·subst h1
     rw[aH (n:=(im.1.size:Int)-at_) (by omega) (by omega)]
     simp only[decide_true,Bool.not_true,cond_false]
     by_cases h2:1≤sz∧sz≤(im.1.size:Int)-at_
     ·rw[if_pos ⟨trivial,h2⟩,decide_eq_true h2.1,decide_eq_true h2.2,aH (n:=at_+sz) (by omega) (by omega)];rfl
     ·rw[if_neg (fun hh=>h2 hh.2),show(decide (1≤sz)&&decide (sz≤(im.1.size:Int)-at_))=false by simpa using h2];rfl
    ·rw[decide_eq_false h1,if_neg (fun hh=>h1 hh.1)];rfl
   ·rw[decide_eq_false k1,if_neg k1]
    simp only[cond_false]
    by_cases k2:kd=2
    ·rw[decide_eq_true k2,if_pos k2,Gb,Gb]
     simp only[cond_true]
     by_cases h1:ed≤at_∧at_≤(im.2.1.size:Int)
     ·rw[aH (n:=(im.2.1.size:Int)-at_) (by omega) (by omega),decide_eq_true h1.1,decide_eq_true h1.2]
      simp only[Bool.and_self,Bool.not_true,cond_false]
      by_cases h2:at_%8=0
      ·by_cases h3:sz%8=0
       ·by_cases h4:1≤sz∧sz≤(im.2.1.size:Int)-at_
        ·rw[if_pos ⟨h1.1,h1.2,h2,h3,h4⟩,decide_eq_true h2,decide_eq_true h3,decide_eq_true h4.1,decide_eq_true h4.2,aH (n:=at_+sz) (by omega) (by omega)]
         by_cases h5:fr=0
         ·rw[decide_eq_true h5,if_pos h5];rfl
         ·rw[decide_eq_false h5,if_neg h5];rfl
        ·rw[if_neg (fun hh=>h4 hh.2.2.2.2),decide_eq_true h2,decide_eq_true h3,show(decide (1≤sz)&&decide (sz≤(im.2.1.size:Int)-at_))=false by simpa using h4];rfl
       ·rw[if_neg (fun hh=>h3 hh.2.2.2.1),decide_eq_true h2,decide_eq_false h3];rfl
      ·rw[if_neg (fun hh=>h2 hh.2.2.1),decide_eq_false h2];rfl
     ·rw[if_neg (fun hh=>h1 ⟨hh.1,hh.2.1⟩),show(decide (ed≤at_)&&decide (at_≤(im.2.1.size:Int)))=false by simpa using h1];rfl
    ·rw[decide_eq_false k2,if_neg k2];rfl
theorem yU (im:gL) (hz:kJ im) (i:Nat) (hi:i<im.2.2.length) (e:Int×Int) (he:sS im e):nX.a im e.1 e.2 i=if(eV im i im.2.2[i] e).1=0 then nX.a im (eV im i im.2.2[i] e).2.1 (eV im i im.2.2[i] e).2.2 ((i+1:Nat):Int)else some ((i:Int),(eV im i im.2.2[i] e).1):=by
 obtain⟨hn,hc,hd⟩:=hz
 rw[nX.a_eq,ae,ab,decide_eq_true hi,aM (τ:=bO) im.2.2 i hi,(db _).2]
 simp only[cond_true,Option.bind_some]
 have hd':=Ga im e.1 e.2 i im.2.2[i] (by omega) hn i 0 (by omega)
 rw[show((0:Nat):Int)=0 by rfl,List.drop_zero]at hd'
 rw[hd',nX.b_eq,show decide ((i:Int)< (i:Int))=false by simp,ah i im.2.2.length hi (by omega)]
 obtain⟨s,hs⟩:∃s:nT,im.2.2[i]=s:=⟨_,rfl⟩
 rw[hs]
 obtain⟨nm,kd,at_,sz,fr⟩:=s
 obtain⟨ec,ed⟩:=e
 obtain⟨⟨hc1,hc2⟩,⟨hd1,hd2⟩⟩:=he
 dsimp only at*
 unfold eV
 dsimp only
 simp only[cond_false]
 cases bW nm with
 |false=>rfl
 |true=>
  simp only[Bool.not_true,cond_false]
  by_cases hdup:li (im.2.2.take i) nm=true
  ·simp[hdup]
  ·simp only[hdup,if_false,Bool.false_eq_true]
   by_cases k1:kd=1
   ·simp only[k1,decide_true,cond_true,if_true]
    by_cases h1:at_=ec
    ·rw[←h1,aH (n:=(im.1.size:Int)-at_) (by omega) (by omega)]
     by_cases h2:1≤sz
     ·by_cases h3:sz≤(im.1.size:Int)-at_
      ·rw[aH (n:=at_+sz) (by omega) (by omega)]
       simp[h2,h3,show¬sz<1 by omega,show¬(im.1.size:Int)-at_<sz by omega]
      ·simp[h3,show¬sz<1 by omega,show(im.1.size:Int)-at_<sz by omega]
     ·simp[h2,show sz<1 by omega]
    ·simp[h1]
   ·simp only[k1,decide_false,cond_false,if_false]
    by_cases k2:kd=2
    ·simp only[k2,decide_true,cond_true,if_true,Gb]
     by_cases h1:ed≤at_
     ·by_cases h1':at_≤(im.2.1.size:Int)
      ·rw[aH (n:=(im.2.1.size:Int)-at_) (by omega) (by omega),show decide (at_<ed)=false by simp;omega,show decide (at_>(im.2.1.size:Int))=false by simp;omega]
       simp only[cond_false]
       by_cases h4:1≤sz
       ·by_cases h5:sz≤(im.2.1.size:Int)-at_
        ·rw[show decide (sz<1)=false by simp;omega,show decide (sz>(im.2.1.size:Int)-at_)=false by simp;omega,aH (n:=at_+sz) (by omega) (by omega)]
         by_cases h2:at_%8=0
         ·by_cases h3:sz%8=0
          ·by_cases h6:fr=0<;>simp[h1,h1',h2,h3,h4,h5,h6]
          ·simp[h2,h3]
         ·simp[h2]
        ·simp[h5,show¬sz<1 by omega,show(im.2.1.size:Int)-at_<sz by omega]
       ·simp[h4,show sz<1 by omega]
      ·simp[h1',show¬at_<ed by omega,show(im.2.1.size:Int)<at_ by omega]
     ·simp[h1,show at_<ed by omega]
    ·simp[k2]
theorem yV {im:gL} {i:Nat} {s:nT} {e:Int×Int} (he:sS im e) (h:(eV im i s e).1=0):sS im (eV im i s e).2:=by
 obtain⟨nm,kd,at_,sz,fr⟩:=s
 obtain⟨ec,ed⟩:=e
 obtain⟨⟨c1,c2⟩,⟨d1,d2⟩⟩:=he
 dsimp only at*
 unfold eV at h⊢
 dsimp only at*
 split at h<;>(try (cases h;done))
 split at h<;>(try (cases h;done))
 rename_i n1 n2
 rw[if_neg n1,if_neg n2]
 split at h
 ·rename_i k1
  rw[if_pos k1]
  split at h<;>(try (cases h;done))
  rename_i hh
  rw[if_pos hh]
  exact⟨⟨by dsimp only;omega,by dsimp only;omega⟩,⟨d1,d2⟩⟩
 ·rename_i k1
  rw[if_neg k1]
  split at h
  ·rename_i k2
   rw[if_pos k2]
   split at h<;>(try (cases h;done))
   rename_i hh
   rw[if_pos hh]
   split at h<;>(try (cases h;done))
   rename_i h3
   rw[if_pos h3]
   exact⟨⟨c1,c2⟩,⟨by dsimp only;omega,by dsimp only;omega⟩⟩
  ·cases h
def kk (im:gL) (n:Nat) (E:Nat→Int×Int):Prop:=E 0=(0,0)∧(∀i,i≤n→sS im (E i))∧∀(i:Nat) (h:i<im.2.2.length),i<n→eV im i im.2.2[i] (E i)=(0,E (i+1))
def Js (im:gL) (e:Int×Int):Int:=if im.2.2.length=0 then 23 else if(rd (τ:=bO) im.2.2 0).2.1≠1 then 23 else if e.1≠(im.1.size:Int)then 22 else 0
theorem Cs (im:gL) (hz:kJ im):∀(k i:Nat) (E:Nat→Int×Int),i+k=im.2.2.length→kk im i E→
  (∃n c:Int,c≠0∧oE.a im (E i) (im.2.2.length:Int) i=some (n,0,c)∧nX.a im (E i).1 (E i).2 i=some (n,c))∨
  (∃E',kk im im.2.2.length E'∧oE.a im (E i) (im.2.2.length:Int) i=oE.a im (E' im.2.2.length) (im.2.2.length:Int) (im.2.2.length:Int)∧nX.a im (E i).1 (E i).2 i=some (0,Js im (E' im.2.2.length))):=by
 intro k
 induction k with
 |zero=>
  intro i E hk hE
  have:i=im.2.2.length:=by omega
  subst this
  refine Or.inr ⟨E,hE,rfl, ?_⟩
  rw[nX.a_eq,ab]
  simp only[Nat.lt_irrefl,decide_false,cond_false,Js]
  by_cases h0:im.2.2.length=0
  ·simp[h0]
  ·rw[inL_true (i:=0) (by omega) (by omega),show decide ((im.2.2.length:Int)=0)=false from decide_eq_false (by omega),if_neg h0]
   simp only[cond_false,cond_true]
   by_cases h1:(rd (τ:=bO) im.2.2 0).2.1=1
   ·simp only[h1,decide_true,Bool.not_true,cond_false,ne_eq,not_true_eq_false,↓reduceIte]
    by_cases h2:(E im.2.2.length).1=(im.1.size:Int)
    ·simp[h2]
    ·simp[h2]
   ·simp[h1]
 |succ k ih=>
  intro i E hk hE
  have hi:i<im.2.2.length:=by omega
  have he:=hE.2.1 i (Nat.le_refl _)
  rw[oE.a_eq,ab,decide_eq_true hi,yT im hz i hi (E i) he,yU im hz i hi (E i) he,ah i im.2.2.length hi (by have:=hz.n;omega)]
  simp only[cond_true,Option.bind_some]
  by_cases h0:(eV im i im.2.2[i] (E i)).1=0
  ·rw[decide_eq_true h0,if_pos h0]
   simp only[Bool.not_true,cond_false]
   have hends:=yV he h0
   have hch:kk im (i+1) (fun j=>if j=i+1 then(eV im i im.2.2[i] (E i)).2 else E j):=by
    have ev:∀(j:Nat),(fun j=>if j=i+1 then(eV im i im.2.2[i] (E i)).2 else E j) j=if j=i+1 then(eV im i im.2.2[i] (E i)).2 else E j:=fun _=>rfl
    refine⟨by rw[ev,if_neg (by omega)];exact hE.1,fun j hj=> ?_,fun j hj hj'=> ?_⟩<;>simp only
    ·by_cases hji:j=i+1
     ·rw[if_pos hji];exact hends
     ·rw[if_neg hji];exact hE.2.1 j (by omega)
    ·rw[if_neg (by omega)]
     by_cases hji:j=i
     ·subst hji
      rw[if_pos rfl,←h0]
     ·rw[if_neg (by omega)];exact hE.2.2 j hj (by omega)
   have:=ih (i+1) _ (by omega) hch
   simp only[↓reduceIte]at this
   exact this
  ·rw[decide_eq_false h0,if_neg h0]
   exact Or.inl ⟨_,_,h0,rfl,rfl⟩
theorem qr (s:nT):∃v,LB s=some v∧JB s=some v:=by
 rw[zj,GA]
 cases decide (s.2.1=1)<;>exact⟨_,rfl,rfl⟩
theorem qt (im:gL) (hz:kJ im):∃l,Dv im=some l∧C5 im.2.2=some l∧l.length≤16:=by
 have key:∀(k i:Nat) (l:List Int),i+k=im.2.2.length→l.length≤i→∃l',Dv.a l im.2.2 (im.2.2.length:Int) i=some l'∧C5.a im.2.2 l i=some l'∧l'.length≤im.2.2.length:=by
  intro k
  induction k with
  |zero=>
   intro i l hk hl
   rw[Dv.a_eq,C5.a_eq,ab,decide_eq_false (show¬i<im.2.2.length by omega)]
   exact⟨l,rfl,rfl,by omega⟩
  |succ k ih=>
   intro i l hk hl
   have hi:i<im.2.2.length:=by omega
   have hn:=hz.n
   rw[Dv.a_eq,C5.a_eq,ab,ae,decide_eq_true hi,ah i _ hi (by omega)]
   simp only[cond_true]
   obtain⟨v,v1,v2⟩:=qr (rd (τ:=bO) im.2.2 i)
   obtain⟨l1,a1,a2,a3⟩:=ih (i+1) l (by omega) (by omega)
   obtain⟨l2,b1,b2,b3⟩:=ih (i+1) (l++[v]) (by omega) (by simp;omega)
   rw[v1,v2]
   simp only[Option.bind_some]
   rw[oz (by simp;omega) (by simp;omega),a1,a2,b1,b2]
   cases decide ((rd (τ:=bO) im.2.2 i).2.1=1)
   ·exact⟨l1,rfl,rfl,a3⟩
   ·exact⟨l2,rfl,rfl,b3⟩
 obtain⟨l,h1,h2,h3⟩:=key im.2.2.length 0 [] (by omega) (by simp)
 exact⟨l,(LC im).trans h1,(JC im.2.2).trans h2,by have:=hz.n;omega⟩
structure qu (im:gL) (s:nT):Prop where
 name:bW s.1=true
 kind:s.2.1=1∨s.2.1=2
 at0:0≤s.2.2.1
 size:1≤s.2.2.2.1
 func:s.2.1=1→s.2.2.1+s.2.2.2.1≤(im.1.size:Int)
 data:s.2.1=2→s.2.2.1+s.2.2.2.1≤(im.2.1.size:Int)∧s.2.2.1%8=0∧s.2.2.2.1%8=0∧s.2.2.2.2=0
theorem Gd {im:gL} {i:Nat} {s:nT} {e:Int×Int} (he:sS im e) (h:(eV im i s e).1=0):qu im s∧li (im.2.2.take i) s.1=false:=by
 obtain⟨nm,kd,at_,sz,fr⟩:=s
 obtain⟨ec,ed⟩:=e
 obtain⟨⟨c1,c2⟩,⟨d1,d2⟩⟩:=he
 dsimp only at*
 unfold eV at h
 dsimp only at*
 split at h<;>(try (cases h;done))
 split at h<;>(try (cases h;done))
 rename_i n1 n2
 refine⟨?_,by simpa using n2⟩
 have n1:bW nm=true:=by simpa using n1
 split at h
 ·rename_i k1
  split at h<;>(try (cases h;done))
  rename_i hh
  exact⟨n1,Or.inl k1,by dsimp only;omega,by dsimp only;omega,fun _=>by dsimp only;omega,fun h=>by dsimp only at h;omega⟩
 ·rename_i k1
  split at h
  ·rename_i k2
   split at h<;>(try (cases h;done))
   rename_i hh
   split at h<;>(try (cases h;done))
   rename_i h3
   exact⟨n1,Or.inr k2,by dsimp only;omega,by dsimp only;omega,fun h=>absurd h k1,fun _=>by dsimp only;omega⟩
  ·cases h
theorem m5 {im:gL} {E:Nat→Int×Int} (h:kk im im.2.2.length E) (i:Nat) (hi:i<im.2.2.length):qu im im.2.2[i]∧li (im.2.2.take i) im.2.2[i].1=false:=
 Gd (h.2.1 i (by omega)) (by rw[h.2.2 i hi hi])
def Ge (s:nT):Prop:=s.2.1=1→bQ (4096+s.2.2.1)=true∧dv s.2.2.2.2=true∧bg s.2.2.2.1.toNat=true
theorem In {code:ByteArray} {at_ f:Int} {calls:List Int} {v:Int×Int} (h:jT code at_ f calls=some v) (hv:v.2=0):bQ at_=true∧dv f=true∧bg code.size=true:=by
 rw[GQ,lh,(eI f).1,iV]at h
 simp only[Option.bind_some]at h
 cases h1:bQ at_ with
 |false=>
  rw[h1]at h
  have e:(0,4)=v:=Option.some.inj h
  rw[←e]at hv;cases hv
 |true=>
  rw[h1]at h
  cases h2:dv f with
  |false=>
   rw[h2]at h
   have e:(0,17)=v:=Option.some.inj h
   rw[←e]at hv;cases hv
  |true=>
   rw[h2]at h
   cases h3:bg code.size with
   |false=>
    rw[h3]at h
    have e:(0,8)=v:=Option.some.inj h
    rw[←e]at hv;cases hv
   |true=>exact⟨rfl,rfl,rfl⟩
theorem yW (im:gL) (hz:kJ im) (hs:∀s∈im.2.2,qu im s) (calls:List Int) (hc:calls.length≤16):∀(k i:Nat),i+k=im.2.2.length→∃v,oE.b im calls im.2.2 (im.2.2.length:Int) i=some v∧C6.a im calls i=some v∧(v.2.2=0→∀j (hj:j<im.2.2.length),i≤j→Ge im.2.2[j]):=by
 intro k
 induction k with
 |zero=>
  intro i hk
  rw[oE.b_eq,C6.a_eq,ab,decide_eq_false (show¬i<im.2.2.length by omega)]
  exact⟨_,rfl,rfl,fun _ j hj h=>by omega⟩
 |succ k ih=>
  intro i hk
  have hi:i<im.2.2.length:=by omega
  obtain⟨v,v1,v2,v3⟩:=ih (i+1) (by omega)
  obtain⟨hn,hcz,hdz⟩:=hz
  rw[oE.b_eq,C6.a_eq,ab,ae,decide_eq_true hi,ah i _ hi (by omega),aM (τ:=bO) im.2.2 i hi,v1,v2]
  simp only[cond_true]
  have hS:=hs _ (List.getElem_mem hi)
  have next:Ge im.2.2[i]→(v.2.2=0→∀j (hj:j<im.2.2.length),i≤j→Ge im.2.2[j]):=fun hg hv j hj hij=>by
   by_cases e:j=i
   ·subst e;exact hg
   ·exact v3 hv j hj (by omega)
  obtain⟨s,hse⟩:∃s:nT,im.2.2[i]=s:=⟨_,rfl⟩
  rw[hse]at hS next⊢
  obtain⟨p,p1,p2⟩:=qr s
  rw[p1,p2]
  by_cases k1:s.2.1=1
  ·have hf:=hS.func k1
   have h0:=hS.at0
   have h1:=hS.size
   rw[aH (n:=s.2.2.1+s.2.2.2.1) (by omega) (by omega),decide_eq_true k1,decide_eq_true h0,decide_eq_true hf,decide_eq_true (show s.2.2.1≤s.2.2.1+s.2.2.2.1 by omega)]
   obtain⟨b,b1,b2⟩:=sR (im.1.extract s.2.2.1.toNat (s.2.2.1+s.2.2.2.1).toNat) p s.2.2.2.2 calls (by rw[ByteArray.size_extract];omega) (by omega)
   simp only[Bool.and_self,Bool.not_true,cond_true,cond_false,Option.bind_some,b1,b2]
   have hp:p=4096+s.2.2.1:=by
    rw[zj,decide_eq_true k1,cond_true,aH (n:=4096+s.2.2.1) (by omega) (by omega)]at p1
    exact(Option.some.inj p1).symm
   by_cases hb:b.2=0
   ·rw[decide_eq_true hb]
    refine⟨_,rfl,rfl,next fun _=> ?_⟩
    have hl:=In b1 hb
    rw[hp,ByteArray.size_extract]at hl
    rw[show min (s.2.2.1+s.2.2.2.1).toNat im.1.size-s.2.2.1.toNat=s.2.2.2.1.toNat by omega]at hl
    exact hl
   ·rw[decide_eq_false hb];exact⟨_,rfl,rfl,fun h=>absurd h hb⟩
  ·rw[decide_eq_false k1];exact⟨_,rfl,rfl,next fun h=>absurd h k1⟩
structure wG (im:gL):Prop where
 sz:kJ im
 chain:∃E,kk im im.2.2.length E∧(E im.2.2.length).1=(im.1.size:Int)
 pos:1≤im.2.2.length
 first:(rd (τ:=bO) im.2.2 0).2.1=1
 funs:∀j (hj:j<im.2.2.length),Ge im.2.2[j]
theorem yX (im:gL):∃v,oE im=some v∧C6 im=some v∧(v.2.2=0→wG im):=by
 rw[Ma,JZ]
 simp only[av]
 by_cases h1:(im.2.2.length:Int)>16
 ·rw[decide_eq_true h1];exact⟨_,rfl,rfl,fun h=>by cases h⟩
 ·rw[decide_eq_false h1]
  by_cases h2:(im.1.size:Int)>1024
  ·rw[decide_eq_true h2];exact⟨_,rfl,rfl,fun h=>by cases h⟩
  ·rw[decide_eq_false h2]
   by_cases h3:(im.2.1.size:Int)>256
   ·rw[decide_eq_true h3];exact⟨_,rfl,rfl,fun h=>by cases h⟩
   ·rw[decide_eq_false h3]
    simp only[cond_false]
    have hz:kJ im:=⟨by omega,by omega,by omega⟩
    rw[JA]
    have hE0:kk im 0 (fun _=>(0,0)):=⟨rfl,fun i _=>⟨⟨by simp,by simp⟩,⟨by simp,by simp⟩⟩,fun i _ h=>by omega⟩
    rcases Cs im hz im.2.2.length 0 _ (by omega) hE0 with⟨n,c,hc,a1,a2⟩|⟨E,hE,a1,a2⟩
    ·have a1':oE.a im (0,0) (im.2.2.length:Int) 0=some (n,0,c):=a1
     have a2':nX.a im 0 0 0=some (n,c):=a2
     rw[a1',a2']
     simp only[Option.bind_some]
     rw[decide_eq_false hc]
     exact⟨_,rfl,rfl,fun h=>absurd h hc⟩
    ·have a1':oE.a im (0,0) (im.2.2.length:Int) 0=_:=a1
     have a2':nX.a im 0 0 0=_:=a2
     rw[a1',a2',oE.a_eq,ab]
     simp only[Nat.lt_irrefl,decide_false,cond_false,Option.bind_some,Js]
     by_cases h0:im.2.2.length=0
     ·rw[if_pos h0,show decide ((im.2.2.length:Int)=0)=true by simp[h0]]
      exact⟨_,rfl,rfl,fun h=>by cases h⟩
     ·rw[if_neg h0,show decide ((im.2.2.length:Int)=0)=false from decide_eq_false (by omega),inL_true (i:=0) (by omega) (by omega)]
      simp only[cond_false,cond_true]
      by_cases k1:(rd (τ:=bO) im.2.2 0).2.1=1
      ·rw[decide_eq_true k1]
       by_cases k2:(E im.2.2.length).1=(im.1.size:Int)
       ·rw[decide_eq_true k2]
        obtain⟨fs,f1,f2,f3⟩:=qt im hz
        have hs:∀s∈im.2.2,qu im s:=fun s hs=>by
         obtain⟨i,hi,rfl⟩:=List.getElem_of_mem hs
         exact(m5 hE i hi).1
        obtain⟨v,v1,v2,v3⟩:=yW im hz hs fs f3 im.2.2.length 0 (by omega)
        rw[f1,f2]
        simp only[k1,k2,ne_eq,not_true_eq_false,↓reduceIte,Bool.not_true,cond_false,decide_true,Option.bind_some]
        exact⟨v,v1,v2,fun h=>⟨hz,⟨E,hE,k2⟩,by omega,k1,fun j hj=>v3 h j hj (Nat.zero_le _)⟩⟩
       ·simp only[k1,k2,ne_eq,not_true_eq_false,not_false_eq_true,↓reduceIte,Bool.not_true,Bool.not_false,cond_false,cond_true,decide_false]
        exact⟨_,rfl,rfl,fun h=>by cases h⟩
      ·simp only[k1,ne_eq,not_false_eq_true,↓reduceIte,Bool.not_false,cond_true,decide_false]
       exact⟨_,rfl,rfl,fun h=>by cases h⟩
noncomputable def Ct (im:gL):Bool:=(PO im).getD false
theorem nH (im:gL):PO im=some (Ct im)∧Re im=some (Ct im)∧(Ct im=true→wG im):=by
 obtain⟨v,v1,v2,v3⟩:=yX im
 have e:PO im=some (decide (v.2.2=0)):=by rw[Mb,v1];rfl
 unfold Ct
 rw[e,J0,v2]
 exact⟨rfl,rfl,fun h=>v3 (by simpa using h)⟩
def qv (v:Int):Nat→List Int
 |0=>[]
 |n+1=>v%256::qv (v/256) n
theorem lj (n:Nat):∀v,(qv v n).length=n:=by
 induction n with
 |zero=>intro v;rfl
 |succ n ih=>intro v;simp[qv,ih]
theorem oA (n:Int):IntKind.wrap .u8 n=n%256:=by simp[IntKind.wrap,IntKind.bits,IntKind.signed]
theorem nU (n:Nat):∀(v:Int) (xs:List Int),n≤1000→xs.length+n≤1000→w6.a v n xs=some (aC (xs++qv v n)):=by
 induction n with
 |zero=>intro v xs _ _;rw[w6.a_eq];simp[qv]
 |succ n ih=>
  intro v xs hn hx
  rw[w6.a_eq,show decide (((n+1:Nat):Int)>0)=true from decide_eq_true (by omega),oz (by simp;omega) (by simp;omega),aH (n:=((n+1:Nat):Int)-1) (by omega) (by omega),ov (by decide) (by decide),oA,show((n+1:Nat):Int)-1=(n:Int) by omega]
  simp only[cond_true]
  rw[ih _ _ (by omega) (by simp;omega),qv,List.append_assoc]
  rfl
theorem lk (v:Int) (n:Nat) (h:n≤1000):w6 v n=some (aC (qv v n)):=by
 rw[MJ,nU n v [] h (by simpa using h)];rfl
theorem bK (xs:List Int):(aC xs).size=xs.length:=by simp[aC,ByteArray.size]
theorem uk (xs:List Int) (i:Nat) (h:∀x∈xs,0≤x∧x≤255) (hi:i<xs.length):(((aC xs).data.getD i 0).toNat:Int)=xs[i]:=by
 have hx:=h _ (List.getElem_mem hi)
 unfold aC
 simp[Array.getD,hi]
 omega
theorem Gf {a b:ByteArray} (hs:a.size=b.size) (h:∀i,i<a.size→a.data.getD i 0=b.data.getD i 0):a=b:=by
 cases a with|mk x=>cases b with|mk y=>
 congr 1
 have hs:x.size=y.size:=hs
 apply Array.ext hs
 intro i h1 h2
 have:=h i h1
 simpa[Array.getD,h1,h2]using this
theorem qw (n:Nat):∀(k:Int) (t:ByteArray),0≤k→k<10^n→k≤4611686018427387904→t.size+n≤1000→∃v,qJ.a k t=some v:=by
 induction n with
 |zero=>
  intro k t h0 h1 _ hs
  have:k=0:=by simp at h1;omega
  subst this
  rw[qJ.a_eq,show decide ((0:Int)>0)=false from rfl]
  simp only[cond_false]
  rw[decide_eq_true (by have:(⟨#[109]⟩:ByteArray).size=1:=rfl;omega)]
  exact⟨_,rfl⟩
 |succ n ih=>
  intro k t h0 h1 hk hs
  rw[qJ.a_eq]
  by_cases hp:k>0
  ·rw[decide_eq_true hp,decide_eq_true (by rw[bK];simp;omega),Int.tdiv_eq_ediv_of_nonneg h0,aH (n:=k/10) (by omega) (by omega)]
   simp only[cond_true]
   rw[Int.pow_succ]at h1
   exact ih _ _ (by omega) (by omega) (by omega) (by rw[ByteArray.size_append,bK];simp;omega)
  ·rw[decide_eq_false hp]
   simp only[cond_false]
   rw[decide_eq_true (by have:(⟨#[109]⟩:ByteArray).size=1:=rfl;omega)]
   exact⟨_,rfl⟩
noncomputable def Oz (k:Int):ByteArray:=(qJ k).getD ⟨#[]⟩
theorem cj (k:Int) (h:1≤k) (h':k≤4611686018427387904):qJ k=some (Oz k):=by
 obtain⟨v,hv⟩:=qw 30 k ⟨#[]⟩ (by omega) (by omega) h' (by decide)
 have e:qJ k=some v:=by rw[N1,decide_eq_false (by omega)];exact hv
 unfold Oz
 rw[e];rfl
def gM {α:Type} (E:Int→α) (c:Nat) (m0:Int) (n:Nat):List α:=(List.range n).map fun i:Nat=>E (m0+c*i)
theorem ll {α:Type} (E:Int→α) (c:Nat) (m0:Int) (n:Nat):(gM E c m0 n).length=n:=by simp[gM]
theorem qx {α:Type} (E:Int→α) (c:Nat) (m0:Int) (n i:Nat) (h:i<n):(gM E c m0 n)[i]? =some (E (m0+c*i)):=by simp[gM,h]
theorem Gg {α:Type} (L:List α→Int→Int→Option (Int×List α)) (E:Int→α) (c n:Nat) (m0:Int) (M:Int)
  (hm:1≤m0) (hM:m0+c*n≤M)
  (step:∀(l:List α) (m:Int) (i:Nat),l.length=n→i<n→1≤m→m+c≤M→L l m i=L (l.set i (E m)) (m+c) ((i+1:Nat):Int))
  (last:∀(l:List α) (m:Int),l.length=n→L l m n=some (m,l)) (l:List α) (hl:l.length=n):L l m0 0=some (m0+c*n,gM E c m0 n):=by
 have key:∀(k i:Nat) (l:List α),i+k=n→l.length=n→(∀j,j<i→l[j]? =some (E (m0+c*j)))→L l (m0+c*i) i=some (m0+c*n,gM E c m0 n):=by
  intro k
  induction k with
  |zero=>
   intro i l hi hl hj
   have:i=n:=by omega
   subst this
   rw[last l _ hl]
   congr 2
   apply List.ext_getElem?
   intro j
   by_cases h:j<i
   ·rw[hj j h,qx E c m0 i j h]
   ·rw[List.getElem?_eq_none (by omega),List.getElem?_eq_none (by rw[ll];omega)]
  |succ k ih=>
   intro i l hi hl hj
   have hci:(c:Int)*i+c≤c*n:=by
    have:c*i+c≤c*n:=by
     have:=Nat.mul_le_mul_left c (show i+1≤n by omega)
     rw[Nat.mul_add,Nat.mul_one]at this;exact this
    have e1:((c*i:Nat):Int)=(c:Int)*i:=by simp
    have e2:((c*n:Nat):Int)=(c:Int)*n:=by simp
    omega
   have hc0:0≤(c:Int)*i:=Int.mul_nonneg (by omega) (by omega)
   rw[step l _ i hl (by omega) (by omega) (by omega),show m0+(c:Int)*i+c=m0+c*((i+1:Nat):Int) by rw[Int.natCast_add,Int.mul_add];omega]
   apply ih (i+1) _ (by omega) (by simp[hl])
   intro j hji
   rw[List.getElem?_set]
   by_cases h:i=j
   ·subst h
    rw[if_pos rfl,if_pos (by omega)]
   ·rw[if_neg h];exact hj j (by omega)
 have:=key n 0 l (by omega) hl (fun j h=>by omega)
 simpa using this
theorem Gi {α:Type} (H:List α→Int→Int→Option Int) (E:Int→α) (c n:Nat) (m0:Int) (M:Int)
  (hm:1≤m0) (hM:m0+c*n≤M)
  (step:∀(l:List α) (m:Int) (i:Nat),l.length=n→i<n→1≤m→m+c≤M→l[i]? =some (E m)→H l m i=H l (m+c) ((i+1:Nat):Int))
  (last:∀(l:List α) (m:Int),l.length=n→H l m n=some m):H (gM E c m0 n) m0 0=some (m0+c*n):=by
 have key:∀(k i:Nat),i+k=n→H (gM E c m0 n) (m0+c*i) i=some (m0+c*n):=by
  intro k
  induction k with
  |zero=>
   intro i hi
   have:i=n:=by omega
   subst this
   rw[last _ _ (ll ..)]
  |succ k ih=>
   intro i hi
   have hci:(c:Int)*i+c≤c*n:=by
    have:c*i+c≤c*n:=by
     have:=Nat.mul_le_mul_left c (show i+1≤n by omega)
     rw[Nat.mul_add,Nat.mul_one]at this;exact this
    have e1:((c*i:Nat):Int)=(c:Int)*i:=by simp
    have e2:((c*n:Nat):Int)=(c:Int)*n:=by simp
    omega
   have hc0:0≤(c:Int)*i:=Int.mul_nonneg (by omega) (by omega)
   rw[step _ _ i (ll ..) (by omega) (by omega) (by omega) (qx E c m0 n i (by omega)),show m0+(c:Int)*i+c=m0+c*((i+1:Nat):Int) by rw[Int.natCast_add,Int.mul_add];omega]
   exact ih (i+1) (by omega)
 have:=key n 0 (by omega)
 simpa using this
theorem cD {τ:Ty} (xs:List τ.den) (i:Nat) (v:τ.den) (h:i<xs.length):rd (τ:=τ) (xs.set i v) (i:Int)=v:=by
 rw[aM _ _ (by simpa using h)];simp
theorem Io {τ:Ty} (xs:List τ.den) (i:Nat) (v:τ.den) (h:xs[i]? =some v):rd (τ:=τ) xs (i:Int)=v:=by
 unfold rd;rw[Int.toNat_natCast,List.getD_eq_getElem?_getD,h];rfl
theorem qy (a:ByteArray):bo a a=true:=by rw[aL,decide_eq_true rfl]
def gO (p:Nat→Bool):Nat→Nat→Bool
 |_,0=>true
 |i,k+1=>bif p i then gO p (i+1) k else false
theorem fZ (p:Nat→Bool):∀k i,gO p i k=true↔∀j,i≤j→j<i+k→p j=true
 |0,i=>by simp[gO];omega
 |k+1,i=>by
  rw[gO,dB]
  by_cases h:p i=true
  ·rw[if_pos h,fZ p k (i+1)]
   refine⟨fun H j h1 h2=> ?_,fun H j h1 h2=>H j (by omega) (by omega)⟩
   by_cases e:j=i
   ·rw[e];exact h
   ·exact H j (by omega) (by omega)
  ·rw[if_neg h]
   refine⟨fun H=>(by cases H),fun H=>absurd (H i (Nat.le_refl _) (by omega)) h⟩
theorem Gj (L:Int→Option Bool) (p:Nat→Bool) (n:Nat) (hend:L (n:Int)=some true) (hstep:∀i:Nat,i<n→L (i:Int)=bif p i then L ((i+1:Nat):Int)else some false):
  ∀k i:Nat,i+k=n→L (i:Int)=some (gO p i k):=by
 intro k
 induction k with
 |zero=>
   intro i h;have:i=n:=by omega
   subst this;exact hend
 |succ k ih=>
  intro i h
  rw[hstep i (by omega),ih (i+1) (by omega),gO]
  cases p i<;>rfl
theorem cQ {L:Int→Option Bool} (p:Nat→Bool) (n:Nat) (hend:L (n:Int)=some true) (hstep:∀i:Nat,i<n→L (i:Int)=bif p i then L ((i+1:Nat):Int)else some false):L 0=some (gO p 0 n):=
 Gj L p n hend hstep n 0 (by omega)
def dV (p:Nat→Bool):Nat→Nat→Int
 |_,0=> -1
 |i,k+1=>bif p i then(i:Int)else dV p (i+1) k
theorem Cu (L:Int→Option Int) (p:Nat→Bool) (n:Nat) (hend:L (n:Int)=some (-1)) (hstep:∀i:Nat,i<n→L (i:Int)=bif p i then some (i:Int)else L ((i+1:Nat):Int)):
  ∀k i:Nat,i+k=n→L (i:Int)=some (dV p i k):=by
 intro k
 induction k with
 |zero=>
   intro i h;have:i=n:=by omega
   subst this;exact hend
 |succ k ih=>
  intro i h
  rw[hstep i (by omega),ih (i+1) (by omega),dV]
  cases p i<;>rfl
theorem dc {L:Int→Option Int} (p:Nat→Bool) (n:Nat) (hend:L (n:Int)=some (-1)) (hstep:∀i:Nat,i<n→L (i:Int)=bif p i then some (i:Int)else L ((i+1:Nat):Int)):L 0=some (dV p 0 n):=
 Cu L p n hend hstep n 0 (by omega)
theorem cr (p:Nat→Bool):∀k i,(dV p i k= -1∧∀j,i≤j→j<i+k→p j=false)∨∃j:Nat,dV p i k=(j:Int)∧i≤j∧j<i+k∧p j=true∧∀q,i≤q→q<j→p q=false
 |0,i=> .inl ⟨rfl,fun j h1 h2=>by omega⟩
 |k+1,i=>by
  rw[dV]
  cases h:p i with
  |true=>exact .inr ⟨i,rfl,Nat.le_refl _,by omega,h,fun q h1 h2=>by omega⟩
  |false=>
   rw[cond_false]
   rcases cr p k (i+1)with⟨h1,h2⟩|⟨j,h1,h2,h3,h4,h5⟩
   ·refine .inl ⟨h1,fun j h3 h4=> ?_⟩
    by_cases e:j=i
    ·rw[e];exact h
    ·exact h2 j (by omega) (by omega)
   ·refine .inr ⟨j,h1,by omega,by omega,h4,fun q h6 h7=> ?_⟩
    by_cases e:q=i
    ·rw[e];exact h
    ·exact h5 q (by omega) (by omega)
theorem eW (i:Nat) (h:0<i) (h':i≤1048576):IntKind.wrap .i64 ((i:Int)-1)=((i-1:Nat):Int):=by
 rw[aH (by omega) (by omega)];omega
theorem km (a b:Int):decide (a<b)= !decide (a≥b):=by
 rw[←decide_not];congr 1;apply propext;omega
abbrev aO:Ty:= .pair (.int .i64) (.pair (.int .i64) .str)
abbrev fy:Type:=Int×Int×ByteArray
def cM (n a b:Int):Bool:=decide (a≤n)&&decide (n≤b)
theorem Ip (n a b:Int):gg n a b=some (cM n a b):=cb n a b
theorem bp (n a b:Int):gg n a b=some (cM n a b)∧nK n a b=some (cM n a b):=⟨cb n a b,eU n a b⟩
theorem bd {n a b:Int}:cM n a b=true↔a≤n∧n≤b:=by simp[cM]
def kK (b:Int):Bool:=bif cM b 0 1048575 then decide (b.tmod 128=0)else false
theorem Jt (b:Int):QA b=some (kK b):=by
 rw[GT,Ip]
 unfold kK
 simp only[Option.bind_some]
 cases cM b 0 1048575<;>rfl
theorem Ju (p:Int):QB p=some (cM p 0 15):=by rw[GU,Ip];rfl
theorem Gk (b:Int):QA b=some (kK b)∧Rf b=some (kK b):=by
 rw[GT,J1,(bp _ _ _).1,(bp _ _ _).2]
 unfold kK
 simp only[Option.bind_some]
 cases cM b 0 1048575<;>exact⟨rfl,rfl⟩
theorem Gl (p:Int):QB p=some (cM p 0 15)∧Rg p=some (cM p 0 15):=by
 rw[GU,J2,(bp _ _ _).1,(bp _ _ _).2];exact⟨rfl,rfl⟩
def Gm (m:List fy) (i:Nat):Bool:=
 bif kK (rd (τ:=aO) m i).1 then bif cM (rd (τ:=aO) m i).2.1 0 15 then bif decide (((rd (τ:=aO) m i).2.2.size:Int)=128)then
  (decide (i=0)||decide ((rd (τ:=aO) m ((i-1:Nat):Int)).1< (rd (τ:=aO) m i).1))else false else false else false
def qz (m:List fy):Bool:=decide (m.length≤64)&&gO (Gm m) 0 m.length
theorem Gn (m:List fy):CV m=some (qz m):=by
 rw[M8]
 unfold qz
 rcases Nat.lt_or_ge 64 m.length with h|h
 ·rw[show decide ((m.length:Int)>64)=true by simp;omega,decide_eq_false (by omega)];rfl
 rw[show decide ((m.length:Int)>64)=false by simp;omega,decide_eq_true h,cond_false,Bool.true_and]
 refine cQ (L:=CV.a m m (m.length:Int)) (Gm m) m.length ?_ fun i hi=> ?_
 ·rw[CV.a_eq,ab];simp
 ·rw[CV.a_eq,ab,ae,decide_eq_true hi,ah i m.length hi (by omega),Jt,Ju]
  unfold Gm
  simp only[cond_true,Option.bind_some]
  by_cases h0:i=0
  ·rw[show decide ((i:Int)>0)=false by simp[h0],decide_eq_true h0]
   cases kK (rd (τ:=aO) m i).1<;>cases cM (rd (τ:=aO) m i).2.1 0 15<;>cases decide (((rd (τ:=aO) m i).2.2.size:Int)=128)<;>rfl
  ·rw[show decide ((i:Int)>0)=true by simp;omega,decide_eq_false h0,eW i (by omega) (by omega),ae,decide_eq_true (show i-1<m.length by omega)]
   rw[show decide ((rd (τ:=aO) m ((i-1:Nat):Int)).1< (rd (τ:=aO) m i).1)= !decide ((rd (τ:=aO) m ((i-1:Nat):Int)).1≥(rd (τ:=aO) m i).1) from km _ _]
   cases kK (rd (τ:=aO) m i).1<;>cases cM (rd (τ:=aO) m i).2.1 0 15<;>cases decide (((rd (τ:=aO) m i).2.2.size:Int)=128)<;>cases decide ((rd (τ:=aO) m ((i-1:Nat):Int)).1≥(rd (τ:=aO) m i).1)<;>rfl
theorem qA (m:List fy):CV m=some (qz m)∧C7 m=some (qz m):=by
 refine⟨Gn m, ?_⟩
 rw[J3]
 unfold qz
 rcases Nat.lt_or_ge 64 m.length with h|h
 ·rw[show decide ((m.length:Int)>64)=true by simp;omega,decide_eq_false (by omega)];rfl
 rw[show decide ((m.length:Int)>64)=false by simp;omega,decide_eq_true h,cond_false,Bool.true_and]
 refine cQ (L:=C7.a m) (Gm m) m.length ?_ fun i hi=> ?_
 ·rw[C7.a_eq,ab];simp
 ·rw[C7.a_eq,ab,ae,decide_eq_true hi,ah i m.length hi (by omega),(Gk _).2,(Gl _).2]
  unfold Gm
  simp only[cond_true,Option.bind_some]
  by_cases h0:i=0
  ·rw[show decide ((i:Int)>0)=false by simp[h0],decide_eq_true h0]
   cases kK (rd (τ:=aO) m i).1<;>cases cM (rd (τ:=aO) m i).2.1 0 15<;>cases decide (((rd (τ:=aO) m i).2.2.size:Int)=128)<;>rfl
  ·rw[show decide ((i:Int)>0)=true by simp;omega,decide_eq_false h0,eW i (by omega) (by omega),ae,decide_eq_true (show i-1<m.length by omega)]
   rw[show decide ((rd (τ:=aO) m ((i-1:Nat):Int)).1< (rd (τ:=aO) m i).1)= !decide ((rd (τ:=aO) m i).1≤(rd (τ:=aO) m ((i-1:Nat):Int)).1) from km _ _]
   cases kK (rd (τ:=aO) m i).1<;>cases cM (rd (τ:=aO) m i).2.1 0 15<;>cases decide (((rd (τ:=aO) m i).2.2.size:Int)=128)<;>cases decide ((rd (τ:=aO) m i).1≤(rd (τ:=aO) m ((i-1:Nat):Int)).1)<;>rfl
abbrev aS:Ty:= .pair .str (.pair (.int .i64) (.pair (.int .i64) (.pair (.int .i64) (.pair (.int .i64) (.int .i64)))))
abbrev cU:Type:=ByteArray×Int×Int×Int×Int×Int
def cg (l:List cU) (name:ByteArray):Int:=dV (fun i=>decide ((rd (τ:=aS) l (i:Int)).1=name)) 0 l.length
theorem dI (l:List cU) (name:ByteArray) (hl:l.length≤1048576):IU l name=some (cg l name)∧wZ l name=some (cg l name):=by
 rw[MD,MC,J5]
 unfold cg
 constructor
 ·rw[dc (L:=Hb.a name l (l.length:Int)) (fun i=>decide ((rd (τ:=aS) l (i:Int)).1=name)) l.length ?_ fun i hi=> ?_]
  ·rfl
  ·rw[Hb.a_eq,ab];simp
  ·rw[Hb.a_eq,ab,ae,decide_eq_true hi,ah i l.length hi (by omega),MB,aL]
   simp only[cond_true,Option.bind_some]
 ·refine dc (L:=wZ.a l name) (fun i=>decide ((rd (τ:=aS) l (i:Int)).1=name)) l.length ?_ fun i hi=> ?_
  ·rw[wZ.a_eq,ab];simp
  ·rw[wZ.a_eq,ab,ae,decide_eq_true hi,ah i l.length hi (by omega),aL]
   simp only[cond_true]
def wH (k f:Int):Bool:=bif decide (k=1)then(bif dv f then true else bif decide (k=2)then decide (f=0)else false)else bif decide (k=2)then decide (f=0)else false
noncomputable def cR (e:cU):Bool:=
 bif bW e.1 then bif bQ e.2.2.1 then bif cM e.2.2.2.1 1 1024 then bif cM e.2.2.2.2.2 0 6 then wH e.2.1 e.2.2.2.2.1 else false else false else false else false
theorem sT (e:cU):RK e=some (cR e)∧Rh e=some (cR e):=by
 rw[ME,J4]
 unfold cR
 rw[(db _).1,(db _).2,lh,(bp _ _ _).1,(bp _ _ _).1,(bp _ _ _).2,(bp _ _ _).2,(bp _ _ _).2,(eI _).1,(eI _).2]
 unfold bQ wH av
 simp only[Option.bind_some]
 rw[show(decide ((0:Int)≤e.2.2.1)&&decide (e.2.2.1≤1048575))=cM e.2.2.1 0 1048575 from rfl]
 cases bW e.1<;>cases cM e.2.2.1 0 1048575<;>cases decide (e.2.2.1.tmod 4=0)<;>cases cM e.2.2.2.1 1 1024<;>cases cM e.2.2.2.2.2 0 6<;>cases decide (e.2.1=1)<;>cases dv e.2.2.2.2.1<;>cases decide (e.2.1=2)<;>exact⟨rfl,rfl⟩
noncomputable def wI (l:List cU) (i:Nat):Bool:=bif cR (rd (τ:=aS) l i)then decide (cg (l.take i) (rd (τ:=aS) l i).1<0)else false
noncomputable def nV (l:List cU):Bool:=decide (l.length≤64)&&gO (wI l) 0 l.length
theorem iW {α:Type} (l:List α) (i:Nat):(l.take (Int.toNat (i:Int))).drop (Int.toNat 0)=l.take i:=by
 rw[Int.toNat_natCast,show(Int.toNat 0)=0 from rfl,List.drop_zero]
theorem iX (i n:Nat) (h:i≤n):(decide (0≤0)&&decide (0≤(i:Int))&&decide ((i:Int)≤(n:Int)))=true:=by simp;omega
theorem ir (l:List cU):Al l=some (nV l)∧GD l=some (nV l):=by
 rw[MF,J6]
 unfold nV
 rcases Nat.lt_or_ge 64 l.length with h|h
 ·rw[show decide ((l.length:Int)>64)=true by simp;omega,decide_eq_false (show¬l.length≤64 by omega)]
  cases decide ((l.length:Int)>4096)<;>exact⟨rfl,rfl⟩
 rw[show decide ((l.length:Int)>64)=false by simp;omega,show decide ((l.length:Int)>4096)=false by simp;omega,decide_eq_true h,cond_false,cond_false,cond_false,Bool.true_and]
 constructor
 ·refine cQ (L:=Al.a l l (l.length:Int)) (wI l) l.length ?_ fun i hi=> ?_
  ·rw[Al.a_eq,ab];simp
  ·rw[Al.a_eq,ab,ae,decide_eq_true hi,ah i l.length hi (by omega),(sT _).1,iW,iX i _ (by omega),(dI _ _ (by simp;omega)).1]
   unfold wI
   rw[km]
   simp only[cond_true,Option.bind_some]
   cases cR (rd (τ:=aS) l i)<;>cases decide (cg (l.take i) (rd (τ:=aS) l i).1≥0)<;>rfl
 ·refine cQ (L:=GD.a l) (wI l) l.length ?_ fun i hi=> ?_
  ·rw[GD.a_eq,ab];simp
  ·rw[GD.a_eq,ab,ae,decide_eq_true hi,ah i l.length hi (by omega),(sT _).2,iW,iX i _ (by omega),(dI _ _ (by simp;omega)).2]
   unfold wI
   rw[km]
   simp only[cond_true,Option.bind_some]
   cases cR (rd (τ:=aS) l i)<;>cases decide (cg (l.take i) (rd (τ:=aS) l i).1≥0)<;>rfl
abbrev bm:Type:=Int×Int×Int
def z7 (a:bm):Bool:=
 cM a.1 0 1048575&&cM a.2.1 0 (IntKind.wrap .i64 (1048576-a.1))&&cM a.2.2 a.1 (IntKind.wrap .i64 (a.1+a.2.1))&&decide (a.1.tmod 8=0)&&decide (a.2.1.tmod 8=0)&&decide (a.2.2.tmod 8=0)
theorem sU (a:bm):Qv a=some (z7 a):=by
 rw[MG,(bp _ _ _).1,(bp _ _ _).1,(bp _ _ _).1]
 unfold z7
 simp only[Option.bind_some]
 cases cM a.1 0 1048575<;>cases cM a.2.1 0 (IntKind.wrap .i64 (1048576-a.1))<;>cases cM a.2.2 a.1 (IntKind.wrap .i64 (a.1+a.2.1))<;>cases decide (a.1.tmod 8=0)<;>cases decide (a.2.1.tmod 8=0)<;>cases decide (a.2.2.tmod 8=0)<;>rfl
abbrev oB:Ty:= .pair (.int .i64) (.pair (.int .i64) (.int .i64))
abbrev Sh:Type:=Int×Int×Int
def Cv (a b:Int):Int:=bif decide (a<b)then-1 else bif decide (a>b)then 1 else 0
def Cw (a b:Sh):Int:=if Cv a.1 b.1=0 then Cv a.2.1 b.2.1 else Cv a.1 b.1
theorem z8 (a b:Int):QC a b=some (Cv a b):=by
 rw[Na,GW,GW]
 unfold Cv
 simp only[Option.bind_some,decide_true,Bool.not_true,cond_false]
 cases decide (a<b)<;>cases decide (a>b)<;>rfl
theorem Iq (x y:Int):GV [x,y]=some (if x=0 then y else x):=by
 rw[M9,show(([x,y]:List Int).length:Int)=2 from rfl,GV.a_eq,GV.a_eq,GV.a_eq]
 show(bif !decide (x=0)then some x else bif !decide (y=0)then some y else some 0)=_
 by_cases hx:x=0
 ·by_cases hy:y=0
  ·simp[hx,hy]
  ·simp[hx,hy]
 ·simp[hx]
theorem Cy (a b:Sh):RR a b=some (Cw a b):=by
 rw[Nb,z8,z8]
 simp only[Option.bind_some]
 rw[Iq];rfl
theorem sV (a b c d:Int):C8 [a,b] [c,d]=some (if a=c then decide (b<d)else decide (a<c)):=by
 rw[J8,C8.a_eq,C8.a_eq,C8.a_eq]
 show(bif !decide (a=c)then some (decide (a<c))else bif !decide (b=d)then some (decide (b<d))else some false)=_
 by_cases h:a=c
 ·by_cases h2:b=d
  ·simp[h,h2]
  ·simp[h,h2]
 ·simp[h]
theorem Gp (a b:Sh):(if a.1=b.1 then decide (a.2.1<b.2.1)else decide (a.1<b.1))= !decide (Cw a b≥0):=by
 obtain⟨a1,a2,a3⟩:=a
 obtain⟨b1,b2,b3⟩:=b
 simp only[Cw,Cv,dB,decide_eq_true_eq]
 rcases Int.lt_trichotomy a1 b1 with h|h|h
 ·rw[if_neg (by omega),if_pos h];simp[h]
 ·subst h
  rw[if_pos rfl]
  rcases Int.lt_trichotomy a2 b2 with h2|h2|h2
  ·simp[h2]
  ·simp[h2]
  ·simp[show¬a2<b2 by omega,h2]
 ·rw[if_neg (by omega),if_neg (by omega),if_pos h];simp[show¬a1<b1 by omega]
theorem Jv (n:Int):Ri n=some (cM n 0 255):=by rw[J7,(bp _ _ _).2];rfl
def O4 (l:List Sh) (i:Nat):Bool:=
 bif cM (rd (τ:=oB) l i).2.1 0 255 then(decide (i=0)|| !decide (Cw (rd (τ:=oB) l ((i-1:Nat):Int)) (rd (τ:=oB) l i)≥0))else false
def OA (l:List Sh):Bool:=decide (l.length≤16)&&gO (O4 l) 0 l.length
theorem nI (l:List Sh):DC l=some (OA l)∧C9 l=some (OA l):=by
 rw[Nc,J9]
 unfold OA
 rcases Nat.lt_or_ge 16 l.length with h|h
 ·rw[show decide ((l.length:Int)>16)=true by simp;omega,decide_eq_false (show¬l.length≤16 by omega)]
  cases decide ((l.length:Int)>4096)<;>exact⟨rfl,rfl⟩
 rw[show decide ((l.length:Int)>16)=false by simp;omega,show decide ((l.length:Int)>4096)=false by simp;omega,decide_eq_true h,cond_false,cond_false,cond_false,Bool.true_and]
 constructor
 ·refine cQ (L:=DC.a l l (l.length:Int)) (O4 l) l.length ?_ fun i hi=> ?_
  ·rw[DC.a_eq,ab];simp
  ·rw[DC.a_eq,ab,ae,decide_eq_true hi,ah i l.length hi (by omega),(bp _ _ _).1]
   unfold O4
   simp only[cond_true,Option.bind_some]
   by_cases h0:i=0
   ·rw[show decide ((i:Int)>0)=false by simp[h0],decide_eq_true h0]
    cases cM (rd (τ:=oB) l i).2.1 0 255<;>rfl
   ·rw[show decide ((i:Int)>0)=true by simp;omega,decide_eq_false h0,eW i (by omega) (by omega),ae,decide_eq_true (show i-1<l.length by omega),Cy]
    simp only[Option.bind_some]
    cases cM (rd (τ:=oB) l i).2.1 0 255<;>cases decide (Cw (rd (τ:=oB) l ((i-1:Nat):Int)) (rd (τ:=oB) l i)≥0)<;>rfl
 ·refine cQ (L:=C9.a l) (O4 l) l.length ?_ fun i hi=> ?_
  ·rw[C9.a_eq,ab];simp
  ·rw[C9.a_eq,ab,ae,decide_eq_true hi,ah i l.length hi (by omega),Jv]
   unfold O4
   simp only[cond_true,Option.bind_some]
   by_cases h0:i=0
   ·rw[show decide ((i:Int)>0)=false by simp[h0],decide_eq_true h0]
    cases cM (rd (τ:=oB) l i).2.1 0 255<;>rfl
   ·rw[show decide ((i:Int)>0)=true by simp;omega,decide_eq_false h0,eW i (by omega) (by omega),ae,decide_eq_true (show i-1<l.length by omega),sV,Gp]
    simp only[Option.bind_some]
    cases cM (rd (τ:=oB) l i).2.1 0 255<;>cases decide (Cw (rd (τ:=oB) l ((i-1:Nat):Int)) (rd (τ:=oB) l i)≥0)<;>rfl
abbrev Gq:Ty:= .pair (.arr (.int .i64) 32) (.int .i64)
abbrev eJ:Ty:= .pair (.int .i64) (.pair Gq (.pair (.list (.int .i64)) (.int .i64)))
abbrev Jw:Type:=Int×(List Int×Int)×List Int×Int
abbrev PX:Type:=List fy×List Jw×List cU×List Sh
def Aa (h:List Int×Int):Bool:=decide ((rd (τ:= .int .i64) h.1 0)=(0:Int))
theorem wJ (h:List Int×Int):RS h=some (Aa h)∧Rj h=some (Aa h):=by
 rw[Nd,Ka];exact⟨rfl,rfl⟩
def yY (t:Jw):Bool:=
 bif cM t.1 1 3 then bif Aa t.2.1 then bif decide ((t.2.2.1.length:Int)≤32)then(bif decide (t.1=3)then cM t.2.2.2 1 31 else decide (t.2.2.2=0))else false else false else false
theorem Ab (t:Jw):RT t=some (yY t)∧Rk t=some (yY t):=by
 rw[Nf,Kb,(bp _ _ _).1,(bp _ _ _).1,(bp _ _ _).2,(bp _ _ _).2,(wJ _).1,(wJ _).2]
 unfold yY av
 rw[show decide ((t.2.2.1.length:Int)>32)= !decide ((t.2.2.1.length:Int)≤32) by rw[←decide_not];congr 1;apply propext;omega]
 simp only[Option.bind_some]
 cases cM t.1 1 3<;>cases Aa t.2.1<;>cases decide ((t.2.2.1.length:Int)≤32)<;>cases decide (t.1=3)<;>exact⟨rfl,rfl⟩
def Ac (l:List Jw):Bool:=cM l.length 1 4&&gO (fun i=>yY (rd (τ:=eJ) l (i:Int))) 0 l.length
theorem Gr (p:Nat→Bool) (n:Nat):decide (dV (fun i=> !p i) 0 n≥0)= !gO p 0 n:=by
 rcases cr (fun i=> !p i) n 0 with⟨h1,h2⟩|⟨j,h1,h2,h3,h4,h5⟩
 ·rw[h1,(fZ p n 0).2 fun j h3 h4=>by simpa using h2 j h3 h4];rfl
 ·rw[h1]
  have:gO p 0 n=false:=by
   cases h:gO p 0 n with
   |false=>rfl
   |true=>have:=(fZ p n 0).1 h j h2 h3;rw[this]at h4;cases h4
  rw[this];simp
theorem wK (l:List Jw):RU l=some (Ac l):=by
 rw[Nj,(bp _ _ _).1]
 unfold Ac
 simp only[Option.bind_some]
 cases h:cM (l.length:Int) 1 4 with
 |false=>rfl
 |true=>
  have hl:l.length≤4:=by rw[bd]at h;omega
  rw[Ni,Nh,dc (L:=Hd.a l (l.length:Int)) (fun i=> !yY (rd (τ:=eJ) l (i:Int))) l.length ?_ fun i hi=> ?_]
  ·simp only[Option.bind_some,cond_true,Bool.true_and]
   rw[Gr];simp
  ·rw[Hd.a_eq,ab];simp
  ·rw[Hd.a_eq,ab,ae,decide_eq_true hi,ah i l.length hi (by omega),Ng,(Ab _).1]
   simp only[cond_true,Option.bind_some]
noncomputable def yZ (m:PX):Bool:=qz m.1&&(nV m.2.2.1&&(OA m.2.2.2&&Ac m.2.1))
theorem wL (m:PX):RV m=some (yZ m)∧GE m=some (yZ m):=by
 rw[Nk,Kc,(qA _).1,(qA _).2,(ir _).1,(ir _).2,(nI _).1,(nI _).2,wK]
 unfold yZ
 simp only[Option.bind_some]
 constructor
 ·cases qz m.1<;>cases nV m.2.2.1<;>cases OA m.2.2.2<;>rfl
 ·unfold Ac
  by_cases h1:(m.2.1.length:Int)<1
  ·rw[decide_eq_true h1,show cM (m.2.1.length:Int) 1 4=false by simp[cM];omega]
   cases qz m.1<;>simp
  rw[decide_eq_false h1]
  by_cases h2:(m.2.1.length:Int)>4
  ·rw[decide_eq_true h2,show cM (m.2.1.length:Int) 1 4=false by simp[cM];omega]
   cases qz m.1<;>simp
  rw[decide_eq_false h2,show cM (m.2.1.length:Int) 1 4=true by simp[cM];omega]
  rw[cQ (L:=GE.a m) (fun i=>yY (rd (τ:=eJ) m.2.1 (i:Int))) m.2.1.length ?_ fun i hi=> ?_]
  ·cases qz m.1<;>cases nV m.2.2.1<;>cases OA m.2.2.2<;>rfl
  ·rw[GE.a_eq,ab];simp
  ·rw[GE.a_eq,ab,ae,decide_eq_true hi,ah i m.2.1.length hi (by omega),(Ab _).2]
   simp only[cond_true,Option.bind_some]
   cases yY (rd (τ:=eJ) m.2.1 (i:Int))<;>rfl
def fA (p:Nat→Bool):Nat→Nat→Bool
 |_,0=>false
 |i,k+1=>bif p i then true else fA p (i+1) k
theorem jL (p:Nat→Bool):∀k i,fA p i k=true↔∃j,i≤j∧j<i+k∧p j=true
 |0,i=>by simp[fA];omega
 |k+1,i=>by
  rw[fA,dB]
  by_cases h:p i=true
  ·rw[if_pos h];simp only[true_iff];exact⟨i,Nat.le_refl _,by omega,h⟩
  ·rw[if_neg h,jL p k (i+1)]
   refine⟨fun⟨j,h1,h2,h3⟩=>⟨j,by omega,by omega,h3⟩,fun⟨j,h1,h2,h3⟩=>⟨j, ?_,by omega,h3⟩⟩
   rcases Nat.lt_or_ge i j with h4|h4
   ·exact h4
   ·have:j=i:=by omega
    subst this;exact absurd h3 h
theorem Gs {β:Type} (L:Int→Option β) (p:Nat→Bool) (n:Nat) (r:Option β) (hstep:∀i:Nat,i<n→L (i:Int)=bif p i then r else L ((i+1:Nat):Int)):
  ∀k i:Nat,i+k=n→L (i:Int)=bif fA p i k then r else L (n:Int):=by
 intro k
 induction k with
 |zero=>
   intro i h;have:i=n:=by omega
   subst this;rfl
 |succ k ih=>
  intro i h
  rw[hstep i (by omega),ih (i+1) (by omega),fA]
  cases p i<;>rfl
theorem dW {β:Type} {L:Int→Option β} (p:Nat→Bool) (n:Nat) (r:Option β) (hstep:∀i:Nat,i<n→L (i:Int)=bif p i then r else L ((i+1:Nat):Int)):L 0=bif fA p 0 n then r else L (n:Int):=
 Gs L p n r hstep n 0 (by omega)
theorem qB (p:Nat→Bool) (n:Nat):decide (dV p 0 n≥0)=fA p 0 n:=by
 rcases cr p n 0 with⟨h1,h2⟩|⟨j,h1,h2,h3,h4,h5⟩
 ·rw[h1]
  cases h:fA p 0 n with
  |false=>rfl
  |true=>obtain⟨j,h3,h4,h5⟩:=(jL p n 0).1 h;rw[h2 j h3 h4]at h5;cases h5
 ·rw[h1,(jL p n 0).2 ⟨j,h2,h3,h4⟩];simp
def bc {α:Type} (f:Nat→α):Nat→Nat→List α
 |_,0=>[]
 |i,k+1=>f i::bc f (i+1) k
theorem az {α:Type} (f:Nat→α):∀k i,(bc f i k).length=k
 |0,_=>rfl
 |k+1,i=>by rw[bc,List.length_cons,az f k]
theorem Gt {α β:Type} (L:List α→Int→Option β) (f:Nat→α) (n A:Nat) (hstep:∀acc (i:Nat),i<n→acc.length=A+i→L acc (i:Int)=L (acc++[f i]) ((i+1:Nat):Int)):
  ∀(k i:Nat) (acc:List α),i+k=n→acc.length=A+i→L acc (i:Int)=L (acc++bc f i k) (n:Int):=by
 intro k
 induction k with
 |zero=>
   intro i acc h _;have:i=n:=by omega
   subst this;rw[bc,List.append_nil]
 |succ k ih=>
  intro i acc h ha
  rw[hstep acc i (by omega) ha,ih (i+1) _ (by omega) (by simp;omega),bc,List.append_assoc];rfl
theorem ck {α β:Type} {L:List α→Int→Option β} (f:Nat→α) (n:Nat) (acc:List α) (hstep:∀acc' (i:Nat),i<n→acc'.length=acc.length+i→L acc' (i:Int)=L (acc'++[f i]) ((i+1:Nat):Int)):L acc 0=L (acc++bc f 0 n) (n:Int):=
 Gt L f n acc.length hstep n 0 acc (by omega) (by omega)
def aZ (c:Nat→Int):Nat→Nat→Int×Int
 |_,0=>(0,0)
 |i,k+1=>if c i=0 then aZ c (i+1) k else((i:Int),c i)
theorem Cz (L:Int→Option (Int×Int)) (c:Nat→Int) (n:Nat) (hstep:∀i:Nat,i<n→L (i:Int)=if c i=0 then L ((i+1:Nat):Int)else some ((i:Int),c i)):
  ∀k i:Nat,i+k=n→L (i:Int)=if(aZ c i k).2=0 then L (n:Int)else some (aZ c i k):=by
 intro k
 induction k with
 |zero=>
   intro i h;have:i=n:=by omega
   subst this;rfl
 |succ k ih=>
  intro i h
  rw[hstep i (by omega),ih (i+1) (by omega),aZ]
  by_cases h:c i=0
  ·rw[if_pos h,if_pos h]
  ·rw[if_neg h,if_neg h,if_neg h]
theorem dd {L:Int→Option (Int×Int)} (c:Nat→Int) (n:Nat) (hstep:∀i:Nat,i<n→L (i:Int)=if c i=0 then L ((i+1:Nat):Int)else some ((i:Int),c i)):L 0=if(aZ c 0 n).2=0 then L (n:Int)else some (aZ c 0 n):=
 Cz L c n hstep n 0 (by omega)
theorem de (c:Nat→Int):∀k i,(aZ c i k).2=0↔∀j,i≤j→j<i+k→c j=0
 |0,i=>by simp[aZ];omega
 |k+1,i=>by
  rw[aZ]
  by_cases h:c i=0
  ·rw[if_pos h,de c k (i+1)]
   refine⟨fun H j h1 h2=> ?_,fun H j h1 h2=>H j (by omega) (by omega)⟩
   by_cases e:j=i
   ·rw[e];exact h
   ·exact H j (by omega) (by omega)
  ·rw[if_neg h]
   exact⟨fun H=>absurd H h,fun H=>absurd (H i (Nat.le_refl _) (by omega)) h⟩
abbrev aA:Ty:= .pair .str (.pair .bool (.pair (.int .i64) .str))
abbrev O5:Type:=ByteArray×Bool×Int×ByteArray
abbrev aX:Ty:= .pair .str .str
abbrev PY:Type:=ByteArray×ByteArray
abbrev bT:Ty:= .pair (.int .i64) (.pair (.int .i64) (.pair (.int .i64) (.pair .str (.int .i64))))
abbrev IL:Type:=Int×Int×Int×ByteArray×Int
abbrev dq:Ty:= .pair (.int .i64) .bool
abbrev Sy:Type:=Int×Bool
abbrev bn:Type:=ByteArray×Int×List O5×List PY×List IL×List Sy
structure ObjSz (o:bn):Prop where
 f:o.2.2.1.length≤4
 d:o.2.2.2.1.length≤4
 r:o.2.2.2.2.1.length≤32
 s:o.2.2.2.2.2.length≤4
def cx (o:bn):List ByteArray:=bc (fun i=>(rd (τ:=aA) o.2.2.1 (i:Int)).1) 0 o.2.2.1.length++bc (fun i=>(rd (τ:=aX) o.2.2.2.1 (i:Int)).1) 0 o.2.2.2.1.length
def fm (o:bn):List Int:=bc (fun i=>IntKind.wrap .i64 (((rd (τ:=aA) o.2.2.1 (i:Int)).2.2.2.size:Int).tdiv 4)) 0 o.2.2.1.length++bc (fun i=>IntKind.wrap .i64 (((rd (τ:=aX) o.2.2.2.1 (i:Int)).2.size:Int).tdiv 8)) 0 o.2.2.2.1.length
theorem gP (n:Nat) (h:n≤4096):ar n 16=true:=by simp[ar];omega
theorem kL (n:Nat) (h:n≤4096):ar n 8=true:=by simp[ar];omega
theorem CA (o:bn) (hz:ObjSz o) (u:Nat) (hu:u≤(cx o).length):qR o (u:Int)=some ((cx o).take u):=by
 obtain⟨hf,hd,_,_⟩:=hz
 rw[Mn]
 rw[ck (L:=fun acc i=>qR.a (u:Int) o acc o.2.2.1 (o.2.2.1.length:Int) i) (fun i=>(rd (τ:=aA) o.2.2.1 (i:Int)).1) o.2.2.1.length [] fun acc i hi ha=> ?_]
 ·rw[qR.a_eq,ab,decide_eq_false (Nat.lt_irrefl _),cond_false,List.nil_append]
  rw[ck (L:=fun acc i=>qR.b (u:Int) acc o.2.2.2.1 (o.2.2.2.1.length:Int) i) (fun i=>(rd (τ:=aX) o.2.2.2.1 (i:Int)).1) o.2.2.2.1.length (bc (fun i=>(rd (τ:=aA) o.2.2.1 (i:Int)).1) 0 o.2.2.1.length) fun acc i hi ha=> ?_]
  ·show qR.b (u:Int) (cx o) o.2.2.2.1 (o.2.2.2.1.length:Int) (o.2.2.2.1.length:Int)=_
   rw[qR.b_eq,ab,decide_eq_false (Nat.lt_irrefl _),cond_false,iX u _ hu,cond_true,iW]
  ·rw[az]at ha
   show qR.b (u:Int) acc o.2.2.2.1 (o.2.2.2.1.length:Int) (i:Int)=_
   rw[qR.b_eq,ab,ae,decide_eq_true hi,ah i _ hi (by omega),gP _ (by simp;omega)];rfl
 ·show qR.a (u:Int) o acc o.2.2.1 (o.2.2.1.length:Int) (i:Int)=_
  rw[qR.a_eq,ab,ae,decide_eq_true hi,ah i _ hi (by omega),gP _ (by simp at ha⊢;omega)];rfl
theorem CB (o:bn) (hz:ObjSz o):rF o=some (fm o):=by
 obtain⟨hf,hd,_,_⟩:=hz
 rw[Mp]
 rw[ck (L:=fun acc i=>rF.a o acc o.2.2.1 (o.2.2.1.length:Int) i) (fun i=>IntKind.wrap .i64 (((rd (τ:=aA) o.2.2.1 (i:Int)).2.2.2.size:Int).tdiv 4)) o.2.2.1.length [] fun acc i hi ha=> ?_]
 ·rw[rF.a_eq,ab,decide_eq_false (Nat.lt_irrefl _),cond_false,List.nil_append]
  rw[ck (L:=fun acc i=>rF.b acc o.2.2.2.1 (o.2.2.2.1.length:Int) i) (fun i=>IntKind.wrap .i64 (((rd (τ:=aX) o.2.2.2.1 (i:Int)).2.size:Int).tdiv 8)) o.2.2.2.1.length (bc (fun i=>IntKind.wrap .i64 (((rd (τ:=aA) o.2.2.1 (i:Int)).2.2.2.size:Int).tdiv 4)) 0 o.2.2.1.length) fun acc i hi ha=> ?_]
  ·rw[rF.b_eq,ab,decide_eq_false (Nat.lt_irrefl _),cond_false];rfl
  ·rw[az]at ha
   show rF.b acc o.2.2.2.1 (o.2.2.2.1.length:Int) (i:Int)=_
   rw[rF.b_eq,ab,ae,decide_eq_true hi,ah i _ hi (by omega),kL _ (by simp;omega)];rfl
 ·show rF.a o acc o.2.2.1 (o.2.2.1.length:Int) (i:Int)=_
  rw[rF.a_eq,ab,ae,decide_eq_true hi,ah i _ hi (by omega),kL _ (by simp at ha⊢;omega)];rfl
def gQ (l:List ByteArray) (n:ByteArray):Bool:=l.any fun y=>decide (y=n)
theorem jM {l:List ByteArray} {n:ByteArray}:gQ l n=true↔n∈l:=by simp[gQ]
theorem y6 (l:List ByteArray) (n:ByteArray) (hl:l.length≤4096):RG l n=some (gQ l n):=by
 rw[Mm,Ml,dc (L:=G8.a l n (l.length:Int)) (fun i=>decide (n=rd (τ:= .str) l (i:Int))) l.length ?_ fun i hi=> ?_]
 ·simp only[Option.bind_some]
  rw[qB]
  congr 1
  rw[Bool.eq_iff_iff,jL,jM,List.mem_iff_getElem]
  refine⟨fun⟨j,h1,h2,h3⟩=>⟨j,by omega, ?_⟩,fun⟨j,h1,h2⟩=>⟨j,by omega,by omega, ?_⟩⟩
  ·rw[decide_eq_true_iff,aM (τ:= .str) l j (by omega)]at h3;exact h3.symm
  ·rw[decide_eq_true_iff,aM (τ:= .str) l j h1];exact h2.symm
 ·rw[G8.a_eq,ab];simp
 ·rw[G8.a_eq,ab,ae,decide_eq_true hi,ah i _ hi (by omega),aL];rfl
theorem cy {α:Type} (f:Nat→α) (x:α):∀k i,x∈bc f i k↔∃j,i≤j∧j<i+k∧f j=x
 |0,i=>by simp[bc];omega
 |k+1,i=>by
  rw[bc,List.mem_cons,cy f x k (i+1)]
  constructor
  ·rintro(h|⟨j,h1,h2,h3⟩)
   ·exact⟨i,Nat.le_refl _,by omega,h.symm⟩
   ·exact⟨j,by omega,by omega,h3⟩
  ·rintro⟨j,h1,h2,h3⟩
   by_cases e:j=i
   ·subst e;exact .inl h3.symm
   ·exact .inr ⟨j,by omega,by omega,h3⟩
theorem m6 {α:Type} (f:Nat→α):∀k i n,(bc f i k).take n=bc f i (min n k)
 |0,i,n=>by simp[bc]
 |k+1,i,0=>by simp[bc]
 |k+1,i,n+1=>by rw[bc,List.take_succ_cons,m6 f k (i+1) n,Nat.add_min_add_right,bc]
theorem mc (o:bn) (i:Nat) (hi:i≤o.2.2.1.length):(cx o).take i=bc (fun i=>(rd (τ:=aA) o.2.2.1 (i:Int)).1) 0 i:=by
 unfold cx
 rw[List.take_append_of_le_length (by rw[az];exact hi),m6,Nat.min_eq_left hi]
theorem iY (o:bn) (i:Nat) (hi:i≤o.2.2.2.1.length):(cx o).take (o.2.2.1.length+i)=bc (fun i=>(rd (τ:=aA) o.2.2.1 (i:Int)).1) 0 o.2.2.1.length++bc (fun i=>(rd (τ:=aX) o.2.2.2.1 (i:Int)).1) 0 i:=by
 unfold cx
 rw[List.take_append,az,List.take_of_length_le (by rw[az];omega),m6,show o.2.2.1.length+i-o.2.2.1.length=i by omega,Nat.min_eq_left hi]
theorem m7 (o:bn):(cx o).length=o.2.2.1.length+o.2.2.2.1.length:=by unfold cx;rw[List.length_append,az,az]
theorem m8 (f:Nat→ByteArray) (n:ByteArray) (k:Nat):gQ (bc f 0 k) n=fA (fun j=>decide (f j=n)) 0 k:=by
 rw[Bool.eq_iff_iff,jM,cy,jL];simp
theorem qC (a b:List ByteArray) (n:ByteArray):gQ (a++b) n=(gQ a n||gQ b n):=by simp[gQ]
theorem qD (c:Nat→Int):∀k i,(aZ c i k).2=0→aZ c i k=(0,0)
 |0,_,_=>rfl
 |k+1,i,h=>by
  rw[aZ]at h⊢
  by_cases e:c i=0
  ·rw[if_pos e]at h⊢;exact qD c k (i+1) h
  ·rw[if_neg e]at h;exact absurd h e
theorem jN (c:Nat→Int) (i k:Nat):(if(aZ c i k).2=0 then some ((0,0):Int×Int)else some (aZ c i k))=some (aZ c i k):=by
 by_cases h:(aZ c i k).2=0
 ·rw[if_pos h,qD c k i h]
 ·rw[if_neg h]
noncomputable def md (o:bn) (i:Nat):Int:=
 if bW (rd (τ:=aA) o.2.2.1 (i:Int)).1=false then 3 else if gQ ((cx o).take i) (rd (τ:=aA) o.2.2.1 (i:Int)).1=true then 24
 else if dv (rd (τ:=aA) o.2.2.1 (i:Int)).2.2.1=false then 17 else if bg (rd (τ:=aA) o.2.2.1 (i:Int)).2.2.2.size=false then 8 else 0
def qE (n:Nat):Bool:=cM (n:Int) 8 64&&decide ((n:Int).tmod 8=0)
noncomputable def me (o:bn) (i:Nat):Int:=
 if bW (rd (τ:=aX) o.2.2.2.1 (i:Int)).1=false then 3 else if gQ ((cx o).take (o.2.2.1.length+i)) (rd (τ:=aX) o.2.2.2.1 (i:Int)).1=true then 24
 else if qE (rd (τ:=aX) o.2.2.2.1 (i:Int)).2.size=false then 8 else 0
theorem mf (o:bn) (hz:ObjSz o) (n:ByteArray) (u:Nat) (hu:u≤(cx o).length):Qu o n (u:Int)=some (if bW n=false then 3 else if gQ ((cx o).take u) n=true then 24 else 0):=by
 have:=hz.f;have:=hz.d;have:=m7 o
 rw[Mo,(db _).1,CA o hz u hu]
 simp only[Option.bind_some]
 rw[y6 _ _ (by simp;omega)]
 cases bW n<;>cases gQ ((cx o).take u) n<;>rfl
theorem Gu (t:ByteArray):Rp t=some (bg t.size):=by
 rw[Ko]
 unfold bg ci
 cases decide ((t.size:Int).tmod 4=0)<;>cases decide ((t.size:Int)≥20)<;>cases decide ((t.size:Int)≤256)<;>rfl
theorem CC (o:bn) (hz:ObjSz o):gT.a o o.2.2.1 (o.2.2.1.length:Int) 0=if(aZ (md o) 0 o.2.2.1.length).2=0 then gT.b o o.2.2.2.1 (o.2.2.2.1.length:Int) 0 else some (aZ (md o) 0 o.2.2.1.length):=by
 have:=hz.f
 rw[dd (L:=gT.a o o.2.2.1 (o.2.2.1.length:Int)) (md o) o.2.2.1.length fun i hi=> ?_]
 ·rw[gT.a_eq,ab,decide_eq_false (Nat.lt_irrefl _),cond_false]
 ·rw[gT.a_eq,ab,ae,decide_eq_true hi,ah i _ hi (by omega),mf o hz _ i (by rw[m7];omega),(eI _).1,iV]
  unfold md
  simp only[cond_true,Option.bind_some]
  cases bW (rd (τ:=aA) o.2.2.1 (i:Int)).1 with
  |false=>rfl
  |true=>
   cases gQ ((cx o).take i) (rd (τ:=aA) o.2.2.1 (i:Int)).1 with
   |true=>rfl
   |false=>cases dv (rd (τ:=aA) o.2.2.1 (i:Int)).2.2.1<;>cases bg (rd (τ:=aA) o.2.2.1 (i:Int)).2.2.2.size<;>rfl
theorem CD (o:bn) (hz:ObjSz o):gT.b o o.2.2.2.1 (o.2.2.2.1.length:Int) 0=if(aZ (me o) 0 o.2.2.2.1.length).2=0 then gT.c o (o.2.2.2.2.1.length:Int) 0 else some (aZ (me o) 0 o.2.2.2.1.length):=by
 have h1:=hz.f
 have h2:=hz.d
 rw[dd (L:=gT.b o o.2.2.2.1 (o.2.2.2.1.length:Int)) (me o) o.2.2.2.1.length fun i hi=> ?_]
 ·rw[gT.b_eq,ab,decide_eq_false (Nat.lt_irrefl _),cond_false]
 ·rw[gT.b_eq,ab,ae,decide_eq_true hi,ah i _ hi (by omega),aH (n:=(o.2.2.1.length:Int)+(i:Int)) (by omega) (by omega),←Int.natCast_add,mf o hz _ (o.2.2.1.length+i) (by rw[m7];omega),(bp _ _ _).1]
  unfold me qE
  simp only[cond_true,Option.bind_some]
  cases bW (rd (τ:=aX) o.2.2.2.1 (i:Int)).1 with
  |false=>rfl
  |true=>
   cases gQ ((cx o).take (o.2.2.1.length+i)) (rd (τ:=aX) o.2.2.2.1 (i:Int)).1 with
   |true=>rfl
   |false=>cases cM ((rd (τ:=aX) o.2.2.2.1 (i:Int)).2.size:Int) 8 64<;>cases decide (((rd (τ:=aX) o.2.2.2.1 (i:Int)).2.size:Int).tmod 8=0)<;>rfl
theorem CE (o:bn) (hz:ObjSz o):uq o=some (aZ (md o) 0 o.2.2.1.length):=by
 have h1:=hz.f
 rw[Kp,dd (L:=uq.a o) (md o) o.2.2.1.length fun i hi=> ?_]
 ·rw[uq.a_eq,ab,decide_eq_false (Nat.lt_irrefl _),cond_false]
  exact jN _ _ _
 ·rw[uq.a_eq,ab,ae,decide_eq_true hi,(db _).2]
  unfold md
  simp only[cond_true,Option.bind_some]
  cases bW (rd (τ:=aA) o.2.2.1 (i:Int)).1 with
  |false=>rfl
  |true=>
   rw[show(!true)=false from rfl,cond_false,dW (L:=uq.b o (i:Int) (rd (τ:=aA) o.2.2.1 (i:Int))) (fun j=>decide ((rd (τ:=aA) o.2.2.1 (j:Int)).1=(rd (τ:=aA) o.2.2.1 (i:Int)).1)) i (some ((i:Int),24)) fun j hj=> ?_]
   ·rw[mc o i (by omega),m8]
    cases fA (fun j=>decide ((rd (τ:=aA) o.2.2.1 (j:Int)).1=(rd (τ:=aA) o.2.2.1 (i:Int)).1)) 0 i with
    |true=>rfl
    |false=>
     rw[uq.b_eq,ab,decide_eq_false (Nat.lt_irrefl _),cond_false,cond_false,(eI _).2,Gu,ah i _ hi (by omega)]
     simp only[Option.bind_some]
     cases dv (rd (τ:=aA) o.2.2.1 (i:Int)).2.2.1<;>cases bg (rd (τ:=aA) o.2.2.1 (i:Int)).2.2.2.size<;>rfl
   ·rw[uq.b_eq,ab,ae,decide_eq_true hj,decide_eq_true (show j<o.2.2.1.length by omega),ah j _ hj (by omega),aL];rfl
theorem CF (o:bn) (hz:ObjSz o):nc o=some (aZ (me o) 0 o.2.2.2.1.length):=by
 have h1:=hz.f
 have h2:=hz.d
 rw[Kq,dd (L:=nc.a o) (me o) o.2.2.2.1.length fun i hi=> ?_]
 ·rw[nc.a_eq,ab,decide_eq_false (Nat.lt_irrefl _),cond_false]
  exact jN _ _ _
 ·rw[nc.a_eq,ab,ae,decide_eq_true hi,(db _).2]
  unfold me qE
  simp only[cond_true,Option.bind_some]
  cases bW (rd (τ:=aX) o.2.2.2.1 (i:Int)).1 with
  |false=>rfl
  |true=>
   rw[show(!true)=false from rfl,cond_false,dW (L:=nc.b o (i:Int) (rd (τ:=aX) o.2.2.2.1 (i:Int))) (fun j=>decide ((rd (τ:=aA) o.2.2.1 (j:Int)).1=(rd (τ:=aX) o.2.2.2.1 (i:Int)).1)) o.2.2.1.length (some ((i:Int),24)) fun j hj=> ?_]
   ·rw[iY o i (by omega),qC,m8,m8]
    cases fA (fun j=>decide ((rd (τ:=aA) o.2.2.1 (j:Int)).1=(rd (τ:=aX) o.2.2.2.1 (i:Int)).1)) 0 o.2.2.1.length with
    |true=>rfl
    |false=>
     rw[nc.b_eq,ab,decide_eq_false (Nat.lt_irrefl _),cond_false,cond_false,dW (L:=nc.c o (i:Int) (rd (τ:=aX) o.2.2.2.1 (i:Int))) (fun j=>decide ((rd (τ:=aX) o.2.2.2.1 (j:Int)).1=(rd (τ:=aX) o.2.2.2.1 (i:Int)).1)) i (some ((i:Int),24)) fun j hj=> ?_]
     ·cases fA (fun j=>decide ((rd (τ:=aX) o.2.2.2.1 (j:Int)).1=(rd (τ:=aX) o.2.2.2.1 (i:Int)).1)) 0 i with
      |true=>rfl
      |false=>
       rw[nc.c_eq,ab,decide_eq_false (Nat.lt_irrefl _),cond_false,cond_false,ah i _ hi (by omega)]
       unfold cM
       generalize (rd (τ:=aX) o.2.2.2.1 (i:Int)).2.size=n
       rw[show decide ((n:Int)<8)= !decide (8≤(n:Int)) by rw[←decide_not];congr 1;apply propext;omega,show decide ((n:Int)>64)= !decide ((n:Int)≤64) by rw[←decide_not];congr 1;apply propext;omega]
       cases decide ((n:Int).tmod 8=0)<;>cases decide (8≤(n:Int))<;>cases decide ((n:Int)≤64)<;>rfl
     ·rw[nc.c_eq,ab,ae,decide_eq_true hj,decide_eq_true (show j<o.2.2.2.1.length by omega),ah j _ hj (by omega),aL];rfl
   ·rw[nc.b_eq,ab,ae,decide_eq_true hj,ah j _ hj (by omega),aL];rfl
def mg (a b c d:Int):Bool:=if a=c then decide (b<d)else decide (a<c)
def et (o:bn) (u:Int):Int:=
 if 0≤u∧u< (o.2.2.1.length:Int)then((rd (τ:=aA) o.2.2.1 u).2.2.2.size:Int).tdiv 4
 else if(o.2.2.1.length:Int)≤u∧u< (o.2.2.1.length:Int)+(o.2.2.2.1.length:Int)then((rd (τ:=aX) o.2.2.2.1 (u-(o.2.2.1.length:Int))).2.size:Int).tdiv 8 else-1
structure UnitSz (o:bn):Prop extends ObjSz o where
 fs:∀i,i<o.2.2.1.length→(rd (τ:=aA) o.2.2.1 (i:Int)).2.2.2.size≤256
 ds:∀i,i<o.2.2.2.1.length→(rd (τ:=aX) o.2.2.2.1 (i:Int)).2.size≤64
theorem f5 {α:Type} (f:Nat→α):∀k i j (h:j< (bc f i k).length),(bc f i k)[j]=f (i+j)
 |0,_,_,h=>by simp[bc]at h
 |k+1,i,0,_=>by simp[bc]
 |k+1,i,j+1,h=>by
  have:=f5 f k (i+1) j (by rw[az]at h⊢;omega)
  simp only[bc,List.getElem_cons_succ]
  rw[this];congr 1;omega
theorem Ir (n k:Nat) (h:n≤4096):IntKind.wrap .i64 ((n:Int).tdiv (k:Int))=(n:Int).tdiv (k:Int):=by
 rw[Int.tdiv_eq_ediv_of_nonneg (by omega)]
 have h1:0≤(n:Int)/(k:Int):=Int.ediv_nonneg (by omega) (by omega)
 have h2:(n:Int)/(k:Int)≤(n:Int):=Int.ediv_le_self _ (by omega)
 exact aH (by omega) (by omega)
theorem sW (o:bn):(fm o).length=o.2.2.1.length+o.2.2.2.1.length:=by unfold fm;rw[List.length_append,az,az]
theorem Gw (o:bn) (hz:UnitSz o) (u:Nat) (hu:u<o.2.2.1.length+o.2.2.2.1.length):rd (τ:= .int .i64) (fm o) (u:Int)=et o (u:Int):=by
 unfold et
 have hl:=sW o
 rw[aM (τ:= .int .i64) (fm o) u (by omega)]
 by_cases h:u<o.2.2.1.length
 ·rw[if_pos ⟨by omega,by omega⟩]
  have:(fm o)[u]'(by omega)=IntKind.wrap .i64 (((rd (τ:=aA) o.2.2.1 ((0+u:Nat):Int)).2.2.2.size:Int).tdiv 4):=by
   unfold fm
   rw[List.getElem_append_left (by rw[az];exact h),f5]
  rw[this,Nat.zero_add]
  exact Ir _ 4 (by have:=hz.fs u h;omega)
 ·rw[if_neg (by omega),if_pos ⟨by omega,by omega⟩]
  have:(fm o)[u]'(by omega)=IntKind.wrap .i64 (((rd (τ:=aX) o.2.2.2.1 ((0+(u-(bc (fun i=>IntKind.wrap .i64 (((rd (τ:=aA) o.2.2.1 (i:Int)).2.2.2.size:Int).tdiv 4)) 0 o.2.2.1.length).length):Nat):Int)).2.size:Int).tdiv 8):=by
   unfold fm
   rw[List.getElem_append_right (by rw[az];omega),f5]
  rw[az]at this
  rw[this,Nat.zero_add,show(u:Int)-(o.2.2.1.length:Int)=((u-o.2.2.1.length:Nat):Int) by omega]
  exact Ir _ 8 (by have:=hz.ds (u-o.2.2.1.length) (by omega);omega)
theorem wM (o:bn) (hz:UnitSz o) (u:Int): -1≤et o u∧et o u≤256:=by
 unfold et
 split
 ·rename_i h
  have:=hz.fs u.toNat (by omega)
  rw[show((u.toNat:Nat):Int)=u by omega]at this
  rw[Int.tdiv_eq_ediv_of_nonneg (by omega)]
  omega
 ·split
  ·rename_i h
   have:=hz.ds (u-(o.2.2.1.length:Int)).toNat (by omega)
   rw[show(((u-(o.2.2.1.length:Int)).toNat:Nat):Int)=u-(o.2.2.1.length:Int) by omega]at this
   rw[Int.tdiv_eq_ediv_of_nonneg (by omega)]
   omega
  ·omega
theorem CG (o:bn) (hz:UnitSz o) (u:Int) (hu: -9223372036854775808≤u∧u≤9223372036854775807):P2 o u=some (et o u):=by
 rw[Kr]
 have h1:=hz.f
 have h2:=hz.d
 unfold et
 by_cases h:0≤u∧u< (o.2.2.1.length:Int)
 ·have e1:decide (u≥0)=true:=decide_eq_true h.1
  have e2:decide (u< (o.2.2.1.length:Int))=true:=decide_eq_true h.2
  simp only[av,e1,e2,cond_true,inL_true h.1 h.2,if_pos h]
  have:=hz.fs u.toNat (by omega)
  rw[show((u.toNat:Nat):Int)=u by omega]at this
  rw[show(4:Int)=((4:Nat):Int) from rfl,Ir _ 4 (by omega)]
 ·have e0:(decide (u≥0)&&decide (u< (o.2.2.1.length:Int)))=false:=by simp;omega
  simp only[av,if_neg h]
  generalize decide (u≥0)=b0 at*
  generalize decide (u< (o.2.2.1.length:Int))=b1 at*
  by_cases h3:(o.2.2.1.length:Int)≤u
  ·rw[decide_eq_true (show u≥(o.2.2.1.length:Int) from h3),aH (n:=u-(o.2.2.1.length:Int)) (by omega) (by omega)]
   by_cases h4:u< (o.2.2.1.length:Int)+(o.2.2.2.1.length:Int)
   ·rw[if_pos ⟨h3,h4⟩,decide_eq_true (show u-(o.2.2.1.length:Int)< (o.2.2.2.1.length:Int) by omega),inL_true (i:=u-(o.2.2.1.length:Int)) (n:=o.2.2.2.1.length) (by omega) (by omega)]
    have:=hz.ds (u-(o.2.2.1.length:Int)).toNat (by omega)
    rw[show(((u-(o.2.2.1.length:Int)).toNat:Nat):Int)=u-(o.2.2.1.length:Int) by omega]at this
    rw[show(8:Int)=((8:Nat):Int) from rfl,Ir _ 8 (by omega)]
    cases b0<;>cases b1<;>first|rfl|(exact absurd e0 (by decide))
   ·rw[if_neg (by omega),decide_eq_false (show¬u-(o.2.2.1.length:Int)< (o.2.2.2.1.length:Int) by omega)]
    cases b0<;>cases b1<;>first|rfl|(exact absurd e0 (by decide))
  ·rw[decide_eq_false (show¬u≥(o.2.2.1.length:Int) from h3),if_neg (by omega)]
   cases b0<;>cases b1<;>first|rfl|(exact absurd e0 (by decide))
def CZ (n:Int):Prop:= -9223372036854775808≤n∧n≤9223372036854775807
def sX (o:bn):Prop:=∀k,k<o.2.2.2.2.1.length→CZ (rd (τ:=bT) o.2.2.2.2.1 (k:Int)).1
def iv (o:bn) (r:IL):Bool:=cM r.1 0 ((o.2.2.1.length:Int)+(o.2.2.2.1.length:Int)-1)&&cM r.2.1 0 (et o r.1-1)
noncomputable def lm (o:bn) (k:Nat):Int:=
 if iv o (rd (τ:=bT) o.2.2.2.2.1 (k:Int))=false then 4
 else if(cM (rd (τ:=bT) o.2.2.2.2.1 (k:Int)).2.2.1 1 9&&(decide ((rd (τ:=bT) o.2.2.2.2.1 (k:Int)).2.2.1=9)==decide ((rd (τ:=bT) o.2.2.2.2.1 (k:Int)).1≥(o.2.2.1.length:Int))))=false then 26
 else if bW (rd (τ:=bT) o.2.2.2.2.1 (k:Int)).2.2.2.1=false then 3
 else if cM (rd (τ:=bT) o.2.2.2.2.1 (k:Int)).2.2.2.2 (-2147483648) 2147483647=false then 4
 else if k=0 then 0
 else if mg (rd (τ:=bT) o.2.2.2.2.1 ((k-1:Nat):Int)).1 (rd (τ:=bT) o.2.2.2.2.1 ((k-1:Nat):Int)).2.1 (rd (τ:=bT) o.2.2.2.2.1 (k:Int)).1 (rd (τ:=bT) o.2.2.2.2.1 (k:Int)).2.1=false then 24 else 0
theorem y7 (pu pa u a:Int):(bif decide (u<pu)then some (24:Int)else bif decide (u=pu)then bif decide (a≤pa)then some 24 else some 0 else some 0)=some (if mg pu pa u a=false then 24 else 0):=by
 rcases Int.lt_trichotomy u pu with h|h|h
 ·rw[decide_eq_true h,show mg pu pa u a=false by unfold mg;rw[if_neg (show¬pu=u by omega)];exact decide_eq_false (by omega)];rfl
 ·subst h
  rw[decide_eq_false (by omega),decide_eq_true rfl,cond_false,cond_true]
  have:mg u pa u a=decide (pa<a):=by unfold mg;rw[if_pos rfl]
  rw[this]
  by_cases h:a≤pa
  ·rw[decide_eq_true h,decide_eq_false (show¬pa<a by omega)];rfl
  ·rw[decide_eq_false h,decide_eq_true (show pa<a by omega)];rfl
 ·rw[decide_eq_false (by omega),decide_eq_false (by omega),show mg pu pa u a=true by unfold mg;rw[if_neg (show¬pu=u by omega)];exact decide_eq_true (by omega)];rfl
theorem y8 (o:bn) (hz:UnitSz o) (r:IL) {β:Type} (K:Bool→Option β):
  ((gg r.1 0 (IntKind.wrap .i64 (((fm o).length:Int)-1))).bind fun r2=>bif (!r2)then K true else(bif (ao r.1 (fm o).length)then((gg r.2.1 0 (IntKind.wrap .i64 ((rd (τ:= .int .i64) (fm o) r.1)-1))).bind fun r3=>K (!r3))else none))=K (!iv o r):=by
 have h1:=hz.f
 have h2:=hz.d
 rw[sW,aH (n:=((o.2.2.1.length+o.2.2.2.1.length:Nat):Int)-1) (by omega) (by omega),(bp _ _ _).1,(bp _ _ _).1]
 simp only[Option.bind_some]
 unfold iv
 rw[Int.natCast_add]
 by_cases h:0≤r.1∧r.1≤(o.2.2.1.length:Int)+(o.2.2.2.1.length:Int)-1
 ·rw[bd.2 h,inL_true (by omega) (by omega)]
  have hu:=Gw o hz r.1.toNat (by omega)
  rw[show((r.1.toNat:Nat):Int)=r.1 by omega]at hu
  have hr:=wM o hz r.1
  simp only[Bool.not_true,cond_false,cond_true,Bool.true_and]
  rw[hu,aH (n:=et o r.1-1) (by omega) (by omega)]
 ·rw[show cM r.1 0 ((o.2.2.1.length:Int)+(o.2.2.2.1.length:Int)-1)=false by cases h5:cM r.1 0 ((o.2.2.1.length:Int)+(o.2.2.2.1.length:Int)-1);rfl;exact absurd (bd.1 h5) h];rfl
theorem y9 (o:bn) (hz:UnitSz o) (r:IL) (hr:CZ r.1) {β:Type} (K:Bool→Option β):
  (bif decide (r.2.1<0)then K true else((P2 o r.1).bind fun r1=>K (decide (r.2.1≥r1))))=K (!iv o r):=by
 rw[CG o hz _ hr]
 simp only[Option.bind_some]
 have h1:=hz.f
 have h2:=hz.d
 have e:(decide (r.2.1<0)||decide (r.2.1≥et o r.1))= !iv o r:=by
  unfold iv
  rw[Bool.eq_iff_iff]
  simp only[Bool.or_eq_true,decide_eq_true_eq,Bool.not_eq_true',Bool.and_eq_false_imp,bd]
  constructor
  ·intro h h3
   cases h4:cM r.2.1 0 (et o r.1-1)with
   |false=>rfl
   |true=>rw[bd]at h4;omega
  ·intro h
   by_cases h3:0≤r.1∧r.1≤(o.2.2.1.length:Int)+(o.2.2.2.1.length:Int)-1
   ·have:=h h3
    by_cases h4:0≤r.2.1∧r.2.1≤et o r.1-1
    ·rw[bd.2 h4]at this;cases this
    ·omega
   ·have:et o r.1= -1:=by unfold et;rw[if_neg (by omega),if_neg (by omega)]
    omega
 rw[←e]
 cases decide (r.2.1<0)<;>rfl
theorem CH (o:bn) (hz:UnitSz o):gT.c o (o.2.2.2.2.1.length:Int) 0=if(aZ (lm o) 0 o.2.2.2.2.1.length).2=0 then gT.d o o.2.2.2.2.2 (o.2.2.2.2.2.length:Int) 0 else some (aZ (lm o) 0 o.2.2.2.2.1.length):=by
 have h3:=hz.r
 rw[dd (L:=gT.c o (o.2.2.2.2.1.length:Int)) (lm o) o.2.2.2.2.1.length fun i hi=> ?_]
 ·rw[gT.c_eq,ab,decide_eq_false (Nat.lt_irrefl _),cond_false]
 ·have e:RH o (i:Int)=some (lm o i):=by
   rw[Mq,ae,decide_eq_true hi,cond_true,CB o hz.toObjSz]
   simp only[Option.bind_some,av]
   rw[y8 o hz (rd (τ:=bT) o.2.2.2.2.1 (i:Int)) (fun r5=>bif r5 then some 4 else _)]
   unfold lm
   generalize hrel:iv o (rd (τ:=bT) o.2.2.2.2.1 (i:Int))=ra
   rw[(bp _ _ _).1,(bp _ _ _).1,(db _).1]
   simp only[Option.bind_some]
   cases ra with
   |false=>rfl
   |true=>
    generalize cM (rd (τ:=bT) o.2.2.2.2.1 (i:Int)).2.2.1 1 9=b1
    generalize (decide ((rd (τ:=bT) o.2.2.2.2.1 (i:Int)).2.2.1=9)==decide ((rd (τ:=bT) o.2.2.2.2.1 (i:Int)).1≥(o.2.2.1.length:Int)))=b2
    cases b1 with
    |false=>rfl
    |true=>
     cases b2 with
     |false=>rfl
     |true=>
      generalize bW (rd (τ:=bT) o.2.2.2.2.1 (i:Int)).2.2.2.1=b3
      generalize cM (rd (τ:=bT) o.2.2.2.2.1 (i:Int)).2.2.2.2 (-2147483648) 2147483647=b4
      cases b3 with
      |false=>rfl
      |true=>
       cases b4 with
       |false=>rfl
       |true=>
        by_cases h0:i=0
        ·rw[show decide ((i:Int)>0)=false by simp[h0],if_pos h0];rfl
        ·rw[show decide ((i:Int)>0)=true by simp;omega,if_neg h0,eW i (by omega) (by omega),ae,decide_eq_true (show i-1<o.2.2.2.2.1.length by omega),y7];rfl
  rw[gT.c_eq,ab,decide_eq_true hi,ah i _ hi (by omega),e]
  simp only[Option.bind_some,cond_true]
  by_cases h:lm o i=0
  ·rw[if_pos h,decide_eq_true h];rfl
  ·rw[if_neg h,decide_eq_false h];rfl
theorem CI (o:bn) (hz:UnitSz o) (hr:sX o):Dc o=some (aZ (lm o) 0 o.2.2.2.2.1.length):=by
 have h3:=hz.r
 rw[Ks,dd (L:=Dc.a o) (lm o) o.2.2.2.2.1.length fun i hi=> ?_]
 ·rw[Dc.a_eq,ab,decide_eq_false (Nat.lt_irrefl _),cond_false]
  exact jN _ _ _
 ·rw[Dc.a_eq,ab,ae,decide_eq_true hi,cond_true,cond_true]
  simp only[av]
  rw[y9 o hz (rd (τ:=bT) o.2.2.2.2.1 (i:Int)) (hr i hi) (fun r5=>bif r5 then some ((i:Int),4)else _)]
  unfold lm
  generalize hrel:iv o (rd (τ:=bT) o.2.2.2.2.1 (i:Int))=ra
  rw[(bp _ _ _).2,(bp _ _ _).2,(db _).2,ah i _ hi (by omega)]
  simp only[Option.bind_some]
  cases ra with
  |false=>rfl
  |true=>
   generalize cM (rd (τ:=bT) o.2.2.2.2.1 (i:Int)).2.2.1 1 9=b1
   generalize (decide ((rd (τ:=bT) o.2.2.2.2.1 (i:Int)).2.2.1=9)==decide ((rd (τ:=bT) o.2.2.2.2.1 (i:Int)).1≥(o.2.2.1.length:Int)))=b2
   cases b1 with
   |false=>rfl
   |true=>
    cases b2 with
    |false=>rfl
    |true=>
     generalize bW (rd (τ:=bT) o.2.2.2.2.1 (i:Int)).2.2.2.1=b3
     generalize cM (rd (τ:=bT) o.2.2.2.2.1 (i:Int)).2.2.2.2 (-2147483648) 2147483647=b4
     cases b3 with
     |false=>rfl
     |true=>
      cases b4 with
      |false=>rfl
      |true=>
       by_cases h0:i=0
       ·rw[show decide ((i:Int)>0)=false by simp[h0],if_pos h0];rfl
       ·rw[show decide ((i:Int)>0)=true by simp;omega,if_neg h0,eW i (by omega) (by omega),ae,decide_eq_true (show i-1<o.2.2.2.2.1.length by omega),sV]
        unfold mg
        simp only[Option.bind_some,cond_true,Bool.not_true,cond_false,Bool.and_self]
        generalize (if(rd (τ:=bT) o.2.2.2.2.1 ((i-1:Nat):Int)).1=(rd (τ:=bT) o.2.2.2.2.1 (i:Int)).1 then decide ((rd (τ:=bT) o.2.2.2.2.1 ((i-1:Nat):Int)).2.1< (rd (τ:=bT) o.2.2.2.2.1 (i:Int)).2.1)else decide ((rd (τ:=bT) o.2.2.2.2.1 ((i-1:Nat):Int)).1< (rd (τ:=bT) o.2.2.2.2.1 (i:Int)).1))=b5
        cases b5<;>rfl
def za (o:bn) (k:Nat):Int:=
 if cM (rd (τ:=dq) o.2.2.2.2.2 (k:Int)).1 0 255=false then 4 else if k=0 then 0
 else if decide ((rd (τ:=dq) o.2.2.2.2.2 (k:Int)).1≤(rd (τ:=dq) o.2.2.2.2.2 ((k-1:Nat):Int)).1)=true then 24 else 0
theorem CJ (o:bn) (hz:ObjSz o):gT.d o o.2.2.2.2.2 (o.2.2.2.2.2.length:Int) 0=some (aZ (za o) 0 o.2.2.2.2.2.length):=by
 have h3:=hz.s
 rw[dd (L:=gT.d o o.2.2.2.2.2 (o.2.2.2.2.2.length:Int)) (za o) o.2.2.2.2.2.length fun i hi=> ?_]
 ·rw[gT.d_eq,ab,decide_eq_false (Nat.lt_irrefl _),cond_false]
  exact jN _ _ _
 ·rw[gT.d_eq,ab,ae,decide_eq_true hi,ah i _ hi (by omega),(bp _ _ _).1]
  unfold za
  simp only[Option.bind_some,cond_true]
  by_cases h0:i=0
  ·rw[show decide ((i:Int)>0)=false by simp[h0],if_pos h0]
   cases cM (rd (τ:=dq) o.2.2.2.2.2 (i:Int)).1 0 255<;>rfl
  ·rw[show decide ((i:Int)>0)=true by simp;omega,if_neg h0,eW i (by omega) (by omega),ae,decide_eq_true (show i-1<o.2.2.2.2.2.length by omega)]
   cases cM (rd (τ:=dq) o.2.2.2.2.2 (i:Int)).1 0 255<;>cases decide ((rd (τ:=dq) o.2.2.2.2.2 (i:Int)).1≤(rd (τ:=dq) o.2.2.2.2.2 ((i-1:Nat):Int)).1)<;>rfl
theorem CK (o:bn) (hz:ObjSz o):Dd o=some (aZ (za o) 0 o.2.2.2.2.2.length):=by
 have h3:=hz.s
 rw[Kt,dd (L:=Dd.a o) (za o) o.2.2.2.2.2.length fun i hi=> ?_]
 ·rw[Dd.a_eq,ab,decide_eq_false (Nat.lt_irrefl _),cond_false]
  exact jN _ _ _
 ·rw[Dd.a_eq,ab,ae,decide_eq_true hi,ah i _ hi (by omega),(bp _ _ _).2]
  unfold za
  simp only[Option.bind_some,cond_true]
  by_cases h0:i=0
  ·rw[show decide ((i:Int)>0)=false by simp[h0],if_pos h0]
   cases cM (rd (τ:=dq) o.2.2.2.2.2 (i:Int)).1 0 255<;>rfl
  ·rw[show decide ((i:Int)>0)=true by simp;omega,if_neg h0,eW i (by omega) (by omega),ae,decide_eq_true (show i-1<o.2.2.2.2.2.length by omega)]
   cases cM (rd (τ:=dq) o.2.2.2.2.2 (i:Int)).1 0 255<;>cases decide ((rd (τ:=dq) o.2.2.2.2.2 (i:Int)).1≤(rd (τ:=dq) o.2.2.2.2.2 ((i-1:Nat):Int)).1)<;>rfl
noncomputable def sY (o:bn):Int×Int:=
 if bW o.1=false then(0,3)else if cM o.2.1 0 5=false then(0,27)else if o.2.2.1.length=0 then(0,5)
 else if¬(o.2.2.1.length≤4∧o.2.2.2.1.length≤4∧o.2.2.2.2.1.length≤32∧o.2.2.2.2.2.length≤4)then(0,6)
 else if(aZ (md o) 0 o.2.2.1.length).2≠0 then aZ (md o) 0 o.2.2.1.length
 else if(aZ (me o) 0 o.2.2.2.1.length).2≠0 then aZ (me o) 0 o.2.2.2.1.length
 else if(aZ (lm o) 0 o.2.2.2.2.1.length).2≠0 then aZ (lm o) 0 o.2.2.2.2.1.length
 else aZ (za o) 0 o.2.2.2.2.2.length
theorem wN {n:Nat} (h:bg n=true):n≤256:=by
 unfold bg at h
 cases h1:ci n with
 |false=>rw[h1]at h;cases h
 |true=>exact(fk h1).2
theorem iw {o:bn} {i:Nat} (h:md o i=0):bW (rd (τ:=aA) o.2.2.1 (i:Int)).1=true∧gQ ((cx o).take i) (rd (τ:=aA) o.2.2.1 (i:Int)).1=false∧dv (rd (τ:=aA) o.2.2.1 (i:Int)).2.2.1=true∧bg (rd (τ:=aA) o.2.2.1 (i:Int)).2.2.2.size=true:=by
 unfold md at h
 cases h1:bW (rd (τ:=aA) o.2.2.1 (i:Int)).1<;>cases h2:gQ ((cx o).take i) (rd (τ:=aA) o.2.2.1 (i:Int)).1<;>cases h3:dv (rd (τ:=aA) o.2.2.1 (i:Int)).2.2.1<;>cases h4:bg (rd (τ:=aA) o.2.2.1 (i:Int)).2.2.2.size<;>simp[h1,h2,h3,h4]at h⊢
theorem fD {o:bn} {i:Nat} (h:me o i=0):bW (rd (τ:=aX) o.2.2.2.1 (i:Int)).1=true∧gQ ((cx o).take (o.2.2.1.length+i)) (rd (τ:=aX) o.2.2.2.1 (i:Int)).1=false∧qE (rd (τ:=aX) o.2.2.2.1 (i:Int)).2.size=true:=by
 unfold me at h
 cases h1:bW (rd (τ:=aX) o.2.2.2.1 (i:Int)).1<;>cases h2:gQ ((cx o).take (o.2.2.1.length+i)) (rd (τ:=aX) o.2.2.2.1 (i:Int)).1<;>cases h4:qE (rd (τ:=aX) o.2.2.2.1 (i:Int)).2.size<;>simp[h1,h2,h4]at h⊢
theorem nJ {n:Nat} (h:qE n=true):8≤n∧n≤64∧n%8=0:=by
 unfold qE at h
 rw[Bool.and_eq_true,bd,decide_eq_true_eq,Int.tmod_eq_emod_of_nonneg (by omega)]at h
 omega
theorem sZ {o:bn} (hz:ObjSz o) (h1:(aZ (md o) 0 o.2.2.1.length).2=0) (h2:(aZ (me o) 0 o.2.2.2.1.length).2=0):UnitSz o:=
 ⟨hz,fun i hi=>wN (iw ((de _ _ _).1 h1 i (Nat.zero_le _) (by omega))).2.2.2,fun i hi=>(nJ (fD ((de _ _ _).1 h2 i (Nat.zero_le _) (by omega))).2.2).2.1⟩
theorem s7 (o:bn) (hr:sX o):gT o=some (sY o)∧Rq o=some (sY o):=by
 rw[Mr,Ku,(db _).1,(db _).2,(bp _ _ _).1,(bp _ _ _).2]
 unfold sY
 simp only[Option.bind_some,av]
 cases bW o.1 with
 |false=>exact⟨rfl,rfl⟩
 |true=>
  cases cM o.2.1 0 5 with
  |false=>exact⟨rfl,rfl⟩
  |true=>
   by_cases h0:o.2.2.1.length=0
   ·rw[if_pos h0,decide_eq_true (show(o.2.2.1.length:Int)=0 by omega)];exact⟨rfl,rfl⟩
   rw[if_neg h0,decide_eq_false (show¬(o.2.2.1.length:Int)=0 by omega)]
   rcases Classical.em (o.2.2.1.length≤4∧o.2.2.2.1.length≤4∧o.2.2.2.2.1.length≤32∧o.2.2.2.2.2.length≤4)with hz|hz
   ·rw[if_neg (not_not_intro hz),decide_eq_false (show¬(o.2.2.1.length:Int)>4 by omega),decide_eq_false (show¬(o.2.2.2.1.length:Int)>4 by omega),decide_eq_false (show¬(o.2.2.2.2.1.length:Int)>32 by omega),decide_eq_false (show¬(o.2.2.2.2.2.length:Int)>4 by omega)]
    have hz':ObjSz o:=⟨hz.1,hz.2.1,hz.2.2.1,hz.2.2.2⟩
    simp only[Bool.not_true,cond_false]
    rw[CC o hz',CE o hz']
    simp only[Option.bind_some]
    by_cases h1:(aZ (md o) 0 o.2.2.1.length).2=0
    ·rw[if_pos h1,if_neg (not_not_intro h1),decide_eq_true h1,CD o hz',CF o hz']
     simp only[Option.bind_some,Bool.not_true,cond_false]
     by_cases h2:(aZ (me o) 0 o.2.2.2.1.length).2=0
     ·have hu:=sZ hz' h1 h2
      rw[if_pos h2,if_neg (not_not_intro h2),decide_eq_true h2,CH o hu,CI o hu hr]
      simp only[Option.bind_some,Bool.not_true,cond_false]
      by_cases h3:(aZ (lm o) 0 o.2.2.2.2.1.length).2=0
      ·rw[if_pos h3,if_neg (not_not_intro h3),decide_eq_true h3,CJ o hz',CK o hz'];exact⟨rfl,rfl⟩
      ·rw[if_neg h3,if_pos h3,decide_eq_false h3];exact⟨rfl,rfl⟩
     ·rw[if_neg h2,if_pos h2,decide_eq_false h2];exact⟨rfl,rfl⟩
    ·rw[if_neg h1,if_pos h1,decide_eq_false h1];exact⟨rfl,rfl⟩
   ·rw[if_pos hz]
    have e:(decide ((o.2.2.1.length:Int)>4)||decide ((o.2.2.2.1.length:Int)>4)||decide ((o.2.2.2.2.1.length:Int)>32)||decide ((o.2.2.2.2.2.length:Int)>4))=true:=by simp;omega
    generalize decide ((o.2.2.1.length:Int)>4)=b1 at*
    generalize decide ((o.2.2.2.1.length:Int)>4)=b2 at*
    generalize decide ((o.2.2.2.2.1.length:Int)>32)=b3 at*
    generalize decide ((o.2.2.2.2.2.length:Int)>4)=b4 at*
    cases b1<;>cases b2<;>cases b3<;>cases b4<;>first|exact⟨rfl,rfl⟩|(exact absurd e (by decide))
noncomputable def m9 (o:bn):Bool:=decide ((sY o).2=0)
theorem iZ (o:bn) (hr:sX o):PP o=some (m9 o)∧Rr o=some (m9 o):=by
 rw[Ms,Kv,(s7 o hr).1,(s7 o hr).2];exact⟨rfl,rfl⟩
structure dX (o:bn):Prop extends UnitSz o where
 depth:0≤o.2.1∧o.2.1≤5
 pos:0<o.2.2.1.length
 fun_:∀i,i<o.2.2.1.length→md o i=0
 dat:∀i,i<o.2.2.2.1.length→me o i=0
 rel:∀i,i<o.2.2.2.2.1.length→lm o i=0
theorem jO {o:bn} (h:m9 o=true):dX o:=by
 unfold m9 at h
 rw[decide_eq_true_eq]at h
 unfold sY at h
 split at h
 ·cases h
 split at h
 ·cases h
 rename_i hn hd
 split at h
 ·cases h
 split at h
 ·cases h
 rename_i h0 hz
 have hz:=Classical.not_not.1 hz
 split at h
 ·rename_i h1;exact absurd h h1
 split at h
 ·rename_i h2;exact absurd h h2
 split at h
 ·rename_i h3;exact absurd h h3
 rename_i h1 h2 h3
 have h1:=Classical.not_not.1 h1
 have h2:=Classical.not_not.1 h2
 have h3:=Classical.not_not.1 h3
 have hz':ObjSz o:=⟨hz.1,hz.2.1,hz.2.2.1,hz.2.2.2⟩
 have hd:cM o.2.1 0 5=true:=by cases h4:cM o.2.1 0 5;exact absurd h4 hd;rfl
 exact⟨sZ hz' h1 h2,bd.1 hd,by omega,fun i hi=>(de _ _ _).1 h1 i (Nat.zero_le _) (by omega),fun i hi=>(de _ _ _).1 h2 i (Nat.zero_le _) (by omega),fun i hi=>(de _ _ _).1 h3 i (Nat.zero_le _) (by omega)⟩
theorem Gx (X:Nat) (h:X<2^64):X&&&(2^64-1-4095)=X/4096*4096:=by
 have e:(2^64-1-4095:Nat)=(2^52-1)*2^12:=by decide
 have e2:X/4096*4096=(X/2^12)*2^12:=by rfl
 rw[e,e2]
 apply Nat.eq_of_testBit_eq
 intro i
 rw[Nat.testBit_and,Nat.testBit_mul_two_pow,Nat.testBit_mul_two_pow,Nat.testBit_two_pow_sub_one,Nat.testBit_div_two_pow]
 by_cases h1:12≤i
 ·rw[show i-12+12=i by omega]
  by_cases h2:i<64
  ·simp[h1];omega
  ·have:X.testBit i=false:=Nat.testBit_lt_two_pow (Nat.lt_of_lt_of_le h (Nat.pow_le_pow_right (by decide) (by omega)))
   rw[this];simp
 ·simp[h1]
def uw (v:Int):Int:=(v+2048)-(v+2048)%4096
def Is (v:Int):Prop:= -1152921504606846976≤v∧v≤1152921504606846976
theorem na (v:Int) (h:Is v):PQ v=some (uw v):=by
 obtain⟨h1,h2⟩:=h
 rw[MN,aH (n:=v+2048) (by omega) (by omega)]
 congr 1
 unfold tB
 have e1:(BitVec.ofInt IntKind.i64.bits (v+2048)&&& ~~~BitVec.ofInt IntKind.i64.bits 4095).toNat=(BitVec.ofInt IntKind.i64.bits (v+2048)).toNat/4096*4096:=by
  rw[BitVec.toNat_and,BitVec.toNat_not]
  have:(BitVec.ofInt IntKind.i64.bits (4095:Int)).toNat=4095:=by decide
  rw[this]
  exact Gx _ (BitVec.isLt _)
 rw[e1]
 have e2:=yI (v+2048)
 generalize (BitVec.ofInt IntKind.i64.bits (v+2048)).toNat=X at*
 unfold uw
 have:(((X/4096*4096:Nat)):Int)=(v+2048)%18446744073709551616/4096*4096:=by omega
 rw[this]
 refine jI (if v+2048<0 then 1 else 0) ?_ (by omega) (by omega)
 split<;>omega
theorem Jx (v:Int):ce v 12=v-uw v:=by
 unfold ce uw
 have e1:(2:Int)^12=4096:=by decide
 have e2:(2:Int)^(12-1)=2048:=by decide
 rw[e1,e2]
 split<;>omega
theorem s8 (v:Int) (h:Is v):OF v=some (v-uw v):=by
 rw[MO,na v h]
 simp only[Option.bind_some]
 rw[aH (by have:=h.1;unfold uw;omega) (by unfold uw;omega)]
theorem ul (v:Int) (h:Is v):OD v=some (v-uw v):=by
 obtain⟨h1,h2⟩:=h
 rw[KD,il v 12 (by decide) (by decide) (by omega) (by omega)]
 simp only[Option.bind_some]
 rw[show(12:Int).toNat=12 from rfl,Jx]
theorem wO (v:Int) (h:Is v):P3 v=some (uw v):=by
 rw[KE,ul v h]
 simp only[Option.bind_some]
 have:v-(v-uw v)=uw v:=by omega
 rw[this,aH (by have:=h.1;unfold uw;omega) (by have:=h.2;unfold uw;omega)]
theorem CL (f i:Int) (hf:1≤f∧f≤9):RM f i=some (l9 f i):=by
 rw[MR]
 have t1:decide (i.tmod 4096=0)=decide (i%4096=0):=by
  congr 1;exact propext ⟨fun h=>by rw[←Int.dvd_iff_tmod_eq_zero]at h;omega,fun h=>by rw[←Int.dvd_iff_tmod_eq_zero];omega⟩
 have t2:decide (i.tmod 2=0)=decide (i%2=0):=by
  congr 1;exact propext ⟨fun h=>by rw[←Int.dvd_iff_tmod_eq_zero]at h;omega,fun h=>by rw[←Int.dvd_iff_tmod_eq_zero];omega⟩
 rw[t1,t2]
 simp only[cb,Option.bind_some,av]
 rcases gw hf with rfl|rfl|rfl|rfl|rfl|rfl|rfl|rfl|rfl
 all_goals simp[l9,dB]
 all_goals (try (split<;>simp_all))
 all_goals (try (intro q1 q2;omega))
def wP (x:iU) (k:Int):Bool:=
 if k=1 then decide (x.1=1)else if k=2∨k=5 then decide ((cW x.1).1=3)&& !decide (x.1=4)else if k=3∨k=6 then decide ((cW x.1).1=5)
 else if k=4 then decide (x.1=2)else if k=7 then decide (x.1=3)else decide ((cW x.1).1=4)
def gR (k v p:Int):Int:=
 if k=1 then uw v else if k=2∨k=3 then v-uw v else if k=4 then uw (v-p)else if k=5∨k=6 then v-p+4-uw (v-p+4)else v-p
theorem zb (n:Int) (h:1≤n) (h':n≤64):decide ((cW n).1=5)=(decide (18≤n)&&decide (n≤21)):=by
 obtain⟨k,rfl⟩:=qg (n:=n) (by omega) h'
 revert k;decide
theorem Gy (x:iU) (h:1≤x.1) (h':x.1≤64):Qy x=some (decide ((cW x.1).1=3)&& !decide (x.1=4)):=by
 rw[MP,ld _ (by omega) h']
 simp only[Option.bind_some]
 cases decide ((cW x.1).1=3)<;>rfl
theorem zc {k:Int} (h:1≤k∧k≤8):k=1∨k=2∨k=3∨k=4∨k=5∨k=6∨k=7∨k=8:=by omega
def IM (v:Int):Prop:= -1099511627776≤v∧v≤1099511627776
theorem wQ (x:iU) (h:1≤x.1) (h':x.1≤64) (k v p:Int) (hk:1≤k∧k≤8) (hv:IM v) (hp:IM p):RL x k v p=some (gR k v p,wP x k):=by
 have hb:=nG x.1 h h'
 have hs:=zb x.1 h h'
 rw[MQ,Gy x h h',m4,qp,←hb,←hs]
 obtain⟨v1,v2⟩:=hv
 obtain⟨p1,p2⟩:=hp
 rw[aH (n:=v-p) (by omega) (by omega),aH (n:=p-4) (by omega) (by omega),aH (n:=v-(p-4)) (by omega) (by omega),show v-(p-4)=v-p+4 by omega,
  na v ⟨by omega,by omega⟩,s8 v ⟨by omega,by omega⟩,na (v-p) ⟨by omega,by omega⟩,s8 (v-p+4) ⟨by omega,by omega⟩]
 unfold gR wP
 rcases zc hk with rfl|rfl|rfl|rfl|rfl|rfl|rfl|rfl<;>rfl
theorem Gz (x:iU) (h:1≤x.1) (h':x.1≤64) (k:Int) (hk:1≤k∧k≤8):Rs x k=some (wP x k):=by
 rw[KC,eG _ (by omega) h']
 unfold wP
 simp only[Option.bind_some,av]
 generalize (cW x.1).1=f
 rcases zc hk with rfl|rfl|rfl|rfl|rfl|rfl|rfl|rfl<;>first|rfl|(simp only[];cases decide (f=3)<;>rfl)
theorem It (k v p:Int) (hk:1≤k∧k≤8) (hv:IM v) (hp:IM p):Rt k v p=some (gR k v p):=by
 obtain⟨v1,v2⟩:=hv
 obtain⟨p1,p2⟩:=hp
 rw[KF,aH (n:=v-p) (by omega) (by omega),aH (n:=v-p+4) (by omega) (by omega),wO v ⟨by omega,by omega⟩,ul v ⟨by omega,by omega⟩,wO (v-p) ⟨by omega,by omega⟩,ul (v-p+4) ⟨by omega,by omega⟩]
 unfold gR
 rcases zc hk with rfl|rfl|rfl|rfl|rfl|rfl|rfl|rfl<;>rfl
theorem wR (k v p:Int) (hv:IM v) (hp:IM p):CZ (gR k v p):=by
 obtain⟨v1,v2⟩:=hv
 obtain⟨p1,p2⟩:=hp
 unfold gR CZ uw
 repeat' split
 all_goals omega
theorem CM {x:iU} {i:Int} (h:eH x=true):eH (x.1,x.2.1,x.2.2.1,x.2.2.2.1,i)=l9 (cW x.1).1 i:=by
 unfold eH at h⊢
 simp only[Bool.and_eq_true]at h
 simp only[h.1,Bool.and_self,Bool.true_and]
theorem Iu {i:Int} (h:l9 1 i=true):i%4096=0:=by
 unfold l9 at h
 rw[if_pos rfl]at h
 simp only[Bool.and_eq_true,decide_eq_true_eq]at h
 exact h.2
theorem rD (w k v p:Int) (hw:0≤w∧w<4294967296) (hk:1≤k∧k≤8) (hv:IM v) (hp:IM p):∃r,RN w k v p=some r∧Ru w k v p=some r:=by
 obtain⟨d,h1,h2,hd⟩:=nE w hw.1 hw.2
 rw[MS,KG,h1,h2]
 simp only[Option.bind_some]
 cases hb:d.2 with
 |false=>exact⟨(0,10),rfl,rfl⟩
 |true=>
  obtain⟨n1,n2,hr,hri⟩:=hd.ins hw.1 hw.2 hb
  rw[wQ _ n1 n2 k v p hk hv hp,Gz _ n1 n2 k hk,It k v p hk hv hp,ld _ (by omega) n2]
  simp only[Option.bind_some,Bool.not_true,cond_false]
  cases wP d.1 k with
  |false=>exact⟨(0,26),rfl,rfl⟩
  |true=>
   rw[CL _ _ (iq n1 n2),jJ,CM hri]
   simp only[Option.bind_some,Bool.not_true,cond_false]
   cases hi:l9 (cW d.1.1).1 (gR k v p)with
   |false=>exact⟨(0,25),rfl,rfl⟩
   |true=>
    have hR:lg (d.1.1,d.1.2.1,d.1.2.2.1,d.1.2.2.2.1,gR k v p):=⟨hr.d,hr.a,hr.b,wR k v p hv hp⟩
    rw[fg (d.1.1,d.1.2.1,d.1.2.2.1,d.1.2.2.2.1,gR k v p) n1 n2 hR,fh (d.1.1,d.1.2.1,d.1.2.2.1,d.1.2.2.2.1,gR k v p) n1 n2 hR fun h=>by
     rw[show(cW d.1.1).1=1 from h]at hi;exact Iu hi]
    exact⟨_,rfl,rfl⟩
theorem CN (L:Int→Option Int) (c:Nat→Int) (n:Nat) (hstep:∀i:Nat,i<n→L (i:Int)=if c i=0 then L ((i+1:Nat):Int)else some (c i)):
  ∀k i:Nat,i+k=n→L (i:Int)=if(aZ c i k).2=0 then L (n:Int)else some (aZ c i k).2:=by
 intro k
 induction k with
 |zero=>
   intro i h;have:i=n:=by omega
   subst this;rfl
 |succ k ih=>
  intro i h
  rw[hstep i (by omega),ih (i+1) (by omega),aZ]
  by_cases h:c i=0
  ·rw[if_pos h,if_pos h]
  ·rw[if_neg h,if_neg h,if_neg h]
theorem i6 {L:Int→Option Int} (c:Nat→Int) (n:Nat) (hstep:∀i:Nat,i<n→L (i:Int)=if c i=0 then L ((i+1:Nat):Int)else some (c i)):L 0=if(aZ c 0 n).2=0 then L (n:Int)else some (aZ c 0 n).2:=
 CN L c n hstep n 0 (by omega)
abbrev eY:Type:=List Int×List ByteArray×List Int×List ByteArray
abbrev R2:Type:=eY×List cU×bn
theorem dP (t:List cU) (n:ByteArray):cg t n= -1∨(0≤cg t n∧cg t n< (t.length:Int)):=by
 unfold cg
 rcases cr (fun i=>decide ((rd (τ:=aS) t (i:Int)).1=n)) t.length 0 with⟨h,_⟩|⟨j,h1,_,h3,_⟩
 ·exact .inl h
 ·rw[h1];exact .inr ⟨by omega,by omega⟩
def C0 (t:List cU) (o:bn) (i:Nat):Int:=
 if(rd (τ:=aA) o.2.2.1 (i:Int)).2.1=true then(if cg t (rd (τ:=aA) o.2.2.1 (i:Int)).1<0 then 23 else if(rd (τ:=aS) t (cg t (rd (τ:=aA) o.2.2.1 (i:Int)).1)).2.1=1 then 0 else 26)
 else if cg t (rd (τ:=aA) o.2.2.1 (i:Int)).1≥0 then 24 else 0
def IN (t:List cU) (o:bn) (i:Nat):Int:=if cg t (rd (τ:=aX) o.2.2.2.1 (i:Int)).1≥0 then 24 else 0
def ga (t:List cU) (o:bn):Int:=
 if(aZ (C0 t o) 0 o.2.2.1.length).2=0 then(aZ (IN t o) 0 o.2.2.2.1.length).2 else(aZ (C0 t o) 0 o.2.2.1.length).2
theorem wS (c:Nat→Int) (i k:Nat):(if(aZ c i k).2=0 then some (0:Int)else some (aZ c i k).2)=some (aZ c i k).2:=by
 by_cases h:(aZ c i k).2=0
 ·rw[if_pos h,h]
 ·rw[if_neg h]
theorem zd (l:eY) (t:List cU) (o:bn) (ht:t.length≤64) (hz:ObjSz o):qS (l,t,o)=some (ga t o):=by
 have h1:=hz.f
 have h2:=hz.d
 rw[MH]
 show qS.a (l,t,o) o.2.2.1 (o.2.2.1.length:Int) 0=_
 rw[i6 (L:=qS.a (l,t,o) o.2.2.1 (o.2.2.1.length:Int)) (C0 t o) o.2.2.1.length fun i hi=> ?_]
 ·rw[qS.a_eq,ab,decide_eq_false (Nat.lt_irrefl _),cond_false]
  show(if _ then qS.b (l,t,o) o.2.2.2.1 (o.2.2.2.1.length:Int) 0 else _)=_
  rw[i6 (L:=qS.b (l,t,o) o.2.2.2.1 (o.2.2.2.1.length:Int)) (IN t o) o.2.2.2.1.length fun i hi=> ?_]
  ·rw[qS.b_eq,ab,decide_eq_false (Nat.lt_irrefl _),cond_false,wS]
   unfold ga
   split<;>rfl
  ·rw[qS.b_eq,ab,ae,decide_eq_true hi,ah i _ hi (by omega),(dI t _ (by omega)).1]
   unfold IN
   simp only[cond_true,Option.bind_some]
   by_cases h:cg t (rd (τ:=aX) o.2.2.2.1 (i:Int)).1≥0
   ·rw[if_pos h,decide_eq_true h];rfl
   ·rw[if_neg h,decide_eq_false h];rfl
 ·rw[qS.a_eq,ab,ae,decide_eq_true hi,ah i _ hi (by omega),(dI t _ (by omega)).1]
  unfold C0
  simp only[cond_true,Option.bind_some,av]
  have hr:=dP t (rd (τ:=aA) o.2.2.1 (i:Int)).1
  generalize cg t (rd (τ:=aA) o.2.2.1 (i:Int)).1=e at*
  cases (rd (τ:=aA) o.2.2.1 (i:Int)).2.1 with
  |false=>
   by_cases h:e≥0
   ·simp only[Bool.false_eq_true,if_false,if_pos h,decide_eq_true h];rfl
   ·simp only[Bool.false_eq_true,if_false,if_neg h,decide_eq_false h];rfl
  |true=>
   rcases hr with h|h
   ·simp only[if_true,if_pos (show e<0 by omega),decide_eq_true (show e<0 by omega)];rfl
   ·simp only[if_true,if_neg (show¬e<0 by omega),decide_eq_false (show¬e<0 by omega),inL_true h.1 h.2]
    by_cases h3:(rd (τ:=aS) t e).2.1=1
    ·simp only[if_pos h3,decide_eq_true h3];rfl
    ·simp only[if_neg h3,decide_eq_false h3];rfl
theorem ze (t:List cU) (o:bn) (ht:t.length≤64) (hz:ObjSz o):tb t o=some (ga t o):=by
 have h1:=hz.f
 have h2:=hz.d
 rw[Kx]
 rw[i6 (L:=tb.a t o) (C0 t o) o.2.2.1.length fun i hi=> ?_]
 ·rw[tb.a_eq,ab,decide_eq_false (Nat.lt_irrefl _),cond_false]
  rw[i6 (L:=tb.b t o) (IN t o) o.2.2.2.1.length fun i hi=> ?_]
  ·rw[tb.b_eq,ab,decide_eq_false (Nat.lt_irrefl _),cond_false,wS]
   unfold ga
   split<;>rfl
  ·rw[tb.b_eq,ab,ae,decide_eq_true hi,ah i _ hi (by omega),(dI t _ (by omega)).2]
   unfold IN
   simp only[cond_true,Option.bind_some]
   by_cases h:cg t (rd (τ:=aX) o.2.2.2.1 (i:Int)).1≥0
   ·rw[if_pos h,decide_eq_true h];rfl
   ·rw[if_neg h,decide_eq_false h];rfl
 ·rw[tb.a_eq,ab,ae,decide_eq_true hi,ah i _ hi (by omega),(dI t _ (by omega)).2]
  unfold C0
  simp only[cond_true,Option.bind_some]
  have hr:=dP t (rd (τ:=aA) o.2.2.1 (i:Int)).1
  generalize cg t (rd (τ:=aA) o.2.2.1 (i:Int)).1=e at*
  cases (rd (τ:=aA) o.2.2.1 (i:Int)).2.1 with
  |false=>
   by_cases h:e≥0
   ·simp only[Bool.false_eq_true,if_false,if_pos h,decide_eq_true h];rfl
   ·simp only[Bool.false_eq_true,if_false,if_neg h,decide_eq_false h];rfl
  |true=>
   rcases hr with h|h
   ·simp only[if_true,if_pos (show e<0 by omega),decide_eq_true (show e<0 by omega)];rfl
   ·simp only[if_true,if_neg (show¬e<0 by omega),decide_eq_false (show¬e<0 by omega),inL_true h.1 h.2]
    by_cases h3:(rd (τ:=aS) t e).2.1=1
    ·simp only[if_pos h3,decide_eq_true h3];rfl
    ·simp only[if_neg h3,decide_eq_false h3];rfl
structure cc (a:bm):Prop where
 base:0≤a.1∧a.1≤1048575∧a.1%8=0
 size:0≤a.2.1∧a.2.1≤1048576-a.1∧a.2.1%8=0
 top:a.1≤a.2.2∧a.2.2≤a.1+a.2.1∧a.2.2%8=0
theorem nb (n:Int):n.tmod 8=0↔n%8=0:=⟨fun h=>by rw[←Int.dvd_iff_tmod_eq_zero]at h;omega,fun h=>by rw[←Int.dvd_iff_tmod_eq_zero];omega⟩
theorem s9 {a:bm}:z7 a=true↔cc a:=by
 unfold z7
 simp only[Bool.and_eq_true,bd,decide_eq_true_eq,nb]
 constructor
 ·rintro⟨⟨⟨⟨⟨h1,h2⟩,h3⟩,h4⟩,h5⟩,h6⟩
  rw[aH (n:=1048576-a.1) (by omega) (by omega)]at h2
  rw[aH (n:=a.1+a.2.1) (by omega) (by omega)]at h3
  exact⟨⟨h1.1,h1.2,h4⟩,⟨h2.1,h2.2,h5⟩,⟨h3.1,h3.2,h6⟩⟩
 ·rintro⟨⟨h1,h2,h3⟩,⟨h4,h5,h6⟩,h7,h8,h9⟩
  rw[aH (n:=1048576-a.1) (by omega) (by omega),aH (n:=a.1+a.2.1) (by omega) (by omega)]
  exact⟨⟨⟨⟨⟨⟨h1,h2⟩,h4,h5⟩,h7,h8⟩,h3⟩,h6⟩,h9⟩
def qL (n:Nat):Nat:=(n+7)/8*8
def aB (a:bm) (n:Nat):bm×Int×Bool:=if(qL n:Int)>a.1+a.2.1-a.2.2 then(a,0,false)else((a.1,a.2.1,a.2.2+(qL n:Int)),a.2.2,true)
theorem df {a:bm} (h:cc a) (n:Nat):cc (aB a n).1:=by
 unfold aB
 split
 ·exact h
 ·obtain⟨⟨h1,h2,h3⟩,⟨h4,h5,h6⟩,h7,h8,h9⟩:=h
  have:qL n%8=0:=by unfold qL;omega
  refine⟨⟨h1,h2,h3⟩,⟨h4,h5,h6⟩, ?_, ?_, ?_⟩<;>simp only<;>omega
theorem jP (a:bm) (h:cc a) (n:Nat) (hn:n≤256):Qw a (n:Int)=some (aB a n):=by
 obtain⟨⟨h1,h2,h3⟩,⟨h4,h5,h6⟩,h7,h8,h9⟩:=h
 rw[MI,aH (n:=(n:Int)+7) (by omega) (by omega),Int.tdiv_eq_ediv_of_nonneg (by omega),aH (n:=((n:Int)+7)/8) (by omega) (by omega),aH (n:=((n:Int)+7)/8*8) (by omega) (by omega),aH (n:=a.1+a.2.1) (by omega) (by omega),aH (n:=a.1+a.2.1-a.2.2) (by omega) (by omega),show((n:Int)+7)/8*8=(qL n:Int) by unfold qL;omega]
 have:qL n≤264:=by unfold qL;omega
 rw[aH (n:=a.2.2+(qL n:Int)) (by omega) (by omega)]
 unfold aB
 by_cases h:(qL n:Int)>a.1+a.2.1-a.2.2
 ·rw[if_pos h,decide_eq_true h];rfl
 ·rw[if_neg h,decide_eq_false h];rfl
theorem nW (a:bm) (h:cc a) (z:bm):∀(k n:Nat),n+k=qL n→n≤256→De.a (n:Int) a z=some (aB a n):=by
 obtain⟨⟨h1,h2,h3⟩,⟨h4,h5,h6⟩,h7,h8,h9⟩:=h
 intro k
 induction k with
 |zero=>
  intro n hn hn2
  have h0:n%8=0:=by unfold qL at hn;omega
  have e:decide ((n:Int).tmod 8=0)=true:=decide_eq_true ((nb _).2 (by omega))
  rw[De.a_eq,e,aH (n:=a.1+a.2.1) (by omega) (by omega),aH (n:=a.1+a.2.1-a.2.2) (by omega) (by omega),aH (n:=a.2.2+(n:Int)) (by omega) (by omega)]
  unfold aB
  rw[←hn,Nat.add_zero]
  by_cases h:(n:Int)>a.1+a.2.1-a.2.2
  ·rw[if_pos h,decide_eq_true h];rfl
  ·rw[if_neg h,decide_eq_false h];rfl
 |succ k ih=>
  intro n hn hn2
  have h0:n%8≠0:=by unfold qL at hn;omega
  have h256:n≠256:=by intro h;subst h;exact h0 rfl
  have e:decide ((n:Int).tmod 8=0)=false:=decide_eq_false (fun h=>h0 (by have:=(nb _).1 h;omega))
  have hu:qL (n+1)=qL n:=by unfold qL;omega
  rw[De.a_eq,e,aH (n:=(n:Int)+1) (by omega) (by omega)]
  simp only[Bool.not_false,cond_true]
  rw[show(n:Int)+1=((n+1:Nat):Int) by omega,ih (n+1) (by rw[hu];omega) (by omega)]
  unfold aB
  rw[hu]
theorem jQ (a:bm) (h:cc a) (n:Nat) (hn:n≤256):De a (n:Int)=some (aB a n):=by
 rw[Ky];exact nW a h _ (qL n-n) n (by unfold qL;omega) hn
def d6 (sz:Nat→Nat) (a:bm):Nat→Nat→bm×List Int×Bool
 |_,0=>(a,[],true)
 |i,k+1=>((d6 sz (aB a (sz i)).1 (i+1) k).1,(aB a (sz i)).2.1::(d6 sz (aB a (sz i)).1 (i+1) k).2.1,(aB a (sz i)).2.2&&(d6 sz (aB a (sz i)).1 (i+1) k).2.2)
theorem dQ (sz:Nat→Nat):∀k i a,(d6 sz a i k).2.1.length=k
 |0,_,_=>rfl
 |k+1,i,a=>by rw[d6,List.length_cons,dQ sz k]
theorem qF (sz:Nat→Nat):∀k i a,cc a→cc (d6 sz a i k).1
 |0,_,_,h=>h
 |k+1,i,a,h=>by rw[d6];exact qF sz k (i+1) _ (df h _)
def ge (o:bn) (i:Nat):Nat:=(rd (τ:=aA) o.2.2.1 (i:Int)).2.2.2.size
def kM (o:bn) (i:Nat):Nat:=(rd (τ:=aX) o.2.2.2.1 (i:Int)).2.size
def kN (o:bn) (i:Nat):ByteArray:=(rd (τ:=aA) o.2.2.1 (i:Int)).2.2.2
def jR (o:bn) (i:Nat):ByteArray:=(rd (τ:=aX) o.2.2.2.1 (i:Int)).2
def after (f:Int) (ok:Bool):Int:=if f=0∧ok=false then 7 else f
theorem jS (f:Int) (a b:Bool):after (after f a) b=after f (a&&b):=by
 unfold after
 cases a<;>cases b<;>by_cases h:f=0<;>simp[h]
theorem zf (o:bn) (hz:UnitSz o) (x6:bm) (x8:eY) (x9 x10:bm) (r:List cU×bn) (l3:List Int) (l4:List ByteArray):∀(k i:Nat) (a:bm) (ats:List Int) (codes:List ByteArray) (f:Int),i+k=o.2.2.1.length→cc a→ats.length=i→codes.length=i→
  d5.a a x6 o x8 x9 x10 ((ats,codes,l3,l4),r) f o.2.2.1 (o.2.2.1.length:Int) (i:Int)=
   d5.b (d6 (ge o) a i k).1 x6 o x8 x9 x10 ((ats++(d6 (ge o) a i k).2.1,codes++bc (kN o) i k,l3,l4),r) (after f (d6 (ge o) a i k).2.2) o.2.2.2.1 (o.2.2.2.1.length:Int) 0:=by
 have h4:=hz.f
 intro k
 induction k with
 |zero=>
  intro i a ats codes f hk ha h1 h2
  have:i=o.2.2.1.length:=by omega
  subst this
  rw[d5.a_eq,ab,decide_eq_false (Nat.lt_irrefl _),cond_false,d6,bc,List.append_nil,List.append_nil]
  simp[after]
 |succ k ih=>
  intro i a ats codes f hk ha h1 h2
  have hi:i<o.2.2.1.length:=by omega
  rw[d5.a_eq,ab,ae,decide_eq_true hi,ah i _ hi (by omega)]
  rw[jP a ha _ (by have:=hz.fs i hi;omega)]
  simp only[cond_true,Option.bind_some,av]
  rw[kL _ (by simp;omega),gP _ (by simp;omega)]
  simp only[cond_true]
  have e:(bif decide (f=0)then bif !(aB a (rd (τ:=aA) o.2.2.1 (i:Int)).2.2.2.size).2.2 then d5.a (aB a (rd (τ:=aA) o.2.2.1 (i:Int)).2.2.2.size).1 x6 o x8 x9 x10 ((ats++[(aB a (rd (τ:=aA) o.2.2.1 (i:Int)).2.2.2.size).2.1],codes++[(rd (τ:=aA) o.2.2.1 (i:Int)).2.2.2],l3,l4),r) 7 o.2.2.1 (o.2.2.1.length:Int) ((i+1:Nat):Int)
    else d5.a (aB a (rd (τ:=aA) o.2.2.1 (i:Int)).2.2.2.size).1 x6 o x8 x9 x10 ((ats++[(aB a (rd (τ:=aA) o.2.2.1 (i:Int)).2.2.2.size).2.1],codes++[(rd (τ:=aA) o.2.2.1 (i:Int)).2.2.2],l3,l4),r) f o.2.2.1 (o.2.2.1.length:Int) ((i+1:Nat):Int)
    else bif false then d5.a (aB a (rd (τ:=aA) o.2.2.1 (i:Int)).2.2.2.size).1 x6 o x8 x9 x10 ((ats++[(aB a (rd (τ:=aA) o.2.2.1 (i:Int)).2.2.2.size).2.1],codes++[(rd (τ:=aA) o.2.2.1 (i:Int)).2.2.2],l3,l4),r) 7 o.2.2.1 (o.2.2.1.length:Int) ((i+1:Nat):Int)
    else d5.a (aB a (rd (τ:=aA) o.2.2.1 (i:Int)).2.2.2.size).1 x6 o x8 x9 x10 ((ats++[(aB a (rd (τ:=aA) o.2.2.1 (i:Int)).2.2.2.size).2.1],codes++[(rd (τ:=aA) o.2.2.1 (i:Int)).2.2.2],l3,l4),r) f o.2.2.1 (o.2.2.1.length:Int) ((i+1:Nat):Int))=
    d5.a (aB a (ge o i)).1 x6 o x8 x9 x10 ((ats++[(aB a (ge o i)).2.1],codes++[kN o i],l3,l4),r) (after f (aB a (ge o i)).2.2) o.2.2.1 (o.2.2.1.length:Int) ((i+1:Nat):Int):=by
   unfold after ge kN
   generalize aB a (rd (τ:=aA) o.2.2.1 (i:Int)).2.2.2.size=p
   by_cases h:f=0
   ·rw[decide_eq_true h]
    cases hp:p.2.2<;>simp[h]
   ·rw[decide_eq_false h];simp[h]
  rw[e,ih (i+1) _ _ _ _ (by omega) (df ha _) (by simp;omega) (by simp;omega),d6,bc,jS,List.append_assoc,List.append_assoc]
  rfl
theorem zg (o:bn) (hz:UnitSz o) (x5:bm) (x8:eY) (x9 x10:bm) (r:List cU×bn) (l1:List Int) (l2:List ByteArray):∀(k i:Nat) (a:bm) (ats:List Int) (codes:List ByteArray) (f:Int),i+k=o.2.2.2.1.length→cc a→ats.length=i→codes.length=i→
  d5.b x5 a o x8 x9 x10 ((l1,l2,ats,codes),r) f o.2.2.2.1 (o.2.2.2.1.length:Int) (i:Int)=
   d5.c x5 (d6 (kM o) a i k).1 o x8 x9 x10 ((l1,l2,ats++(d6 (kM o) a i k).2.1,codes++bc (jR o) i k),r) (after f (d6 (kM o) a i k).2.2) o.2.2.2.2.1 (o.2.2.2.2.1.length:Int) 0:=by
 have h4:=hz.d
 intro k
 induction k with
 |zero=>
  intro i a ats codes f hk ha h1 h2
  have:i=o.2.2.2.1.length:=by omega
  subst this
  rw[d5.b_eq,ab,decide_eq_false (Nat.lt_irrefl _),cond_false,d6,bc,List.append_nil,List.append_nil]
  simp[after]
 |succ k ih=>
  intro i a ats codes f hk ha h1 h2
  have hi:i<o.2.2.2.1.length:=by omega
  rw[d5.b_eq,ab,ae,decide_eq_true hi,ah i _ hi (by omega)]
  rw[jP a ha _ (by have:=hz.ds i hi;omega)]
  simp only[cond_true,Option.bind_some,av]
  rw[kL _ (by simp;omega),gP _ (by simp;omega)]
  simp only[cond_true]
  have e:(bif decide (f=0)then bif !(aB a (rd (τ:=aX) o.2.2.2.1 (i:Int)).2.size).2.2 then d5.b x5 (aB a (rd (τ:=aX) o.2.2.2.1 (i:Int)).2.size).1 o x8 x9 x10 ((l1,l2,ats++[(aB a (rd (τ:=aX) o.2.2.2.1 (i:Int)).2.size).2.1],codes++[(rd (τ:=aX) o.2.2.2.1 (i:Int)).2]),r) 7 o.2.2.2.1 (o.2.2.2.1.length:Int) ((i+1:Nat):Int)
    else d5.b x5 (aB a (rd (τ:=aX) o.2.2.2.1 (i:Int)).2.size).1 o x8 x9 x10 ((l1,l2,ats++[(aB a (rd (τ:=aX) o.2.2.2.1 (i:Int)).2.size).2.1],codes++[(rd (τ:=aX) o.2.2.2.1 (i:Int)).2]),r) f o.2.2.2.1 (o.2.2.2.1.length:Int) ((i+1:Nat):Int)
    else bif false then d5.b x5 (aB a (rd (τ:=aX) o.2.2.2.1 (i:Int)).2.size).1 o x8 x9 x10 ((l1,l2,ats++[(aB a (rd (τ:=aX) o.2.2.2.1 (i:Int)).2.size).2.1],codes++[(rd (τ:=aX) o.2.2.2.1 (i:Int)).2]),r) 7 o.2.2.2.1 (o.2.2.2.1.length:Int) ((i+1:Nat):Int)
    else d5.b x5 (aB a (rd (τ:=aX) o.2.2.2.1 (i:Int)).2.size).1 o x8 x9 x10 ((l1,l2,ats++[(aB a (rd (τ:=aX) o.2.2.2.1 (i:Int)).2.size).2.1],codes++[(rd (τ:=aX) o.2.2.2.1 (i:Int)).2]),r) f o.2.2.2.1 (o.2.2.2.1.length:Int) ((i+1:Nat):Int))=
    d5.b x5 (aB a (kM o i)).1 o x8 x9 x10 ((l1,l2,ats++[(aB a (kM o i)).2.1],codes++[jR o i]),r) (after f (aB a (kM o i)).2.2) o.2.2.2.1 (o.2.2.2.1.length:Int) ((i+1:Nat):Int):=by
   unfold after kM jR
   generalize aB a (rd (τ:=aX) o.2.2.2.1 (i:Int)).2.size=p
   by_cases h:f=0
   ·rw[decide_eq_true h]
    cases hp:p.2.2<;>simp[h]
   ·rw[decide_eq_false h];simp[h]
  rw[e,ih (i+1) _ _ _ _ (by omega) (df ha _) (by simp;omega) (by simp;omega),d6,bc,jS,List.append_assoc,List.append_assoc]
  rfl
end Go.Proofs.YtiahcgampoehdaaGreatDoor.S
