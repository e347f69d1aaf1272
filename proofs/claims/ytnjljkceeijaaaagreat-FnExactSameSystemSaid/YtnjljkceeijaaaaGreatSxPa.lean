import Derived.Test.YtnjljkceeijaaaaGreatSxP
namespace Go.Proofs.YtnjljkceeijaaaaGreat.S
open Go.Ps
set_option linter.unusedVariables false
set_option maxRecDepth 100000
theorem E4 (o:bl) (hz:UnitSz o) (a b:bm) (ha:ce a) (hb:ce b) (x8:eX) (x9 x10:bm) (t:List cW) (f:Int):
  Z4.a a b o x8 x9 x10 (([],[],[],[]),t,o) f o.2.2.1 (o.2.2.1.length:Int) 0=
   Z4.c (dp o a b).2.1 (dp o a b).2.2.1 o x8 x9 x10 ((dp o a b).1,t,o) (after f (dp o a b).2.2.2) o.2.2.2.2.1 (o.2.2.2.2.1.length:Int) 0:=by
 have h1:=zC o hz b x8 x9 x10 (t,o) [] [] o.2.2.1.length 0 a [] [] f (by omega) ha rfl rfl
 have h2:=zD o hz (eg (gw o) a 0 o.2.2.1.length).1 x8 x9 x10 (t,o) (eg (gw o) a 0 o.2.2.1.length).2.1 (bc (lb o) 0 o.2.2.1.length) o.2.2.2.1.length 0 b [] [] (after f (eg (gw o) a 0 o.2.2.1.length).2.2) (by omega) hb rfl rfl
 simp only[List.nil_append]at h1 h2
 rw[kk]at h2
 exact h1.trans h2
def Jg (x:Int):Prop:=0≤x∧x≤1048575∧x%8=0
theorem BA {a:bm} (h:ce a) (n:Nat) (hn:1≤n):Jg (aE a n).2.1:=by
 obtain⟨⟨h1,h2,h3⟩,⟨h4,h5,h6⟩,h7,h8,h9⟩:=h
 unfold aE
 split
 ·exact⟨by simp,by simp,by simp⟩
 ·have:8≤qZ n:=by unfold qZ;omega
  refine⟨?_, ?_, ?_⟩<;>simp only<;>omega
theorem yu (sz:Nat→Nat):∀k i a,ce a→(∀j,i≤j→j<i+k→1≤sz j)→∀x∈(eg sz a i k).2.1,Jg x
 |0,_,_,_,_,x,hx=>by cases hx
 |k+1,i,a,h,hs,x,hx=>by
  rw[eg]at hx
  rcases List.mem_cons.1 hx with rfl|hx
  ·exact BA h _ (hs i (Nat.le_refl _) (by omega))
  ·exact yu sz k (i+1) _ (df h _) (fun j h1 h2=>hs j (by omega) (by omega)) x hx
structure eJ (o:bl) (l:eX):Prop where
 a:l.1.length=o.2.2.1.length
 c:l.2.1.length=o.2.2.1.length
 d:l.2.2.1.length=o.2.2.2.1.length
 b:l.2.2.2.length=o.2.2.2.1.length
 cs:∀i:Nat,i<o.2.2.1.length→(rd (τ:= .str) l.2.1 (i:Int)).size=gw o i
 bs:∀i:Nat,i<o.2.2.2.1.length→(rd (τ:= .str) l.2.2.2 (i:Int)).size=la o i
 fa:∀i:Nat,i<o.2.2.1.length→Jg (rd (τ:= .int .i64) l.1 (i:Int))
 ds:∀i:Nat,i<o.2.2.2.1.length→Jg (rd (τ:= .int .i64) l.2.2.1 (i:Int))
theorem ub {τ:Ty} (f:Nat→τ.den) (k j:Nat) (h:j<k):rd (τ:=τ) (bc f 0 k) (j:Int)=f j:=by
 rw[aQ _ _ (by rw[aD];exact h),go,Nat.zero_add]
theorem dG.fsz_pos {o:bl} (h:dG o) (i:Nat) (hi:i<o.2.2.1.length):20≤gw o i∧gw o i≤256∧gw o i%4=0:=by
 have:=(fL (h.fun_ i hi)).2.2.2
 unfold bf at this
 unfold gw
 cases h1:bZ (rd (τ:=aC) o.2.2.1 (i:Int)).2.2.2.size with
 |false=>rw[h1]at this;cases this
 |true=>
  rw[h1,cond_true,decide_eq_true_eq]at this
  have h2:=dN h1
  exact⟨by omega,h2.2,h2.1⟩
theorem dG.dsz_pos {o:bl} (h:dG o) (i:Nat) (hi:i<o.2.2.2.1.length):8≤la o i∧la o i≤64∧la o i%8=0:=kf (eQ (h.dat i hi)).2.2
theorem wm (o:bl) (h:dG o) (a b:bm) (ha:ce a) (hb:ce b):eJ o (dp o a b).1∧ce (dp o a b).2.1∧ce (dp o a b).2.2.1:=by
 refine⟨⟨dX _ _ _ _,aD _ _ _,dX _ _ _ _,aD _ _ _,fun i hi=> ?_,fun i hi=> ?_,fun i hi=> ?_,fun i hi=> ?_⟩,qV _ _ _ _ ha,qV _ _ _ _ hb⟩
 ·show(rd (τ:= .str) (bc (lb o) 0 o.2.2.1.length) (i:Int)).size=_
  rw[ub (τ:= .str) (lb o) _ _ hi];rfl
 ·show(rd (τ:= .str) (bc (kj o) 0 o.2.2.2.1.length) (i:Int)).size=_
  rw[ub (τ:= .str) (kj o) _ _ hi];rfl
 ·have hl:=dX (gw o) o.2.2.1.length 0 a
  show Jg (rd (τ:= .int .i64) (eg (gw o) a 0 o.2.2.1.length).2.1 (i:Int))
  rw[aQ (τ:= .int .i64) _ i (by rw[hl];exact hi)]
  exact yu _ _ _ _ ha (fun j _ h2=>by have:=h.fsz_pos j (by omega);omega) _ (List.getElem_mem _)
 ·have hl:=dX (la o) o.2.2.2.1.length 0 b
  show Jg (rd (τ:= .int .i64) (eg (la o) b 0 o.2.2.2.1.length).2.1 (i:Int))
  rw[aQ (τ:= .int .i64) _ i (by rw[hl];exact hi)]
  exact yu _ _ _ _ hb (fun j _ h2=>by have:=h.dsz_pos j (by omega);omega) _ (List.getElem_mem _)
theorem H4 (v:Int) (i:Nat) (hi:i<8):(v%18446744073709551616)/2^(8*i)%256=v/2^(8*i)%256:=by
 match i,hi with
 |0,_=>omega
 |1,_=>omega
 |2,_=>omega
 |3,_=>omega
 |4,_=>omega
 |5,_=>omega
 |6,_=>omega
 |7,_=>omega
theorem Px (n:Nat) (h:n≤4096):ay n 1=true:=by simp[ay];omega
theorem nb (v:Int) (n:Nat) (hn:n≤8):∀(k i:Nat) (xs:List Int),i+k=n→xs.length=i→ic.a v (n:Int) xs (i:Int)=some (av (xs++fk (v/2^(8*i)) k)):=by
 intro k
 induction k with
 |zero=>
  intro i xs h hx
  have:i=n:=by omega
  subst this
  rw[ic.a_eq,ab,decide_eq_false (Nat.lt_irrefl _),cond_false,fk,List.append_nil]
 |succ k ih=>
  intro i xs h hx
  rw[ic.a_eq,ab,decide_eq_true (show i<n by omega),aV (n:=8*(i:Int)) (by omega) (by omega),Gq (n:=8*(i:Int)) (by omega) (by omega),decide_eq_false (show¬8*(i:Int)<0 by omega),ah i n (by omega) (by omega),mz,s9 (by omega) (by omega),uM,Px _ (by simp;omega),ih (i+1) _ (by omega) (by simp;omega),fk,List.append_assoc]
  have e1:(8*(i:Int)).toNat=8*i:=by omega
  rw[e1,H4 v i (by omega)]
  have e2:v/2^(8*i)/256=v/2^(8*(i+1)):=by
   rw[Int.ediv_ediv_of_nonneg (Int.pow_nonneg (by decide))]
   congr 1
   rw[show 8*(i+1)=8*i+8 by omega,Int.pow_add];rfl
  rw[e2];rfl
theorem d6 (v:Int) (n:Nat) (hn:n≤8):ic v (n:Int)=some (av (fk v n)):=by
 rw[MI]
 have:=nb v n hn n 0 [] (by omega) rfl
 simpa using this
theorem BC {β:Type} (L:Int→Option β) (p:Nat→Bool) (g:Nat→Option β) (n:Nat) (hstep:∀i:Nat,i<n→L (i:Int)=bif p i then g i else L ((i+1:Nat):Int)):
  ∀k i:Nat,i+k=n→L (i:Int)=if d8 p i k<0 then L (n:Int)else g (d8 p i k).toNat:=by
 intro k
 induction k with
 |zero=>
   intro i h;have:i=n:=by omega
   subst this;rfl
 |succ k ih=>
  intro i h
  rw[hstep i (by omega),ih (i+1) (by omega),d8]
  cases p i with
  |false=>rfl
  |true=>rw[cond_true,cond_true,if_neg (by omega)];rfl
theorem i4 {β:Type} {L:Int→Option β} (p:Nat→Bool) (g:Nat→Option β) (n:Nat) (hstep:∀i:Nat,i<n→L (i:Int)=bif p i then g i else L ((i+1:Nat):Int)):L 0=if d8 p 0 n<0 then L (n:Int)else g (d8 p 0 n).toNat:=
 BC L p g n hstep n 0 (by omega)
theorem wn (p:Nat→Bool) (n:Nat) (h:¬d8 p 0 n<0):(d8 p 0 n).toNat<n:=by
 rcases ct p n 0 with⟨h1,_⟩|⟨j,h1,h2,h3,_⟩
 ·omega
 ·omega
def wo (o:bl) (name:ByteArray):Int:=d8 (fun i=>decide ((rd (τ:=aC) o.2.2.1 (i:Int)).1=name)&& !(rd (τ:=aC) o.2.2.1 (i:Int)).2.1) 0 o.2.2.1.length
def wq (o:bl) (name:ByteArray):Int:=d8 (fun i=>decide ((rd (τ:=aW) o.2.2.2.1 (i:Int)).1=name)) 0 o.2.2.2.1.length
def wr (t:List cW) (o:bl) (l:eX) (name:ByteArray):Int×Bool:=
 if wo o name<0 then if wq o name<0 then if cj t name<0 then(0,false)else((rd (τ:=a6) t (cj t name)).2.2.1,true)
  else(rd (τ:= .int .i64) l.2.2.1 ((wq o name).toNat:Int),true)
 else(rd (τ:= .int .i64) l.1 ((wo o name).toNat:Int),true)
theorem E5 (t:List cW) (o:bl) (l:eX) (name:ByteArray) (ht:t.length≤64) (hz:ObjSz o) (hl:eJ o l):rg (l,t,o) name=some (wr t o l name):=by
 have h1:=hz.f
 have h2:=hz.d
 rw[OW]
 show rg.a (l,t,o) name o.2.2.1 (o.2.2.1.length:Int) 0=_
 rw[i4 (L:=rg.a (l,t,o) name o.2.2.1 (o.2.2.1.length:Int)) (fun i=>decide ((rd (τ:=aC) o.2.2.1 (i:Int)).1=name)&& !(rd (τ:=aC) o.2.2.1 (i:Int)).2.1) (fun i=>some (rd (τ:= .int .i64) l.1 (i:Int),true)) o.2.2.1.length fun i hi=> ?_]
 ·unfold wr
  show(if wo o name<0 then _ else _)=some (if wo o name<0 then _ else _)
  by_cases hf:wo o name<0
  ·rw[if_pos hf,if_pos hf,rg.a_eq,ab,decide_eq_false (Nat.lt_irrefl _),cond_false]
   show rg.b (l,t,o) name o.2.2.2.1 (o.2.2.2.1.length:Int) 0=_
   rw[i4 (L:=rg.b (l,t,o) name o.2.2.2.1 (o.2.2.2.1.length:Int)) (fun i=>decide ((rd (τ:=aW) o.2.2.2.1 (i:Int)).1=name)) (fun i=>some (rd (τ:= .int .i64) l.2.2.1 (i:Int),true)) o.2.2.2.1.length fun i hi=> ?_]
   ·show(if wq o name<0 then _ else _)=some (if wq o name<0 then _ else _)
    by_cases hd:wq o name<0
    ·rw[if_pos hd,if_pos hd,rg.b_eq,ab,decide_eq_false (Nat.lt_irrefl _),cond_false,(dO t _ (by omega)).1]
     simp only[Option.bind_some]
     have hr:=dW t name
     by_cases he:cj t name<0
     ·rw[if_pos he,decide_eq_true he];rfl
     ·rw[if_neg he,decide_eq_false he,inL_true (by omega) (by omega)];rfl
    ·rw[if_neg hd,if_neg hd];rfl
   ·rw[rg.b_eq,ab,ae,decide_eq_true hi,ah i _ hi (by omega),aF,ae,show decide (i<l.2.2.1.length)=true from decide_eq_true (by rw[hl.d];exact hi)]
    simp only[cond_true]
  ·rw[if_neg hf,if_neg hf];rfl
 ·rw[rg.a_eq,ab,ae,decide_eq_true hi,ah i _ hi (by omega),aF,ae,show decide (i<l.1.length)=true from decide_eq_true (by rw[hl.a];exact hi)]
  simp only[cond_true]
  cases decide ((rd (τ:=aC) o.2.2.1 (i:Int)).1=name)<;>cases (rd (τ:=aC) o.2.2.1 (i:Int)).2.1<;>rfl
theorem E6 (t:List cW) (o:bl) (l:eX) (name:ByteArray) (ht:t.length≤64) (hz:ObjSz o) (hl:eJ o l):tG t o l name=some (wr t o l name):=by
 have h1:=hz.f
 have h2:=hz.d
 rw[MJ]
 rw[i4 (L:=tG.a t name o l) (fun i=>decide ((rd (τ:=aC) o.2.2.1 (i:Int)).1=name)&& !(rd (τ:=aC) o.2.2.1 (i:Int)).2.1) (fun i=>some (rd (τ:= .int .i64) l.1 (i:Int),true)) o.2.2.1.length fun i hi=> ?_]
 ·unfold wr
  show(if wo o name<0 then _ else _)=some (if wo o name<0 then _ else _)
  by_cases hf:wo o name<0
  ·rw[if_pos hf,if_pos hf,tG.a_eq,ab,decide_eq_false (Nat.lt_irrefl _),cond_false]
   rw[i4 (L:=tG.b t name o l) (fun i=>decide ((rd (τ:=aW) o.2.2.2.1 (i:Int)).1=name)) (fun i=>some (rd (τ:= .int .i64) l.2.2.1 (i:Int),true)) o.2.2.2.1.length fun i hi=> ?_]
   ·show(if wq o name<0 then _ else _)=some (if wq o name<0 then _ else _)
    by_cases hd:wq o name<0
    ·rw[if_pos hd,if_pos hd,tG.b_eq,ab,decide_eq_false (Nat.lt_irrefl _),cond_false,(dO t _ (by omega)).2]
     simp only[Option.bind_some]
     have hr:=dW t name
     by_cases he:cj t name<0
     ·rw[if_pos he,decide_eq_true he];rfl
     ·rw[if_neg he,decide_eq_false he,inL_true (by omega) (by omega)];rfl
    ·rw[if_neg hd,if_neg hd];rfl
   ·rw[tG.b_eq,ab,ae,decide_eq_true hi,ah i _ hi (by omega),aF,ae,show decide (i<l.2.2.1.length)=true from decide_eq_true (by rw[hl.d];exact hi)]
    simp only[cond_true]
  ·rw[if_neg hf,if_neg hf];rfl
 ·rw[tG.a_eq,ab,ae,decide_eq_true hi,ah i _ hi (by omega),aF,ae,show decide (i<l.1.length)=true from decide_eq_true (by rw[hl.a];exact hi)]
  simp only[cond_true]
  cases decide ((rd (τ:=aC) o.2.2.1 (i:Int)).1=name)<;>cases (rd (τ:=aC) o.2.2.1 (i:Int)).2.1<;>rfl
def BD (t:List cW):Prop:=t.length≤64∧∀i:Nat,i<t.length→du (rd (τ:=a6) t (i:Int))=true
theorem E7 {e:cW} (h:du e=true):0≤e.2.2.1∧e.2.2.1≤1048575:=by
 unfold du at h
 cases h1:bY e.1 with
 |false=>rw[h1]at h;cases h
 |true=>
  cases h2:bV e.2.2.1 with
  |false=>rw[h1,h2]at h;cases h
  |true=>exact kZ h2
theorem yw (t:List cW) (o:bl) (l:eX) (name:ByteArray) (ht:BD t) (hl:eJ o l):0≤(wr t o l name).1∧(wr t o l name).1≤1048575:=by
 unfold wr
 split
 ·split
  ·split
   ·simp
   ·rename_i h1 h2 h3
    have hr:=dW t name
    have:=ht.2 (cj t name).toNat (by omega)
    rw[show(((cj t name).toNat:Nat):Int)=cj t name by omega]at this
    exact E7 this
  ·rename_i h1 h2
   have:=hl.ds _ (wn _ _ h2)
   exact⟨this.1,this.2.1⟩
 ·rename_i h1
  have:=hl.fa _ (wn _ _ h1)
  exact⟨this.1,this.2.1⟩
def gJ (t:ByteArray) (i:Nat) (b:ByteArray):ByteArray:=t.extract 0 i++b++t.extract (i+b.size) t.size
theorem mc (t:ByteArray) (i:Nat) (b:ByteArray) (h:i+b.size≤t.size):(gJ t i b).size=t.size:=by
 unfold gJ
 simp only[ByteArray.size_append,ByteArray.size_extract]
 omega
theorem nS (t:ByteArray) (i:Nat) (b:ByteArray) (h:i+b.size≤t.size) (ht:t.size≤4096):Rw t (i:Int) b=some (gJ t i b):=by
 rw[OX,aV (n:=(i:Int)+(b.size:Int)) (by omega) (by omega)]
 unfold gJ
 rw[show(decide (0≤0)&&decide (0≤(i:Int))&&decide ((i:Int)≤(t.size:Int)))=true by simp;omega,show(decide (0≤(i:Int)+(b.size:Int))&&decide ((i:Int)+(b.size:Int)≤(t.size:Int))&&decide ((t.size:Int)≤(t.size:Int)))=true by simp;omega]
 rw[show(Int.toNat 0)=0 from rfl,Int.toNat_natCast,show((i:Int)+(b.size:Int)).toNat=i+b.size by omega,Int.toNat_natCast]
 rw[decide_eq_true (show(t.extract 0 i).size+b.size≤9223372036854775807 by simp only[ByteArray.size_extract];omega),decide_eq_true (show(t.extract 0 i++b).size+(t.extract (i+b.size) t.size).size≤9223372036854775807 by simp only[ByteArray.size_append,ByteArray.size_extract];omega)]
 rfl
theorem E8 {τ:Ty} (l:List τ.den) (k:Nat) (x:τ.den) (hk:k<l.length) (i:Nat) (hi:i<l.length):rd (τ:=τ) (l.set k x) (i:Int)=if i=k then x else rd (τ:=τ) l (i:Int):=by
 rw[aQ _ _ (by rw[List.length_set];exact hi),aQ _ _ hi,List.getElem_set]
 by_cases h:i=k
 ·rw[if_pos h,if_pos h.symm]
 ·rw[if_neg h,if_neg (fun e=>h e.symm)]
theorem eJ.setB {o:bl} {l:eX} (h:eJ o l) (k:Nat) (hk:k<o.2.2.2.1.length) (x:ByteArray) (hx:x.size=la o k):eJ o (l.1,l.2.1,l.2.2.1,l.2.2.2.set k x):=by
 refine⟨h.a,h.c,h.d,by simp only[List.length_set];exact h.b,h.cs,fun i hi=> ?_,h.fa,h.ds⟩
 simp only
 rw[E8 (τ:= .str) l.2.2.2 k x (by rw[h.b];exact hk) i (by rw[h.b];exact hi)]
 split
 ·rename_i e;rw[e];exact hx
 ·exact h.bs i hi
theorem eJ.setC {o:bl} {l:eX} (h:eJ o l) (k:Nat) (hk:k<o.2.2.1.length) (x:ByteArray) (hx:x.size=gw o k):eJ o (l.1,l.2.1.set k x,l.2.2.1,l.2.2.2):=by
 refine⟨h.a,by simp only[List.length_set];exact h.c,h.d,h.b,fun i hi=> ?_,h.bs,h.fa,h.ds⟩
 simp only
 rw[E8 (τ:= .str) l.2.1 k x (by rw[h.c];exact hk) i (by rw[h.c];exact hi)]
 split
 ·rename_i e;rw[e];exact hx
 ·exact h.cs i hi
structure BE (o:bl) (r:AF):Prop where
 at_:gp o r=true
 kind:1≤r.2.2.1∧r.2.2.1≤9
 word:r.2.2.1=9↔(o.2.2.1.length:Int)≤r.1
 add: -2147483648≤r.2.2.2.2∧r.2.2.2.2≤2147483647
theorem sM {o:bl} {k:Nat} (h:kI o k=0):BE o (rd (τ:=bH) o.2.2.2.2.1 (k:Int)):=by
 unfold kI at h
 generalize rd (τ:=bH) o.2.2.2.2.1 (k:Int)=r at*
 split at h
 ·cases h
 split at h
 ·cases h
 split at h
 ·cases h
 split at h
 ·cases h
 rename_i h1 h2 h3 h4
 have h2:(cP r.2.2.1 1 9&&(decide (r.2.2.1=9)==decide (r.1≥(o.2.2.1.length:Int))))=true:=by
  cases h5:(cP r.2.2.1 1 9&&(decide (r.2.2.1=9)==decide (r.1≥(o.2.2.1.length:Int))));exact absurd h5 h2;rfl
 rw[Bool.and_eq_true,bd]at h2
 refine⟨?_,h2.1, ?_, ?_⟩
 ·cases h5:gp o r;exact absurd h5 h1;rfl
 ·have:=h2.2
  rw[beq_iff_eq,decide_eq_decide]at this
  exact this
 ·rw[←bd]
  cases h5:cP r.2.2.2.2 (-2147483648) 2147483647;exact absurd h5 h4;rfl
theorem BE.data {o:bl} {r:AF} (ho:dG o) (h:BE o r) (hu:(o.2.2.1.length:Int)≤r.1):∃k j:Nat,r.1-(o.2.2.1.length:Int)=(k:Int)∧k<o.2.2.2.1.length∧r.2.1=(j:Int)∧8*j+8≤la o k:=by
 have h1:=h.at_
 unfold gp at h1
 rw[Bool.and_eq_true,bd,bd]at h1
 refine⟨(r.1-(o.2.2.1.length:Int)).toNat,r.2.1.toNat,by omega,by omega,by omega, ?_⟩
 have hv:eE o r.1=((la o (r.1-(o.2.2.1.length:Int)).toNat:Nat):Int)/8:=by
  unfold eE
  rw[if_neg (by omega),if_pos ⟨hu,by omega⟩,Int.tdiv_eq_ediv_of_nonneg (by omega)]
  unfold la
  rw[show(((r.1-(o.2.2.1.length:Int)).toNat:Nat):Int)=r.1-(o.2.2.1.length:Int) by omega]
 have:=ho.dsz_pos (r.1-(o.2.2.1.length:Int)).toNat (by omega)
 omega
theorem BE.code {o:bl} {r:AF} (ho:dG o) (h:BE o r) (hu:¬(o.2.2.1.length:Int)≤r.1):∃k j:Nat,r.1=(k:Int)∧k<o.2.2.1.length∧r.2.1=(j:Int)∧4*j+4≤gw o k:=by
 have h1:=h.at_
 unfold gp at h1
 rw[Bool.and_eq_true,bd,bd]at h1
 refine⟨r.1.toNat,r.2.1.toNat,by omega,by omega,by omega, ?_⟩
 have hv:eE o r.1=((gw o r.1.toNat:Nat):Int)/4:=by
  unfold eE
  rw[if_pos ⟨by omega,by omega⟩,Int.tdiv_eq_ediv_of_nonneg (by omega)]
  unfold gw
  rw[show((r.1.toNat:Nat):Int)=r.1 by omega]
 have:=ho.fsz_pos r.1.toNat (by omega)
 omega
theorem Af (n:Nat) (h:n≤4096):ay (0+n) 16=true:=ka _ (by omega)
theorem yx (t:List cW) (o:bl) (l:eX) (r:AF) (ht:BD t) (ho:dG o) (hl:eJ o l) (hr:BE o r):
  ∃l' c,Z2 (l,t,o) r=some (c,l',t,o)∧Sa t o l r=some (l',c)∧eJ o l'∧l'.1=l.1:=by
 have h1:=ho.f
 have h2:=ho.d
 have hs:=yw t o l r.2.2.2.1 ht hl
 have hadd:=hr.add
 rw[PB,MP,E5 t o l _ ht.1 ho.toObjSz hl,E6 t o l _ ht.1 ho.toObjSz hl]
 simp only[Option.bind_some]
 generalize wr t o l r.2.2.2.1=s at*
 cases hs2:s.2 with
 |false=>exact⟨l,23,rfl,rfl,hl,rfl⟩
 |true=>
  have hat:=hr.at_
  unfold gp at hat
  rw[Bool.and_eq_true,bd,bd]at hat
  rw[aV (n:=r.1-(o.2.2.1.length:Int)) (by omega) (by omega),aV (n:=s.1+r.2.2.2.2) (by omega) (by omega)]
  simp only[Bool.not_true,cond_false]
  by_cases hu:(o.2.2.1.length:Int)≤r.1
  ·obtain⟨k,j,e1,hk,e2,hj⟩:=hr.data ho hu
   have hd:=ho.dsz_pos k hk
   have hsz:=hl.bs k hk
   rw[decide_eq_true (show r.1-(o.2.2.1.length:Int)≥0 by omega),decide_eq_true (show r.1≥(o.2.2.1.length:Int) from hu),e1,e2,ae,decide_eq_true (show k<l.2.2.2.length by rw[hl.b];exact hk),aV (n:=8*(j:Int)) (by omega) (by omega),aV (n:=8*(j:Int)+8) (by omega) (by omega),Af l.2.2.2.length (by rw[hl.b];omega),
    show(8:Int)*(j:Int)=((8*j:Nat):Int) by omega,show xC (s.1+r.2.2.2.2) 8=some (av (fk (s.1+r.2.2.2.2) 8)) from lK _ 8 (by omega)]
   rw[show ic (s.1+r.2.2.2.2) 8=some (av (fk (s.1+r.2.2.2.2) 8)) from d6 _ 8 (by omega)]
   simp only[Option.bind_some,cond_true,letB]
   have hb:(av (fk (s.1+r.2.2.2.2) 8)).size=8:=by rw[aB,aI]
   generalize av (fk (s.1+r.2.2.2.2) 8)=b at*
   rw[nS _ _ _ (by rw[hsz,hb];omega) (by rw[hsz];omega)]
   simp only[Option.bind_some]
   generalize rd (τ:= .str) l.2.2.2 (k:Int)=d at*
   refine⟨_,0,rfl, ?_,hl.setB k hk (gJ d (8*j) b) (by rw[mc _ _ _ (by rw[hsz,hb];omega),hsz]),rfl⟩
   rw[show(decide (0≤0)&&decide (0≤((8*j:Nat):Int))&&decide (((8*j:Nat):Int)≤(d.size:Int)))=true by simp;omega,show(decide (0≤((8*j:Nat):Int)+8)&&decide (((8*j:Nat):Int)+8≤(d.size:Int))&&decide ((d.size:Int)≤(d.size:Int)))=true by simp;omega]
   rw[show(Int.toNat 0)=0 from rfl,Int.toNat_natCast,show(((8*j:Nat):Int)+8).toNat=8*j+8 by omega,Int.toNat_natCast,Int.toNat_natCast]
   rw[decide_eq_true (show(d.extract 0 (8*j)).size+b.size≤9223372036854775807 by simp only[ByteArray.size_extract];omega),decide_eq_true (show(d.extract 0 (8*j)++b).size+(d.extract (8*j+8) d.size).size≤9223372036854775807 by simp only[ByteArray.size_append,ByteArray.size_extract];omega)]
   unfold gJ
   rw[hb]
   rfl
  ·obtain⟨k,j,e1,hk,e2,hj⟩:=hr.code ho hu
   have hd:=ho.fsz_pos k hk
   have hsz:=hl.cs k hk
   have hk8:1≤r.2.2.1∧r.2.2.1≤8:=by
    have:=hr.kind
    have h9:r.2.2.1≠9:=fun e=>hu (hr.word.1 e)
    omega
   have hat2:=hl.fa k hk
   rw[decide_eq_false (show¬r.1-(o.2.2.1.length:Int)≥0 by omega),decide_eq_false (show¬r.1≥(o.2.2.1.length:Int) from hu),e1,e2,ae,ae,decide_eq_true (show k<l.2.1.length by rw[hl.c];exact hk),decide_eq_true (show k<l.1.length by rw[hl.a];exact hk),aV (n:=4*(j:Int)) (by omega) (by omega),aV (n:=4*(j:Int)+4) (by omega) (by omega),Af l.2.1.length (by rw[hl.c];omega),
    show(4:Int)*(j:Int)=((4*j:Nat):Int) by omega]
   simp only[cond_false,cond_true,letB]
   generalize rd (τ:= .str) l.2.1 (k:Int)=d at*
   obtain⟨a,ha⟩:∃x:Int,rd (τ:= .int .i64) l.1 (k:Int)=x:=⟨_,rfl⟩
   rw[ha]at hat2
   simp only[ha]
   have hat3:0≤a∧a≤1048575:=⟨hat2.1,hat2.2.1⟩
   rw[show(decide (0≤((4*j:Nat):Int))&&decide (((4*j:Nat):Int)≤((4*j:Nat):Int)+4)&&decide (((4*j:Nat):Int)+4≤(d.size:Int)))=true by simp;omega,show(decide (0≤0)&&decide (0≤((4*j:Nat):Int))&&decide (((4*j:Nat):Int)≤(d.size:Int)))=true by simp;omega,show(decide (0≤((4*j:Nat):Int)+4)&&decide (((4*j:Nat):Int)+4≤(d.size:Int))&&decide ((d.size:Int)≤(d.size:Int)))=true by simp;omega]
   rw[show(Int.toNat 0)=0 from rfl,Int.toNat_natCast,show(((4*j:Nat):Int)+4).toNat=4*j+4 by omega,Int.toNat_natCast,Int.toNat_natCast]
   have hx:(d.extract (4*j) (4*j+4)).size=4:=by simp only[ByteArray.size_extract];omega
   rw[hJ _ (by omega),hx,n7 d (4*j) (4*j+4) (by omega) 4 0 (by omega),Nat.add_zero]
   rw[show xu d ((4*j:Nat):Int) 4=some (IntKind.wrap .i64 (kG d (4*j) 4)) from hY d (4*j) 4 (by omega) (by omega)]
   have h4:=SH d (4*j)
   rw[aV (n:=(kG d (4*j) 4:Int)) (by omega) (by omega),aV (n:=a+((4*j:Nat):Int)) (by omega) (by omega)]
   simp only[Option.bind_some,cond_true]
   obtain⟨q,q1,q2⟩:=rW (kG d (4*j) 4:Int) r.2.2.1 (s.1+r.2.2.2.2) (a+((4*j:Nat):Int)) h4 hk8 ⟨by omega,by omega⟩ ⟨by omega,by omega⟩
   rw[q1,q2]
   simp only[Option.bind_some]
   by_cases hq:q.2=0
   ·rw[decide_eq_true hq,show xC q.1 4=some (av (fk q.1 4)) from lK _ 4 (by omega),show ic q.1 4=some (av (fk q.1 4)) from d6 _ 4 (by omega)]
    have hb:(av (fk q.1 4)).size=4:=by rw[aB,aI]
    simp only[Option.bind_some,cond_true,Bool.not_true,cond_false]
    generalize av (fk q.1 4)=b at*
    rw[nS _ _ _ (by omega) (by omega)]
    simp only[Option.bind_some]
    refine⟨_,q.2,rfl, ?_,hl.setC k hk (gJ d (4*j) b) (by rw[mc _ _ _ (by omega),hsz]),rfl⟩
    rw[decide_eq_true (show(d.extract 0 (4*j)).size+b.size≤9223372036854775807 by simp only[ByteArray.size_extract];omega),decide_eq_true (show(d.extract 0 (4*j)++b).size+(d.extract (4*j+4) d.size).size≤9223372036854775807 by simp only[ByteArray.size_append,ByteArray.size_extract];omega),hq]
    unfold gJ
    rw[hb]
    rfl
   ·rw[decide_eq_false hq]
    exact⟨l,q.2,rfl,rfl,hl,rfl⟩
def c8 {α:Type} (p:Nat→Bool) (f:Nat→α):Nat→Nat→List α
 |_,0=>[]
 |i,k+1=>bif p i then f i::c8 p f (i+1) k else c8 p f (i+1) k
theorem bU {α:Type} (p:Nat→Bool) (f:Nat→α):∀k i,(c8 p f i k).length≤k
 |0,_=>Nat.le_refl _
 |k+1,i=>by
  have:=bU p f k (i+1)
  rw[c8]
  cases p i
  ·rw[cond_false];omega
  ·rw[cond_true,List.length_cons];omega
theorem BF {α β:Type} (L:List α→Int→Option β) (p:Nat→Bool) (f:Nat→α) (n A:Nat) (hstep:∀acc (i:Nat),i<n→acc.length≤A+i→L acc (i:Int)=bif p i then L (acc++[f i]) ((i+1:Nat):Int)else L acc ((i+1:Nat):Int)):
  ∀(k i:Nat) (acc:List α),i+k=n→acc.length≤A+i→L acc (i:Int)=L (acc++c8 p f i k) (n:Int):=by
 intro k
 induction k with
 |zero=>
   intro i acc h _;have:i=n:=by omega
   subst this;rw[c8,List.append_nil]
 |succ k ih=>
  intro i acc h ha
  rw[hstep acc i (by omega) ha,c8]
  cases p i with
  |false=>rw[cond_false,cond_false,ih (i+1) _ (by omega) (by omega)]
  |true=>rw[cond_true,cond_true,ih (i+1) _ (by omega) (by simp;omega),List.append_assoc];rfl
theorem c9 {α β:Type} {L:List α→Int→Option β} (p:Nat→Bool) (f:Nat→α) (n:Nat) (acc:List α) (hstep:∀acc' (i:Nat),i<n→acc'.length≤acc.length+i→L acc' (i:Int)=bif p i then L (acc'++[f i]) ((i+1:Nat):Int)else L acc' ((i+1:Nat):Int)):L acc 0=L (acc++c8 p f 0 n) (n:Int):=
 BF L p f n acc.length hstep n 0 acc (by omega) (by omega)
def nc (t:List cW) (o:bl) (l:eX):List Int:=
 c8 (fun i=>decide ((rd (τ:=a6) t (i:Int)).2.1=1)) (fun i=>(rd (τ:=a6) t (i:Int)).2.2.1) 0 t.length++
  c8 (fun i=> !(rd (τ:=aC) o.2.2.1 (i:Int)).2.1) (fun i=>rd (τ:= .int .i64) l.1 (i:Int)) 0 o.2.2.1.length
theorem rz (t:List cW) (o:bl) (l:eX) (ht:t.length≤64) (hz:ObjSz o):(nc t o l).length≤68:=by
 have:=hz.f
 unfold nc
 have h1:=bU (fun i=>decide ((rd (τ:=a6) t (i:Int)).2.1=1)) (fun i=>(rd (τ:=a6) t (i:Int)).2.2.1) t.length 0
 have h2:=bU (fun i=> !(rd (τ:=aC) o.2.2.1 (i:Int)).2.1) (fun i=>rd (τ:= .int .i64) l.1 (i:Int)) o.2.2.1.length 0
 rw[List.length_append];omega
theorem yy (t:List cW) (o:bl) (l:eX) (ht:t.length≤64) (hz:ObjSz o) (hl:eJ o l):Z3 (l,t,o)=some (nc t o l):=by
 have h1:=hz.f
 rw[PC]
 show Z3.a (l,t,o) [] t (t.length:Int) 0=_
 rw[c9 (L:=fun acc i=>Z3.a (l,t,o) acc t (t.length:Int) i) (fun i=>decide ((rd (τ:=a6) t (i:Int)).2.1=1)) (fun i=>(rd (τ:=a6) t (i:Int)).2.2.1) t.length [] fun acc i hi ha=> ?_]
 ·rw[Z3.a_eq,ab,decide_eq_false (Nat.lt_irrefl _),cond_false,List.nil_append]
  have hf:=bU (fun i=>decide ((rd (τ:=a6) t (i:Int)).2.1=1)) (fun i=>(rd (τ:=a6) t (i:Int)).2.2.1) t.length 0
  show Z3.b (l,t,o) _ o.2.2.1 (o.2.2.1.length:Int) 0=_
  rw[c9 (L:=fun acc i=>Z3.b (l,t,o) acc o.2.2.1 (o.2.2.1.length:Int) i) (fun i=> !(rd (τ:=aC) o.2.2.1 (i:Int)).2.1) (fun i=>rd (τ:= .int .i64) l.1 (i:Int)) o.2.2.1.length (c8 (fun i=>decide ((rd (τ:=a6) t (i:Int)).2.1=1)) (fun i=>(rd (τ:=a6) t (i:Int)).2.2.1) 0 t.length) fun acc i hi ha=> ?_]
  ·show Z3.b (l,t,o) _ o.2.2.1 (o.2.2.1.length:Int) (o.2.2.1.length:Int)=_
   rw[Z3.b_eq,ab,decide_eq_false (Nat.lt_irrefl _),cond_false];rfl
  ·show Z3.b (l,t,o) acc o.2.2.1 (o.2.2.1.length:Int) (i:Int)=_
   rw[Z3.b_eq,ab,ae,decide_eq_true hi,ah i _ hi (by omega),ae,show decide (i<l.1.length)=true from decide_eq_true (by rw[hl.a];exact hi),k9 _ (by simp;omega)]
   cases (rd (τ:=aC) o.2.2.1 (i:Int)).2.1<;>rfl
 ·show Z3.a (l,t,o) acc t (t.length:Int) (i:Int)=_
  rw[Z3.a_eq,ab,ae,decide_eq_true hi,ah i _ hi (by omega),k9 _ (by simp at ha⊢;omega)]
  cases decide ((rd (τ:=a6) t (i:Int)).2.1=1)<;>rfl
theorem yz (t:List cW) (o:bl) (l:eX) (ht:t.length≤64) (hz:ObjSz o) (hl:eJ o l) (x8:eX) (x9 x10 a b:bm):gz.b t o x8 x9 x10 l a b [] 0=gz.d o x8 x9 x10 l a b (nc t o l) 0:=by
 have h1:=hz.f
 rw[c9 (L:=fun acc i=>gz.b t o x8 x9 x10 l a b acc i) (fun i=>decide ((rd (τ:=a6) t (i:Int)).2.1=1)) (fun i=>(rd (τ:=a6) t (i:Int)).2.2.1) t.length [] fun acc i hi ha=> ?_]
 ·rw[gz.b_eq,ab,decide_eq_false (Nat.lt_irrefl _),cond_false,List.nil_append]
  have hf:=bU (fun i=>decide ((rd (τ:=a6) t (i:Int)).2.1=1)) (fun i=>(rd (τ:=a6) t (i:Int)).2.2.1) t.length 0
  rw[c9 (L:=fun acc i=>gz.c o x8 x9 x10 l a b acc i) (fun i=> !(rd (τ:=aC) o.2.2.1 (i:Int)).2.1) (fun i=>rd (τ:= .int .i64) l.1 (i:Int)) o.2.2.1.length (c8 (fun i=>decide ((rd (τ:=a6) t (i:Int)).2.1=1)) (fun i=>(rd (τ:=a6) t (i:Int)).2.2.1) 0 t.length) fun acc i hi ha=> ?_]
  ·rw[gz.c_eq,ab,decide_eq_false (Nat.lt_irrefl _),cond_false];rfl
  ·show gz.c o x8 x9 x10 l a b acc (i:Int)=_
   rw[gz.c_eq,ab,ae,decide_eq_true hi,ah i _ hi (by omega),ae,show decide (i<l.1.length)=true from decide_eq_true (by rw[hl.a];exact hi),k9 _ (by simp;omega)]
   cases (rd (τ:=aC) o.2.2.1 (i:Int)).2.1<;>rfl
 ·show gz.b t o x8 x9 x10 l a b acc (i:Int)=_
  rw[gz.b_eq,ab,ae,decide_eq_true hi,ah i _ hi (by omega),k9 _ (by simp at ha⊢;omega)]
  cases decide ((rd (τ:=a6) t (i:Int)).2.1=1)<;>rfl
theorem g8 (o:bl) (hz:ObjSz o) (x5 x6:bm) (x8:eX) (x9 x10:bm) (s:SI) (c:Int) (hc:c≠0):∀k i:Nat,i+k=o.2.2.2.2.1.length→
  Z4.c x5 x6 o x8 x9 x10 s c o.2.2.2.2.1 (o.2.2.2.2.1.length:Int) (i:Int)=Z4.d x5 x6 x8 x9 x10 s c o.2.2.1 (o.2.2.1.length:Int) 0:=by
 have h1:=hz.r
 intro k
 induction k with
 |zero=>
   intro i h;have:i=o.2.2.2.2.1.length:=by omega
   subst this;rw[Z4.c_eq,ab,decide_eq_false (Nat.lt_irrefl _),cond_false]
 |succ k ih=>
  intro i h
  have hi:i<o.2.2.2.2.1.length:=by omega
  rw[Z4.c_eq,ab,ae,decide_eq_true hi,ah i _ hi (by omega),decide_eq_false hc,ih (i+1) (by omega)];rfl
abbrev ZL:eX:=([],[],[],[])
abbrev ZA:bm:=(0,0,0)
theorem BG (t:List cW) (o:bl) (ht:BD t) (ho:dG o) (x5 x6:bm) (x8:eX) (x9 x10:bm) (a b:bm):∀(k i:Nat) (l:eX),i+k=o.2.2.2.2.1.length→eJ o l→
  ∃l' c,Z4.c x5 x6 o x8 x9 x10 (l,t,o) 0 o.2.2.2.2.1 (o.2.2.2.2.1.length:Int) (i:Int)=Z4.d x5 x6 x8 x9 x10 (l',t,o) c o.2.2.1 (o.2.2.1.length:Int) 0∧
   (c=0→eJ o l'∧l'.1=l.1∧gz.a t o ZL ZA ZA l a b (i:Int)=gz.b t o ZL ZA ZA l' a b [] 0)∧(c≠0→gz.a t o ZL ZA ZA l a b (i:Int)=some (ZL,ZA,ZA,c)):=by
 have h1:=ho.r
 intro k
 induction k with
 |zero=>
  intro i l h hl
  have:i=o.2.2.2.2.1.length:=by omega
  subst this
  rw[Z4.c_eq,ab,decide_eq_false (Nat.lt_irrefl _),cond_false,gz.a_eq,ab,decide_eq_false (Nat.lt_irrefl _),cond_false]
  exact⟨l,0,rfl,fun _=>⟨hl,rfl,rfl⟩,fun h=>absurd rfl h⟩
 |succ k ih=>
  intro i l h hl
  have hi:i<o.2.2.2.2.1.length:=by omega
  obtain⟨l1,c,e1,e2,hl1,hl2⟩:=yx t o l (rd (τ:=bH) o.2.2.2.2.1 (i:Int)) ht ho hl (sM (ho.rel i hi))
  rw[Z4.c_eq,ab,ae,decide_eq_true hi,ah i _ hi (by omega),gz.a_eq,ab,ae,decide_eq_true hi,ah i _ hi (by omega),e1,e2]
  simp only[cond_true,decide_true,Option.bind_some]
  by_cases hc:c=0
  ·subst hc
   obtain⟨l',c',g1,g2,g3⟩:=ih (i+1) l1 (by omega) hl1
   exact⟨l',c',g1,fun h=>⟨(g2 h).1,(g2 h).2.1.trans hl2,(g2 h).2.2⟩,g3⟩
  ·rw[g8 o ho.toObjSz x5 x6 x8 x9 x10 (l1,t,o) c hc k (i+1) (by omega),decide_eq_false hc]
   exact⟨l1,c,rfl,fun h=>absurd h hc,fun _=>rfl⟩
theorem ep (o:bl) (hz:ObjSz o) (x5 x6:bm) (x8:eX) (x9 x10:bm) (s:SI) (c:Int) (hc:c≠0):∀k i:Nat,i+k=o.2.2.1.length→
  Z4.d x5 x6 x8 x9 x10 s c o.2.2.1 (o.2.2.1.length:Int) (i:Int)=some (ZL,ZA,ZA,c):=by
 have h1:=hz.f
 intro k
 induction k with
 |zero=>
   intro i h;have:i=o.2.2.1.length:=by omega
   subst this;rw[Z4.d_eq,ab,decide_eq_false (Nat.lt_irrefl _),cond_false,decide_eq_false hc];rfl
 |succ k ih=>
  intro i h
  have hi:i<o.2.2.1.length:=by omega
  rw[Z4.d_eq,ab,ae,decide_eq_true hi,ah i _ hi (by omega),decide_eq_false hc,ih (i+1) (by omega)];rfl
theorem yA (t:List cW) (o:bl) (ht:BD t) (ho:dG o) (x8:eX) (x9 x10:bm) (a b:bm) (l:eX) (hl:eJ o l):∀(k i:Nat),i+k=o.2.2.1.length→
  ∃v,Z4.d a b x8 x9 x10 (l,t,o) 0 o.2.2.1 (o.2.2.1.length:Int) (i:Int)=some v∧gz.d o ZL ZA ZA l a b (nc t o l) (i:Int)=some v∧(v.2.2.2=0→v=(l,a,b,0)):=by
 have h1:=ho.f
 intro k
 induction k with
 |zero=>
  intro i h
  have:i=o.2.2.1.length:=by omega
  subst this
  rw[Z4.d_eq,ab,decide_eq_false (Nat.lt_irrefl _),cond_false,gz.d_eq,ab,decide_eq_false (Nat.lt_irrefl _),cond_false]
  exact⟨(l,a,b,0),rfl,rfl,fun _=>rfl⟩
 |succ k ih=>
  intro i h
  have hi:i<o.2.2.1.length:=by omega
  have hsz:=hl.cs i hi
  have hfs:=ho.fsz_pos i hi
  have hcl:=rz t o l ht.1 ho.toObjSz
  obtain⟨v,e1,e2⟩:=tk (rd (τ:= .str) l.2.1 (i:Int)) (rd (τ:= .int .i64) l.1 (i:Int)) (rd (τ:=aC) o.2.2.1 (i:Int)).2.2.1 (nc t o l) (by omega) (by omega)
  rw[Z4.d_eq,ab,ae,decide_eq_true hi,ah i _ hi (by omega),gz.d_eq,ab,ae,decide_eq_true hi,ah i _ hi (by omega),yy t o l ht.1 ho.toObjSz hl]
  rw[ae,ae,show decide (i<l.2.1.length)=true from decide_eq_true (by rw[hl.c];exact hi),show decide (i<l.1.length)=true from decide_eq_true (by rw[hl.a];exact hi),decide_eq_true hi]
  simp only[cond_true,decide_true,Option.bind_some]
  rw[e1,e2]
  simp only[Option.bind_some]
  by_cases hv:v.2=0
  ·rw[hv]
   exact ih (i+1) (by omega)
  ·rw[ep o ho.toObjSz a b x8 x9 x10 (l,t,o) v.2 hv k (i+1) (by omega),decide_eq_false hv]
   exact⟨(ZL,ZA,ZA,v.2),rfl,rfl,fun h=>absurd h hv⟩
structure E9 (t:List cW) (a b:bm) (o:bl) (v:eX×bm×bm×Int):Prop where
 lnk:eJ o v.1
 ea:v.2.1=(dp o a b).2.1
 eb:v.2.2.1=(dp o a b).2.2.1
 ok:(dp o a b).2.2.2=true
 ats:v.1.1=(dp o a b).1.1
 names:gt t o=0
theorem ws (f:Int) (hf:f≠0) (ok:Bool):after f ok=f:=by unfold after;rw[if_neg (fun h=>hf h.1)]
theorem BH (t:List cW) (a b:bm) (o:bl) (ht:BD t) (ha:ce a) (hb:ce b) (ho:dG o) (x8:eX) (x9 x10:bm):
  ∃v,Z4.a a b o x8 x9 x10 (([],[],[],[]),t,o) (gt t o) o.2.2.1 (o.2.2.1.length:Int) 0=some v∧gz t a b o=some v∧(v.2.2.2=0→E9 t a b o v):=by
 rw[E4 o ho.toUnitSz a b ha hb,MQ,zB t o ht.1 ho.toObjSz]
 simp only[Option.bind_some]
 obtain⟨hl,hA,hB⟩:=wm o ho a b ha hb
 by_cases hn:gt t o=0
 ·rw[hn]
  obtain⟨s1,s2⟩:=Hb o ho.toUnitSz a b ha hb
  cases hok:(dp o a b).2.2.2 with
  |false=>
   obtain⟨r,e1,e2⟩:=s2 hok
   rw[e1]
   simp only[Option.bind_some]
   rw[e2,show after 0 false=7 from rfl]
   refine⟨(ZL,ZA,ZA,7), ?_,rfl,fun h=>by cases h⟩
   rw[show(0:Int)=((0:Nat):Int) from rfl,g8 o ho.toObjSz _ _ x8 x9 x10 ((dp o a b).1,t,o) 7 (by decide) o.2.2.2.2.1.length 0 (by omega)]
   exact ep o ho.toObjSz _ _ x8 x9 x10 ((dp o a b).1,t,o) 7 (by decide) o.2.2.1.length 0 (by omega)
  |true=>
   rw[s1 hok]
   simp only[Option.bind_some]
   rw[hok,show after 0 true=0 from rfl]
   obtain⟨l',c,g1,g2,g3⟩:=BG t o ht ho (dp o a b).2.1 (dp o a b).2.2.1 x8 x9 x10 (dp o a b).2.1 (dp o a b).2.2.1 o.2.2.2.2.1.length 0 (dp o a b).1 (by omega) hl
   have g1':Z4.c (dp o a b).2.1 (dp o a b).2.2.1 o x8 x9 x10 ((dp o a b).1,t,o) 0 o.2.2.2.2.1 (o.2.2.2.2.1.length:Int) 0=_:=g1
   rw[g1']
   simp only[decide_true,Bool.not_true,cond_false]
   by_cases hc:c=0
   ·subst hc
    obtain⟨hl',hl2,g4⟩:=g2 rfl
    obtain⟨v,e1,e2,e3⟩:=yA t o ht ho x8 x9 x10 (dp o a b).2.1 (dp o a b).2.2.1 l' hl' o.2.2.1.length 0 (by omega)
    have g4':=yz t o l' ht.1 ho.toObjSz hl' ZL ZA ZA (dp o a b).2.1 (dp o a b).2.2.1
    refine⟨v,e1,g4.trans (g4'.trans e2),fun h=> ?_⟩
    rw[e3 h]
    exact⟨hl',rfl,rfl,hok,hl2,hn⟩
   ·refine⟨(ZL,ZA,ZA,c), ?_,g3 hc,fun h=>absurd h hc⟩
    exact ep o ho.toObjSz _ _ x8 x9 x10 (l',t,o) c hc o.2.2.1.length 0 (by omega)
 ·rw[decide_eq_false hn,ws _ hn]
  refine⟨(ZL,ZA,ZA,gt t o), ?_,rfl,fun h=>absurd h hn⟩
  rw[show(0:Int)=((0:Nat):Int) from rfl,g8 o ho.toObjSz _ _ x8 x9 x10 ((dp o a b).1,t,o) _ hn o.2.2.2.2.1.length 0 (by omega)]
  exact ep o ho.toObjSz _ _ x8 x9 x10 ((dp o a b).1,t,o) _ hn o.2.2.1.length 0 (by omega)
theorem H5 {t:List cW} (h:ov t=true):BD t:=by
 unfold ov at h
 rw[Bool.and_eq_true,decide_eq_true_eq,dc]at h
 refine⟨h.1,fun i hi=> ?_⟩
 have:=h.2 i (Nat.zero_le _) (by omega)
 unfold xc at this
 cases h1:du (rd (τ:=a6) t (i:Int))with
 |true=>rfl
 |false=>rw[h1]at this;cases this
theorem BI (t:List cW) (a b:bm) (o:bl) (hr:tw o) (ht:ov t=true) (ha:ce a) (hb:ce b) (ho:ia o=true):
  ∃v,Z4 t a b o=some v∧gz t a b o=some v∧(v.2.2.2=0→E9 t a b o v):=by
 have hT:=H5 ht
 have hO:=dH ho
 have:=hT.1
 obtain⟨v,e1,e2,e3⟩:=BH t a b o hT ha hb hO ([],[],[],[]) (0,0,0) (0,0,0)
 refine⟨v, ?_,e2,e3⟩
 rw[PD,decide_eq_false (show¬(t.length:Int)>4096 by omega),(iL t).1,ht,tt a,tE.2 ha,tt b,tE.2 hb,(gq o hr).1,ho]
 simp only[Option.bind_some,aA,Bool.not_true,cond_false]
 rw[zA _ _ _ hT.1 hO.toObjSz]
 exact e1
def updF (F:Int→Int) (a:Int) (t:ByteArray) (x:Int):Int:=if a≤x∧x<a+(t.size:Int)then bt t (x-a)else F x
def FR (F:Int→Int):Prop:=∀x,0≤F x∧F x≤255
theorem dR {F:Int→Int} (h:FR F) (a:Int) (t:ByteArray):FR (updF F a t):=by
 intro x
 unfold updF
 split
 ·exact qy _ _
 ·exact h x
def pg (F:Int→Int) (b:Int):ByteArray:=av (bc (fun i=>F (b+(i:Int))) 0 128)
def cc (F:Int→Int) (q:Int×Int):fH:=(q.1,q.2,pg F q.1)
def ar (F:Int→Int) (L:List (Int×Int)):List fH:=L.map (cc F)
theorem fE (F:Int→Int) (b:Int):(pg F b).size=128:=by unfold pg;rw[aB,aD]
theorem wt {α:Type} (f:Nat→α) (P:α→Prop) (k i:Nat) (h:∀j,P (f j)):∀x∈bc f i k,P x:=by
 intro x hx
 obtain⟨j,_,_,rfl⟩:=(cy f x k i).1 hx
 exact h j
theorem wu {F:Int→Int} (hF:FR F) (b i:Int) (h:0≤i) (h':i<128):bt (pg F b) i=F (b+i):=by
 obtain⟨n,rfl⟩:∃n:Nat,i=(n:Int):=⟨i.toNat,by omega⟩
 rw[gj]
 unfold pg
 rw[ji _ n (wt _ _ _ _ fun j=>hF _) (by rw[aD];omega),go,Nat.zero_add]
theorem p7 (xs:List Int) (h:∀x∈xs,0≤x∧x≤255):fo (av xs)=xs:=by
 unfold fo av
 simp only[List.map_map]
 rw[List.map_congr_left (g:=id) fun x hx=> ?_,List.map_id]
 have:=h x hx
 simp only[Function.comp,id]
 rw[UInt8.toNat_ofNat']
 omega
theorem Fa {α:Type} (f:Nat→α) (n i:Nat) (x:α):(bc f 0 n).set i x=bc (fun j=>if j=i then x else f j) 0 n:=by
 apply List.ext_getElem
 ·rw[List.length_set,aD,aD]
 ·intro j h1 h2
  rw[List.getElem_set,go,go,Nat.zero_add]
  by_cases h:j=i
  ·rw[if_pos h.symm,if_pos h]
  ·rw[if_neg (fun e=>h e.symm),if_neg h]
theorem dS {α:Type} {f g:Nat→α}:∀(k i:Nat),(∀j,i≤j→j<i+k→f j=g j)→bc f i k=bc g i k
 |0,_,_=>rfl
 |k+1,i,h=>by rw[bc,bc,h i (Nat.le_refl _) (by omega),dS k (i+1) fun j h1 h2=>h j (by omega) (by omega)]
def md (F:Int→Int) (a:Int) (t:ByteArray) (b:Int) (i:Nat):List Int:=bc (fun j=>if j<i then updF F a t (b+(j:Int))else F (b+(j:Int))) 0 128
structure eK (L:List (Int×Int)):Prop where
 len:L.length≤64
 base:∀q∈L,0≤q.1∧q.1≤1048575
def Fb (a:Int) (t:ByteArray):Prop:= -1099511627776≤a∧a≤1099511627776∧t.size≤1048576
theorem uc {F:Int→Int} (hF:FR F) (a:Int) (t:ByteArray) (hA:Fb a t) (x6 m:List fH) (k:Nat) (p:fH) (hp:0≤p.1∧p.1≤1048575) (x17 x18:Int) (hk:k<m.length):∀(d i:Nat),i+d=128→
  oy.b a t x6 m (k:Int) p (md F a t p.1 i) x17 x18 128 (i:Int)=oy.a a t x6 (m.set k ((rd (τ:=aO) m (k:Int)).1,(rd (τ:=aO) m (k:Int)).2.1,av (md F a t p.1 128))) x17 (IntKind.wrap .i64 (x18+1)):=by
 obtain⟨a1,a2,a3⟩:=hA
 intro d
 induction d with
 |zero=>
  intro i h
  have:i=128:=by omega
  subst this
  rw[oy.b_eq,show decide (((128:Nat):Int)<128)=false by decide,cond_false,ae,decide_eq_true hk,Int.toNat_natCast];rfl
 |succ d ih=>
  intro i h
  have hi:i<128:=by omega
  have hs:md F a t p.1 (i+1)=if a≤p.1+(i:Int)∧p.1+(i:Int)<a+(t.size:Int)then(md F a t p.1 i).set i (bt t (p.1+(i:Int)-a))else md F a t p.1 i:=by
   unfold md
   split
   ·rename_i hc
    rw[Fa]
    apply dS
    intro j _ _
    by_cases hj:j=i
    ·subst hj
     rw[if_pos (by omega),if_pos rfl]
     unfold updF
     rw[if_pos hc]
    ·rw[if_neg hj]
     by_cases hj2:j<i
     ·rw[if_pos (by omega),if_pos hj2]
     ·rw[if_neg (by omega),if_neg hj2]
   ·rename_i hc
    apply dS
    intro j _ _
    by_cases hj:j=i
    ·subst hj
     rw[if_pos (by omega),if_neg (by omega)]
     unfold updF
     rw[if_neg hc]
    ·by_cases hj2:j<i
     ·rw[if_pos (by omega),if_pos hj2]
     ·rw[if_neg (by omega),if_neg hj2]
  have hl:(md F a t p.1 i).length=128:=by unfold md;rw[aD]
  have ih':=ih (i+1) (by omega)
  rw[hs]at ih'
  rw[oy.b_eq,decide_eq_true (show(i:Int)<128 by omega),aV (n:=p.1+(i:Int)) (by omega) (by omega),aV (n:=p.1+(i:Int)-a) (by omega) (by omega),aV (n:=(t.size:Int)-1) (by omega) (by omega),aV (n:=(i:Int)+1) (by omega) (by omega),show(i:Int)+1=((i+1:Nat):Int) by omega,IW]
  simp only[cond_true,Option.bind_some]
  by_cases hc:a≤p.1+(i:Int)∧p.1+(i:Int)<a+(t.size:Int)
  ·rw[bd.2 (show 0≤p.1+(i:Int)-a∧p.1+(i:Int)-a≤(t.size:Int)-1 by omega),inL_true (i:=p.1+(i:Int)-a) (n:=t.size) (by omega) (by omega),ae,hl,decide_eq_true hi]
   rw[if_pos hc]at ih'
   simp only[cond_true,letB,Int.toNat_natCast]
   exact ih'
  ·rw[show cP (p.1+(i:Int)-a) 0 ((t.size:Int)-1)=false by cases h5:cP (p.1+(i:Int)-a) 0 ((t.size:Int)-1);rfl;rw[bd]at h5;omega]
   rw[if_neg hc]at ih'
   simp only[cond_false]
   exact ih'
theorem rA {F:Int→Int} (hF:FR F) (a:Int) (t:ByteArray) (hA:Fb a t) (L:List (Int×Int)) (hL:eK L) (x6:List fH):∀(d k:Nat),k+d=L.length→
  oy.a a t x6 (ar (updF F a t) (L.take k)++ar F (L.drop k)) (L.length:Int) (k:Int)=some (ar (updF F a t) L):=by
 have hn:=hL.len
 intro d
 induction d with
 |zero=>
  intro k h
  have:k=L.length:=by omega
  subst this
  rw[oy.a_eq,ab,decide_eq_false (Nat.lt_irrefl _),cond_false,List.take_length,List.drop_length]
  simp[ar]
 |succ d ih=>
  intro k h
  have hk:k<L.length:=by omega
  have hml:(ar (updF F a t) (L.take k)++ar F (L.drop k)).length=L.length:=by simp[ar];omega
  have hrd:rd (τ:=aO) (ar (updF F a t) (L.take k)++ar F (L.drop k)) (k:Int)=cc F L[k]:=by
   rw[aQ (τ:=aO) _ k (by rw[hml];exact hk),List.getElem_append_right (by simp[ar];omega)]
   simp[ar,List.getElem_drop]
   congr 2
   omega
  have hset:(ar (updF F a t) (L.take k)++ar F (L.drop k)).set k (cc (updF F a t) L[k])=ar (updF F a t) (L.take (k+1))++ar F (L.drop (k+1)):=by
   rw[List.set_append_right _ _ (by simp[ar];omega)]
   have e:k-(ar (updF F a t) (L.take k)).length=0:=by simp[ar];omega
   rw[e]
   unfold ar
   rw[List.drop_eq_getElem_cons hk,List.map_cons,List.set_cons_zero,List.take_succ_eq_append_getElem hk,List.map_append,List.append_assoc]
   rfl
  have hq:=hL.base L[k] (List.getElem_mem hk)
  rw[oy.a_eq,ab,ae,hml,decide_eq_true hk,hrd]
  have hint:fo (pg F (L[k]).1)=md F a t (L[k]).1 0:=by
   unfold pg
   rw[p7 _ (wt _ _ _ _ fun j=>hF _)]
   unfold md
   apply dS
   intro j _ _
   rw[if_neg (by omega)]
  show(bif true then bif true then bif decide ((pg F (L[k]).1).size≤9223372036854775807)then oy.b a t x6 _ (k:Int) (cc F L[k]) (fo (pg F (L[k]).1)) (L.length:Int) (k:Int) ((fo (pg F (L[k]).1)).length:Int) 0 else none else none else _)=_
  rw[fE,hint,show(md F a t (L[k]).1 0).length=128 by unfold md;rw[aD]]
  have hrow:=uc hF a t hA x6 (ar (updF F a t) (L.take k)++ar F (L.drop k)) k (cc F L[k]) hq (L.length:Int) (k:Int) (by rw[hml];exact hk) 128 0 (by omega)
  rw[hrd]at hrow
  have hfin:av (md F a t (cc F L[k]).1 128)=pg (updF F a t) (L[k]).1:=by
   unfold md pg
   rw[dS (f:=fun j=>if j<128 then updF F a t ((cc F L[k]).1+(j:Int))else F ((cc F L[k]).1+(j:Int))) (g:=fun j=>updF F a t ((L[k]).1+(j:Int))) 128 0 fun j _ hj=>if_pos (by omega)]
  rw[hfin,ah k L.length hk (by omega)]at hrow
  have hset':(ar (updF F a t) (L.take k)++ar F (L.drop k)).set k ((cc F L[k]).1,(cc F L[k]).2.1,pg (updF F a t) (L[k]).1)=ar (updF F a t) (L.take (k+1))++ar F (L.drop (k+1)):=hset
  rw[hset']at hrow
  exact hrow.trans (ih (k+1) (by omega))
theorem p8 (m:List fH) (h:m.length≤64):QO m=some m:=by
 rw[K0,show ay m.length 32=true by simp[ay];omega];rfl
theorem wv {F:Int→Int} (hF:FR F) (a:Int) (t:ByteArray) (hA:Fb a t) (L:List (Int×Int)) (hL:eK L):oy (ar F L) a t=some (ar (updF F a t) L):=by
 have hml:(ar F L).length=L.length:=by simp[ar]
 have hn:=hL.len
 rw[On,Om,p8 _ (by omega)]
 simp only[Option.bind_some]
 rw[hml]
 exact rA hF a t hA L hL [] L.length 0 (by omega)
theorem nd (a b:ByteArray) (i:Nat):bt (a++b) (i:Int)=if i<a.size then bt a (i:Int)else bt b ((i-a.size:Nat):Int):=by
 rw[gj,gj,gj]
 have hs:a.size=a.data.size:=rfl
 rw[ByteArray.data_append,Array.getD_eq_getD_getElem?,Array.getD_eq_getD_getElem?,Array.getD_eq_getD_getElem?,Array.getElem?_append,hs]
 split<;>rfl
theorem i5 (t:ByteArray) (s e i:Nat) (h:s+i<e) (he:e≤t.size):bt (t.extract s e) (i:Int)=bt t ((s+i:Nat):Int):=by
 rw[gj,gj]
 have hs:t.size=t.data.size:=rfl
 rw[ByteArray.data_extract,Array.getD_eq_getD_getElem?,Array.getD_eq_getD_getElem?,Array.getElem?_extract,if_pos (by omega)]
theorem JM {a b:ByteArray} (hs:a.size=b.size) (h:∀i:Nat,i<a.size→bt a (i:Int)=bt b (i:Int)):a=b:=by
 apply GR hs
 intro i hi
 have:=h i hi
 rw[gj,gj]at this
 exact UInt8.toNat_inj.1 (by omega)
abbrev gv:Ty:= .pair (.int .i64) (.int .i64)
def dT (b a:Int):Bool:=decide (b≤a)&&decide (a≤b+127)
def dr (L:List (Int×Int)) (a:Int):Int:=d8 (fun i=>dT (rd (τ:=gv) L (i:Int)).1 a) 0 L.length
theorem jQ (F:Int→Int) (L:List (Int×Int)) (i:Nat) (h:i<L.length):rd (τ:=aO) (ar F L) (i:Int)=cc F (rd (τ:=gv) L (i:Int)):=by
 rw[aQ (τ:=aO) (ar F L) i (by simp[ar];exact h),aQ (τ:=gv) L i h]
 simp[ar]
theorem kv {L:List (Int×Int)} (hL:eK L) (i:Nat) (h:i<L.length) {q:Int×Int} (hq:rd (τ:=gv) L (i:Int)=q):0≤q.1∧q.1≤1048575:=by
 rw[aQ (τ:=gv) L i h]at hq;rw[←hq];exact hL.base _ (List.getElem_mem h)
def JN (a:Int):Prop:= -1099511627776≤a∧a≤1099511627776
theorem BJ (F:Int→Int) (L:List (Int×Int)) (hL:eK L) (a:Int) (ha:JN a):Za (ar F L) a=some (dr L a):=by
 have hn:=hL.len
 obtain⟨a1,a2⟩:=ha
 have hml:(ar F L).length=L.length:=by simp[ar]
 rw[PJ,PI,hml]
 rw[dd (L:=Z9.a a (ar F L) (L.length:Int)) (fun i=>dT (rd (τ:=gv) L (i:Int)).1 a) L.length ?_ fun i hi=> ?_]
 ·rfl
 ·rw[Z9.a_eq,ab];simp
 ·rw[Z9.a_eq,ab,ae,hml,decide_eq_true hi,ah i _ hi (by omega),jQ F L i hi,PH]
  obtain⟨q,hq⟩:∃q:Int×Int,rd (τ:=gv) L (i:Int)=q:=⟨_,rfl⟩
  have hb:=kv hL i hi hq
  rw[hq]
  obtain⟨b,hbe⟩:∃b:Int,q.1=b:=⟨_,rfl⟩
  rw[hbe]at hb⊢
  show(bif true then bif true then(Option.bind (Option.bind (gA a (cc F q).1 (IntKind.wrap .i64 (IntKind.wrap .i64 ((cc F q).1+128)-1))) fun r1=>some r1) _)else none else _)=_
  rw[show(cc F q).1=b from hbe,aV (n:=b+128) (by omega) (by omega),aV (n:=b+128-1) (by omega) (by omega),IW,show cP a b (b+128-1)=dT b a by unfold cP dT;rw[show b+128-1=b+127 by omega]]
  rfl
theorem ne (F:Int→Int) (L:List (Int×Int)) (hL:eK L) (a:Int) (ha:JN a):AH (ar F L) a=some (dr L a):=by
 have hn:=hL.len
 obtain⟨a1,a2⟩:=ha
 have hml:(ar F L).length=L.length:=by simp[ar]
 rw[Mn]
 refine dd (L:=AH.a a (ar F L)) (fun i=>dT (rd (τ:=gv) L (i:Int)).1 a) L.length ?_ fun i hi=> ?_
 ·rw[AH.a_eq,hml,ab];simp
 ·rw[AH.a_eq,hml,ab,ae,decide_eq_true hi,ah i _ hi (by omega),jQ F L i hi]
  obtain⟨q,hq⟩:∃q:Int×Int,rd (τ:=gv) L (i:Int)=q:=⟨_,rfl⟩
  have hb:=kv hL i hi hq
  rw[hq]
  obtain⟨b,hbe⟩:∃b:Int,q.1=b:=⟨_,rfl⟩
  rw[hbe]at hb⊢
  rw[show(cc F q).1=b from hbe,aV (n:=a-b) (by omega) (by omega)]
  unfold dT
  by_cases h1:b≤a
  ·rw[decide_eq_true h1,show decide (a-b<128)=decide (a≤b+127) by congr 1;apply propext;omega]
   cases decide (a≤b+127)<;>rfl
  ·rw[decide_eq_false h1];rfl
def yB (L:List (Int×Int)):Prop:=∀(i j:Nat) (a:Int),i<L.length→j<L.length→dT (rd (τ:=gv) L (i:Int)).1 a=true→dT (rd (τ:=gv) L (j:Int)).1 a=true→i=j
theorem jR {L:List (Int×Int)} {a:Int} (h:0≤dr L a):∃(k:Nat) (q:Int×Int),dr L a=(k:Int)∧k<L.length∧rd (τ:=gv) L (k:Int)=q∧q.1≤a∧a≤q.1+127:=by
 unfold dr at h⊢
 rcases ct (fun i=>dT (rd (τ:=gv) L (i:Int)).1 a) L.length 0 with⟨h1,_⟩|⟨j,h1,h2,h3,h4,_⟩
 ·omega
 ·unfold dT at h4
  rw[Bool.and_eq_true,decide_eq_true_eq,decide_eq_true_eq]at h4
  exact⟨j,_,h1,by omega,rfl,h4.1,h4.2⟩
theorem H6 (m:List fH) (h:m.length≤64):R0 m=some m:=by
 rw[Mo,show ay (0+m.length) 32=true by simp[ay];omega];rfl
theorem ud {F:Int→Int} (hF:FR F) (L:List (Int×Int)) (hL:eK L) (hN:yB L) (a:Int) (ha:JN a) (t:ByteArray) (k:Nat) (hk:dr L a=(k:Int)) (hkl:k<L.length) {q:Int×Int} (hq:rd (τ:=gv) L (k:Int)=q) (h1:q.1≤a) (h2:a+(t.size:Int)≤q.1+128):
  R1 (ar F L) a t=some (ar (updF F a t) L):=by
 have hn:=hL.len
 have hml:(ar F L).length=L.length:=by simp[ar]
 have hb:=kv hL k hkl hq
 rw[Mp,H6 _ (by omega),ne F L hL a ha,hk]
 simp only[Option.bind_some]
 rw[ae,hml,decide_eq_true hkl,jQ F L k hkl]
 rw[hq]
 obtain⟨j,hj⟩:∃j:Nat,a-q.1=(j:Int):=⟨(a-q.1).toNat,by omega⟩
 show(bif true then bif true then(bif decide (0≤0)&&decide (0≤IntKind.wrap .i64 (a-q.1))&&decide (IntKind.wrap .i64 (a-q.1)≤((pg F q.1).size:Int))then _ else none)else none else none)=_
 simp only[show(cc F q).1=q.1 from rfl,show(cc F q).2.1=q.2 from rfl,show(cc F q).2.2=pg F q.1 from rfl]
 rw[aV (n:=a-q.1) (by omega) (by omega),hj,fE,aV (n:=(j:Int)+(t.size:Int)) (by omega) (by omega)]
 rw[show(decide (0≤0)&&decide (0≤(j:Int))&&decide ((j:Int)≤((128:Nat):Int)))=true by simp;omega,show(decide (0≤(j:Int)+(t.size:Int))&&decide ((j:Int)+(t.size:Int)≤((128:Nat):Int))&&decide (((128:Nat):Int)≤((128:Nat):Int)))=true by simp;omega]
 rw[show(Int.toNat 0)=0 from rfl,Int.toNat_natCast,show((j:Int)+(t.size:Int)).toNat=j+t.size by omega,Int.toNat_natCast,Int.toNat_natCast]
 have hz1:((pg F q.1).extract 0 j).size=j:=by rw[ByteArray.size_extract,fE];omega
 have hz2:((pg F q.1).extract (j+t.size) 128).size=128-(j+t.size):=by rw[ByteArray.size_extract,fE];omega
 rw[decide_eq_true (show((pg F q.1).extract 0 j).size+t.size≤9223372036854775807 by rw[hz1];omega),decide_eq_true (show((pg F q.1).extract 0 j++t).size+((pg F q.1).extract (j+t.size) 128).size≤9223372036854775807 by rw[ByteArray.size_append,hz1,hz2];omega)]
 have hpage:(pg F q.1).extract 0 j++t++(pg F q.1).extract (j+t.size) 128=pg (updF F a t) q.1:=by
  apply JM
  ·rw[ByteArray.size_append,ByteArray.size_append,hz1,hz2,fE];omega
  ·intro i hi
   rw[ByteArray.size_append,ByteArray.size_append,hz1,hz2]at hi
   rw[wu (dR hF a t) _ _ (by omega) (by omega),nd,ByteArray.size_append,hz1,nd,hz1]
   unfold updF
   by_cases c1:i<j
   ·rw[if_pos (by omega),if_pos c1,if_neg (by omega),i5 _ _ _ _ (by omega) (by rw[fE];omega),wu hF _ _ (by omega) (by omega),Nat.zero_add]
   ·by_cases c2:i<j+t.size
    ·rw[if_pos c2,if_neg c1,if_pos (by omega),show q.1+(i:Int)-a=((i-j:Nat):Int) by omega]
    ·rw[if_neg c2,if_neg (by omega),i5 _ _ _ _ (by omega) (by rw[fE];omega),wu hF _ _ (by omega) (by omega)]
     congr 1;omega
 rw[hpage]
 show some ((ar F L).set k (cc (updF F a t) q))=_
 congr 1
 apply List.ext_getElem
 ·simp[ar]
 ·intro i g1 g2
  have hi:i<L.length:=by simpa[ar]using g2
  rw[List.getElem_set]
  have e1:(ar (updF F a t) L)[i]=cc (updF F a t) L[i]:=by simp[ar]
  have e2:(ar F L)[i]'(by simp[ar];exact hi)=cc F L[i]:=by simp[ar]
  rw[e1,e2]
  have hqk:L[k]=q:=by rw[←hq,aQ (τ:=gv) L k hkl]
  by_cases c:k=i
  ·subst c
   rw[if_pos rfl,hqk]
  ·rw[if_neg c]
   unfold cc
   congr 2
   have hpg:∀x:Nat,x<128→F ((L[i]).1+(x:Int))=updF F a t ((L[i]).1+(x:Int)):=by
    intro x hx
    unfold updF
    rw[if_neg]
    intro hc
    refine c (hN k i ((L[i]).1+(x:Int)) hkl hi ?_ ?_)
    ·rw[hq];unfold dT
     rw[Bool.and_eq_true,decide_eq_true_eq,decide_eq_true_eq];omega
    ·rw[aQ (τ:=gv) L i hi];unfold dT
     rw[Bool.and_eq_true,decide_eq_true_eq,decide_eq_true_eq];omega
   unfold pg
   rw[dS 128 0 fun x _ hx=>hpg x (by omega)]
theorem yC (F:Int→Int) (a:Int) (t:ByteArray) (n:Nat) (hn:n≤t.size):updF (updF F a (t.extract 0 n)) (a+(n:Int)) (t.extract n t.size)=updF F a t:=by
 funext x
 have hz1:(t.extract 0 n).size=n:=by rw[ByteArray.size_extract];omega
 have hz2:(t.extract n t.size).size=t.size-n:=by rw[ByteArray.size_extract];omega
 unfold updF
 rw[hz1,hz2]
 by_cases c1:a+(n:Int)≤x∧x<a+(n:Int)+((t.size-n:Nat):Int)
 ·rw[if_pos c1,if_pos (by omega)]
  obtain⟨i,hi⟩:∃i:Nat,x-(a+(n:Int))=(i:Int):=⟨(x-(a+(n:Int))).toNat,by omega⟩
  rw[hi,i5 _ _ _ _ (by omega) (Nat.le_refl _)]
  congr 1;omega
 ·rw[if_neg c1]
  by_cases c2:a≤x∧x<a+(n:Int)
  ·rw[if_pos c2,if_pos (by omega)]
   obtain⟨i,hi⟩:∃i:Nat,x-a=(i:Int):=⟨(x-a).toNat,by omega⟩
   rw[hi,i5 _ _ _ _ (by omega) hn]
   congr 1;omega
  ·rw[if_neg c2,if_neg (by omega)]
theorem p9 (F:Int→Int) (a:Int) (t:ByteArray) (h:t.size=0):updF F a t=F:=by
 funext x
 unfold updF
 rw[if_neg (by omega)]
theorem Fc (L:List (Int×Int)) (hL:eK L) (hN:yB L) (x6:List fH):∀(n:Nat) (F:Int→Int) (a:Int) (t:ByteArray),FR F→t.size≤n→ -1000000000≤a→a+(t.size:Int)≤1000000000→(∀x,a≤x→x<a+(t.size:Int)→0≤dr L x)→
  xA.a a t (ar F L) x6=some (ar (updF F a t) L):=by
 have hml:∀F,(ar F L).length=L.length:=by intro F;simp[ar]
 intro n
 induction n with
 |zero=>
  intro F a t hF ht h1 h2 hx
  have h0:t.size=0:=by omega
  rw[xA.a_eq,decide_eq_false (show¬(t.size:Int)>0 by omega),cond_false,p9 F a t h0]
 |succ n ih=>
  intro F a t hF ht h1 h2 hx
  by_cases h0:t.size=0
  ·rw[xA.a_eq,decide_eq_false (show¬(t.size:Int)>0 by omega),cond_false,p9 F a t h0]
  ·obtain⟨k,q,hk,hkl,hq,hb1,hb2⟩:=jR (hx a (Int.le_refl _) (by omega))
   have hb:=kv hL k hkl hq
   rw[xA.a_eq,decide_eq_true (show(t.size:Int)>0 by omega),ne F L hL a ⟨by omega,by omega⟩,hk]
   simp only[cond_true,Option.bind_some]
   rw[ae,hml,decide_eq_true hkl,jQ F L k hkl]
   rw[hq]
   simp only[show(cc F q).1=q.1 from rfl,cond_true]
   rw[aV (n:=q.1+128) (by omega) (by omega),aV (n:=q.1+128-a) (by omega) (by omega)]
   obtain⟨m,hm⟩:∃m:Nat,(if q.1+128-a< (t.size:Int)then q.1+128-a else(t.size:Int))=(m:Int):=⟨(if q.1+128-a< (t.size:Int)then q.1+128-a else(t.size:Int)).toNat,by split<;>omega⟩
   have hm1:1≤m∧m≤t.size∧a+(m:Int)≤q.1+128:=by split at hm<;>omega
   rw[hm,aV (n:=a+(m:Int)) (by omega) (by omega)]
   rw[show(decide (0≤0)&&decide (0≤(m:Int))&&decide ((m:Int)≤(t.size:Int)))=true by simp;omega,show(decide (0≤(m:Int))&&decide ((m:Int)≤(t.size:Int))&&decide ((t.size:Int)≤(t.size:Int)))=true by simp;omega]
   rw[show(Int.toNat 0)=0 from rfl,Int.toNat_natCast,Int.toNat_natCast]
   have hz1:(t.extract 0 m).size=m:=by rw[ByteArray.size_extract];omega
   have hz2:(t.extract m t.size).size=t.size-m:=by rw[ByteArray.size_extract];omega
   rw[ud hF L hL hN a ⟨by omega,by omega⟩ (t.extract 0 m) k hk hkl hq hb1 (by rw[hz1];exact hm1.2.2)]
   simp only[cond_true,Option.bind_some]
   rw[ih _ _ _ (dR hF _ _) (by omega) (by omega) (by omega) fun x g1 g2=>hx x (by omega) (by omega),yC F a t m hm1.2.1]
def ue (F:Int→Int) (a:Int) (n:Nat):ByteArray:=av (bc (fun i=>F (a+(i:Int))) 0 n)
theorem BK (F:Int→Int) (a:Int) (n:Nat):(ue F a n).size=n:=by unfold ue;rw[aB,aD]
theorem Fd (n:Nat) (h:n≤8192):ay n 1=true:=by simp[ay];omega
theorem yD {F:Int→Int} (hF:FR F) (L:List (Int×Int)) (hL:eK L) (a:Int) (n:Nat) (hn:n≤1024) (h1: -1000000000≤a) (h2:a≤1000000000) (hx:∀x,a≤x→x<a+(n:Int)→0≤dr L x):
  Zb (ar F L) a (n:Int)=some (ue F a n):=by
 have hml:(ar F L).length=L.length:=by simp[ar]
 rw[PL]
 have key:=cm (L:=fun acc i=>Zb.a a (n:Int) (ar F L) acc (a+i)) (fun i=>F (a+(i:Int))) n ([]:List Int) fun acc i hi ha=> ?_
 ·simp only[Int.add_zero,List.nil_append]at key
  rw[key,Zb.a_eq,aV (n:=a+(n:Int)) (by omega) (by omega),decide_eq_false (show¬a+(n:Int)<a+(n:Int) by omega)];rfl
 ·simp only[List.length_nil,Nat.zero_add]at ha
  obtain⟨k,q,hk,hkl,hq,hb1,hb2⟩:=jR (hx (a+(i:Int)) (by omega) (by omega))
  have hb:=kv hL k hkl hq
  show Zb.a a (n:Int) (ar F L) acc (a+(i:Int))=Zb.a a (n:Int) (ar F L) (acc++[F (a+(i:Int))]) (a+((i+1:Nat):Int))
  rw[Zb.a_eq,aV (n:=a+(n:Int)) (by omega) (by omega),decide_eq_true (show a+(i:Int)<a+(n:Int) by omega),BJ F L hL _ ⟨by omega,by omega⟩,hk]
  simp only[cond_true,Option.bind_some]
  rw[ae,hml,decide_eq_true hkl,jQ F L k hkl,hq]
  simp only[show(cc F q).1=q.1 from rfl,show(cc F q).2.2=pg F q.1 from rfl,cond_true]
  rw[aV (n:=a+(i:Int)-q.1) (by omega) (by omega),aV (n:=a+(i:Int)+1) (by omega) (by omega),fE,inL_true (i:=a+(i:Int)-q.1) (n:=128) (by omega) (by omega),wu hF _ _ (by omega) (by omega),show q.1+(a+(i:Int)-q.1)=a+(i:Int) by omega,Fd _ (by simp;omega),show a+(i:Int)+1=a+((i+1:Nat):Int) by omega]
  rfl
theorem Fe {F:Int→Int} (hF:FR F) (L:List (Int×Int)) (hL:eK L) (a:Int) (n:Nat) (hn:n≤1024) (h1: -1000000000≤a) (h2:a≤1000000000) (hx:∀x,a≤x→x<a+(n:Int)→0≤dr L x):
  AJ (ar F L) a (n:Int)=some (ue F a n):=by
 have hml:(ar F L).length=L.length:=by simp[ar]
 rw[MV]
 rw[cm (L:=fun acc i=>AJ.a a (n:Int) (ar F L) acc i) (fun i=>F (a+(i:Int))) n ([]:List Int) fun acc i hi ha=> ?_]
 ·rw[AJ.a_eq,ab,decide_eq_false (Nat.lt_irrefl _),cond_false,List.nil_append];rfl
 ·simp only[List.length_nil,Nat.zero_add]at ha
  obtain⟨k,q,hk,hkl,hq,hb1,hb2⟩:=jR (hx (a+(i:Int)) (by omega) (by omega))
  have hb:=kv hL k hkl hq
  show AJ.a a (n:Int) (ar F L) acc (i:Int)=AJ.a a (n:Int) (ar F L) (acc++[F (a+(i:Int))]) ((i+1:Nat):Int)
  rw[AJ.a_eq,ab,decide_eq_true hi,aV (n:=a+(i:Int)) (by omega) (by omega),ah i n hi (by omega),ne F L hL _ ⟨by omega,by omega⟩,hk]
  simp only[cond_true,Option.bind_some]
  rw[ae,hml,decide_eq_true hkl,jQ F L k hkl,hq]
  simp only[show(cc F q).1=q.1 from rfl,show(cc F q).2.2=pg F q.1 from rfl,cond_true]
  rw[aV (n:=a+(i:Int)-q.1) (by omega) (by omega),fE,inL_true (i:=a+(i:Int)-q.1) (n:=128) (by omega) (by omega),wu hF _ _ (by omega) (by omega),show q.1+(a+(i:Int)-q.1)=a+(i:Int) by omega,Fd _ (by simp;omega)]
  rfl
def oo (F:Int→Int) (b:Int) (n:Nat):Prop:=∀x,b≤x→x<b+(n:Int)→F x=0
theorem Ag {F:Int→Int} {b:Int} (h:oo F b 128):pg F b=av (List.replicate 128 (0:Int)):=by
 unfold pg
 rw[dS (g:=fun _=>(0:Int)) 128 0 fun j _ hj=>h _ (by omega) (by omega)]
 rfl
theorem Ff:rt (⟨#[0]⟩:ByteArray) 128=av (List.replicate 128 (0:Int)):=by decide+kernel
theorem Fg {F:Int→Int} (L:List (Int×Int)) (hn:L.length<64) (b p:Int) (hb:∀q∈L,q.1<b) (hz:oo F b 128):Dr (ar F L) b p=some (ar F (L++[(b,p)])):=by
 have hml:(ar F L).length=L.length:=by simp[ar]
 rw[Oo]
 have loop:∀(d k:Nat),k+d=L.length→Dr.a b p (ar F L) [] (k:Int)=Dr.a b p (ar F L) [] (L.length:Int):=by
  intro d
  induction d with
  |zero=>
    intro k h;have:k=L.length:=by omega
    rw[this]
  |succ d ih=>
   intro k h
   have hk:k<L.length:=by omega
   obtain⟨q,hq⟩:∃q:Int×Int,rd (τ:=gv) L (k:Int)=q:=⟨_,rfl⟩
   have hqb:q.1<b:=by rw[aQ (τ:=gv) L k hk]at hq;rw[←hq];exact hb _ (List.getElem_mem hk)
   rw[Dr.a_eq,hml,ab,ae,decide_eq_true hk,jQ F L k hk,hq]
   simp only[aA,cond_true]
   rw[show decide ((cc F q).1<b)=true from decide_eq_true hqb,ah k L.length hk (by omega),cond_true,ih (k+1) (by omega)]
 have h0:=loop L.length 0 (by omega)
 rw[show((0:Nat):Int)=0 from rfl]at h0
 rw[h0,Dr.a_eq,hml,ab,decide_eq_false (Nat.lt_irrefl _)]
 simp only[aA,cond_false]
 rw[p8 _ (by omega),Hc]
 simp only[Option.bind_some]
 rw[show(decide (0≤(128:Int))&&decide ((128:Int)≤9223372036854775807)&&decide (ByteArray.size (⟨#[0]⟩:ByteArray)*(128:Int).toNat≤140737488355328))=true by decide,cond_true,Ff,←Ag hz]
 simp only[Option.bind_some]
 rw[KZ,hml,show(decide ((L.length:Int)=(L.length:Int))&&ay (L.length+[(b,p,pg F b)].length) 32)=true by simp[ay];omega]
 simp only[cond_true,Option.bind_some]
 unfold ar
 rw[List.map_append];rfl
theorem Fh {F:Int→Int} (L:List (Int×Int)) (hn:L.length<64) (b p:Int) (hb:∀q∈L,q.1<b) (hz:oo F b 128):AI (ar F L) b p=some (ar F (L++[(b,p)])):=by
 have hml:(ar F L).length=L.length:=by simp[ar]
 rw[Mr]
 have loop:∀(d k:Nat),k+d=L.length→AI.a b p (ar F L) [] (ar F (L.take k)) false (k:Int)=AI.a b p (ar F L) [] (ar F L) false (L.length:Int):=by
  intro d
  induction d with
  |zero=>
    intro k h;have:k=L.length:=by omega
    rw[this,List.take_length]
  |succ d ih=>
   intro k h
   have hk:k<L.length:=by omega
   obtain⟨q,hq⟩:∃q:Int×Int,rd (τ:=gv) L (k:Int)=q:=⟨_,rfl⟩
   have hqL:L[k]=q:=by rw[aQ (τ:=gv) L k hk]at hq;exact hq
   have hqb:q.1<b:=by rw[←hqL];exact hb _ (List.getElem_mem hk)
   have hlt:(ar F (L.take k)).length=k:=by simp[ar];omega
   rw[AI.a_eq,hml,ab,ae,decide_eq_true hk,jQ F L k hk,hq]
   simp only[aA,cond_true,Bool.not_false]
   rw[show decide ((cc F q).1>b)=false from decide_eq_false (by show¬q.1>b;omega),ah k L.length hk (by omega),cond_false,show ay ((ar F (L.take k)).length+[cc F q].length) 32=true by rw[hlt];simp[ay];omega,cond_true]
   rw[show ar F (L.take k)++[cc F q]=ar F (L.take (k+1)) by unfold ar;rw[List.take_succ_eq_append_getElem hk,List.map_append,hqL];rfl]
   exact ih (k+1) (by omega)
 have h0:=loop L.length 0 (by omega)
 rw[show((0:Nat):Int)=0 from rfl,show ar F (L.take 0)=[] from rfl]at h0
 rw[h0,AI.a_eq,hml,ab,decide_eq_false (Nat.lt_irrefl _)]
 simp only[cond_false,Bool.not_false,cond_true]
 rw[show(decide ((0:Nat)≤128)&&ay (Int.toNat 128) 1)=true by decide,show(Int.toNat 128)=128 from rfl,←Ag hz,show ay (L.length+[(b,p,pg F b)].length) 32=true by simp[ay];omega]
 simp only[cond_true]
 unfold ar
 rw[List.map_append];rfl
def nf (b p:Int) (n:Nat):List (Int×Int):=bc (fun i=>(b+128*(i:Int),p)) 0 n
theorem Fk (b p:Int):∀n,nf b p (n+1)=nf b p n++[(b+128*(n:Int),p)]:=by
 intro n
 unfold nf
 have:∀(k i:Nat),bc (fun i=>(b+128*(i:Int),p)) i (k+1)=bc (fun i=>(b+128*(i:Int),p)) i k++[(b+128*((i+k:Nat):Int),p)]:=by
  intro k
  induction k with
  |zero=>intro i;rfl
  |succ k ih=>intro i;rw[bc,ih (i+1),bc,show i+1+k=i+(k+1) by omega];rfl
 rw[this n 0,Nat.zero_add]
theorem qa (b p:Int) (n:Nat):(nf b p n).length=n:=aD _ _ _
theorem Ah {b p:Int} {n:Nat} {q:Int×Int} (h:q∈nf b p n):b≤q.1∧q.1+128≤b+128*(n:Int):=by
 obtain⟨j,_,hj,rfl⟩:=(cy _ _ _ _).1 h
 simp only;omega
theorem ww {F:Int→Int} (A:List fH→Int→Int→Option (List fH)) (hA:∀(L:List (Int×Int)) (b p:Int),L.length<64→(∀q∈L,q.1<b)→oo F b 128→A (ar F L) b p=some (ar F (L++[(b,p)])))
  (X:List fH→Int→Option (List fH)) (L:List (Int×Int)) (b p:Int) (n:Nat) (hn:L.length+n≤64) (hb:∀q∈L,q.1<b) (hb0:0≤b∧b≤1048575) (hz:oo F b (128*n))
  (hX:∀m (i:Nat),i<n→X m (128*(i:Int))=(A m (b+128*(i:Int)) p).bind fun r=>X r (128*((i+1:Nat):Int))):
  ∀(d k:Nat),k+d=n→X (ar F (L++nf b p k)) (128*(k:Int))=X (ar F (L++nf b p n)) (128*(n:Int)):=by
 intro d
 induction d with
 |zero=>
   intro k h;have:k=n:=by omega
   rw[this]
 |succ d ih=>
  intro k h
  rw[hX _ k (by omega),hA _ _ _ (by rw[List.length_append,qa];omega) (fun q hq=> ?_) (fun x h1 h2=>hz x (by omega) (by omega))]
  ·simp only[Option.bind_some]
   rw[List.append_assoc,←Fk]
   exact ih (k+1) (by omega)
  ·rcases List.mem_append.1 hq with hq|hq
   ·have:=hb q hq;omega
   ·have:=Ah hq;omega
def g9 (t:ByteArray) (n:Nat):ByteArray:=t++rt (⟨#[0]⟩:ByteArray) ((n-t.size:Nat):Int)
theorem Ai:∀k:Nat,(Lib.repeatL [(0:UInt8)] k)=List.replicate k 0
 |0=>rfl
 |k+1=>by rw[Lib.repeatL,Ai k];rfl
theorem sN (k:Nat):(rt (⟨#[0]⟩:ByteArray) (k:Int)).data=(List.replicate k (0:UInt8)).toArray:=by
 unfold rt
 rw[Int.toNat_natCast]
 show(Lib.repeatL [(0:UInt8)] k).toArray=_
 rw[Ai]
theorem sO (k:Nat):(rt (⟨#[0]⟩:ByteArray) (k:Int)).size=k:=by
 show(rt (⟨#[0]⟩:ByteArray) (k:Int)).data.size=k
 rw[sN];simp
theorem H7 (k i:Nat):bt (rt (⟨#[0]⟩:ByteArray) (k:Int)) (i:Int)=0:=by
 rw[gj,sN]
 simp only[Array.getD,List.size_toArray,List.length_replicate]
 split
 ·simp
 ·rfl
theorem eL (t:ByteArray) (n:Nat) (h:t.size≤n):(g9 t n).size=n:=by
 unfold g9
 rw[ByteArray.size_append,sO];omega
theorem H8 (t:ByteArray) (n i:Nat):bt (g9 t n) (i:Int)=if i<t.size then bt t (i:Int)else 0:=by
 unfold g9
 rw[nd]
 split
 ·rfl
 ·exact H7 _ _
theorem fY (t:ByteArray) (n:Nat) (h:t.size≤n) (hn:n≤1048576):Ev t (n:Int)=some (g9 t n):=by
 have hz:=eL t n h
 rw[Ot,aV (n:=(n:Int)-(t.size:Int)) (by omega) (by omega),show(n:Int)-(t.size:Int)=((n-t.size:Nat):Int) by omega,Hc]
 rw[show(decide (0≤((n-t.size:Nat):Int))&&decide (((n-t.size:Nat):Int)≤9223372036854775807)&&decide (ByteArray.size (⟨#[0]⟩:ByteArray)*(((n-t.size:Nat):Int)).toNat≤140737488355328))=true by
  rw[show ByteArray.size (⟨#[0]⟩:ByteArray)=1 from rfl];simp;omega]
 simp only[cond_true,Option.bind_some]
 rw[sO,decide_eq_true (show t.size+(n-t.size)≤9223372036854775807 by omega)];rfl
theorem qb {F:Int→Int} (b:Int) (t:ByteArray) (n:Nat) (h:t.size≤n) (hz:oo F b n):updF F b (g9 t n)=updF F b t:=by
 funext x
 unfold updF
 rw[eL t n h]
 by_cases c:b≤x∧x<b+(n:Int)
 ·rw[if_pos c]
  obtain⟨i,hi⟩:∃i:Nat,x-b=(i:Int):=⟨(x-b).toNat,by omega⟩
  rw[hi,H8]
  by_cases c2:i<t.size
  ·rw[if_pos c2,if_pos (by omega)]
  ·rw[if_neg c2,if_neg (by omega),hz x c.1 c.2]
 ·rw[if_neg c,if_neg (by omega)]
theorem iD {F:Int→Int} (hF:FR F) (L:List (Int×Int)) (hL:eK L) (b p:Int) (n:Nat) (t:ByteArray) (hn:L.length+n≤64) (hb:∀q∈L,q.1<b) (hb0:0≤b∧b+128*(n:Int)≤1048575) (hz:oo F b (128*n)) (ht:t.size=128*n):
  rc (ar F L) b p t=some (ar (updF F b t) (L++nf b p n)):=by
 rw[Oq]
 have hL':eK (L++nf b p n):=⟨by rw[List.length_append,qa];omega,fun q hq=>by
  rcases List.mem_append.1 hq with hq|hq
  ·exact hL.base q hq
  ·have:=Ah hq;omega⟩
 have h:=ww (F:=F) Dr (fun L b p h1 h2 h3=>Fg L h1 b p h2 h3) (fun m i=>rc.a b p t m [] i) L b p n hn hb ⟨by omega,by omega⟩ hz (fun m i hi=>by
  show rc.a b p t m [] (128*(i:Int))=_
  rw[rc.a_eq,ht,decide_eq_true (show 128*(i:Int)< ((128*n:Nat):Int) by omega),cond_true,aV (n:=b+128*(i:Int)) (by omega) (by omega),aV (n:=128*(i:Int)+128) (by omega) (by omega),show 128*(i:Int)+128=128*((i+1:Nat):Int) by omega]) n 0 (by omega)
 have h':rc.a b p t (ar F (L++nf b p 0)) [] (128*((0:Nat):Int))=rc.a b p t (ar F (L++nf b p n)) [] (128*(n:Int)):=h
 rw[show nf b p 0=[] from rfl,List.append_nil,show 128*((0:Nat):Int)=0 from rfl]at h'
 rw[h',rc.a_eq,ht,decide_eq_false (show¬128*(n:Int)< ((128*n:Nat):Int) by omega),cond_false,wv hF b t ⟨by omega,by omega,by omega⟩ _ hL'];rfl
theorem fZ {F:Int→Int} (L:List (Int×Int)) (b p:Int) (n:Nat) (hn:L.length+n≤64) (hb:∀q∈L,q.1<b) (hb0:0≤b∧b+128*(n:Int)≤1048575) (hz:oo F b (128*n)):
  qW (ar F L) b (128*(n:Int)) p=some (ar F (L++nf b p n)):=by
 rw[Ms]
 have h:=ww (F:=F) AI (fun L b p h1 h2 h3=>Fh L h1 b p h2 h3) (fun m i=>qW.a b (128*(n:Int)) p m [] i) L b p n hn hb ⟨by omega,by omega⟩ hz (fun m i hi=>by
  show qW.a b (128*(n:Int)) p m [] (128*(i:Int))=_
  rw[qW.a_eq,decide_eq_true (show 128*(i:Int)<128*(n:Int) by omega),cond_true,aV (n:=b+128*(i:Int)) (by omega) (by omega),aV (n:=128*(i:Int)+128) (by omega) (by omega),show 128*(i:Int)+128=128*((i+1:Nat):Int) by omega]) n 0 (by omega)
 have h':qW.a b (128*(n:Int)) p (ar F (L++nf b p 0)) [] (128*((0:Nat):Int))=qW.a b (128*(n:Int)) p (ar F (L++nf b p n)) [] (128*(n:Int)):=h
 rw[show nf b p 0=[] from rfl,List.append_nil,show 128*((0:Nat):Int)=0 from rfl]at h'
 rw[h',qW.a_eq,decide_eq_false (show¬128*(n:Int)<128*(n:Int) by omega),cond_false]
def L1:List (Int×Int):=nf 4096 4 8
def L2:List (Int×Int):=L1++nf 8192 4 8
def L3:List (Int×Int):=L2++nf 16384 3 2
def L4:List (Int×Int):=L3++nf 20480 3 2
def L5:List (Int×Int):=L4++nf 32768 11 4
def L6:List (Int×Int):=L5++nf 33792 11 4
def L7:List (Int×Int):=L6++nf 34816 11 4
def BL:List (Int×Int):=L7++nf 35840 11 4
def Dv (L:List (Int×Int)) (m:Int):Bool:=decide (L.length≤64)&&L.all fun q=>decide (0≤q.1)&&decide (q.1≤1048575)&&decide (q.1<m)
theorem cN {L:List (Int×Int)} {m:Int} (h:Dv L m=true):eK L∧∀q∈L,q.1<m:=by
 unfold Dv at h
 rw[Bool.and_eq_true,decide_eq_true_eq,List.all_eq_true]at h
 refine⟨⟨h.1,fun q hq=> ?_⟩,fun q hq=> ?_⟩
 ·have:=h.2 q hq;simp only[Bool.and_eq_true,decide_eq_true_eq]at this;exact this.1
 ·have:=h.2 q hq;simp only[Bool.and_eq_true,decide_eq_true_eq]at this;exact this.2
theorem b1:Dv L1 8192=true:=by decide
theorem b2:Dv L2 16384=true:=by decide
theorem b3:Dv L3 20480=true:=by decide
theorem b4:Dv L4 32768=true:=by decide
theorem b5:Dv L5 33792=true:=by decide
theorem b6:Dv L6 34816=true:=by decide
theorem b7:Dv L7 35840=true:=by decide
theorem b8:Dv BL 40000=true:=by decide
def zF:Int→Int:=fun _=>0
def me (im:fj):Int→Int:=updF zF 4096 im.1
def F0 (im:fj):Int→Int:=updF (me im) 16384 im.2.1
theorem qc:FR zF:=fun _=>⟨Int.le_refl 0,show(0:Int)≤255 by omega⟩
theorem gK (im:fj):FR (me im):=dR qc _ _
theorem qd (im:fj):FR (F0 im):=dR (gK im) _ _
theorem ga {im:fj} (h:im.1.size≤1024) (b:Int) (n:Nat) (hb:5120≤b):oo (me im) b n:=by
 intro x h1 h2
 unfold me updF
 rw[if_neg (by omega)];rfl
theorem oL {im:fj} (h:im.1.size≤1024) (h':im.2.1.size≤256) (b:Int) (n:Nat) (hb:16640≤b):oo (F0 im) b n:=by
 intro x h1 h2
 unfold F0 updF
 rw[if_neg (by omega)]
 exact ga h b n (by omega) x h1 h2
theorem i6 (b:Int) (n:Nat):oo zF b n:=fun _ _ _=>rfl
theorem uf {F:Int→Int} (b:Int) (n:Nat) (hz:oo F b n):updF F b (g9 ⟨#[]⟩ n)=F:=by
 rw[qb b _ n (by show(0:Nat)≤n;omega) hz,p9 _ _ _ rfl]
theorem i7 (im:fj) (hc:im.1.size≤1024) (hd:im.2.1.size≤256) (L:List (Int×Int)) (i:Nat) (hi:i<4) (m:Int) (hL:Dv L m=true) (hm:m=32768+1024*(i:Int)) (hn:L.length+4≤64):
  Ew.a [] (ar (F0 im) L) (i:Int)=Ew.a [] (ar (F0 im) (L++nf m 11 4)) ((i+1:Nat):Int):=by
 obtain⟨h1,h2⟩:=cN hL
 rw[Ew.a_eq,decide_eq_true (show(i:Int)<4 by omega),show Ev (⟨#[]⟩:ByteArray) 512=some (g9 ⟨#[]⟩ 512) from fY _ 512 (by show(0:Nat)≤512;omega) (by omega),aV (n:=1024*(i:Int)) (by omega) (by omega),aV (n:=32768+1024*(i:Int)) (by omega) (by omega),aV (n:=(i:Int)+1) (by omega) (by omega),←hm]
 simp only[cond_true,Option.bind_some]
 rw[iD (qd im) L h1 m 11 4 (g9 ⟨#[]⟩ 512) hn h2 (by omega) (oL hc hd m 512 (by omega)) (eL _ 512 (by show(0:Nat)≤512;omega)),uf m 512 (oL hc hd m 512 (by omega))]
 simp only[Option.bind_some]
 rw[show(i:Int)+1=((i+1:Nat):Int) by omega]
theorem wx (im:fj) (hc:im.1.size≤1024) (hd:im.2.1.size≤256):Ew im=some (ar (F0 im) BL):=by
 have e0:(0:Nat)≤1024:=by omega
 rw[Ou,show Ev im.1 1024=some (g9 im.1 1024) from fY _ 1024 hc (by omega),show Ev (⟨#[]⟩:ByteArray) 1024=some (g9 ⟨#[]⟩ 1024) from fY _ 1024 (by show(0:Nat)≤1024;omega) (by omega),
  show Ev im.2.1 256=some (g9 im.2.1 256) from fY _ 256 hd (by omega),show Ev (⟨#[]⟩:ByteArray) 256=some (g9 ⟨#[]⟩ 256) from fY _ 256 (by show(0:Nat)≤256;omega) (by omega)]
 simp only[Option.bind_some]
 have a1:=iD qc [] ⟨by simp,fun q hq=>by cases hq⟩ 4096 4 8 (g9 im.1 1024) (by simp) (fun q hq=>by cases hq) (by omega) (i6 _ _) (eL _ 1024 hc)
 rw[qb 4096 im.1 1024 hc (i6 _ _),List.nil_append]at a1
 rw[show rc [] 4096 4 (g9 im.1 1024)=some (ar (me im) L1) from a1]
 simp only[Option.bind_some]
 have a2:=iD (gK im) L1 (cN b1).1 8192 4 8 (g9 ⟨#[]⟩ 1024) (by decide) (cN b1).2 (by omega) (ga hc _ _ (by omega)) (eL _ 1024 (by show(0:Nat)≤1024;omega))
 rw[uf 8192 1024 (ga hc _ _ (by omega))]at a2
 rw[show rc (ar (me im) L1) 8192 4 (g9 ⟨#[]⟩ 1024)=some (ar (me im) L2) from a2]
 simp only[Option.bind_some]
 have a3:=iD (gK im) L2 (cN b2).1 16384 3 2 (g9 im.2.1 256) (by decide) (cN b2).2 (by omega) (ga hc _ _ (by omega)) (eL _ 256 hd)
 rw[qb 16384 im.2.1 256 hd (ga hc _ _ (by omega))]at a3
 rw[show rc (ar (me im) L2) 16384 3 (g9 im.2.1 256)=some (ar (F0 im) L3) from a3]
 simp only[Option.bind_some]
 have a4:=iD (qd im) L3 (cN b3).1 20480 3 2 (g9 ⟨#[]⟩ 256) (by decide) (cN b3).2 (by omega) (oL hc hd _ _ (by omega)) (eL _ 256 (by show(0:Nat)≤256;omega))
 rw[uf 20480 256 (oL hc hd _ _ (by omega))]at a4
 rw[show rc (ar (F0 im) L3) 20480 3 (g9 ⟨#[]⟩ 256)=some (ar (F0 im) L4) from a4]
 simp only[Option.bind_some]
 have s0:=i7 im hc hd L4 0 (by omega) 32768 b4 (by omega) (by decide)
 have s1:=i7 im hc hd L5 1 (by omega) 33792 b5 (by omega) (by decide)
 have s2:=i7 im hc hd L6 2 (by omega) 34816 b6 (by omega) (by decide)
 have s3:=i7 im hc hd L7 3 (by omega) 35840 b7 (by omega) (by decide)
 refine s0.trans (s1.trans (s2.trans (s3.trans ?_)))
 rw[Ew.a_eq,show decide (((3+1:Nat):Int)<4)=false by decide,cond_false];rfl
theorem i8 (L:List (Int×Int)) (i:Nat) (hi:i<4) (m:Int) (hL:Dv L m=true) (hm:m=32768+1024*(i:Int)) (hn:L.length+4≤64):
  DV.a [] (ar zF L) (i:Int)=DV.a [] (ar zF (L++nf m 11 4)) ((i+1:Nat):Int):=by
 obtain⟨h1,h2⟩:=cN hL
 rw[DV.a_eq,decide_eq_true (show(i:Int)<4 by omega),aV (n:=1024*(i:Int)) (by omega) (by omega),aV (n:=32768+1024*(i:Int)) (by omega) (by omega),aV (n:=(i:Int)+1) (by omega) (by omega),←hm]
 rw[show qW (ar zF L) m 512 11=some (ar zF (L++nf m 11 4)) from fZ L m 11 4 hn h2 (by omega) (i6 _ _)]
 simp only[Option.bind_some,cond_true]
 rw[show(i:Int)+1=((i+1:Nat):Int) by omega]
theorem yE:DV=some (ar zF BL):=by
 rw[Mt]
 rw[show qW [] 4096 1024 4=some (ar zF L1) from fZ (F:=zF) [] 4096 4 8 (by simp) (fun q hq=>by cases hq) (by omega) (i6 _ _)]
 simp only[Option.bind_some]
 rw[show qW (ar zF L1) 8192 1024 4=some (ar zF L2) from fZ L1 8192 4 8 (by decide) (cN b1).2 (by omega) (i6 _ _)]
 simp only[Option.bind_some]
 rw[show qW (ar zF L2) 16384 256 3=some (ar zF L3) from fZ L2 16384 3 2 (by decide) (cN b2).2 (by omega) (i6 _ _)]
 simp only[Option.bind_some]
 rw[show qW (ar zF L3) 20480 256 3=some (ar zF L4) from fZ L3 20480 3 2 (by decide) (cN b3).2 (by omega) (i6 _ _)]
 simp only[Option.bind_some]
 have s0:=i8 L4 0 (by omega) 32768 b4 (by omega) (by decide)
 have s1:=i8 L5 1 (by omega) 33792 b5 (by omega) (by decide)
 have s2:=i8 L6 2 (by omega) 34816 b6 (by omega) (by decide)
 have s3:=i8 L7 3 (by omega) 35840 b7 (by omega) (by decide)
 refine s0.trans (s1.trans (s2.trans (s3.trans ?_)))
 rw[DV.a_eq,show decide (((3+1:Nat):Int)<4)=false by decide,cond_false];rfl
theorem H9:eK BL:=(cN b8).1
theorem Fm:BL.length=36:=by decide
def Ia (i:Nat):Int:=(BL.getD i (0,0)).1
theorem Jh (i:Nat):(rd (τ:=gv) BL (i:Int)).1=Ia i:=by
 unfold rd Ia
 rw[Int.toNat_natCast];rfl
theorem Fo:∀i j:Fin 36,i<j→Ia i+128≤Ia j:=by decide+kernel
theorem Ib:yB BL:=by
 intro i j a hi hj h1 h2
 rw[Fm]at hi hj
 rw[Jh]at h1 h2
 unfold dT at h1 h2
 rw[Bool.and_eq_true,decide_eq_true_eq,decide_eq_true_eq]at h1 h2
 rcases Nat.lt_trichotomy i j with h|h|h
 ·have:=Fo ⟨i,hi⟩ ⟨j,hj⟩ h
  simp only at this;omega
 ·exact h
 ·have:=Fo ⟨j,hj⟩ ⟨i,hi⟩ h
  simp only at this;omega
theorem ug (i:Nat) (hi:i<36) (x:Int) (h1:Ia i≤x) (h2:x≤Ia i+127):0≤dr BL x:=by
 unfold dr
 rcases ct (fun i=>dT (rd (τ:=gv) BL (i:Int)).1 x) BL.length 0 with⟨g1,g2⟩|⟨j,g1,_⟩
 ·have:=g2 i (Nat.zero_le _) (by rw[Fm];omega)
  rw[Jh]at this
  unfold dT at this
  rw[decide_eq_true h1,decide_eq_true h2]at this
  cases this
 ·rw[g1];omega
theorem Ic:∀i:Fin 8,Ia i=4096+128*((i:Nat):Int):=by decide+kernel
theorem Fp:∀i:Fin 8,Ia (8+i)=8192+128*((i:Nat):Int):=by decide+kernel
theorem Id:∀i:Fin 2,Ia (16+i)=16384+128*((i:Nat):Int):=by decide+kernel
theorem sP {x:Int} (h1:4096≤x) (h2:x<5120):0≤dr BL x:=by
 have:=Ic ⟨((x-4096)/128).toNat,by omega⟩
 simp only at this
 exact ug ((x-4096)/128).toNat (by omega) x (by omega) (by omega)
theorem yF {x:Int} (h1:8192≤x) (h2:x<9216):0≤dr BL x:=by
 have:=Fp ⟨((x-8192)/128).toNat,by omega⟩
 simp only at this
 exact ug (8+((x-8192)/128).toNat) (by omega) x (by omega) (by omega)
theorem BM {x:Int} (h1:16384≤x) (h2:x<16640):0≤dr BL x:=by
 have:=Id ⟨((x-16384)/128).toNat,by omega⟩
 simp only at this
 exact ug (16+((x-16384)/128).toNat) (by omega) x (by omega) (by omega)
theorem ng {F:Int→Int} (hF:FR F) (a:Int) (t:ByteArray) (h1: -1000000000≤a) (h2:a+(t.size:Int)≤1000000000) (hx:∀x,a≤x→x<a+(t.size:Int)→0≤dr BL x):xA (ar F BL) a t=some (ar (updF F a t) BL):=by
 rw[Mq];exact Fc BL H9 Ib [] t.size F a t hF (Nat.le_refl _) h1 h2 hx
theorem BN (im:fj) (hc:im.1.size≤1024) (hd:im.2.1.size≤256):R2 im=some (ar (F0 im) BL):=by
 rw[Mu,yE]
 simp only[Option.bind_some]
 rw[ng qc 4096 im.1 (by omega) (by omega) fun x h1 h2=>sP h1 (by omega)]
 simp only[Option.bind_some]
 rw[show updF zF 4096 im.1=me im from rfl,ng (gK im) 16384 im.2.1 (by omega) (by omega) fun x h1 h2=>BM h1 (by omega)]
 rfl
theorem an {τ:Ty} (l:List τ.den) (i:Nat) (h:i<l.length):rd (τ:=τ) l (i:Int)∈l:=by rw[aQ l i h];exact List.getElem_mem h
theorem gb {τ:Ty} {l:List τ.den} {x:τ.den} (h:x∈l):∃i:Nat,i<l.length∧rd (τ:=τ) l (i:Int)=x:=by
 obtain⟨i,hi,e⟩:=List.mem_iff_getElem.1 h
 exact⟨i,hi,by rw[aQ l i hi];exact e⟩
theorem mf {t:List cW} {n:ByteArray}:cj t n<0↔∀e∈t,e.1≠n:=by
 unfold cj
 rcases ct (fun i=>decide ((rd (τ:=a6) t (i:Int)).1=n)) t.length 0 with⟨h1,h2⟩|⟨j,h1,h2,h3,h4,_⟩
 ·refine⟨fun _ e he hn=> ?_,fun _=>by rw[h1];decide⟩
  obtain⟨i,hi,hr⟩:=gb (τ:=a6) he
  have:=h2 i (Nat.zero_le _) (by omega)
  rw[decide_eq_false_iff_not,hr]at this
  exact this hn
 ·refine⟨fun h=>by rw[h1]at h;omega,fun h=> ?_⟩
  rw[decide_eq_true_eq]at h4
  exact absurd h4 (h _ (an (τ:=a6) t j (by omega)))
structure Aj (t:List cW):Prop where
 len:t.length≤64
 ent:∀e∈t,du e=true
 dis:t.Pairwise fun a b=>a.1≠b.1
theorem wy {t:List cW}:ov t=true↔Aj t:=by
 unfold ov
 rw[Bool.and_eq_true,decide_eq_true_eq,dc]
 have key:∀i:Nat,i<t.length→(xc t i=true↔du (rd (τ:=a6) t (i:Int))=true∧∀e∈t.take i,e.1≠(rd (τ:=a6) t (i:Int)).1):=by
  intro i hi
  unfold xc
  rw[←mf]
  cases du (rd (τ:=a6) t (i:Int))<;>simp
 constructor
 ·rintro⟨h1,h2⟩
  refine⟨h1,fun e he=> ?_, ?_⟩
  ·obtain⟨i,hi,hr⟩:=gb (τ:=a6) he
   rw[←hr];exact((key i hi).1 (h2 i (Nat.zero_le _) (by omega))).1
  ·rw[List.pairwise_iff_getElem]
   intro i j hi hj hij
   have:=((key j hj).1 (h2 j (Nat.zero_le _) (by omega))).2 t[i] (by rw[List.mem_take_iff_getElem];exact⟨i,by omega,rfl⟩)
   rw[aQ (τ:=a6) t j hj]at this
   exact this
 ·rintro⟨h1,h2,h3⟩
  refine⟨h1,fun i _ hi=>(key i (by omega)).2 ⟨h2 _ (an (τ:=a6) t i (by omega)),fun e he=> ?_⟩⟩
  obtain⟨j,hj,rfl⟩:=List.mem_take_iff_getElem.1 he
  rw[aQ (τ:=a6) t i (by omega)]
  exact(List.pairwise_iff_getElem.1 h3) j i (by omega) (by omega) (by omega)
def oq (o:bl) (l:eX) (owner:Int) (i:Nat):cW:=((rd (τ:=aC) o.2.2.1 (i:Int)).1,1,rd (τ:= .int .i64) l.1 (i:Int),(gw o i:Int),(rd (τ:=aC) o.2.2.1 (i:Int)).2.2.1,owner)
def BO (o:bl) (l:eX) (owner:Int) (i:Nat):cW:=((rd (τ:=aW) o.2.2.2.1 (i:Int)).1,2,rd (τ:= .int .i64) l.2.2.1 (i:Int),(la o i:Int),0,owner)
def jq (t:List cW) (o:bl) (l:eX) (owner:Int):List cW:=
 (t++c8 (fun i=> !(rd (τ:=aC) o.2.2.1 (i:Int)).2.1) (oq o l owner) 0 o.2.2.1.length)++bc (BO o l owner) 0 o.2.2.2.1.length
theorem jS (n:Nat) (h:n≤4096):ay n 56=true:=by simp[ay];omega
theorem qe (n:Nat) (h:n≤4096):ay n 40=true:=by simp[ay];omega
theorem lB (t:List cW) (o:bl) (l:eX) (owner:Int) (ht:t.length≤64) (hz:ObjSz o) (hl:eJ o l):Z6 t o l owner=some (jq t o l owner):=by
 have h1:=hz.f
 have h2:=hz.d
 have hf:=bU (fun i=> !(rd (τ:=aC) o.2.2.1 (i:Int)).2.1) (oq o l owner) o.2.2.1.length 0
 rw[PF,KY,jS _ (by omega)]
 simp only[cond_true,Option.bind_some]
 rw[c9 (L:=fun acc i=>Z6.a owner o l acc o.2.2.1 (o.2.2.1.length:Int) i) (fun i=> !(rd (τ:=aC) o.2.2.1 (i:Int)).2.1) (oq o l owner) o.2.2.1.length t fun acc i hi ha=> ?_]
 ·show Z6.a owner o l _ o.2.2.1 (o.2.2.1.length:Int) (o.2.2.1.length:Int)=_
  rw[Z6.a_eq,ab,decide_eq_false (Nat.lt_irrefl _),cond_false]
  rw[cm (L:=fun acc i=>Z6.b owner l acc o.2.2.2.1 (o.2.2.2.1.length:Int) i) (BO o l owner) o.2.2.2.1.length (t++c8 (fun i=> !(rd (τ:=aC) o.2.2.1 (i:Int)).2.1) (oq o l owner) 0 o.2.2.1.length) fun acc i hi ha=> ?_]
  ·show Z6.b owner l _ o.2.2.2.1 (o.2.2.2.1.length:Int) (o.2.2.2.1.length:Int)=_
   rw[Z6.b_eq,ab,decide_eq_false (Nat.lt_irrefl _),cond_false];rfl
  ·show Z6.b owner l acc o.2.2.2.1 (o.2.2.2.1.length:Int) (i:Int)=_
   rw[List.length_append]at ha
   rw[Z6.b_eq,ab,ae,decide_eq_true hi,ah i _ hi (by omega),ae,show decide (i<l.2.2.1.length)=true from decide_eq_true (by rw[hl.d];exact hi),jS _ (by simp;omega)];rfl
 ·show Z6.a owner o l acc o.2.2.1 (o.2.2.1.length:Int) (i:Int)=_
  rw[Z6.a_eq,ab,ae,decide_eq_true hi,ah i _ hi (by omega),ae,show decide (i<l.1.length)=true from decide_eq_true (by rw[hl.a];exact hi),jS _ (by simp;omega)]
  cases (rd (τ:=aC) o.2.2.1 (i:Int)).2.1<;>rfl
theorem rB (t:List cW) (o:bl) (l:eX) (owner:Int) (ht:t.length≤64) (hz:ObjSz o) (hl:eJ o l):q9 t o l owner=some (jq t o l owner):=by
 have h1:=hz.f
 have h2:=hz.d
 have hf:=bU (fun i=> !(rd (τ:=aC) o.2.2.1 (i:Int)).2.1) (oq o l owner) o.2.2.1.length 0
 rw[MU,jS _ (by omega)]
 simp only[cond_true]
 rw[c9 (L:=fun acc i=>q9.a owner o l acc i) (fun i=> !(rd (τ:=aC) o.2.2.1 (i:Int)).2.1) (oq o l owner) o.2.2.1.length t fun acc i hi ha=> ?_]
 ·rw[q9.a_eq,ab,decide_eq_false (Nat.lt_irrefl _),cond_false]
  rw[cm (L:=fun acc i=>q9.b owner o l acc i) (BO o l owner) o.2.2.2.1.length (t++c8 (fun i=> !(rd (τ:=aC) o.2.2.1 (i:Int)).2.1) (oq o l owner) 0 o.2.2.1.length) fun acc i hi ha=> ?_]
  ·rw[q9.b_eq,ab,decide_eq_false (Nat.lt_irrefl _),cond_false];rfl
  ·show q9.b owner o l acc (i:Int)=_
   rw[List.length_append]at ha
   rw[q9.b_eq,ab,ae,decide_eq_true hi,ah i _ hi (by omega),ae,ae,show decide (i<l.2.2.1.length)=true from decide_eq_true (by rw[hl.d];exact hi),show decide (i<l.2.2.2.length)=true from decide_eq_true (by rw[hl.b];exact hi),jS _ (by simp;omega),hl.bs i hi];rfl
 ·show q9.a owner o l acc (i:Int)=_
  rw[q9.a_eq,ab,ae,decide_eq_true hi,ah i _ hi (by omega),ae,ae,show decide (i<l.1.length)=true from decide_eq_true (by rw[hl.a];exact hi),show decide (i<l.2.1.length)=true from decide_eq_true (by rw[hl.c];exact hi),jS _ (by simp;omega),hl.cs i hi]
  cases (rd (τ:=aC) o.2.2.1 (i:Int)).2.1<;>rfl
theorem rC (o:bl) (l:eX) (hz:ObjSz o) (hl:eJ o l):Z5 l o=some true:=by
 have h1:=hz.f
 have h2:=hz.d
 rw[PE,hl.a,hl.c,hl.d,hl.b]
 simp only[decide_true,Bool.not_true,cond_false]
 rw[ck (L:=Z5.a l o o.2.2.1 (o.2.2.1.length:Int)) (fun _=>true) o.2.2.1.length ?_ fun i hi=> ?_]
 ·rw[(dc _ _ _).2 fun _ _ _=>rfl]
 ·rw[Z5.a_eq,ab,decide_eq_false (Nat.lt_irrefl _),cond_false]
  rw[ck (L:=Z5.b l o.2.2.2.1 (o.2.2.2.1.length:Int)) (fun _=>true) o.2.2.2.1.length ?_ fun i hi=> ?_]
  ·rw[(dc _ _ _).2 fun _ _ _=>rfl]
  ·rw[Z5.b_eq,ab,decide_eq_false (Nat.lt_irrefl _),cond_false]
  ·rw[Z5.b_eq,ab,ae,decide_eq_true hi,ah i _ hi (by omega),ae,show decide (i<l.2.2.2.length)=true from decide_eq_true (by rw[hl.b];exact hi),hl.bs i hi,show decide ((la o i:Int)=((rd (τ:=aW) o.2.2.2.1 (i:Int)).2.size:Int))=true from decide_eq_true rfl];rfl
 ·rw[Z5.a_eq,ab,ae,decide_eq_true hi,ah i _ hi (by omega),ae,show decide (i<l.2.1.length)=true from decide_eq_true (by rw[hl.c];exact hi),hl.cs i hi,show decide ((gw o i:Int)=((rd (τ:=aC) o.2.2.1 (i:Int)).2.2.2.size:Int))=true from decide_eq_true rfl];rfl
theorem d7 {α:Type} (p:Nat→Bool) (f:Nat→α) (x:α):∀k i,x∈c8 p f i k→∃j,i≤j∧j<i+k∧p j=true∧f j=x
 |0,i,h=>by cases h
 |k+1,i,h=>by
  rw[c8]at h
  cases hp:p i with
  |false=>
   rw[hp,cond_false]at h
   obtain⟨j,h1,h2,h3⟩:=d7 p f x k (i+1) h
   exact⟨j,by omega,by omega,h3⟩
  |true=>
   rw[hp,cond_true]at h
   rcases List.mem_cons.1 h with rfl|h
   ·exact⟨i,Nat.le_refl _,by omega,hp,rfl⟩
   ·obtain⟨j,h1,h2,h3⟩:=d7 p f x k (i+1) h
    exact⟨j,by omega,by omega,h3⟩
theorem qf {α:Type} (p:Nat→Bool) (f:Nat→α) (R:α→α→Prop):∀k i,(∀a b,i≤a→a<b→b<i+k→R (f a) (f b))→(c8 p f i k).Pairwise R
 |0,_,_=>List.Pairwise.nil
 |k+1,i,h=>by
  have ih:=qf p f R k (i+1) fun a b h1 h2 h3=>h a b (by omega) h2 (by omega)
  rw[c8]
  cases p i with
  |false=>exact ih
  |true=>
   rw[cond_true]
   refine List.Pairwise.cons (fun x hx=> ?_) ih
   obtain⟨j,h1,h2,_,rfl⟩:=d7 p f x k (i+1) hx
   exact h i j (Nat.le_refl _) (by omega) (by omega)
theorem nh {α:Type} (f:Nat→α) (R:α→α→Prop):∀k i,(∀a b,i≤a→a<b→b<i+k→R (f a) (f b))→(bc f i k).Pairwise R
 |0,_,_=>List.Pairwise.nil
 |k+1,i,h=>by
  have ih:=nh f R k (i+1) fun a b h1 h2 h3=>h a b (by omega) h2 (by omega)
  rw[bc]
  refine List.Pairwise.cons (fun x hx=> ?_) ih
  obtain⟨j,h1,h2,rfl⟩:=(cy f x k (i+1)).1 hx
  exact h i j (Nat.le_refl _) (by omega) (by omega)
theorem dG.dis_ff {o:bl} (h:dG o) (a b:Nat) (hab:a<b) (hb:b<o.2.2.1.length):(rd (τ:=aC) o.2.2.1 (a:Int)).1≠(rd (τ:=aC) o.2.2.1 (b:Int)).1:=by
 have:=(fL (h.fun_ b hb)).2.1
 rw[mC o b (by omega)]at this
 intro e
 have:hZ (bc (fun i=>(rd (τ:=aC) o.2.2.1 (i:Int)).1) 0 b) (rd (τ:=aC) o.2.2.1 (b:Int)).1=true:=kb.2 ((cy _ _ _ _).2 ⟨a,Nat.zero_le _,by omega,e⟩)
 simp_all
theorem dG.dis_fd {o:bl} (h:dG o) (a b:Nat) (ha:a<o.2.2.1.length) (hb:b<o.2.2.2.1.length):(rd (τ:=aC) o.2.2.1 (a:Int)).1≠(rd (τ:=aW) o.2.2.2.1 (b:Int)).1:=by
 have:=(eQ (h.dat b hb)).2.1
 rw[jj o b (by omega),qQ,Bool.or_eq_false_iff]at this
 intro e
 have h2:hZ (bc (fun i=>(rd (τ:=aC) o.2.2.1 (i:Int)).1) 0 o.2.2.1.length) (rd (τ:=aW) o.2.2.2.1 (b:Int)).1=true:=kb.2 ((cy _ _ _ _).2 ⟨a,Nat.zero_le _,by omega,e⟩)
 rw[h2]at this
 exact absurd this.1 (by decide)
theorem dG.dis_dd {o:bl} (h:dG o) (a b:Nat) (hab:a<b) (hb:b<o.2.2.2.1.length):(rd (τ:=aW) o.2.2.2.1 (a:Int)).1≠(rd (τ:=aW) o.2.2.2.1 (b:Int)).1:=by
 have:=(eQ (h.dat b hb)).2.1
 rw[jj o b (by omega),qQ,Bool.or_eq_false_iff]at this
 intro e
 have h2:hZ (bc (fun i=>(rd (τ:=aW) o.2.2.2.1 (i:Int)).1) 0 b) (rd (τ:=aW) o.2.2.2.1 (b:Int)).1=true:=kb.2 ((cy _ _ _ _).2 ⟨a,Nat.zero_le _,by omega,e⟩)
 rw[h2]at this
 exact absurd this.2 (by decide)
theorem nT {t:List cW} {o:bl} (h:gt t o=0):(∀i,i<o.2.2.1.length→DK t o i=0)∧(∀i,i<o.2.2.2.1.length→Jt t o i=0):=by
 unfold gt at h
 by_cases h1:(ba (DK t o) 0 o.2.2.1.length).2=0
 ·rw[if_pos h1]at h
  exact⟨fun i hi=>(cK _ _ _).1 h1 i (Nat.zero_le _) (by omega),fun i hi=>(cK _ _ _).1 h i (Nat.zero_le _) (by omega)⟩
 ·rw[if_neg h1]at h;exact absurd h h1
theorem Ie {t:List cW} {o:bl} {i:Nat} (h:DK t o i=0) (hr:(rd (τ:=aC) o.2.2.1 (i:Int)).2.1=false):cj t (rd (τ:=aC) o.2.2.1 (i:Int)).1<0:=by
 unfold DK at h
 rw[hr]at h
 simp only[Bool.false_eq_true,if_false]at h
 split at h
 ·cases h
 ·omega
theorem If {t:List cW} {o:bl} {i:Nat} (h:DK t o i=0) (hr:(rd (τ:=aC) o.2.2.1 (i:Int)).2.1=true):0≤cj t (rd (τ:=aC) o.2.2.1 (i:Int)).1∧(rd (τ:=a6) t (cj t (rd (τ:=aC) o.2.2.1 (i:Int)).1)).2.1=1:=by
 unfold DK at h
 rw[hr]at h
 simp only[if_true]at h
 split at h
 ·cases h
 ·split at h
  ·rename_i h1 h2;exact⟨by omega,h2⟩
  ·cases h
theorem Ig {t:List cW} {o:bl} {i:Nat} (h:Jt t o i=0):cj t (rd (τ:=aW) o.2.2.2.1 (i:Int)).1<0:=by
 unfold Jt at h
 split at h
 ·cases h
 ·omega
theorem sQ {x:Int} (h:Jg x):bV x=true:=by
 unfold bV
 obtain⟨h1,h2,h3⟩:=h
 rw[show(decide (0≤x)&&decide (x≤1048575))=true by simp;omega,cond_true,decide_eq_true_eq,Int.tmod_eq_emod_of_nonneg h1];omega
theorem nU (t:List cW) (o:bl) (l:eX) (owner:Int) (hz:ObjSz o):(jq t o l owner).length≤t.length+8:=by
 have h1:=hz.f
 have h2:=hz.d
 have hf:=bU (fun i=> !(rd (τ:=aC) o.2.2.1 (i:Int)).2.1) (oq o l owner) o.2.2.1.length 0
 unfold jq
 rw[List.length_append,List.length_append,aD];omega
theorem Ih {t:List cW} {o:bl} {l:eX} {owner:Int} (ht:Aj t) (ho:dG o) (hl:eJ o l) (hn:gt t o=0) (how:1≤owner∧owner≤6) (hlen:t.length≤56):Aj (jq t o l owner):=by
 obtain⟨n1,n2⟩:=nT hn
 refine⟨by have:=nU t o l owner ho.toObjSz;omega,fun e he=> ?_, ?_⟩
 ·unfold jq at he
  rcases List.mem_append.1 he with he|he
  ·rcases List.mem_append.1 he with he|he
   ·exact ht.ent e he
   ·obtain⟨j,_,hj,_,rfl⟩:=d7 _ _ _ _ _ he
    have hf:=fL (ho.fun_ j (by omega))
    have hs:=ho.fsz_pos j (by omega)
    have ha:=hl.fa j (by omega)
    unfold du oq
    simp only
    rw[hf.1,sQ ha,bd.2 (show(1:Int)≤(gw o j:Int)∧(gw o j:Int)≤1024 by omega),bd.2 (show 0≤owner∧owner≤6 by omega)]
    unfold xb
    rw[hf.2.2.1];rfl
  ·obtain⟨j,_,hj,rfl⟩:=(cy _ _ _ _).1 he
   have hf:=eQ (ho.dat j (by omega))
   have hs:=ho.dsz_pos j (by omega)
   have ha:=hl.ds j (by omega)
   unfold du BO
   simp only
   rw[hf.1,sQ ha,bd.2 (show(1:Int)≤(la o j:Int)∧(la o j:Int)≤1024 by omega),bd.2 (show 0≤owner∧owner≤6 by omega)]
   rfl
 ·unfold jq
  rw[List.pairwise_append,List.pairwise_append]
  refine⟨⟨ht.dis,qf _ _ _ _ _ fun a b _ h2 h3=>ho.dis_ff a b h2 (by omega),fun a ha b hb=> ?_⟩,nh _ _ _ _ fun a b _ h2 h3=>ho.dis_dd a b h2 (by omega),fun a ha b hb=> ?_⟩
  ·obtain⟨j,_,hj,hp,rfl⟩:=d7 _ _ _ _ _ hb
   have:=Ie (n1 j (by omega)) (by simpa using hp)
   exact mf.1 this a ha
  ·obtain⟨k,_,hk,rfl⟩:=(cy _ _ _ _).1 hb
   rcases List.mem_append.1 ha with ha|ha
   ·exact mf.1 (Ig (n2 k (by omega))) a ha
   ·obtain⟨j,_,hj,hp,rfl⟩:=d7 _ _ _ _ _ ha
    exact ho.dis_fd j k (by omega) (by omega)
theorem nV (a:bm) (n:Nat):(aE a n).1.1=a.1∧(aE a n).1.2.1=a.2.1:=by
 unfold aE;split<;>exact⟨rfl,rfl⟩
theorem qg (sz:Nat→Nat):∀k i a,(eg sz a i k).1.1=a.1∧(eg sz a i k).1.2.1=a.2.1
 |0,_,_=>⟨rfl,rfl⟩
 |k+1,i,a=>by
  have h:=qg sz k (i+1) (aE a (sz i)).1
  have h2:=nV a (sz i)
  rw[eg];exact⟨h.1.trans h2.1,h.2.trans h2.2⟩
theorem BP {a:bm} (h:ce a) (n:Nat) (ok:(aE a n).2.2=true):a.1≤(aE a n).2.1∧(aE a n).2.1+(n:Int)≤a.1+a.2.1:=by
 obtain⟨⟨h1,h2,h3⟩,⟨h4,h5,h6⟩,h7,h8,h9⟩:=h
 unfold aE at ok⊢
 split at ok
 ·cases ok
 ·rename_i hc
  rw[if_neg hc]
  have:n≤qZ n:=by unfold qZ;omega
  exact⟨h7,by simp only;omega⟩
theorem Fq (sz:Nat→Nat):∀k i a,ce a→(eg sz a i k).2.2=true→∀j (hj:j< (eg sz a i k).2.1.length),a.1≤(eg sz a i k).2.1[j]∧(eg sz a i k).2.1[j]+(sz (i+j):Int)≤a.1+a.2.1
 |0,_,_,_,_,j,hj=>by simp[eg]at hj
 |k+1,i,a,h,ok,j,hj=>by
  have e:eg sz a i (k+1)=((eg sz (aE a (sz i)).1 (i+1) k).1,(aE a (sz i)).2.1::(eg sz (aE a (sz i)).1 (i+1) k).2.1,(aE a (sz i)).2.2&&(eg sz (aE a (sz i)).1 (i+1) k).2.2):=rfl
  rw[e,Bool.and_eq_true]at ok
  have hb:=nV a (sz i)
  cases j with
  |zero=>exact BP h _ ok.1
  |succ j=>
   have:=Fq sz k (i+1) _ (df h (sz i)) ok.2 j (by rw[dX]at hj⊢;omega)
   rw[hb.1,hb.2]at this
   rw[show i+(j+1)=i+1+j by omega]
   exact this
def oM (o:bl) (l:eX):Prop:=∀i:Nat,i<o.2.2.1.length→∃x:Int,rd (τ:= .int .i64) l.1 (i:Int)=x∧8192≤x∧x+(gw o i:Int)≤9216∧x%8=0
theorem yG {t:List cW} {a b:bm} {o:bl} {v:eX×bm×bm×Int} (h:E9 t a b o v) (ha:ce a) (h1:a.1=8192) (h2:a.2.1=1024):oM o v.1:=by
 intro i hi
 rw[h.ats]
 have hl:=dX (gw o) o.2.2.1.length 0 a
 have hok:=h.ok
 unfold dp at hok
 simp only[Bool.and_eq_true]at hok
 have:=Fq (gw o) o.2.2.1.length 0 a ha hok.1 i (by rw[hl];exact hi)
 have h8:=h.lnk.fa i hi
 rw[h.ats]at h8
 have e:(rd (τ:= .int .i64) (dp o a b).1.1 (i:Int):Int)=(eg (gw o) a 0 o.2.2.1.length).2.1[i]'(by rw[hl];exact hi):=aQ (τ:= .int .i64) _ i (by show i< (eg (gw o) a 0 o.2.2.1.length).2.1.length;rw[hl];exact hi)
 have h8':Jg ((eg (gw o) a 0 o.2.2.1.length).2.1[i]'(by rw[hl];exact hi)):=by rw[←e];exact h8
 rw[Nat.zero_add,h1,h2]at this
 exact⟨_,e,this.1,this.2,h8'.2.2⟩
def ni (x:Int) (n:Int):Prop:=(4096≤x∧x+n≤5120)∨(8192≤x∧x+n≤9216)
theorem ni.page {x n:Int} (h:ni x n):∀y,x≤y→y<x+n→0≤dr BL y:=by
 intro y h1 h2
 rcases h with h|h
 ·exact sP (by omega) (by omega)
 ·exact yF (by omega) (by omega)
theorem ni.range {x n:Int} (h:ni x n):4096≤x∧x+n≤9216:=by
 rcases h with h|h<;>omega
theorem wz {F:Int→Int} (hF:FR F) (a:Int) (t:ByteArray) (h:ni a (t.size:Int)):oy (ar F BL) a t=some (ar (updF F a t) BL)∧xA (ar F BL) a t=some (ar (updF F a t) BL):=by
 have hr:=h.range
 exact⟨wv hF a t ⟨by omega,by omega,by omega⟩ BL H9,ng hF a t (by omega) (by omega) h.page⟩
def qh (F:Int→Int) (l:eX):Nat→Nat→(Int→Int)
 |_,0=>F
 |i,k+1=>qh (updF F (rd (τ:= .int .i64) l.1 (i:Int)) (rd (τ:= .str) l.2.1 (i:Int))) l (i+1) k
theorem mg (l:eX):∀k i F,FR F→FR (qh F l i k)
 |0,_,_,h=>h
 |k+1,i,F,h=>mg l k (i+1) _ (dR h _ _)
theorem yH (o:bl) (l:eX) (t:List cW) (hz:ObjSz o) (hl:eJ o l) (hp:oM o l) (x8:List (Int×Int)):∀(k i:Nat) (F:Int→Int),FR F→i+k=o.2.2.1.length→
  Zc.a t (ar F BL) o l [] x8 (o.2.2.1.length:Int) (i:Int)=Zc.b t (ar (qh F l i k) BL) l [] x8 o.2.2.1 (o.2.2.1.length:Int) 0∧
  rb.a t (ar F BL) o l [] (i:Int)=rb.b t (ar (qh F l i k) BL) o l [] [] 0:=by
 have h1:=hz.f
 intro k
 induction k with
 |zero=>
  intro i F hF h
  have:i=o.2.2.1.length:=by omega
  subst this
  rw[Zc.a_eq,ab,decide_eq_false (Nat.lt_irrefl _),cond_false,rb.a_eq,ab,decide_eq_false (Nat.lt_irrefl _),cond_false]
  exact⟨rfl,rfl⟩
 |succ k ih=>
  intro i F hF h
  have hi:i<o.2.2.1.length:=by omega
  obtain⟨x,hx,hpi⟩:=hp i hi
  have hsz:=hl.cs i hi
  obtain⟨p1,p2⟩:=wz hF x (rd (τ:= .str) l.2.1 (i:Int)) (.inr ⟨hpi.1,by rw[hsz];exact hpi.2.1⟩)
  rw[←hx]at p1 p2
  rw[Zc.a_eq,ab,ae,ae,decide_eq_true hi,ah i _ hi (by omega),show decide (i<l.1.length)=true from decide_eq_true (by rw[hl.a];exact hi),show decide (i<l.2.1.length)=true from decide_eq_true (by rw[hl.c];exact hi),p1,
   rb.a_eq,ab,ae,ae,decide_eq_true hi,ah i _ hi (by omega),show decide (i<l.1.length)=true from decide_eq_true (by rw[hl.a];exact hi),show decide (i<l.2.1.length)=true from decide_eq_true (by rw[hl.c];exact hi),p2]
  simp only[cond_true,Option.bind_some]
  exact ih (i+1) _ (dR hF _ _) (by omega)
def Ak (t:List cW):Prop:=∀i:Nat,i<t.length→(rd (τ:=a6) t (i:Int)).2.1=1→ni (rd (τ:=a6) t (i:Int)).2.2.1 4
theorem Fr (d:Int) (h: -2147483648≤d∧d≤2147483647):∃w,xB (3,0,0,0,d)=some w∧ii (3,0,0,0,d)=some w:=by
 have hR:lH (3,0,0,0,d):=⟨⟨by simp,by simp⟩,⟨by simp,by simp⟩,⟨by simp,by simp⟩,⟨by simp only;omega,by simp only;omega⟩⟩
 exact⟨_,fq (3,0,0,0,d) (by simp) (by simp) hR,ft (3,0,0,0,d) (by simp) (by simp) hR fun h=>by have h':(da 3).1=1:=h;exact absurd h' (by decide)⟩
theorem yI (o:bl) (l:eX) (t:List cW) (ht:t.length≤64) (hz:ObjSz o) (hl:eJ o l) (hp:oM o l) (hf:Ak t) (hn:∀i:Nat,i<o.2.2.1.length→(rd (τ:=aC) o.2.2.1 (i:Int)).2.1=true→0≤cj t (rd (τ:=aC) o.2.2.1 (i:Int)).1∧(rd (τ:=a6) t (cj t (rd (τ:=aC) o.2.2.1 (i:Int)).1)).2.1=1):
  ∀(k i:Nat) (F:Int→Int) (sv:List (Int×Int)),FR F→i+k=o.2.2.1.length→sv.length≤i→∃F' sv',FR F'∧sv'.length≤o.2.2.1.length∧
  Zc.b t (ar F BL) l [] sv o.2.2.1 (o.2.2.1.length:Int) (i:Int)=some (ar F' BL,sv')∧rb.b t (ar F BL) o l [] sv (i:Int)=some (ar F' BL,sv'):=by
 have h1:=hz.f
 intro k
 induction k with
 |zero=>
  intro i F sv hF h hs
  have:i=o.2.2.1.length:=by omega
  subst this
  rw[Zc.b_eq,ab,decide_eq_false (Nat.lt_irrefl _),cond_false,rb.b_eq,ab,decide_eq_false (Nat.lt_irrefl _),cond_false]
  exact⟨F,sv,hF,hs,rfl,rfl⟩
 |succ k ih=>
  intro i F sv hF h hs
  have hi:i<o.2.2.1.length:=by omega
  rw[Zc.b_eq,ab,ae,decide_eq_true hi,ah i _ hi (by omega),rb.b_eq,ab,decide_eq_true hi,ah i _ hi (by omega)]
  simp only[ae,decide_eq_true hi,cond_true]
  cases hr:(rd (τ:=aC) o.2.2.1 (i:Int)).2.1 with
  |false=>exact ih (i+1) F sv hF (by omega) (by omega)
  |true=>
   obtain⟨e1,e2⟩:=hn i hi hr
   have er:=dW t (rd (τ:=aC) o.2.2.1 (i:Int)).1
   rw[(dO t _ (by omega)).1,(dO t _ (by omega)).2]
   simp only[Bool.not_true,cond_false,Option.bind_some]
   obtain⟨q,hq⟩:∃q:Nat,cj t (rd (τ:=aC) o.2.2.1 (i:Int)).1=(q:Int):=⟨(cj t (rd (τ:=aC) o.2.2.1 (i:Int)).1).toNat,by omega⟩
   rw[hq]at e2 er⊢
   have hqt:q<t.length:=by omega
   have hat:=hf q hqt e2
   obtain⟨at_,hA⟩:∃x:Int,(rd (τ:=a6) t (q:Int)).2.2.1=x:=⟨_,rfl⟩
   rw[hA]at hat⊢
   have hr4:=hat.range
   have hg:=hat.page
   obtain⟨to,hT,hpi⟩:=hp i hi
   simp only[hT]
   rw[ae,decide_eq_true hqt,show decide (i<l.1.length)=true from decide_eq_true (by rw[hl.a];exact hi)]
   rw[show Zb (ar F BL) at_ 4=some (ue F at_ 4) from yD hF BL H9 at_ 4 (by omega) (by omega) (by omega) hg,show AJ (ar F BL) at_ 4=some (ue F at_ 4) from Fe hF BL H9 at_ 4 (by omega) (by omega) (by omega) hg]
   have hgz:=BK F at_ 4
   simp only[cond_true,Option.bind_some]
   rw[hJ _ (by omega),hgz,show xu (ue F at_ 4) 0 4=some (IntKind.wrap .i64 (kG (ue F at_ 4) 0 4)) from hY (ue F at_ 4) 0 4 (by omega) (by omega)]
   simp only[Option.bind_some]
   rw[ka _ (by simp;omega),MW,aV (n:=to-at_) (by omega) (by omega)]
   obtain⟨w,w1,w2⟩:=Fr (to-at_) ⟨by omega,by omega⟩
   simp only[cond_true,Option.bind_some]
   rw[w1,w2]
   simp only[Option.bind_some]
   rw[show xC w 4=some (av (fk w 4)) from lK w 4 (by omega),show ic w 4=some (av (fk w 4)) from d6 w 4 (by omega)]
   have hb:(av (fk w 4)).size=4:=by rw[aB,aI]
   obtain⟨p1,p2⟩:=wz hF at_ (av (fk w 4)) (by rw[hb];exact hat)
   simp only[Option.bind_some]
   rw[p1,p2]
   simp only[Option.bind_some]
   exact ih (i+1) _ _ (dR hF _ _) (by omega) (by simp;omega)
abbrev Pc:Type:=Int×Int×Int×Int×Int
def Dw (s:k6):Int:=bif decide (s.2.1=1)then IntKind.wrap .i64 (4096+s.2.2.1)else IntKind.wrap .i64 (16384+s.2.2.1)
theorem oN (s:k6):NS s=some (Dw s)∧Lz s=some (Dw s):=by
 rw[zK,He]
 unfold Dw
 cases decide (s.2.1=1)<;>exact⟨rfl,rfl⟩
def yJ (im:fj) (i:Nat):cW:=((rd (τ:=bE) im.2.2 (i:Int)).1,(rd (τ:=bE) im.2.2 (i:Int)).2.1,Dw (rd (τ:=bE) im.2.2 (i:Int)),(rd (τ:=bE) im.2.2 (i:Int)).2.2.2.1,(rd (τ:=bE) im.2.2 (i:Int)).2.2.2.2,0)
def lC (im:fj):List cW:=bc (yJ im) 0 im.2.2.length
def rD (im:fj):List Pc:=c8 (fun i=>decide ((rd (τ:=bE) im.2.2 (i:Int)).2.1=1)) (fun i=>((i:Int),0,Dw (rd (τ:=bE) im.2.2 (i:Int)),(rd (τ:=bE) im.2.2 (i:Int)).2.2.2)) 0 im.2.2.length
theorem BQ (im:fj) (hn:im.2.2.length≤16):Eu im=some (lC im):=by
 rw[Ok,cm (L:=fun acc i=>Eu.a acc im.2.2 (im.2.2.length:Int) i) (yJ im) im.2.2.length [] fun acc i hi ha=> ?_]
 ·rw[Eu.a_eq,ab,decide_eq_false (Nat.lt_irrefl _),cond_false,List.nil_append];rfl
 ·show Eu.a acc im.2.2 (im.2.2.length:Int) (i:Int)=_
  rw[Eu.a_eq,ab,ae,decide_eq_true hi,ah i _ hi (by omega),(oN _).1]
  simp only[cond_true,Option.bind_some]
  rw[jS _ (by simp at ha⊢;omega)];rfl
theorem BR (im:fj) (hn:im.2.2.length≤16):DU im=some (lC im):=by
 rw[Ml,cm (L:=fun acc i=>DU.a im acc i) (yJ im) im.2.2.length [] fun acc i hi ha=> ?_]
 ·rw[DU.a_eq,ab,decide_eq_false (Nat.lt_irrefl _),cond_false,List.nil_append];rfl
 ·show DU.a im acc (i:Int)=_
  rw[DU.a_eq,ab,ae,decide_eq_true hi,ah i _ hi (by omega),(oN _).2]
  simp only[cond_true,Option.bind_some]
  rw[jS _ (by simp at ha⊢;omega)];rfl
theorem BS (im:fj) (hn:im.2.2.length≤16):Dq im=some (rD im):=by
 rw[Ol,c9 (L:=fun acc i=>Dq.a acc im.2.2 (im.2.2.length:Int) i) (fun i=>decide ((rd (τ:=bE) im.2.2 (i:Int)).2.1=1)) (fun i=>(((i:Int),0,Dw (rd (τ:=bE) im.2.2 (i:Int)),(rd (τ:=bE) im.2.2 (i:Int)).2.2.2):Pc)) im.2.2.length [] fun acc i hi ha=> ?_]
 ·rw[Dq.a_eq,ab,decide_eq_false (Nat.lt_irrefl _),cond_false,List.nil_append];rfl
 ·show Dq.a acc im.2.2 (im.2.2.length:Int) (i:Int)=_
  rw[Dq.a_eq,ab,ae,decide_eq_true hi,ah i _ hi (by omega),(oN _).1]
  simp only[cond_true,Option.bind_some]
  rw[qe _ (by simp at ha⊢;omega)]
  cases decide ((rd (τ:=bE) im.2.2 (i:Int)).2.1=1)<;>rfl
theorem BT (im:fj) (hn:im.2.2.length≤16):Dh im=some (rD im):=by
 rw[Mm,c9 (L:=fun acc i=>Dh.a im acc i) (fun i=>decide ((rd (τ:=bE) im.2.2 (i:Int)).2.1=1)) (fun i=>(((i:Int),0,Dw (rd (τ:=bE) im.2.2 (i:Int)),(rd (τ:=bE) im.2.2 (i:Int)).2.2.2):Pc)) im.2.2.length [] fun acc i hi ha=> ?_]
 ·rw[Dh.a_eq,ab,decide_eq_false (Nat.lt_irrefl _),cond_false,List.nil_append];rfl
 ·show Dh.a im acc (i:Int)=_
  rw[Dh.a_eq,ab,ae,decide_eq_true hi,ah i _ hi (by omega),(oN _).2]
  simp only[cond_true,Option.bind_some]
  rw[qe _ (by simp at ha⊢;omega)]
  cases decide ((rd (τ:=bE) im.2.2 (i:Int)).2.1=1)<;>rfl
abbrev Ii:Type:=List cW×List Pc×List fH×bm×bm
abbrev Ij:Type:=List cW×bm×bm×List Pc×List fH
theorem Al (im:fj) (hz:k7 im):Sp im=some ((lC im,rD im,ar (F0 im) BL,(8192,1024,8192),(20480,256,20480)):Ii)∧R3 im=some ((lC im,(8192,1024,8192),(20480,256,20480),rD im,ar (F0 im) BL):Ij):=by
 rw[Ov,Mv,BQ im hz.n,BR im hz.n,BS im hz.n,BT im hz.n,wx im hz.c hz.d,BN im hz.c hz.d]
 exact⟨rfl,rfl⟩
structure rE (n:Nat) (t:List cW) (P:List Pc) (F:Int→Int) (a b:bm):Prop where
 tab:Aj t
 len:t.length≤16+8*n
 fin:Ak t
 pl:P.length≤16+4*n
 fr:FR F
 aR:ce a
 a1:a.1=8192
 a2:a.2.1=1024
 bR:ce b
 pcs:∀p∈P,0≤p.1∧p.1< (t.length:Int)∧0≤p.2.2.1∧p.2.2.1≤1048575∧1≤p.2.2.2.1∧p.2.2.2.1≤1024∧0≤p.2.1∧p.2.1≤6
theorem Ik {n:Nat} (h:bf n=true):20≤n:=by
 unfold bf at h
 cases h1:bZ n with
 |false=>rw[h1]at h;cases h
 |true=>rw[h1,cond_true,decide_eq_true_eq]at h;omega
theorem xa.sym {im:fj} (h:xa im) (i:Nat) (hi:i<im.2.2.length):qM im (rd (τ:=bE) im.2.2 (i:Int))∧GQ (rd (τ:=bE) im.2.2 (i:Int)):=by
 obtain⟨E,hE,_⟩:=h.chain
 rw[aQ (τ:=bE) im.2.2 i hi]
 exact⟨(nq hE i hi).1,h.funs i hi⟩
theorem uh {im:fj} {s:k6} (hz:k7 im) (h:qM im s) (hk:s.2.1=1):Dw s=4096+s.2.2.1:=by
 have:=h.func hk;have:=h.at0;have:=h.size;have:=hz.c
 unfold Dw
 rw[decide_eq_true hk,cond_true,aV (by omega) (by omega)]
theorem Il {im:fj} {s:k6} (hz:k7 im) (h:qM im s) (hk:s.2.1=2):Dw s=16384+s.2.2.1:=by
 have:=h.data hk;have:=h.at0;have:=h.size;have:=hz.d
 unfold Dw
 rw[decide_eq_false (by omega),cond_false,aV (by omega) (by omega)]
theorem uk {im:fj} (h:xa im):rE 0 (lC im) (rD im) (F0 im) (8192,1024,8192) (20480,256,20480):=by
 have hz:=h.sz
 have hn:=hz.n
 have hc:=hz.c
 have hd:=hz.d
 refine⟨⟨by unfold lC;rw[aD];omega,fun e he=> ?_, ?_⟩,by unfold lC;rw[aD];omega,fun i hi hk=> ?_, ?_,qd im,⟨⟨by decide,by decide,by decide⟩,⟨by decide,by decide,by decide⟩,by decide,by decide,by decide⟩,rfl,rfl,⟨⟨by decide,by decide,by decide⟩,⟨by decide,by decide,by decide⟩,by decide,by decide,by decide⟩,fun p hp=> ?_⟩
 ·unfold lC at he
  obtain⟨i,_,hi,rfl⟩:=(cy _ _ _ _).1 he
  obtain⟨hS,hG⟩:=h.sym i (by omega)
  unfold yJ
  obtain⟨s,hs⟩:∃s:k6,rd (τ:=bE) im.2.2 (i:Int)=s:=⟨_,rfl⟩
  rw[hs]at hS hG⊢
  have h0:=hS.at0
  have h1:=hS.size
  unfold du
  simp only
  rw[hS.name]
  rcases hS.kind with hk|hk
  ·obtain⟨g1,g2,g3⟩:=hG hk
   have hf:=hS.func hk
   rw[uh hz hS hk,g1,bd.2 (show 1≤s.2.2.2.1∧s.2.2.2.1≤1024 by omega)]
   unfold xb
   rw[decide_eq_true hk,g2];rfl
  ·have hf:=hS.data hk
   rw[Il hz hS hk,bd.2 (show 1≤s.2.2.2.1∧s.2.2.2.1≤1024 by omega)]
   have hcode:bV (16384+s.2.2.1)=true:=by
    unfold bV
    rw[show(decide (0≤16384+s.2.2.1)&&decide (16384+s.2.2.1≤1048575))=true by simp;omega,cond_true,decide_eq_true_eq,Int.tmod_eq_emod_of_nonneg (by omega)];omega
   rw[hcode]
   unfold xb
   rw[decide_eq_true hk,decide_eq_true hf.2.2.2,decide_eq_false (show¬s.2.1=1 by omega)];rfl
 ·unfold lC
  refine nh _ _ _ _ fun a b _ hab hb=> ?_
  obtain⟨E,hE,_⟩:=h.chain
  have:=(nq hE b (by omega)).2
  intro e
  unfold yJ at e
  simp only at e
  rw[aQ (τ:=bE) im.2.2 a (by omega),aQ (τ:=bE) im.2.2 b (by omega)]at e
  unfold lJ at this
  have h2:(im.2.2.take b).any (fun y=>decide (y.1=(im.2.2[b]'(by omega)).1))=true:=List.any_eq_true.2 ⟨im.2.2[a]'(by omega),List.mem_take_iff_getElem.2 ⟨a,by omega,rfl⟩,decide_eq_true e⟩
  rw[h2]at this
  cases this
 ·unfold lC at hi hk⊢
  rw[aD]at hi
  rw[ub (τ:=a6) (yJ im) _ _ hi]at hk⊢
  obtain⟨hS,hG⟩:=h.sym i hi
  unfold yJ at hk⊢
  simp only at hk⊢
  obtain⟨s,hs⟩:∃s:k6,rd (τ:=bE) im.2.2 (i:Int)=s:=⟨_,rfl⟩
  rw[hs]at hS hG hk⊢
  have h0:=hS.at0
  have h1:=hS.size
  have hf:=hS.func hk
  have h20:=Ik (hG hk).2.2
  rw[uh hz hS hk]
  exact .inl ⟨by omega,by omega⟩
 ·unfold rD
  have:=bU (fun i=>decide ((rd (τ:=bE) im.2.2 (i:Int)).2.1=1)) (fun i=>(((i:Int),0,Dw (rd (τ:=bE) im.2.2 (i:Int)),(rd (τ:=bE) im.2.2 (i:Int)).2.2.2):Pc)) im.2.2.length 0
  omega
 ·unfold rD at hp
  obtain⟨j,_,hj,hk,rfl⟩:=d7 _ _ _ _ _ hp
  have hj':j<im.2.2.length:=by omega
  obtain⟨hS,hG⟩:=h.sym j hj'
  have hk':=of_decide_eq_true hk
  obtain⟨s,hs⟩:∃s:k6,rd (τ:=bE) im.2.2 (j:Int)=s:=⟨_,rfl⟩
  simp only[hs]at hS hG hk'⊢
  have h0:=hS.at0
  have h1:=hS.size
  have hf:=hS.func hk'
  rw[uh hz hS hk']
  have hl:(lC im).length=im.2.2.length:=by unfold lC;rw[aD]
  rw[hl]
  refine⟨by omega,by omega,by omega,by omega,h1,by omega⟩
theorem wA {α:Type} (p:Nat→Bool) (f:Nat→α):∀(k i j:Nat),i≤j→j<i+k→p j=true→f j∈c8 p f i k
 |0,i,j,h1,h2,_=>by omega
 |k+1,i,j,h1,h2,hp=>by
  rw[c8]
  by_cases e:j=i
  ·subst e;rw[hp,cond_true];exact List.mem_cons_self ..
  ·have:=wA p f k (i+1) j (by omega) (by omega) hp
   cases p i
   ·exact this
   ·exact List.mem_cons_of_mem _ this
def O8 (t:List cW) (o:bl) (l:eX) (owner:Int) (i:Nat):Pc:=(cj t (rd (τ:=aC) o.2.2.1 (i:Int)).1,owner,rd (τ:= .int .i64) l.1 (i:Int),(gw o i:Int),(rd (τ:=aC) o.2.2.1 (i:Int)).2.2.1)
theorem Ft {t u:List cW} {n:ByteArray} (h:0≤cj t n):cj (t++u) n=cj t n∧rd (τ:=a6) (t++u) (cj t n)=rd (τ:=a6) t (cj t n):=by
 have hrd:∀i:Nat,i<t.length→rd (τ:=a6) (t++u) (i:Int)=rd (τ:=a6) t (i:Int):=fun i hi=>by
  rw[aQ (τ:=a6) (t++u) i (by rw[List.length_append];omega),aQ (τ:=a6) t i hi,List.getElem_append_left hi]
 unfold cj at h⊢
 rcases ct (fun i=>decide ((rd (τ:=a6) t (i:Int)).1=n)) t.length 0 with⟨h1,h2⟩|⟨j,h1,h2,h3,h4,h5⟩
 ·rw[h1]at h;exact absurd h (by decide)
 ·rw[h1]
  rcases ct (fun i=>decide ((rd (τ:=a6) (t++u) (i:Int)).1=n)) (t++u).length 0 with⟨g1,g2⟩|⟨k,g1,g2,g3,g4,g5⟩
  ·have:=g2 j (Nat.zero_le _) (by rw[List.length_append];omega)
   rw[hrd j (by omega),h4]at this;cases this
  ·have:k=j:=by
    rcases Nat.lt_trichotomy k j with c|c|c
    ·have:=h5 k (Nat.zero_le _) c
     rw[hrd k (by omega)]at g4
     rw[this]at g4;cases g4
    ·exact c
    ·have:=g5 j (Nat.zero_le _) c
     rw[hrd j (by omega),h4]at this;cases this
   rw[g1,this]
   exact⟨rfl,hrd j (by omega)⟩
theorem Fu {t:List cW} {o:bl} {l:eX} {owner:Int} (hf:Ak t) (ho:dG o) (hp:oM o l):Ak (jq t o l owner):=by
 intro i hi hk
 have hm:=an (τ:=a6) (jq t o l owner) i hi
 generalize rd (τ:=a6) (jq t o l owner) (i:Int)=e at*
 unfold jq at hm
 rcases List.mem_append.1 hm with hm|hm
 ·rcases List.mem_append.1 hm with hm|hm
  ·obtain⟨j,hj,rfl⟩:=gb (τ:=a6) hm
   exact hf j hj hk
  ·obtain⟨j,_,hj,_,rfl⟩:=d7 _ _ _ _ _ hm
   obtain⟨x,hx,h1,h2,h3⟩:=hp j (by omega)
   have:=ho.fsz_pos j (by omega)
   unfold oq
   simp only[hx]
   exact .inr ⟨h1,by omega⟩
 ·obtain⟨j,_,hj,rfl⟩:=(cy _ _ _ _).1 hm
  unfold BO at hk
  exact absurd hk (show¬((2:Int)=1) by decide)
theorem Fv (t:List cW) (o:bl) (l:eX) (owner:Int) (ht:t.length≤64) (hz:ObjSz o) (hl:eJ o l) (P:List Pc) (hP:P.length≤100) (r:List fH×bm×bm) (x6:eX):
  Zd.a (t,P,r) owner o x6 l o.2.2.1 (o.2.2.1.length:Int) 0=(Zc r.1 t o l).bind fun r3=>some (l,r3.2,0,t,P++bc (O8 t o l owner) 0 o.2.2.1.length,r3.1,r.2):=by
 have h1:=hz.f
 rw[cm (L:=fun acc i=>Zd.a (t,acc,r) owner o x6 l o.2.2.1 (o.2.2.1.length:Int) i) (O8 t o l owner) o.2.2.1.length P fun acc i hi ha=> ?_]
 ·rw[Zd.a_eq,ab,decide_eq_false (Nat.lt_irrefl _),cond_false]
 ·show Zd.a (t,acc,r) owner o x6 l o.2.2.1 (o.2.2.1.length:Int) (i:Int)=_
  rw[Zd.a_eq,ab,ae,decide_eq_true hi,ah i _ hi (by omega),(dO t _ (by omega)).1]
  simp only[cond_true,Option.bind_some]
  rw[ae,show decide (i<l.1.length)=true from decide_eq_true (by rw[hl.a];exact hi),qe _ (by simp;omega)];rfl
theorem Fw (t:List cW) (o:bl) (l:eX) (owner:Int) (ht:t.length≤64) (hz:ObjSz o) (hl:eJ o l) (P:List Pc) (hP:P.length≤100) (y:Ij) (a b:bm) (x12:Ij):
  Dj.a owner y o l a b x12 t P 0=(rb y.2.2.2.2 t o l).bind fun r2=>some ((t,a,b,P++bc (O8 t o l owner) 0 o.2.2.1.length,r2.1),r2.2):=by
 have h1:=hz.f
 rw[cm (L:=fun acc i=>Dj.a owner y o l a b x12 t acc i) (O8 t o l owner) o.2.2.1.length P fun acc i hi ha=> ?_]
 ·rw[Dj.a_eq,ab,decide_eq_false (Nat.lt_irrefl _),cond_false]
 ·show Dj.a owner y o l a b x12 t acc (i:Int)=_
  rw[Dj.a_eq,ab,ae,decide_eq_true hi,ah i _ hi (by omega),(dO t _ (by omega)).2]
  simp only[cond_true,Option.bind_some]
  rw[ae,ae,show decide (i<l.1.length)=true from decide_eq_true (by rw[hl.a];exact hi),show decide (i<l.2.1.length)=true from decide_eq_true (by rw[hl.c];exact hi),hl.cs i hi,qe _ (by simp;omega)];rfl
theorem wB (n:Nat) (hn:n≤5) (t:List cW) (P:List Pc) (F:Int→Int) (a b:bm) (hL:rE n t P F a b) (o:bl) (hr:tw o) (ho:ia o=true):
  ∃v,gz t a b o=some v∧(v.2.2.2≠0→∃x,Zd (t,P,ar F BL,a,b) o ((n+1:Nat):Int)=some (x,[],v.2.2.2,(t,P,ar F BL,a,b)))∧
   (v.2.2.2=0→∃(t':List cW) (P':List Pc) (F':Int→Int) (sv:List (Int×Int)),sv.length≤4∧rE (n+1) t' P' F' v.2.1 v.2.2.1∧eJ o v.1∧
    Zd (t,P,ar F BL,a,b) o ((n+1:Nat):Int)=some (v.1,sv,0,(t',P',ar F' BL,v.2.1,v.2.2.1))∧
    Dj (t,a,b,P,ar F BL) o v.1 v.2.1 v.2.2.1 ((n+1:Nat):Int)=some ((t',v.2.1,v.2.2.1,P',ar F' BL),sv)):=by
 have hO:=dH ho
 have hlen:=hL.len
 have hpl:=hL.pl
 have htab:=wy.2 hL.tab
 obtain⟨v,e1,e2,e3⟩:=BI t a b o hr htab hL.aR hL.bR ho
 refine⟨v,e2,fun hv=> ?_,fun hv=> ?_⟩
 ·rw[Jk]
  simp only
  rw[e1]
  simp only[Option.bind_some]
  rw[decide_eq_false hv]
  exact⟨_,rfl⟩
 ·have hR:=e3 hv
  have hl:=hR.lnk
  have hp:=yG hR hL.aR hL.a1 hL.a2
  obtain⟨n1,n2⟩:=nT hR.names
  have hT:=Ih (owner:=((n+1:Nat):Int)) hL.tab hO hl hR.names (by omega) (by omega)
  have hTf:=Fu (owner:=((n+1:Nat):Int)) hL.fin hO hp
  have hTl:=nU t o v.1 ((n+1:Nat):Int) hO.toObjSz
  have hTr:∀i:Nat,i<o.2.2.1.length→(rd (τ:=aC) o.2.2.1 (i:Int)).2.1=true→0≤cj (jq t o v.1 ((n+1:Nat):Int)) (rd (τ:=aC) o.2.2.1 (i:Int)).1∧(rd (τ:=a6) (jq t o v.1 ((n+1:Nat):Int)) (cj (jq t o v.1 ((n+1:Nat):Int)) (rd (τ:=aC) o.2.2.1 (i:Int)).1)).2.1=1:=by
   intro i hi hrr
   obtain⟨g1,g2⟩:=If (n1 i hi) hrr
   unfold jq
   rw[List.append_assoc]
   obtain⟨f1,f2⟩:=Ft (u:=c8 (fun i=> !(rd (τ:=aC) o.2.2.1 (i:Int)).2.1) (oq o v.1 ((n+1:Nat):Int)) 0 o.2.2.1.length++bc (BO o v.1 ((n+1:Nat):Int)) 0 o.2.2.2.1.length) g1
   rw[f1,f2];exact⟨g1,g2⟩
  generalize hTn:jq t o v.1 ((n+1:Nat):Int)=T at*
  obtain⟨c1,c2⟩:=yH o v.1 T hO.toObjSz hl hp [] o.2.2.1.length 0 F hL.fr (by omega)
  obtain⟨F',sv,hF',hsv,j1,j2⟩:=yI o v.1 T hT.len hO.toObjSz hl hp hTf hTr o.2.2.1.length 0 (qh F v.1 0 o.2.2.1.length) [] (mg v.1 _ _ F hL.fr) (by omega) (by simp)
  have hi:Zc (ar F BL) T o v.1=some (ar F' BL,sv):=by rw[PM];exact c1.trans j1
  have hs:rb (ar F BL) T o v.1=some (ar F' BL,sv):=by rw[MX];exact c2.trans j2
  have hf4:=hO.f
  obtain⟨_,hA,hB⟩:=wm o hO a b hL.aR hL.bR
  refine⟨T,P++bc (O8 T o v.1 ((n+1:Nat):Int)) 0 o.2.2.1.length,F',sv,by omega,⟨hT,by omega,hTf,by rw[List.length_append,aD];omega,hF',by rw[hR.ea];exact hA, ?_, ?_,by rw[hR.eb];exact hB,fun p hp=> ?_⟩,hl, ?_, ?_⟩
  ·rw[hR.ea];exact(qg _ _ _ _).1.trans hL.a1
  ·rw[hR.ea];exact(qg _ _ _ _).2.trans hL.a2
  ·have hTlen:t.length≤T.length:=by rw[←hTn];unfold jq;simp only[List.length_append];omega
   rcases List.mem_append.1 hp with hp|hp
   ·have:=hL.pcs p hp
    omega
   ·obtain⟨j,_,hj,rfl⟩:=(cy _ _ _ _).1 hp
    have hj':j<o.2.2.1.length:=by omega
    have hfs:=hO.fsz_pos j hj'
    have hat:=hl.fa j hj'
    have her:=dW T (rd (τ:=aC) o.2.2.1 (j:Int)).1
    have hnn:¬cj T (rd (τ:=aC) o.2.2.1 (j:Int)).1<0:=by
     cases hrep:(rd (τ:=aC) o.2.2.1 (j:Int)).2.1 with
     |true=>have:=(hTr j hj' hrep).1;omega
     |false=>
      rw[mf]
      intro hall
      refine hall (oq o v.1 ((n+1:Nat):Int) j) ?_ rfl
      rw[←hTn];unfold jq
      exact List.mem_append_left _ (List.mem_append_right _ (wA _ _ _ _ j (Nat.zero_le _) (by omega) (by rw[hrep];rfl)))
    unfold O8
    simp only
    exact⟨by omega,by omega,hat.1,hat.2.1,by omega,by omega,by omega,by omega⟩
  ·rw[Jk]
   simp only
   rw[e1]
   simp only[Option.bind_some]
   rw[hv,PG,decide_eq_false (show¬(t.length:Int)>4096 by omega),(iL t).1,htab,(gq o hr).1,ho,rC o v.1 hO.toObjSz hl,(bq _ _ _).1,bd.2 (show 1≤((n+1:Nat):Int)∧((n+1:Nat):Int)≤6 by omega),lB t o v.1 _ (by omega) hO.toObjSz hl,hTn]
   simp only[decide_true,Bool.not_true,cond_false,Option.bind_some,aA]
   rw[(iL T).1,wy.2 hT]
   simp only[decide_true,Bool.not_true,cond_false,Option.bind_some]
   rw[Fv T o v.1 _ hT.len hO.toObjSz hl P (by omega)]
   simp only
   rw[hi];rfl
  ·rw[MY]
   simp only
   rw[rB t o v.1 _ (by omega) hO.toObjSz hl,hTn]
   simp only[Option.bind_some]
   rw[qe _ (by omega),cond_true,Fw T o v.1 _ hT.len hO.toObjSz hl P (by omega)]
   simp only
   rw[hs];rfl
theorem be {L:Int→Option Bool} {n m:Nat} (p:Nat→Bool) (hend:n=m→L (n:Int)=some true) (hstep:n=m→∀i:Nat,i<n→L (i:Int)=bif p i then L ((i+1:Nat):Int)else some false):
  (bif (!decide ((n:Int)=(m:Int)))then some false else L 0)=some (decide (n=m)&&fG p 0 n):=by
 by_cases h:n=m
 ·rw[decide_eq_true (show(n:Int)=(m:Int) by omega),decide_eq_true h,ck p n (hend h) (hstep h)];rfl
 ·rw[decide_eq_false (show¬(n:Int)=(m:Int) by omega),decide_eq_false h];rfl
def Im (a b:List Int):Bool:=decide (a.length=b.length)&&fG (fun i=>decide ((rd (τ:= .int .i64) a (i:Int):Int)=rd (τ:= .int .i64) b (i:Int))) 0 a.length
def O9 (a b:List ByteArray):Bool:=decide (a.length=b.length)&&fG (fun i=>decide ((rd (τ:= .str) a (i:Int):ByteArray)=rd (τ:= .str) b (i:Int))) 0 a.length
theorem kw (a b:List Int) (h:a.length≤1048576):Dn a b=some (Im a b)∧Di a b=some (Im a b):=by
 rw[NN,MR]
 constructor
 ·refine be (L:=Dn.a a b (a.length:Int)) _ (fun _=> ?_) fun hl i hi=> ?_
  ·rw[Dn.a_eq,ab,decide_eq_false (Nat.lt_irrefl _),cond_false]
  ·rw[Dn.a_eq,ab,ae,ae,decide_eq_true hi,decide_eq_true (show i<b.length by omega),ah i _ hi (by omega)]
   simp only[cond_true]
   cases decide ((rd (τ:= .int .i64) a (i:Int):Int)=rd (τ:= .int .i64) b (i:Int))<;>rfl
 ·refine be (L:=Di.a a b) _ (fun _=> ?_) fun hl i hi=> ?_
  ·rw[Di.a_eq,ab,decide_eq_false (Nat.lt_irrefl _),cond_false]
  ·rw[Di.a_eq,ab,ae,ae,decide_eq_true hi,decide_eq_true (show i<b.length by omega),ah i _ hi (by omega)]
   simp only[cond_true]
   cases decide ((rd (τ:= .int .i64) a (i:Int):Int)=rd (τ:= .int .i64) b (i:Int))<;>rfl
theorem oO (a b:List ByteArray) (h:a.length≤1048576):Er a b=some (O9 a b)∧DZ a b=some (O9 a b):=by
 rw[NO,MS]
 constructor
 ·refine be (L:=Er.a a b (a.length:Int)) _ (fun _=> ?_) fun hl i hi=> ?_
  ·rw[Er.a_eq,ab,decide_eq_false (Nat.lt_irrefl _),cond_false]
  ·rw[Er.a_eq,ab,ae,ae,decide_eq_true hi,decide_eq_true (show i<b.length by omega),ah i _ hi (by omega),aF]
   simp only[cond_true]
   cases decide ((rd (τ:= .str) a (i:Int):ByteArray)=rd (τ:= .str) b (i:Int))<;>rfl
 ·refine be (L:=DZ.a a b) _ (fun _=> ?_) fun hl i hi=> ?_
  ·rw[DZ.a_eq,ab,decide_eq_false (Nat.lt_irrefl _),cond_false]
  ·rw[DZ.a_eq,ab,ae,ae,decide_eq_true hi,decide_eq_true (show i<b.length by omega),ah i _ hi (by omega),aF]
   simp only[cond_true]
   cases decide ((rd (τ:= .str) a (i:Int):ByteArray)=rd (τ:= .str) b (i:Int))<;>rfl
def dC (a b:eX):Bool:=Im a.1 b.1&&(O9 a.2.1 b.2.1&&(Im a.2.2.1 b.2.2.1&&O9 a.2.2.2 b.2.2.2))
theorem lD (a b:eX) (h1:a.1.length≤1048576) (h2:a.2.1.length≤1048576) (h3:a.2.2.1.length≤1048576) (h4:a.2.2.2.length≤1048576):Qn a b=some (dC a b)∧Sb a b=some (dC a b):=by
 rw[NP,MT,(kw _ _ h1).1,(kw _ _ h1).2,(oO _ _ h2).1,(oO _ _ h2).2,(kw _ _ h3).1,(kw _ _ h3).2,(oO _ _ h4).1,(oO _ _ h4).2]
 unfold dC
 simp only[Option.bind_some]
 cases Im a.1 b.1<;>cases O9 a.2.1 b.2.1<;>cases Im a.2.2.1 b.2.2.1<;>exact⟨rfl,rfl⟩
abbrev Sv:Type:=Int×Int
def rF (a b:List Sv):Bool:=decide (a.length=b.length)&&fG (fun i=>d9 gv (rd (τ:=gv) a (i:Int)) (rd (τ:=gv) b (i:Int))) 0 a.length
theorem jT (a b:List Sv) (h:a.length≤1048576):Do a b=some (rF a b)∧Hj a b=some (rF a b):=by
 rw[NQ,MZ]
 constructor
 ·refine be (L:=Do.a a b (a.length:Int)) _ (fun _=> ?_) fun hl i hi=> ?_
  ·rw[Do.a_eq,ab,decide_eq_false (Nat.lt_irrefl _),cond_false]
  ·rw[Do.a_eq,ab,ae,ae,decide_eq_true hi,decide_eq_true (show i<b.length by omega),ah i _ hi (by omega)]
   simp only[cond_true]
   cases d9 gv (rd (τ:=gv) a (i:Int)) (rd (τ:=gv) b (i:Int))<;>rfl
 ·refine be (L:=Hj.a a b) _ (fun _=> ?_) fun hl i hi=> ?_
  ·rw[Hj.a_eq,ab,decide_eq_false (Nat.lt_irrefl _),cond_false]
  ·rw[Hj.a_eq,ab,ae,ae,decide_eq_true hi,decide_eq_true (show i<b.length by omega),ah i _ hi (by omega)]
   simp only[cond_true]
   cases d9 gv (rd (τ:=gv) a (i:Int)) (rd (τ:=gv) b (i:Int))<;>rfl
def Pa (a b:List cW):Bool:=decide (a.length=b.length)&&fG (fun i=>d9 a6 (rd (τ:=a6) a (i:Int)) (rd (τ:=a6) b (i:Int))) 0 a.length
theorem oP (a b:List cW) (h:a.length≤1048576):Ep a b=some (Pa a b)∧Ea a b=some (Pa a b):=by
 rw[NM,M1]
 constructor
 ·refine be (L:=Ep.a a b (a.length:Int)) _ (fun _=> ?_) fun hl i hi=> ?_
  ·rw[Ep.a_eq,ab,decide_eq_false (Nat.lt_irrefl _),cond_false]
  ·rw[Ep.a_eq,ab,ae,ae,decide_eq_true hi,decide_eq_true (show i<b.length by omega),ah i _ hi (by omega)]
   simp only[cond_true]
   cases d9 a6 (rd (τ:=a6) a (i:Int)) (rd (τ:=a6) b (i:Int))<;>rfl
 ·refine be (L:=Ea.a a b) _ (fun _=> ?_) fun hl i hi=> ?_
  ·rw[Ea.a_eq,ab,decide_eq_false (Nat.lt_irrefl _),cond_false]
  ·rw[Ea.a_eq,ab,ae,ae,decide_eq_true hi,decide_eq_true (show i<b.length by omega),ah i _ hi (by omega)]
   simp only[cond_true]
   cases d9 a6 (rd (τ:=a6) a (i:Int)) (rd (τ:=a6) b (i:Int))<;>rfl
def Am (a b:fH):Bool:=decide (a.1=b.1)&&(decide (a.2.1=b.2.1)&&(!decide (a.2.1=4)||decide (a.2.2=b.2.2)))
def Fx (a b:List fH):Bool:=decide (a.length=b.length)&&fG (fun i=>Am (rd (τ:=aO) a (i:Int)) (rd (τ:=aO) b (i:Int))) 0 a.length
theorem wC (a b:List fH) (h:a.length≤1048576):Zw a b=some (Fx a b)∧Eb a b=some (Fx a b):=by
 rw[P4,P3,M2]
 constructor
 ·rw[be (L:=Zv.a b a (a.length:Int)) (fun i=>Am (rd (τ:=aO) a (i:Int)) (rd (τ:=aO) b (i:Int))) (fun _=> ?_) fun hl i hi=> ?_]
  ·rfl
  ·rw[Zv.a_eq,ab,decide_eq_false (Nat.lt_irrefl _),cond_false]
  ·rw[Zv.a_eq,ab,ae,ae,decide_eq_true hi,decide_eq_true (show i<b.length by omega),ah i _ hi (by omega),P0,aF]
   unfold Am
   simp only[cond_true]
   generalize rd (τ:=aO) a (i:Int)=x
   generalize rd (τ:=aO) b (i:Int)=y
   cases decide (x.1=y.1)<;>cases decide (x.2.1=y.2.1)<;>cases decide (x.2.1=4)<;>cases decide (x.2.2=y.2.2)<;>rfl
 ·refine be (L:=Eb.a a b) _ (fun _=> ?_) fun hl i hi=> ?_
  ·rw[Eb.a_eq,ab,decide_eq_false (Nat.lt_irrefl _),cond_false]
  ·rw[Eb.a_eq,ab,ae,ae,decide_eq_true hi,decide_eq_true (show i<b.length by omega),ah i _ hi (by omega),aF]
   unfold Am
   simp only[cond_true]
   generalize rd (τ:=aO) a (i:Int)=x
   generalize rd (τ:=aO) b (i:Int)=y
   cases decide (x.1=y.1)<;>cases decide (x.2.1=y.2.1)<;>cases decide (x.2.1=4)<;>cases decide (x.2.2=y.2.2)<;>rfl
def sR (o:bl) (id:Int):Bool:=fI (fun k=>decide ((rd (τ:=cz) o.2.2.2.2.2 (k:Int)).1=id)) 0 o.2.2.2.2.2.length
def lE (q o:bl):Bool:=fI (fun i=>sR o (rd (τ:=cz) q.2.2.2.2.2 (i:Int)).1) 0 q.2.2.2.2.2.length
theorem Fy (o:bl) (hz:ObjSz o) (id:Int):Ss o id=some (sR o id):=by
 have h:=hz.s
 rw[OH,OG,OF]
 rw[dd (L:=HC.a id o.2.2.2.2.2 (o.2.2.2.2.2.length:Int)) (fun k=>decide ((rd (τ:=cz) o.2.2.2.2.2 (k:Int)).1=id)) o.2.2.2.2.2.length ?_ fun i hi=> ?_]
 ·simp only[Option.bind_some];rw[qP];rfl
 ·rw[HC.a_eq,ab];simp
 ·rw[HC.a_eq,ab,ae,decide_eq_true hi,ah i _ hi (by omega),OE];rfl
theorem sS (q o:bl) (hq:ObjSz q) (ho:ObjSz o):Su q o=some (lE q o):=by
 have h:=hq.s
 rw[OM,OL,OJ]
 rw[dd (L:=HD.a o q.2.2.2.2.2 (q.2.2.2.2.2.length:Int)) (fun i=>sR o (rd (τ:=cz) q.2.2.2.2.2 (i:Int)).1) q.2.2.2.2.2.length ?_ fun i hi=> ?_]
 ·simp only[Option.bind_some];rw[qP];rfl
 ·rw[HD.a_eq,ab];simp
 ·rw[HD.a_eq,ab,ae,decide_eq_true hi,ah i _ hi (by omega),OI,Fy o ho];rfl
abbrev In:Ty:= .pair .str (.pair (.int .i64) (.pair (.list aC) (.pair (.list aW) (.pair (.list bH) (.list cz)))))
abbrev Io:Ty:= .pair (.list (.int .i64)) (.pair (.list .str) (.pair (.list (.int .i64)) (.list .str)))
abbrev aZ:Ty:= .pair In (.pair Io (.list gv))
abbrev xt:Type:=bl×eX×List Sv
def i9 (ps:List xt) (o:bl):Bool:=fI (fun j=>decide ((rd (τ:=aZ) ps (j:Int)).1.1=o.1)) 0 ps.length
def ge (ps:List xt) (o:bl):Bool:=fI (fun j=>lE (rd (τ:=aZ) ps (j:Int)).1 o) 0 ps.length
theorem Fz (o:bl) (id:Int):fI (fun k=>decide (id=(rd (τ:=cz) o.2.2.2.2.2 (k:Int)).1)) 0 o.2.2.2.2.2.length=sR o id:=by
 unfold sR
 have e:(fun k:Nat=>decide (id=(rd (τ:=cz) o.2.2.2.2.2 (k:Int)).1))=fun k:Nat=>decide ((rd (τ:=cz) o.2.2.2.2.2 (k:Int)).1=id):=by
  funext k
  congr 1
  exact propext ⟨Eq.symm,Eq.symm⟩
 rw[e]
theorem yK (ps:List xt) (o:bl) (hp:ps.length≤6) (hz:∀j:Nat,j<ps.length→ObjSz (rd (τ:=aZ) ps (j:Int)).1) (ho:ObjSz o):jt.b ps o 0=bif ge ps o then some 30 else some 0:=by
 have hs:=ho.s
 rw[dm (L:=jt.b ps o) (fun j=>lE (rd (τ:=aZ) ps (j:Int)).1 o) ps.length (some 30) fun j hj=> ?_]
 ·rw[jt.b_eq,ab,decide_eq_false (Nat.lt_irrefl _),cond_false];rfl
 ·obtain⟨q,hq⟩:∃q:bl,(rd (τ:=aZ) ps (j:Int)).1=q:=⟨_,rfl⟩
  have hqz:=hz j hj
  rw[hq]at hqz⊢
  have hqs:=hqz.s
  rw[jt.b_eq,ab,ae,decide_eq_true hj,cond_true,cond_true,hq]
  rw[dm (L:=jt.c ps o (j:Int) q.2.2.2.2.2) (fun k=>sR o (rd (τ:=cz) q.2.2.2.2.2 (k:Int)).1) q.2.2.2.2.2.length (some 30) fun k hk=> ?_]
  ·rw[jt.c_eq,ab,decide_eq_false (Nat.lt_irrefl _),cond_false,ah j _ hj (by omega)];rfl
  ·rw[jt.c_eq,ab,decide_eq_true hk,cond_true]
   rw[dm (L:=jt.d ps o (j:Int) q.2.2.2.2.2 (k:Int)) (fun n=>decide ((rd (τ:=cz) q.2.2.2.2.2 (k:Int)).1=(rd (τ:=cz) o.2.2.2.2.2 (n:Int)).1)) o.2.2.2.2.2.length (some 30) fun n hn=> ?_]
   ·rw[jt.d_eq,ab,decide_eq_false (Nat.lt_irrefl _),cond_false,ah k _ hk (by omega),Fz]
   ·rw[jt.d_eq,ab,ae,ae,decide_eq_true hn,decide_eq_true hk,ah n _ hn (by omega)]
    simp only[cond_true]
theorem ul (ps:List xt) (o:bl) (hp:ps.length≤6) (hz:∀j:Nat,j<ps.length→ObjSz (rd (τ:=aZ) ps (j:Int)).1) (ho:ObjSz o):jt ps o=some (bif i9 ps o then 24 else bif ge ps o then 30 else 0):=by
 rw[ME,dm (L:=jt.a ps o) (fun j=>decide ((rd (τ:=aZ) ps (j:Int)).1.1=o.1)) ps.length (some 24) fun j hj=> ?_]
 ·rw[jt.a_eq,ab,decide_eq_false (Nat.lt_irrefl _),cond_false,yK ps o hp hz ho]
  show(bif i9 ps o then _ else _)=_
  cases i9 ps o<;>cases ge ps o<;>rfl
 ·rw[jt.a_eq,ab,ae,decide_eq_true hj,ah j _ hj (by omega),aF]
  simp only[cond_true]
theorem um (p q:Nat→Bool):∀k i,fI (fun j=>p j||q j) i k=(fI p i k||fI q i k)
 |0,_=>rfl
 |k+1,i=>by
  rw[fI,fI,fI,um p q k (i+1)]
  cases p i<;>cases q i<;>simp
abbrev Qv:Type:=fj×Pb×List xt
def qi (ps:List xt):Prop:=∀j:Nat,j<ps.length→tw (rd (τ:=aZ) ps (j:Int)).1
abbrev ZI:Ii:=([],[],[],(0,0,0),0,0,0)
theorem An {τ:Ty} (l:List τ.den) (n j:Nat) (hj:j<n) (hn:n≤l.length):rd (τ:=τ) (l.take n) (j:Int)=rd (τ:=τ) l (j:Int):=by
 rw[aQ _ _ (by rw[List.length_take];omega),aQ _ _ (by omega),List.getElem_take]
theorem FA (ps:List xt) (hp:ps.length≤6) (hW:qi ps) (saved:Bool) (x6:Ii) (x6':Ij):∀(k i:Nat) (t:List cW) (P:List Pc) (F:Int→Int) (a b:bm),i+k=ps.length→rE i t P F a b→(∀j:Nat,j<i→ia (rd (τ:=aZ) ps (j:Int)).1=true)→
  ∃rI rS,Ze.a ps saved ZI (t,P,ar F BL,a,b) ps (ps.length:Int) (i:Int)=some rI∧AK.a ps saved x6' (t,a,b,P,ar F BL) (i:Int)=some rS∧rI.2=rS.2∧
   (rI.2=true→(ps.length≤6∧∀j:Nat,j<ps.length→ia (rd (τ:=aZ) ps (j:Int)).1=true)∧∃t' P' F' a' b',rI.1=(t',P',ar F' BL,a',b')∧rS.1=(t',a',b',P',ar F' BL)∧rE ps.length t' P' F' a' b'):=by
 intro k
 induction k with
 |zero=>
  intro i t P F a b h hL hO
  have:i=ps.length:=by omega
  subst this
  rw[Ze.a_eq,ab,decide_eq_false (Nat.lt_irrefl _),cond_false,AK.a_eq,ab,decide_eq_false (Nat.lt_irrefl _),cond_false]
  exact⟨_,_,rfl,rfl,rfl,fun _=>⟨⟨hp,hO⟩,t,P,F,a,b,rfl,rfl,hL⟩⟩
 |succ k ih=>
  intro i t P F a b h hL hO
  have hi:i<ps.length:=by omega
  have hr:=hW i hi
  rw[Ze.a_eq,ab,ae,decide_eq_true hi,AK.a_eq,ab,decide_eq_true hi]
  simp only[ae,decide_eq_true hi,cond_true,aA]
  obtain⟨p,hpe⟩:∃p:xt,rd (τ:=aZ) ps (i:Int)=p:=⟨_,rfl⟩
  rw[hpe]at hr⊢
  rw[(gq p.1 hr).1,(gq p.1 hr).2]
  simp only[Option.bind_some]
  cases hob:ia p.1 with
  |false=>exact⟨_,_,rfl,rfl,rfl,fun h=>by cases h⟩
  |true=>
   simp only[Bool.not_true,cond_false]
   by_cases hdep:p.1.2.1=(i:Int)
   ·rw[decide_eq_true hdep,gm i _ (by omega),gk]
    simp only[Bool.not_true,cond_false,cond_true]
    have hpo:=dH hob
    have hlt:(ps.take i).length=i:=by rw[List.length_take];omega
    have hsz:∀j:Nat,j< (ps.take i).length→ObjSz (rd (τ:=aZ) (ps.take i) (j:Int)).1:=fun j hj=>by
     rw[hlt]at hj
     rw[An (τ:=aZ) ps i j hj (by omega)]
     exact(dH (hO j hj)).toObjSz
    rw[ul (ps.take i) p.1 (by omega) hsz hpo.toObjSz]
    simp only[Option.bind_some]
    rw[dm (L:=Ze.b ps saved ZI (t,P,ar F BL,a,b) (i:Int) p ps (ps.length:Int) (i:Int) (ps.take i) ((ps.take i).length:Int)) (fun j=>decide ((rd (τ:=aZ) (ps.take i) (j:Int)).1.1=p.1.1)||lE (rd (τ:=aZ) (ps.take i) (j:Int)).1 p.1) (ps.take i).length (some (ZI,false)) fun j hj=> ?_]
    ·rw[um]
     show∃rI rS,(bif (i9 (ps.take i) p.1||ge (ps.take i) p.1)then _ else _)=some rI∧_
     cases hna:i9 (ps.take i) p.1 with
     |true=>exact⟨_,_,rfl,rfl,rfl,fun h=>by cases h⟩
     |false=>
      cases hsa:ge (ps.take i) p.1 with
      |true=>exact⟨_,_,rfl,rfl,rfl,fun h=>by cases h⟩
      |false=>
       simp only[Bool.or_self,cond_false,decide_true,Bool.not_true]
       rw[Ze.b_eq,ab,decide_eq_false (Nat.lt_irrefl _),cond_false,ah i ps.length hi (by omega)]
       obtain⟨v,e1,e2,e3⟩:=wB i (by omega) t P F a b hL p.1 hr hob
       rw[e1]
       simp only[Option.bind_some,aA]
       by_cases hv:v.2.2.2=0
       ·obtain⟨t',P',F',sv,hsv,hL',hl',g1,g2⟩:=e3 hv
        rw[g1,hv]
        simp only[Option.bind_some,decide_true,Bool.not_true,cond_false]
        have hof:=hpo.f
        have hod:=hpo.d
        obtain⟨q1,q2⟩:=lD v.1 p.2.1 (by rw[hl'.a];omega) (by rw[hl'.c];omega) (by rw[hl'.d];omega) (by rw[hl'.b];omega)
        rw[q1,q2]
        simp only[Option.bind_some]
        have hnext:=ih (i+1) t' P' F' v.2.1 v.2.2.1 (by omega) hL' fun j hj=>by
         by_cases e:j=i
         ·rw[e,hpe];exact hob
         ·exact hO j (by omega)
        cases dC v.1 p.2.1 with
        |false=>cases saved<;>exact⟨_,_,rfl,rfl,rfl,fun h=>by cases h⟩
        |true=>
         simp only[Bool.not_true,cond_false]
         rw[g2]
         simp only[Option.bind_some]
         cases saved with
         |true=>
          simp only[Bool.not_true,cond_false,cond_true]
          rw[(jT sv p.2.2 (by omega)).1,(jT sv p.2.2 (by omega)).2]
          simp only[Option.bind_some]
          cases rF sv p.2.2 with
          |false=>exact⟨_,_,rfl,rfl,rfl,fun h=>by cases h⟩
          |true=>exact hnext
         |false=>
          simp only[Bool.not_false,cond_true,cond_false]
          rw[(jT [] p.2.2 (by simp)).1]
          simp only[Option.bind_some]
          have e:rF [] p.2.2= !decide ((p.2.2.length:Int)>0):=by
           unfold rF
           rw[show fG (fun i=>d9 gv (rd (τ:=gv) ([]:List Sv) (i:Int)) (rd (τ:=gv) p.2.2 (i:Int))) 0 ([]:List Sv).length=true from rfl,Bool.and_true,←decide_not]
           congr 1
           apply propext
           simp only[List.length_nil]
           omega
          rw[e]
          cases decide ((p.2.2.length:Int)>0)with
          |true=>exact⟨_,_,rfl,rfl,rfl,fun h=>by cases h⟩
          |false=>exact hnext
       ·obtain⟨x,g1⟩:=e2 hv
        rw[g1]
        simp only[Option.bind_some]
        rw[decide_eq_false hv]
        cases saved<;>exact⟨_,_,rfl,rfl,rfl,fun h=>by cases h⟩
    ·have hj2:=hj
     rw[hlt]at hj2
     rw[Ze.b_eq,ab,ae,decide_eq_true hj,ah j _ hj (by omega),sS _ _ (hsz j hj) hpo.toObjSz,aF]
     simp only[cond_true,Option.bind_some]
     cases decide ((rd (τ:=aZ) (ps.take i) (j:Int)).1.1=p.1.1)<;>cases lE (rd (τ:=aZ) (ps.take i) (j:Int)).1 p.1<;>rfl
   ·rw[decide_eq_false hdep]
    exact⟨_,_,rfl,rfl,rfl,fun h=>by cases h⟩
theorem uq (im:fj) (him:mB im=true) (ps:List xt) (hW:qi ps) (saved:Bool):
  ∃rI rS,Ze im ps saved=some rI∧AK im ps saved=some rS∧rI.2=rS.2∧
   (rI.2=true→(ps.length≤6∧∀j:Nat,j<ps.length→ia (rd (τ:=aZ) ps (j:Int)).1=true)∧∃t' P' F' a' b',rI.1=(t',P',ar F' BL,a',b')∧rS.1=(t',a',b',P',ar F' BL)∧rE ps.length t' P' F' a' b'):=by
 obtain⟨i1,i2,i3⟩:=cF im
 have hI:=i3 him
 obtain⟨n1,n2⟩:=Al im hI.sz
 rw[wS,M0,i1,him,n2]
 simp only[Option.bind_some,aA,Bool.not_true,cond_false]
 rcases Nat.lt_or_ge 6 ps.length with h|h
 ·rw[decide_eq_true (show(ps.length:Int)>6 by omega)]
  exact⟨_,_,rfl,rfl,rfl,fun h=>by cases h⟩
 ·rw[decide_eq_false (show¬(ps.length:Int)>6 by omega),n1]
  simp only[Option.bind_some,cond_false]
  exact FA ps h hW saved ZI ([],(0,0,0),(0,0,0),[],[]) ps.length 0 (lC im) (rD im) (F0 im) _ _ (by omega) (uk hI) fun j hj=>by omega
theorem wD {m:Pb} (h:uN m=true):m.1.length≤64∧m.2.2.1.length≤64:=by
 unfold uN at h
 rw[Bool.and_eq_true,Bool.and_eq_true]at h
 have h1:=h.1
 have h2:=h.2.1
 unfold qN at h1
 unfold ov at h2
 rw[Bool.and_eq_true,decide_eq_true_eq]at h1 h2
 exact⟨h1.1,h2.1⟩
theorem mh (s:Qv) (hW:qi s.2.2):∃rI rS,Zx s=some rI∧Sc s=some rS∧rI.2=rS.2∧
  (rI.2=true→(s.2.2.length≤6∧uN s.2.1=true∧∀j:Nat,j<s.2.2.length→ia (rd (τ:=aZ) s.2.2 (j:Int)).1=true)∧∃t' P' F' a' b',rI.1=(t',P',ar F' BL,a',b')∧rS.1=(t',a',b',P',ar F' BL)∧rE s.2.2.length t' P' F' a' b'):=by
 obtain⟨i1,i2,i3⟩:=cF s.1
 obtain⟨m1,m2⟩:=xj s.2.1
 rw[Au,M3,i2,m1,m2]
 simp only[Option.bind_some,aA]
 cases him:mB s.1 with
 |false=>
  rw[wS,i1,him]
  simp only[Option.bind_some,aA,Bool.not_false,cond_true]
  exact⟨_,_,rfl,rfl,rfl,fun h=>by cases h⟩
 |true=>
  obtain⟨rI,rS,e1,e2,e3,e4⟩:=uq s.1 him s.2.2 hW true
  rw[e1]
  simp only[Option.bind_some,Bool.not_true,cond_false]
  cases hm:uN s.2.1 with
  |false=>
   cases h:rI.2 with
   |false=>exact⟨_,_,rfl,rfl,rfl,fun h=>by cases h⟩
   |true=>exact⟨_,_,rfl,rfl,rfl,fun h=>by cases h⟩
  |true=>
   obtain⟨l1,l2⟩:=wD hm
   simp only[Bool.not_true,cond_false]
   rw[e2]
   simp only[Option.bind_some]
   rw[←e3]
   cases h:rI.2 with
   |false=>exact⟨_,_,rfl,rfl,rfl,fun h=>by cases h⟩
   |true=>
    obtain⟨f0,t',P',F',a',b',f1,f2,f3⟩:=e4 h
    rw[f1,f2]
    simp only[Bool.not_true,cond_false,cond_true]
    rw[(oP _ _ (by omega)).1,(oP _ _ (by omega)).2]
    simp only[Option.bind_some]
    cases Pa s.2.1.2.2.1 t' with
    |false=>exact⟨_,_,rfl,rfl,rfl,fun h=>by cases h⟩
    |true=>
     simp only[Bool.not_true,cond_false,cond_true]
     rw[(wC _ _ (by omega)).1,(wC _ _ (by omega)).2]
     simp only[Option.bind_some]
     cases Fx s.2.1.1 (ar F' BL)with
     |false=>exact⟨_,_,rfl,rfl,rfl,fun h=>by cases h⟩
     |true=>exact⟨_,_,rfl,rfl,rfl,fun _=>⟨⟨f0.1,trivial,f0.2⟩,t',P',F',a',b',rfl,rfl,f3⟩⟩
def Dx:(τ:Ty)→τ.den→Prop
 | .list e,l=>List.length l≤1048576∧∀x∈l,Dx e x
 | .pair a b,x=>Dx a x.1∧Dx b x.2
 |_,_=>True
def SP (B:Prop) (left:Int) (v:Option Int):Prop:=∃r,v=some r∧r≤left∧(0≤r→B)
def nW (left:Int):Prop:=0≤left∧left≤1048576
theorem SP.fin {B:Prop} {left:Int} (h:B):SP B left (some left):=⟨left,rfl,Int.le_refl _,fun _=>h⟩
theorem SP.str {B:Prop} {left:Int} (n:Nat) (hn:n≤9223372036854775807) (hl:nW left) (K:Int→Option Int) (hK:∀l',nW l'→l'≤left→n≤1048576→SP B l' (K l')):SP B left (bif decide (IntKind.wrap .i64 (left-(n:Int))<0)then some (-1)else K (IntKind.wrap .i64 (left-(n:Int)))):=by
 obtain⟨h1,h2⟩:=hl
 rw[aV (n:=left-(n:Int)) (by omega) (by omega)]
 by_cases h:left-(n:Int)<0
 ·rw[decide_eq_true h];exact⟨-1,rfl,by omega,fun h=>absurd h (by decide)⟩
 ·rw[decide_eq_false h,cond_false]
  obtain⟨r,e1,e2,e3⟩:=hK (left-(n:Int)) ⟨by omega,by omega⟩ (by omega) (by omega)
  exact⟨r,e1,by omega,e3⟩
theorem SP.call {B B1:Prop} {left:Int} {v:Option Int} (hf:SP B1 left v) (hl:nW left) (K:Int→Option Int) (hK:B1→∀r,nW r→SP B r (K r)):SP B left (v.bind fun r=>bif decide (r<0)then some (-1)else K r):=by
 obtain⟨r,e1,e2,e3⟩:=hf
 rw[e1,Option.bind_some]
 have:=hl.2
 by_cases h:r<0
 ·rw[decide_eq_true h];exact⟨-1,rfl,by have:=hl.1;omega,fun h=>absurd h (by decide)⟩
 ·rw[decide_eq_false h,cond_false]
  obtain⟨r',e4,e5,e6⟩:=hK (e3 (by omega)) r ⟨by omega,by omega⟩
  exact⟨r',e4,by omega,e6⟩
def mi (τ:Ty) (f:τ.den→Int→Option Int):Prop:=∀x,nP τ x→∀left,nW left→SP (Dx τ x) left (f x left)
theorem Ip {τ:Ty} (l:List τ.den) (g:τ.den→Int→Option Int) (hg:mi τ g) (hw:∀x∈l,nP τ x) (L:Int→Int→Option Int)
  (hstep:∀left (i:Nat),i<l.length→L left (i:Int)=(g (rd (τ:=τ) l (i:Int)) left).bind fun r1=>bif decide (r1<0)then some (-1)else L r1 ((i+1:Nat):Int)) (hend:∀left,L left (l.length:Int)=some left):
  ∀(k i:Nat),i+k=l.length→∀left,nW left→SP (∀j:Nat,i≤j→j<l.length→Dx τ (rd (τ:=τ) l (j:Int))) left (L left (i:Int)):=by
 intro k
 induction k with
 |zero=>
  intro i h left hl
  have:i=l.length:=by omega
  subst this
  rw[hend]
  exact SP.fin fun j h1 h2=>by omega
 |succ k ih=>
  intro i h left hl
  rw[hstep left i (by omega)]
  refine SP.call (hg _ (hw _ (an l i (by omega))) left hl) hl _ fun b r hr=> ?_
  obtain⟨r',e1,e2,e3⟩:=ih (i+1) (by omega) r hr
  exact⟨r',e1,e2,fun h0 j h1 h2=>by
   by_cases e:j=i
   ·rw[e];exact b
   ·exact e3 h0 j (by omega) h2⟩
theorem fF {τ:Ty} (l:List τ.den) (hw:nP (.list τ) l) (g:τ.den→Int→Option Int) (hg:mi τ g) (L:Int→Int→Option Int)
  (hstep:l.length≤1048576→∀left (i:Nat),i<l.length→L left (i:Int)=(g (rd (τ:=τ) l (i:Int)) left).bind fun r1=>bif decide (r1<0)then some (-1)else L r1 ((i+1:Nat):Int)) (hend:∀left,L left (l.length:Int)=some left) (left:Int) (hl:nW left):
  SP (Dx (.list τ) l) left (bif decide (IntKind.wrap .i64 (left-(l.length:Int))<0)then some (-1)else L (IntKind.wrap .i64 (left-(l.length:Int))) 0):=by
 have hw':List.length l≤9223372036854775807∧∀x∈l,nP τ x:=hw
 refine SP.str l.length hw'.1 hl (fun r=>L r 0) fun l' h1 h2 h3=> ?_
 obtain⟨r,e1,e2,e3⟩:=Ip l g hg hw'.2 L (hstep h3) hend l.length 0 (by omega) l' h1
 refine⟨r,e1,e2,fun h0=> ?_⟩
 show List.length l≤1048576∧∀x∈l,Dx τ x
 refine⟨h3,fun x hx=> ?_⟩
 obtain⟨i,hi,hr⟩:=gb hx
 rw[←hr];exact e3 h0 i (Nat.zero_le _) hi
theorem oQ {τ:Ty} (l:List τ.den) (hw:nP (.list τ) l) (hb:∀x,Dx τ x) (left:Int) (hl:nW left):
  SP (Dx (.list τ) l) left (bif decide (IntKind.wrap .i64 (left-(l.length:Int))<0)then some (-1)else some (IntKind.wrap .i64 (left-(l.length:Int)))):=by
 have hw':List.length l≤9223372036854775807∧∀x∈l,nP τ x:=hw
 exact SP.str l.length hw'.1 hl some fun l' h1 h2 h3=>SP.fin ⟨h3,fun x _=>hb x⟩
def kX (τ:Ty) (f:τ.den→Option τ.den):Prop:=∀x,nP τ x→Dx τ x→f x=some x
theorem wE {τ:Ty} (l:List τ.den) (L:List τ.den→Int→Option (List τ.den))
  (hstep:∀acc (i:Nat),i<l.length→acc.length=l.length→L acc (i:Int)=L (acc.set i (rd (τ:=τ) l (i:Int))) ((i+1:Nat):Int)) (hend:∀acc,L acc (l.length:Int)=some acc):
  ∀(k i:Nat) (u:List τ.den),i+k=l.length→u.length=k→L (l.take i++u) (i:Int)=some l:=by
 intro k
 induction k with
 |zero=>
  intro i u h hu
  have:i=l.length:=by omega
  subst this
  rw[hend,List.take_length,List.eq_nil_of_length_eq_zero hu,List.append_nil]
 |succ k ih=>
  intro i u h hu
  have hi:i<l.length:=by omega
  rw[hstep _ i hi (by rw[List.length_append,List.length_take];omega)]
  cases u with
  |nil=>simp at hu
  |cons y u=>
   have e:(l.take i++y::u).set i (rd (τ:=τ) l (i:Int))=l.take (i+1)++u:=by
    rw[List.set_append_right _ _ (by rw[List.length_take];omega),List.length_take,show i-min i l.length=0 by omega,List.set_cons_zero,List.take_succ_eq_append_getElem hi,List.append_assoc,aQ l i hi];rfl
   rw[e]
   exact ih (i+1) u (by omega) (by simpa using hu)
theorem dl {τ:Ty} (l:List τ.den) (b:Nat) (hbt:b≤4096) (hb:l.length≤1048576) (z:τ.den) (L:List τ.den→Int→Option (List τ.den))
  (hstep:∀acc (i:Nat),i<l.length→acc.length=l.length→L acc (i:Int)=L (acc.set i (rd (τ:=τ) l (i:Int))) ((i+1:Nat):Int)) (hend:∀acc,L acc (l.length:Int)=some acc):
  (bif decide (0≤(l.length:Int))&&ay (Int.toNat (l.length:Int)) b then L (List.replicate (Int.toNat (l.length:Int)) z) 0 else none)=some l:=by
 have hm:l.length*b≤1048576*4096:=Nat.mul_le_mul hb hbt
 rw[Int.toNat_natCast,show(decide (0≤(l.length:Int))&&ay l.length b)=true by simp[ay];omega,cond_true]
 have:=wE l L hstep hend l.length 0 (List.replicate l.length z) (by omega) (by simp)
 simpa using this
def kY (τ:Ty) (f:τ.den→τ.den→Option Bool):Prop:=∀x,nP τ x→Dx τ x→f x x=some true
theorem cU (L:Int→Option Bool) (n:Nat) (hstep:∀i:Nat,i<n→L (i:Int)=L ((i+1:Nat):Int)) (hend:L (n:Int)=some true):L 0=some true:=by
 have:∀k i:Nat,i+k=n→L (i:Int)=some true:=by
  intro k
  induction k with
  |zero=>
    intro i h;have:i=n:=by omega
    rw[this];exact hend
  |succ k ih=>intro i h;rw[hstep i (by omega)];exact ih (i+1) (by omega)
 exact this n 0 (by omega)
abbrev Iq:Ty:= .pair .str (.pair .str (.list bE))
abbrev Ir:Ty:= .pair (.list aO) (.pair (.list eA) (.pair (.list a6) (.list kH)))
abbrev TSys:Ty:= .pair Iq (.pair Ir (.list aZ))
theorem BU:mi bE Qb:=by
 intro x hw left hl
 show SP _ left (Qb x left)
 rw[K3]
 refine SP.str (ByteArray.size x.1) hw.1 hl (fun r=>some r) fun l0 h0 _ _=> ?_
 exact SP.fin ⟨trivial,⟨trivial,⟨trivial,⟨trivial,trivial⟩⟩⟩⟩
theorem yL:mi (.list bE) AG:=by
 intro x hw left hl
 show SP _ left (AG x left)
 rw[K4]
 exact fF x hw Qb BU (AG.a x) (fun hb left i hi=>by
  rw[AG.a_eq,ab,ae,decide_eq_true hi,ah i _ hi (by omega)];rfl) (fun left=>by
  rw[AG.a_eq,ab,decide_eq_false (Nat.lt_irrefl _),cond_false]) left hl
theorem FB:mi a6 Qe:=by
 intro x hw left hl
 show SP _ left (Qe x left)
 rw[Lc]
 refine SP.str (ByteArray.size x.1) hw.1 hl (fun r=>some r) fun l0 h0 _ _=> ?_
 exact SP.fin ⟨trivial,⟨trivial,⟨trivial,⟨trivial,⟨trivial,trivial⟩⟩⟩⟩⟩
theorem BV:mi (.list a6) DN:=by
 intro x hw left hl
 show SP _ left (DN x left)
 rw[Ld]
 exact fF x hw Qe FB (DN.a x) (fun hb left i hi=>by
  rw[DN.a_eq,ab,ae,decide_eq_true hi,ah i _ hi (by omega)];rfl) (fun left=>by
  rw[DN.a_eq,ab,decide_eq_false (Nat.lt_irrefl _),cond_false]) left hl
theorem Is:mi aO Qc:=by
 intro x hw left hl
 show SP _ left (Qc x left)
 rw[K6]
 refine SP.str (ByteArray.size x.2.2) hw.2.2 hl (fun r=>some r) fun l0 h0 _ _=> ?_
 exact SP.fin ⟨trivial,⟨trivial,trivial⟩⟩
theorem FC:mi (.list aO) DL:=by
 intro x hw left hl
 show SP _ left (DL x left)
 rw[K7]
 exact fF x hw Qc Is (DL.a x) (fun hb left i hi=>by
  rw[DL.a_eq,ab,ae,decide_eq_true hi,ah i _ hi (by omega)];rfl) (fun left=>by
  rw[DL.a_eq,ab,decide_eq_false (Nat.lt_irrefl _),cond_false]) left hl
theorem ur:mi aC Qf:=by
 intro x hw left hl
 show SP _ left (Qf x left)
 rw[Lh]
 refine SP.str (ByteArray.size x.1) hw.1 hl (fun r=>bif decide ((IntKind.wrap .i64 (r-(ByteArray.size x.2.2.2:Int)))<0)then some (-1)else(some (IntKind.wrap .i64 (r-(ByteArray.size x.2.2.2:Int))))) fun l0 h0 _ _=> ?_
 refine SP.str (ByteArray.size x.2.2.2) hw.2.2.2 h0 (fun r=>some r) fun l1 h1 _ _=> ?_
 exact SP.fin ⟨trivial,⟨trivial,⟨trivial,trivial⟩⟩⟩
theorem rG:mi (.list aC) Dc:=by
 intro x hw left hl
 show SP _ left (Dc x left)
 rw[Li]
 exact fF x hw Qf ur (Dc.a x) (fun hb left i hi=>by
  rw[Dc.a_eq,ab,ae,decide_eq_true hi,ah i _ hi (by omega)];rfl) (fun left=>by
  rw[Dc.a_eq,ab,decide_eq_false (Nat.lt_irrefl _),cond_false]) left hl
theorem ut:mi aW Qg:=by
 intro x hw left hl
 show SP _ left (Qg x left)
 rw[Lj]
 refine SP.str (ByteArray.size x.1) hw.1 hl (fun r=>bif decide ((IntKind.wrap .i64 (r-(ByteArray.size x.2:Int)))<0)then some (-1)else(some (IntKind.wrap .i64 (r-(ByteArray.size x.2:Int))))) fun l0 h0 _ _=> ?_
 refine SP.str (ByteArray.size x.2) hw.2 h0 (fun r=>some r) fun l1 h1 _ _=> ?_
 exact SP.fin ⟨trivial,trivial⟩
theorem rH:mi (.list aW) Dd:=by
 intro x hw left hl
 show SP _ left (Dd x left)
 rw[Lk]
 exact fF x hw Qg ut (Dd.a x) (fun hb left i hi=>by
  rw[Dd.a_eq,ab,ae,decide_eq_true hi,ah i _ hi (by omega)];rfl) (fun left=>by
  rw[Dd.a_eq,ab,decide_eq_false (Nat.lt_irrefl _),cond_false]) left hl
theorem FD:mi bH Qh:=by
 intro x hw left hl
 show SP _ left (Qh x left)
 rw[Ll]
 refine SP.str (ByteArray.size x.2.2.2.1) hw.2.2.2.1 hl (fun r=>some r) fun l0 h0 _ _=> ?_
 exact SP.fin ⟨trivial,⟨trivial,⟨trivial,⟨trivial,trivial⟩⟩⟩⟩
theorem BW:mi (.list bH) De:=by
 intro x hw left hl
 show SP _ left (De x left)
 rw[Lm]
 exact fF x hw Qh FD (De.a x) (fun hb left i hi=>by
  rw[De.a_eq,ab,ae,decide_eq_true hi,ah i _ hi (by omega)];rfl) (fun left=>by
  rw[De.a_eq,ab,decide_eq_false (Nat.lt_irrefl _),cond_false]) left hl
theorem uu:mi (.list (.int .i64)) Pf:=by
 intro x hw left hl
 show SP _ left (Pf x left)
 rw[K9]
 exact oQ x hw (fun _=>trivial) left hl
theorem FE:mi (.list gv) QV:=by
 intro x hw left hl
 show SP _ left (QV x left)
 rw[Ls]
 exact oQ x hw (fun _=>⟨trivial,trivial⟩) left hl
theorem qj:mi (.list cz) Qi:=by
 intro x hw left hl
 show SP _ left (Qi x left)
 rw[Ln]
 exact oQ x hw (fun _=>⟨trivial,trivial⟩) left hl
theorem yM:mi (.list kH) QR:=by
 intro x hw left hl
 show SP _ left (QR x left)
 rw[Lf]
 exact oQ x hw (fun _=>⟨trivial,⟨trivial,trivial⟩⟩) left hl
theorem qk:mi (.list .str) Df:=by
 intro x hw left hl
 show SP _ left (Df x left)
 rw[Lq]
 exact fF x hw (fun s left=>bif decide (IntKind.wrap .i64 (left-(ByteArray.size s:Int))<0)then some (-1)else some (IntKind.wrap .i64 (left-(ByteArray.size s:Int)))) (fun s hs left hl=>SP.str (ByteArray.size s) hs hl some fun l' _ _ _=>SP.fin trivial) (Df.a x) (fun hb left i hi=>by
  rw[Df.a_eq,ab,ae,decide_eq_true hi,ah i _ hi (by omega)]
  simp only[cond_true]
  cases hc:decide (IntKind.wrap .i64 (left-(ByteArray.size (rd (τ:= .str) x (i:Int)):Int))<0)with
  |true=>rfl
  |false=>rw[cond_false,cond_false,Option.bind_some,hc];rfl) (fun left=>by
  rw[Df.a_eq,ab,decide_eq_false (Nat.lt_irrefl _),cond_false]) left hl
theorem BZ:mi eA Qd:=by
 intro x hw left hl
 show SP _ left (Qd x left)
 rw[La]
 refine SP.call (uu x.2.2.1 hw.2.2.1 left hl) hl _ fun b0 l0 h0=> ?_
 exact SP.fin ⟨trivial,⟨⟨trivial,trivial⟩,⟨b0,trivial⟩⟩⟩
theorem yN:mi (.list eA) DM:=by
 intro x hw left hl
 show SP _ left (DM x left)
 rw[Lb]
 exact fF x hw Qd BZ (DM.a x) (fun hb left i hi=>by
  rw[DM.a_eq,ab,ae,decide_eq_true hi,ah i _ hi (by omega)];rfl) (fun left=>by
  rw[DM.a_eq,ab,decide_eq_false (Nat.lt_irrefl _),cond_false]) left hl
theorem FF:mi Iq QP:=by
 intro x hw left hl
 show SP _ left (QP x left)
 rw[K5]
 refine SP.str (ByteArray.size x.1) hw.1 hl (fun r=>bif decide ((IntKind.wrap .i64 (r-(ByteArray.size x.2.1:Int)))<0)then some (-1)else((AG x.2.2 (IntKind.wrap .i64 (r-(ByteArray.size x.2.1:Int)))).bind fun q1=>bif decide (q1<0)then some (-1)else(some q1))) fun l0 h0 _ _=> ?_
 refine SP.str (ByteArray.size x.2.1) hw.2.1 h0 (fun r=>(AG x.2.2 r).bind fun q2=>bif decide (q2<0)then some (-1)else(some q2)) fun l1 h1 _ _=> ?_
 refine SP.call (yL x.2.2 hw.2.2 l1 h1) h1 _ fun b2 l2 h2=> ?_
 exact SP.fin ⟨trivial,⟨trivial,b2⟩⟩
theorem B3:mi (.list aO) QQ:=by
 intro x hw left hl
 show SP _ left (QQ x left)
 rw[K8]
 exact SP.call (FC x hw left hl) hl _ fun b l h=>SP.fin b
theorem yO:mi Ir QS:=by
 intro x hw left hl
 show SP _ left (QS x left)
 rw[Lg]
 refine SP.call (B3 x.1 hw.1 left hl) hl _ fun b0 l0 h0=> ?_
 refine SP.call (yN x.2.1 hw.2.1 l0 h0) h0 _ fun b1 l1 h1=> ?_
 refine SP.call (BV x.2.2.1 hw.2.2.1 l1 h1) h1 _ fun b2 l2 h2=> ?_
 refine SP.call (yM x.2.2.2 hw.2.2.2 l2 h2) h2 _ fun b3 l3 h3=> ?_
 exact SP.fin ⟨b0,⟨b1,⟨b2,b3⟩⟩⟩
theorem B4:mi Io QU:=by
 intro x hw left hl
 show SP _ left (QU x left)
 rw[Lr]
 refine SP.call (uu x.1 hw.1 left hl) hl _ fun b0 l0 h0=> ?_
 refine SP.call (qk x.2.1 hw.2.1 l0 h0) h0 _ fun b1 l1 h1=> ?_
 refine SP.call (uu x.2.2.1 hw.2.2.1 l1 h1) h1 _ fun b2 l2 h2=> ?_
 refine SP.call (qk x.2.2.2 hw.2.2.2 l2 h2) h2 _ fun b3 l3 h3=> ?_
 exact SP.fin ⟨b0,⟨b1,⟨b2,b3⟩⟩⟩
theorem B5:mi In QT:=by
 intro x hw left hl
 show SP _ left (QT x left)
 rw[Lo]
 refine SP.str (ByteArray.size x.1) hw.1 hl (fun r=>(Dc x.2.2.1 r).bind fun q3=>bif decide (q3<0)then some (-1)else((Dd x.2.2.2.1 q3).bind fun q4=>bif decide (q4<0)then some (-1)else((De x.2.2.2.2.1 q4).bind fun q5=>bif decide (q5<0)then some (-1)else((Qi x.2.2.2.2.2 q5).bind fun q6=>bif decide (q6<0)then some (-1)else(some q6))))) fun l0 h0 _ _=> ?_
 refine SP.call (rG x.2.2.1 hw.2.2.1 l0 h0) h0 _ fun b1 l1 h1=> ?_
 refine SP.call (rH x.2.2.2.1 hw.2.2.2.1 l1 h1) h1 _ fun b2 l2 h2=> ?_
 refine SP.call (BW x.2.2.2.2.1 hw.2.2.2.2.1 l2 h2) h2 _ fun b3 l3 h3=> ?_
 refine SP.call (qj x.2.2.2.2.2 hw.2.2.2.2.2 l3 h3) h3 _ fun b4 l4 h4=> ?_
 exact SP.fin ⟨trivial,⟨trivial,⟨b1,⟨b2,⟨b3,b4⟩⟩⟩⟩⟩
theorem FG:mi aZ Qj:=by
 intro x hw left hl
 show SP _ left (Qj x left)
 rw[Lt]
 refine SP.call (B5 x.1 hw.1 left hl) hl _ fun b0 l0 h0=> ?_
 refine SP.call (B4 x.2.1 hw.2.1 l0 h0) h0 _ fun b1 l1 h1=> ?_
 refine SP.call (FE x.2.2 hw.2.2 l1 h1) h1 _ fun b2 l2 h2=> ?_
 exact SP.fin ⟨b0,⟨b1,b2⟩⟩
theorem B6:mi (.list aZ) DO:=by
 intro x hw left hl
 show SP _ left (DO x left)
 rw[Lu]
 exact fF x hw Qj FG (DO.a x) (fun hb left i hi=>by
  rw[DO.a_eq,ab,ae,decide_eq_true hi,ah i _ hi (by omega)];rfl) (fun left=>by
  rw[DO.a_eq,ab,decide_eq_false (Nat.lt_irrefl _),cond_false]) left hl
theorem sT:mi TSys Qk:=by
 intro x hw left hl
 show SP _ left (Qk x left)
 rw[Lv]
 refine SP.call (FF x.1 hw.1 left hl) hl _ fun b0 l0 h0=> ?_
 refine SP.call (yO x.2.1 hw.2.1 l0 h0) h0 _ fun b1 l1 h1=> ?_
 refine SP.call (B6 x.2.2 hw.2.2 l1 h1) h1 _ fun b2 l2 h2=> ?_
 exact SP.fin ⟨b0,⟨b1,b2⟩⟩
theorem B7:kX bE Q3:=by
 intro x _ _
 show Q3 x=_
 rw[Ng]
theorem yP:kX (.list bE) Ed:=by
 intro x hw hb
 show Ed x=_
 rw[Nh]
 exact dl (τ:=bE) x 48 (by omega) hb.1 _ (Ed.a x) (fun acc i hi ha=>by
  rw[Ed.a_eq,ab,ae,decide_eq_true hi,ah i _ hi (by have:=hb.1;omega),B7 _ (hw.2 _ (an (τ:=bE) x i hi)) (hb.2 _ (an (τ:=bE) x i hi))]
  simp only[cond_true,Option.bind_some]
  rw[ae,show decide (i<acc.length)=true from decide_eq_true (by rw[ha];exact hi),Int.toNat_natCast];rfl) (fun acc=>by
  rw[Ed.a_eq,ab,decide_eq_false (Nat.lt_irrefl _),cond_false])
theorem FH:kX a6 Q9:=by
 intro x _ _
 show Q9 x=_
 rw[Nr]
theorem B8:kX (.list a6) Eg:=by
 intro x hw hb
 show Eg x=_
 rw[Ns]
 exact dl (τ:=a6) x 56 (by omega) hb.1 _ (Eg.a x) (fun acc i hi ha=>by
  rw[Eg.a_eq,ab,ae,decide_eq_true hi,ah i _ hi (by have:=hb.1;omega),FH _ (hw.2 _ (an (τ:=a6) x i hi)) (hb.2 _ (an (τ:=a6) x i hi))]
  simp only[cond_true,Option.bind_some]
  rw[ae,show decide (i<acc.length)=true from decide_eq_true (by rw[ha];exact hi),Int.toNat_natCast];rfl) (fun acc=>by
  rw[Eg.a_eq,ab,decide_eq_false (Nat.lt_irrefl _),cond_false])
theorem It:kX aO Q5:=by
 intro x _ _
 show Q5 x=_
 rw[Nj]
theorem FI:kX (.list aO) Ee:=by
 intro x hw hb
 show Ee x=_
 rw[Nk]
 exact dl (τ:=aO) x 32 (by omega) hb.1 _ (Ee.a x) (fun acc i hi ha=>by
  rw[Ee.a_eq,ab,ae,decide_eq_true hi,ah i _ hi (by have:=hb.1;omega),It _ (hw.2 _ (an (τ:=aO) x i hi)) (hb.2 _ (an (τ:=aO) x i hi))]
  simp only[cond_true,Option.bind_some]
  rw[ae,show decide (i<acc.length)=true from decide_eq_true (by rw[ha];exact hi),Int.toNat_natCast];rfl) (fun acc=>by
  rw[Ee.a_eq,ab,decide_eq_false (Nat.lt_irrefl _),cond_false])
theorem B9:kX kH Ra:=by
 intro x _ _
 show Ra x=_
 rw[Nt]
theorem yQ:kX (.list kH) Eh:=by
 intro x hw hb
 show Eh x=_
 rw[Nu]
 exact dl (τ:=kH) x 24 (by omega) hb.1 _ (Eh.a x) (fun acc i hi ha=>by
  rw[Eh.a_eq,ab,ae,decide_eq_true hi,ah i _ hi (by have:=hb.1;omega),B9 _ (hw.2 _ (an (τ:=kH) x i hi)) (hb.2 _ (an (τ:=kH) x i hi))]
  simp only[cond_true,Option.bind_some]
  rw[ae,show decide (i<acc.length)=true from decide_eq_true (by rw[ha];exact hi),Int.toNat_natCast];rfl) (fun acc=>by
  rw[Eh.a_eq,ab,decide_eq_false (Nat.lt_irrefl _),cond_false])
theorem uv:kX aC Rc:=by
 intro x _ _
 show Rc x=_
 rw[Nw]
theorem rJ:kX (.list aC) Ei:=by
 intro x hw hb
 show Ei x=_
 rw[Nx]
 exact dl (τ:=aC) x 48 (by omega) hb.1 _ (Ei.a x) (fun acc i hi ha=>by
  rw[Ei.a_eq,ab,ae,decide_eq_true hi,ah i _ hi (by have:=hb.1;omega),uv _ (hw.2 _ (an (τ:=aC) x i hi)) (hb.2 _ (an (τ:=aC) x i hi))]
  simp only[cond_true,Option.bind_some]
  rw[ae,show decide (i<acc.length)=true from decide_eq_true (by rw[ha];exact hi),Int.toNat_natCast];rfl) (fun acc=>by
  rw[Ei.a_eq,ab,decide_eq_false (Nat.lt_irrefl _),cond_false])
theorem uw:kX aW Rd:=by
 intro x _ _
 show Rd x=_
 rw[Ny]
theorem rK:kX (.list aW) Ej:=by
 intro x hw hb
 show Ej x=_
 rw[Nz]
 exact dl (τ:=aW) x 32 (by omega) hb.1 _ (Ej.a x) (fun acc i hi ha=>by
  rw[Ej.a_eq,ab,ae,decide_eq_true hi,ah i _ hi (by have:=hb.1;omega),uw _ (hw.2 _ (an (τ:=aW) x i hi)) (hb.2 _ (an (τ:=aW) x i hi))]
  simp only[cond_true,Option.bind_some]
  rw[ae,show decide (i<acc.length)=true from decide_eq_true (by rw[ha];exact hi),Int.toNat_natCast];rfl) (fun acc=>by
  rw[Ej.a_eq,ab,decide_eq_false (Nat.lt_irrefl _),cond_false])
theorem FJ:kX bH Re:=by
 intro x _ _
 show Re x=_
 rw[NA]
theorem Ca:kX (.list bH) Ek:=by
 intro x hw hb
 show Ek x=_
 rw[NB]
 exact dl (τ:=bH) x 48 (by omega) hb.1 _ (Ek.a x) (fun acc i hi ha=>by
  rw[Ek.a_eq,ab,ae,decide_eq_true hi,ah i _ hi (by have:=hb.1;omega),FJ _ (hw.2 _ (an (τ:=bH) x i hi)) (hb.2 _ (an (τ:=bH) x i hi))]
  simp only[cond_true,Option.bind_some]
  rw[ae,show decide (i<acc.length)=true from decide_eq_true (by rw[ha];exact hi),Int.toNat_natCast];rfl) (fun acc=>by
  rw[Ek.a_eq,ab,decide_eq_false (Nat.lt_irrefl _),cond_false])
theorem rL:kX cz Rf:=by
 intro x _ _
 show Rf x=_
 rw[NC]
theorem ql:kX (.list cz) El:=by
 intro x hw hb
 show El x=_
 rw[ND]
 exact dl (τ:=cz) x 16 (by omega) hb.1 _ (El.a x) (fun acc i hi ha=>by
  rw[El.a_eq,ab,ae,decide_eq_true hi,ah i _ hi (by have:=hb.1;omega),rL _ (hw.2 _ (an (τ:=cz) x i hi)) (hb.2 _ (an (τ:=cz) x i hi))]
  simp only[cond_true,Option.bind_some]
  rw[ae,show decide (i<acc.length)=true from decide_eq_true (by rw[ha];exact hi),Int.toNat_natCast];rfl) (fun acc=>by
  rw[El.a_eq,ab,decide_eq_false (Nat.lt_irrefl _),cond_false])
theorem Iu:kX gv Ri:=by
 intro x _ _
 show Ri x=_
 rw[NH]
theorem FK:kX (.list gv) Em:=by
 intro x hw hb
 show Em x=_
 rw[NI]
 exact dl (τ:=gv) x 16 (by omega) hb.1 _ (Em.a x) (fun acc i hi ha=>by
  rw[Em.a_eq,ab,ae,decide_eq_true hi,ah i _ hi (by have:=hb.1;omega),Iu _ (hw.2 _ (an (τ:=gv) x i hi)) (hb.2 _ (an (τ:=gv) x i hi))]
  simp only[cond_true,Option.bind_some]
  rw[ae,show decide (i<acc.length)=true from decide_eq_true (by rw[ha];exact hi),Int.toNat_natCast];rfl) (fun acc=>by
  rw[Em.a_eq,ab,decide_eq_false (Nat.lt_irrefl _),cond_false])
theorem ux:kX (.list (.int .i64)) AM:=by
 intro x hw hb
 show AM x=_
 rw[No]
 exact dl (τ:=(.int .i64)) x 8 (by omega) hb.1 _ (AM.a x) (fun acc i hi ha=>by
  rw[AM.a_eq,ab,ae,decide_eq_true hi,ah i _ hi (by have:=hb.1;omega)]
  rw[ae,show decide (i<acc.length)=true from decide_eq_true (by rw[ha];exact hi),Int.toNat_natCast];rfl) (fun acc=>by
  rw[AM.a_eq,ab,decide_eq_false (Nat.lt_irrefl _),cond_false])
theorem qm:kX (.list .str) Dm:=by
 intro x hw hb
 show Dm x=_
 rw[NF]
 exact dl (τ:= .str) x 16 (by omega) hb.1 _ (Dm.a x) (fun acc i hi ha=>by
  rw[Dm.a_eq,ab,ae,decide_eq_true hi,ah i _ hi (by have:=hb.1;omega)]
  rw[ae,show decide (i<acc.length)=true from decide_eq_true (by rw[ha];exact hi),Int.toNat_natCast];rfl) (fun acc=>by
  rw[Dm.a_eq,ab,decide_eq_false (Nat.lt_irrefl _),cond_false])
theorem Cb:kX (.arr (.int .i64) 32) AL:=by
 intro x hw hb
 show AL x=_
 have hl:List.length x=32:=hw.1
 rw[Nm]
 have h:=wE (τ:= .int .i64) x (fun acc i=>AL.a x [0,0,0,0,0,0,0,0,0,0,0,0,0,0,0,0,0,0,0,0,0,0,0,0,0,0,0,0,0,0,0,0] acc i) (fun acc i hi ha=>by
  show AL.a x _ acc (i:Int)=_
  rw[AL.a_eq,decide_eq_true (show(i:Int)<32 by omega),ae,decide_eq_true (show i<32 by omega),ah i 32 (by omega) (by omega),Int.toNat_natCast];rfl) (fun acc=>by
  show AL.a x _ acc (List.length x:Int)=_
  rw[AL.a_eq,hl];rfl) 32 0 (List.replicate 32 (0:Int)) (by rw[hl]) (by simp)
 exact h
theorem Iv:kX xd Q7:=by
 intro x hw hb
 show Q7 x=_
 rw[Nn,Cb x.1 hw.1 hb.1]
 rfl
theorem Cc:kX eA Q8:=by
 intro x hw hb
 show Q8 x=_
 rw[Np,Iv x.2.1 hw.2.1 hb.2.1,ux x.2.2.1 hw.2.2.1 hb.2.2.1]
 rfl
theorem yR:kX (.list eA) Ef:=by
 intro x hw hb
 show Ef x=_
 rw[Nq]
 exact dl (τ:=eA) x 304 (by omega) hb.1 _ (Ef.a x) (fun acc i hi ha=>by
  rw[Ef.a_eq,ab,ae,decide_eq_true hi,ah i _ hi (by have:=hb.1;omega),Cc _ (hw.2 _ (an (τ:=eA) x i hi)) (hb.2 _ (an (τ:=eA) x i hi))]
  simp only[cond_true,Option.bind_some]
  rw[ae,show decide (i<acc.length)=true from decide_eq_true (by rw[ha];exact hi),Int.toNat_natCast];rfl) (fun acc=>by
  rw[Ef.a_eq,ab,decide_eq_false (Nat.lt_irrefl _),cond_false])
theorem FL:kX Iq Q4:=by
 intro x hw hb
 show Q4 x=_
 rw[Ni,yP x.2.2 hw.2.2 hb.2.2]
 rfl
theorem Cd:kX (.list aO) Q6:=by
 intro x hw hb
 show Q6 x=_
 rw[Nl,FI x hw hb]
 rfl
theorem yS:kX Ir Rb:=by
 intro x hw hb
 show Rb x=_
 rw[Nv,Cd x.1 hw.1 hb.1,yR x.2.1 hw.2.1 hb.2.1,B8 x.2.2.1 hw.2.2.1 hb.2.2.1,yQ x.2.2.2 hw.2.2.2 hb.2.2.2]
 rfl
theorem Ce:kX Io Rh:=by
 intro x hw hb
 show Rh x=_
 rw[NG,ux x.1 hw.1 hb.1,qm x.2.1 hw.2.1 hb.2.1,ux x.2.2.1 hw.2.2.1 hb.2.2.1,qm x.2.2.2 hw.2.2.2 hb.2.2.2]
 rfl
theorem Cf:kX In Rg:=by
 intro x hw hb
 show Rg x=_
 rw[NE,rJ x.2.2.1 hw.2.2.1 hb.2.2.1,rK x.2.2.2.1 hw.2.2.2.1 hb.2.2.2.1,Ca x.2.2.2.2.1 hw.2.2.2.2.1 hb.2.2.2.2.1,ql x.2.2.2.2.2 hw.2.2.2.2.2 hb.2.2.2.2.2]
 rfl
theorem FM:kX aZ Rj:=by
 intro x hw hb
 show Rj x=_
 rw[NJ,Cf x.1 hw.1 hb.1,Ce x.2.1 hw.2.1 hb.2.1,FK x.2.2 hw.2.2 hb.2.2]
 rfl
theorem Cg:kX (.list aZ) Eo:=by
 intro x hw hb
 show Eo x=_
 rw[NK]
 exact dl (τ:=aZ) x 240 (by omega) hb.1 _ (Eo.a x) (fun acc i hi ha=>by
  rw[Eo.a_eq,ab,ae,decide_eq_true hi,ah i _ hi (by have:=hb.1;omega),FM _ (hw.2 _ (an (τ:=aZ) x i hi)) (hb.2 _ (an (τ:=aZ) x i hi))]
  simp only[cond_true,Option.bind_some]
  rw[ae,show decide (i<acc.length)=true from decide_eq_true (by rw[ha];exact hi),Int.toNat_natCast];rfl) (fun acc=>by
  rw[Eo.a_eq,ab,decide_eq_false (Nat.lt_irrefl _),cond_false])
theorem sU:kX TSys I5:=by
 intro x hw hb
 show I5 x=_
 rw[NL,FL x.1 hw.1 hb.1,yS x.2.1 hw.2.1 hb.2.1,Cg x.2.2 hw.2.2 hb.2.2]
 rfl
theorem Ch:kY bE Qw:=by
 intro x _ _
 show Qw x x=_
 rw[J8]
 simp[aF]
theorem yT:kY (.list bE) Dy:=by
 intro x hw hb
 show Dy x x=_
 have h1:List.length x≤1048576:=hb.1
 rw[J9,decide_eq_true (rfl:(List.length x:Int)=(List.length x:Int)),Bool.not_true,cond_false]
 refine cU (Dy.a x x) (List.length x) (fun i hi=> ?_) ?_
 ·rw[Dy.a_eq,ab,ae,decide_eq_true hi,ah i _ hi (by omega),Ch _ (hw.2 _ (an (τ:=bE) x i hi)) (hb.2 _ (an (τ:=bE) x i hi))];rfl
 ·rw[Dy.a_eq,ab,decide_eq_false (Nat.lt_irrefl _),cond_false]
theorem FN:kY a6 QC:=by
 intro x _ _
 show QC x x=_
 rw[Kj]
 simp[aF]
theorem Ci:kY (.list a6) DC:=by
 intro x hw hb
 show DC x x=_
 have h1:List.length x≤1048576:=hb.1
 rw[Kk,decide_eq_true (rfl:(List.length x:Int)=(List.length x:Int)),Bool.not_true,cond_false]
 refine cU (DC.a x x) (List.length x) (fun i hi=> ?_) ?_
 ·rw[DC.a_eq,ab,ae,decide_eq_true hi,ah i _ hi (by omega),FN _ (hw.2 _ (an (τ:=a6) x i hi)) (hb.2 _ (an (τ:=a6) x i hi))];rfl
 ·rw[DC.a_eq,ab,decide_eq_false (Nat.lt_irrefl _),cond_false]
theorem Iw:kY aO Qy:=by
 intro x _ _
 show Qy x x=_
 rw[Kb]
 simp[aF]
theorem FO:kY (.list aO) Dz:=by
 intro x hw hb
 show Dz x x=_
 have h1:List.length x≤1048576:=hb.1
 rw[Kc,decide_eq_true (rfl:(List.length x:Int)=(List.length x:Int)),Bool.not_true,cond_false]
 refine cU (Dz.a x x) (List.length x) (fun i hi=> ?_) ?_
 ·rw[Dz.a_eq,ab,ae,decide_eq_true hi,ah i _ hi (by omega),Iw _ (hw.2 _ (an (τ:=aO) x i hi)) (hb.2 _ (an (τ:=aO) x i hi))];rfl
 ·rw[Dz.a_eq,ab,decide_eq_false (Nat.lt_irrefl _),cond_false]
theorem Cj:kY kH QD:=by
 intro x _ _
 show QD x x=_
 rw[Kl]
 simp[]
theorem yU:kY (.list kH) DD:=by
 intro x hw hb
 show DD x x=_
 have h1:List.length x≤1048576:=hb.1
 rw[Km,decide_eq_true (rfl:(List.length x:Int)=(List.length x:Int)),Bool.not_true,cond_false]
 refine cU (DD.a x x) (List.length x) (fun i hi=> ?_) ?_
 ·rw[DD.a_eq,ab,ae,decide_eq_true hi,ah i _ hi (by omega),Cj _ (hw.2 _ (an (τ:=kH) x i hi)) (hb.2 _ (an (τ:=kH) x i hi))];rfl
 ·rw[DD.a_eq,ab,decide_eq_false (Nat.lt_irrefl _),cond_false]
theorem uy:kY aC QF:=by
 intro x _ _
 show QF x x=_
 rw[Ko]
 simp[aF]
theorem rM:kY (.list aC) DE:=by
 intro x hw hb
 show DE x x=_
 have h1:List.length x≤1048576:=hb.1
 rw[Kp,decide_eq_true (rfl:(List.length x:Int)=(List.length x:Int)),Bool.not_true,cond_false]
 refine cU (DE.a x x) (List.length x) (fun i hi=> ?_) ?_
 ·rw[DE.a_eq,ab,ae,decide_eq_true hi,ah i _ hi (by omega),uy _ (hw.2 _ (an (τ:=aC) x i hi)) (hb.2 _ (an (τ:=aC) x i hi))];rfl
 ·rw[DE.a_eq,ab,decide_eq_false (Nat.lt_irrefl _),cond_false]
theorem uz:kY aW QG:=by
 intro x _ _
 show QG x x=_
 rw[Kq]
 simp[aF]
theorem rN:kY (.list aW) DF:=by
 intro x hw hb
 show DF x x=_
 have h1:List.length x≤1048576:=hb.1
 rw[Kr,decide_eq_true (rfl:(List.length x:Int)=(List.length x:Int)),Bool.not_true,cond_false]
 refine cU (DF.a x x) (List.length x) (fun i hi=> ?_) ?_
 ·rw[DF.a_eq,ab,ae,decide_eq_true hi,ah i _ hi (by omega),uz _ (hw.2 _ (an (τ:=aW) x i hi)) (hb.2 _ (an (τ:=aW) x i hi))];rfl
 ·rw[DF.a_eq,ab,decide_eq_false (Nat.lt_irrefl _),cond_false]
theorem FP:kY bH QH:=by
 intro x _ _
 show QH x x=_
 rw[Ks]
 simp[aF]
theorem Ck:kY (.list bH) DG:=by
 intro x hw hb
 show DG x x=_
 have h1:List.length x≤1048576:=hb.1
 rw[Kt,decide_eq_true (rfl:(List.length x:Int)=(List.length x:Int)),Bool.not_true,cond_false]
 refine cU (DG.a x x) (List.length x) (fun i hi=> ?_) ?_
 ·rw[DG.a_eq,ab,ae,decide_eq_true hi,ah i _ hi (by omega),FP _ (hw.2 _ (an (τ:=bH) x i hi)) (hb.2 _ (an (τ:=bH) x i hi))];rfl
 ·rw[DG.a_eq,ab,decide_eq_false (Nat.lt_irrefl _),cond_false]
theorem rO:kY cz QI:=by
 intro x _ _
 show QI x x=_
 rw[Ku]
 simp[]
theorem qn:kY (.list cz) DH:=by
 intro x hw hb
 show DH x x=_
 have h1:List.length x≤1048576:=hb.1
 rw[Kv,decide_eq_true (rfl:(List.length x:Int)=(List.length x:Int)),Bool.not_true,cond_false]
 refine cU (DH.a x x) (List.length x) (fun i hi=> ?_) ?_
 ·rw[DH.a_eq,ab,ae,decide_eq_true hi,ah i _ hi (by omega),rO _ (hw.2 _ (an (τ:=cz) x i hi)) (hb.2 _ (an (τ:=cz) x i hi))];rfl
 ·rw[DH.a_eq,ab,decide_eq_false (Nat.lt_irrefl _),cond_false]
theorem Ix:kY gv QL:=by
 intro x _ _
 show QL x x=_
 rw[Kz]
 simp[]
theorem FQ:kY (.list gv) DI:=by
 intro x hw hb
 show DI x x=_
 have h1:List.length x≤1048576:=hb.1
 rw[KA,decide_eq_true (rfl:(List.length x:Int)=(List.length x:Int)),Bool.not_true,cond_false]
 refine cU (DI.a x x) (List.length x) (fun i hi=> ?_) ?_
 ·rw[DI.a_eq,ab,ae,decide_eq_true hi,ah i _ hi (by omega),Ix _ (hw.2 _ (an (τ:=gv) x i hi)) (hb.2 _ (an (τ:=gv) x i hi))];rfl
 ·rw[DI.a_eq,ab,decide_eq_false (Nat.lt_irrefl _),cond_false]
theorem uA:kY (.list (.int .i64)) Av:=by
 intro x hw hb
 show Av x x=_
 have h1:List.length x≤1048576:=hb.1
 rw[Kg,decide_eq_true (rfl:(List.length x:Int)=(List.length x:Int)),Bool.not_true,cond_false]
 refine cU (Av.a x x) (List.length x) (fun i hi=> ?_) ?_
 ·rw[Av.a_eq,ab,ae,decide_eq_true hi,ah i _ hi (by omega),decide_eq_true (rfl:rd (τ:= .int .i64) x (i:Int)=rd (τ:= .int .i64) x (i:Int))];rfl
 ·rw[Av.a_eq,ab,decide_eq_false (Nat.lt_irrefl _),cond_false]
theorem qo:kY (.list .str) Cv:=by
 intro x hw hb
 show Cv x x=_
 have h1:List.length x≤1048576:=hb.1
 rw[Kx,decide_eq_true (rfl:(List.length x:Int)=(List.length x:Int)),Bool.not_true,cond_false]
 refine cU (Cv.a x x) (List.length x) (fun i hi=> ?_) ?_
 ·rw[Cv.a_eq,ab,ae,decide_eq_true hi,ah i _ hi (by omega),aF,decide_eq_true (rfl:rd (τ:= .str) x (i:Int)=rd (τ:= .str) x (i:Int))];rfl
 ·rw[Cv.a_eq,ab,decide_eq_false (Nat.lt_irrefl _),cond_false]
theorem Cl:kY (.arr (.int .i64) 32) DA:=by
 intro x hw hb
 show DA x x=_
 rw[Ke]
 refine cU (DA.a x x) 32 (fun i hi=> ?_) ?_
 ·rw[DA.a_eq,decide_eq_true (show(i:Int)<32 by omega),ae,decide_eq_true hi,ah i 32 hi (by omega),decide_eq_true (rfl:rd (τ:= .int .i64) x (i:Int)=rd (τ:= .int .i64) x (i:Int))];rfl
 ·rw[DA.a_eq];rfl
theorem Iy:kY xd QA:=by
 intro x hw hb
 show QA x x=_
 rw[Kf,Cl x.1 hw.1 hb.1]
 simp[]
theorem Cm:kY eA QB:=by
 intro x hw hb
 show QB x x=_
 rw[Kh,Iy x.2.1 hw.2.1 hb.2.1,uA x.2.2.1 hw.2.2.1 hb.2.2.1]
 simp[]
theorem yV:kY (.list eA) DB:=by
 intro x hw hb
 show DB x x=_
 have h1:List.length x≤1048576:=hb.1
 rw[Ki,decide_eq_true (rfl:(List.length x:Int)=(List.length x:Int)),Bool.not_true,cond_false]
 refine cU (DB.a x x) (List.length x) (fun i hi=> ?_) ?_
 ·rw[DB.a_eq,ab,ae,decide_eq_true hi,ah i _ hi (by omega),Cm _ (hw.2 _ (an (τ:=eA) x i hi)) (hb.2 _ (an (τ:=eA) x i hi))];rfl
 ·rw[DB.a_eq,ab,decide_eq_false (Nat.lt_irrefl _),cond_false]
theorem FS:kY Iq Qx:=by
 intro x hw hb
 show Qx x x=_
 rw[Ka,yT x.2.2 hw.2.2 hb.2.2]
 simp[aF]
theorem Cn:kY (.list aO) Qz:=by
 intro x hw hb
 show Qz x x=_
 rw[Kd,FO x hw hb]
 rfl
theorem yW:kY Ir QE:=by
 intro x hw hb
 show QE x x=_
 rw[Kn,Cn x.1 hw.1 hb.1,yV x.2.1 hw.2.1 hb.2.1,Ci x.2.2.1 hw.2.2.1 hb.2.2.1,yU x.2.2.2 hw.2.2.2 hb.2.2.2]
 simp[]
theorem Co:kY Io QK:=by
 intro x hw hb
 show QK x x=_
 rw[Ky,uA x.1 hw.1 hb.1,qo x.2.1 hw.2.1 hb.2.1,uA x.2.2.1 hw.2.2.1 hb.2.2.1,qo x.2.2.2 hw.2.2.2 hb.2.2.2]
 simp[]
theorem Cp:kY In QJ:=by
 intro x hw hb
 show QJ x x=_
 rw[Kw,rM x.2.2.1 hw.2.2.1 hb.2.2.1,rN x.2.2.2.1 hw.2.2.2.1 hb.2.2.2.1,Ck x.2.2.2.2.1 hw.2.2.2.2.1 hb.2.2.2.2.1,qn x.2.2.2.2.2 hw.2.2.2.2.2 hb.2.2.2.2.2]
 simp[aF]
theorem FT:kY aZ QM:=by
 intro x hw hb
 show QM x x=_
 rw[KB,Cp x.1 hw.1 hb.1,Co x.2.1 hw.2.1 hb.2.1,FQ x.2.2 hw.2.2 hb.2.2]
 simp[]
theorem Cq:kY (.list aZ) DJ:=by
 intro x hw hb
 show DJ x x=_
 have h1:List.length x≤1048576:=hb.1
 rw[KC,decide_eq_true (rfl:(List.length x:Int)=(List.length x:Int)),Bool.not_true,cond_false]
 refine cU (DJ.a x x) (List.length x) (fun i hi=> ?_) ?_
 ·rw[DJ.a_eq,ab,ae,decide_eq_true hi,ah i _ hi (by omega),FT _ (hw.2 _ (an (τ:=aZ) x i hi)) (hb.2 _ (an (τ:=aZ) x i hi))];rfl
 ·rw[DJ.a_eq,ab,decide_eq_false (Nat.lt_irrefl _),cond_false]
theorem sV:kY TSys P6:=by
 intro x hw hb
 show P6 x x=_
 rw[KD,FS x.1 hw.1 hb.1,yW x.2.1 hw.2.1 hb.2.1,Cq x.2.2 hw.2.2 hb.2.2]
 simp[]
theorem iE {ps:List xt} (h:nP (.list aZ) ps):qi ps:=by
 intro j hj k hk
 have hp:=h.2 _ (an (τ:=aZ) ps j hj)
 generalize rd (τ:=aZ) ps (j:Int)=p at*
 have hr:=hp.1.2.2.2.2.1.2 _ (an (τ:=bH) p.1.2.2.2.2.1 k hk)
 exact hr.1
theorem m2 (a:Int):0≤a%2∧a%2<2:=by omega
theorem FU {n d a b i:Int} (f:Int) (hf:(da n).1=f) (hn:1≤n∧n≤64) (hd:0≤d∧d≤31) (ha:0≤a∧a≤31) (hb:0≤b∧b≤31) (g1:(aY f).1=true∨d=0) (g2:(aY f).2.1=true∨a=0) (g3:(aY f).2.2=true∨b=0) (hi:my f i=true):fw (n,d,a,b,i)=true:=by
 simp only[fw,Bool.and_eq_true,Bool.or_eq_true,decide_eq_true_eq,hf]
 exact⟨⟨⟨⟨⟨⟨⟨⟨⟨⟨⟨hn.1,hn.2⟩,hd.1⟩,hd.2⟩,ha.1⟩,ha.2⟩,hb.1⟩,hb.2⟩,g1⟩,g2⟩,g3⟩,hi⟩
theorem RC {i:Int} (h: -2147483648≤i∧i≤2147479552∧i%4096=0):my 1 i=true:=by simp[my];omega
theorem r1 {a i:Int} (ha:0≤a∧a≤31) (h: -2147483648≤i∧i≤2147479552∧i%4096=0):fw (1,a,0,0,i)=true:=FU 1 rfl (by decide) ha (by decide) (by decide) (.inl rfl) (.inr rfl) (.inr rfl) (RC h)
def uB (s:k6):ByteArray:=((((av (fk (s.1.size:Int) 1)++s.1)++av (fk s.2.1 1))++av (fk s.2.2.1 2))++av (fk s.2.2.2.1 2))++av (fk s.2.2.2.2 1)
def nX:List k6→ByteArray
 | []=>ByteArray.empty
 |s::l=>uB s++nX l
def FV (im:fj):ByteArray:=(((((⟨#[80,73,77,49]⟩:ByteArray)++av (fk (im.1.size:Int) 2))++im.1)++av (fk (im.2.1.size:Int) 2))++im.2.1)++av (fk (im.2.2.length:Int) 1)
def Iz (im:fj):ByteArray:=FV im++nX im.2.2
theorem Ji:(⟨#[80,73,77,49]⟩:ByteArray).size=4:=rfl
theorem Cr (s:k6):(uB s).size=s.1.size+7:=by
 unfold uB;simp only[ByteArray.size_append,aB,aI];omega
theorem Cs (im:fj):(FV im).size=9+im.1.size+im.2.1.size:=by
 unfold FV;simp only[ByteArray.size_append,aB,aI,Ji];omega
theorem kE {a b:ByteArray} (h:a.size+b.size≤4194304):decide (a.size+b.size≤9223372036854775807)=true:=decide_eq_true (by omega)
theorem uC (v:Int):ic v 1=some (av (fk v 1)):=d6 v 1 (by decide)
theorem Py (v:Int):ic v 2=some (av (fk v 2)):=d6 v 2 (by decide)
theorem JO (v:Int):ic v 4=some (av (fk v 4)):=d6 v 4 (by decide)
theorem nY (n:ByteArray) (h:n.size≤4096):I4 n=some (av (fk (n.size:Int) 1)++n):=by
 have e:av [IntKind.wrap .u8 (n.size:Int)]=av (fk (n.size:Int) 1):=by rw[uM];rfl
 rw[M4,e,kE (by rw[aB,aI];omega)];rfl
structure IA (im:fj):Prop where
 n:im.2.2.length≤16
 c:im.1.size≤1024
 d:im.2.1.size≤256
 s:∀s∈im.2.2,s.1.size≤20
 oki:Pi im=some true
 oks:QZ im=some true
def yX (s:k6):Prop:=s.1.size≤20∧(0≤s.2.1∧s.2.1<256)∧(0≤s.2.2.1∧s.2.2.1<65536)∧(0≤s.2.2.2.1∧s.2.2.2.1<65536)∧(0≤s.2.2.2.2∧s.2.2.2.2<256)
def Hw (b:ByteArray) (v:Int):ByteArray:=b++av (fk v 4)
theorem dU {t:ByteArray} (h:bY t=true):t.size≤20:=by
 rcases Nat.lt_or_ge 20 t.size with h1|h1
 ·have e:=(db t).2
  rw[Hd,h,decide_eq_false (show¬(t.size:Int)<1 by omega),decide_eq_true (show(t.size:Int)>20 by omega)]at e
  cases e
 ·exact h1
structure RD (o:bl):Prop where
 n:o.1.size≤20
 f:o.2.2.1.length≤4
 d:o.2.2.2.1.length≤4
 fn:∀f∈o.2.2.1,f.1.size≤20
 dn:∀d∈o.2.2.2.1,d.1.size≤20
theorem IB {o:bl} (h:ia o=true):RD o:=by
 have hO:=dH h
 refine⟨?_,hO.f,hO.d,fun f hf=> ?_,fun d hd=> ?_⟩
 ·unfold ia at h
  rw[decide_eq_true_eq]at h
  unfold qU at h
  split at h
  ·cases h
  ·rename_i hn
   exact dU (by simpa using hn)
 ·obtain⟨i,hi,hr⟩:=gb (τ:=aC) hf
  rw[←hr]
  exact dU (fL (hO.fun_ i hi)).1
 ·obtain⟨i,hi,hr⟩:=gb (τ:=aW) hd
  rw[←hr]
  exact dU (eQ (hO.dat i hi)).1
theorem ja {a b x y:ByteArray} (h:a++x=b++y) (hs:a.size=b.size):a=b∧x=y:=by
 have h1:(a++x).extract 0 a.size=a:=ByteArray.extract_append_eq_left rfl
 have h2:(b++y).extract 0 b.size=b:=ByteArray.extract_append_eq_left rfl
 have h3:(a++x).extract a.size (a.size+x.size)=x:=ByteArray.extract_append_eq_right rfl rfl
 have h4:(b++y).extract b.size (b.size+y.size)=y:=ByteArray.extract_append_eq_right rfl rfl
 have hz:x.size=y.size:=by have:=congrArg ByteArray.size h;rw[ByteArray.size_append,ByteArray.size_append]at this;omega
 exact⟨by rw[←h1,h,hs,h2],by rw[←h3,h,hs,hz,h4]⟩
theorem FW:∀(n:Nat) (v w:Int),fk v n=fk w n→v%256^n=w%256^n:=by
 intro n
 induction n with
 |zero=>intro v w _;simp
 |succ n ih=>
  intro v w h
  rw[fk,fk,List.cons.injEq]at h
  have h2:=ih _ _ h.2
  have h3:=h.1
  obtain⟨k,hk⟩:=Int.dvd_of_emod_eq_zero (Int.emod_eq_emod_iff_emod_sub_eq_zero.1 h2)
  refine Int.emod_eq_emod_iff_emod_sub_eq_zero.2 (Int.emod_eq_zero_of_dvd ⟨k, ?_⟩)
  rw[show v-w=256*(v/256-w/256) by omega,hk,Int.pow_succ,←Int.mul_assoc,Int.mul_comm 256]
theorem wF {xs ys:List Int} (hx:∀x∈xs,0≤x∧x≤255) (hy:∀x∈ys,0≤x∧x≤255) (h:av xs=av ys):xs=ys:=by
 have hl:xs.length=ys.length:=by rw[←aB,←aB,h]
 apply List.ext_getElem hl
 intro i h1 h2
 rw[←ji xs i hx h1,←ji ys i hy h2,h]
theorem yY {n:Nat} {v w:Int} {x y:ByteArray} (h:av (fk v n)++x=av (fk w n)++y):v%256^n=w%256^n∧x=y:=by
 obtain⟨h1,h2⟩:=ja h (by rw[aB,aB,aI,aI])
 exact⟨FW n v w (wF (tn n v) (tn n w) h1),h2⟩
theorem cf {v w:Int} {x y:ByteArray} (h:av (fk v 1)++x=av (fk w 1)++y) (hv:0≤v∧v<256) (hw:0≤w∧w<256):v=w∧x=y:=by
 obtain⟨h1,h2⟩:=yY h
 rw[show(256:Int)^1=256 from rfl]at h1
 exact⟨by omega,h2⟩
theorem Jj (t:ByteArray) (ht:t.size≤1048576):∃v,Dk t=some v:=by
 obtain⟨v,h1,_⟩:=GS t ht t.size 0 1 (by omega) (by omega) (by omega)
 exact⟨v,(M5 t).trans h1⟩
def FX (n:ByteArray):ByteArray:=av (fk (n.size:Int) 1)++n
theorem qp {a b x y:ByteArray} (h:FX a++x=FX b++y) (ha:a.size≤200) (hb:b.size≤200):a=b∧x=y:=by
 unfold FX at h
 rw[ByteArray.append_assoc,ByteArray.append_assoc]at h
 obtain⟨h1,h2⟩:=cf h ⟨by omega,by omega⟩ ⟨by omega,by omega⟩
 exact ja h2 (by omega)
def eM {α:Type} (E:α→ByteArray):List α→ByteArray
 | []=>ByteArray.empty
 |a::l=>E a++eM E l
theorem kx {α:Type} {E:α→ByteArray} {Q:α→Prop} (hE:∀a b x y,Q a→Q b→E a++x=E b++y→a=b∧x=y):∀(l l':List α) (x y:ByteArray),l.length=l'.length→(∀a∈l,Q a)→(∀a∈l',Q a)→eM E l++x=eM E l'++y→l=l'∧x=y
 | [],[],x,y,_,_,_,h=>by
  simp only[eM]at h
  exact⟨rfl,(ja h rfl).2⟩
 | [],_::_,_,_,hl,_,_,_=>by simp at hl
 |_::_,[],_,_,hl,_,_,_=>by simp at hl
 |a::l,b::l',x,y,hl,h1,h2,h=>by
  simp only[eM]at h
  rw[ByteArray.append_assoc,ByteArray.append_assoc]at h
  obtain⟨e1,e2⟩:=hE a b _ _ (h1 a (List.mem_cons_self ..)) (h2 b (List.mem_cons_self ..)) h
  obtain⟨e3,e4⟩:=kx hE l l' x y (by simpa using hl) (fun z hz=>h1 z (List.mem_cons_of_mem _ hz)) (fun z hz=>h2 z (List.mem_cons_of_mem _ hz)) e2
  exact⟨by rw[e1,e3],e4⟩
def yZ (b:Bool):Int:=bif b then 1 else 0
theorem wG {a b:Bool} (h:yZ a=yZ b):a=b:=by cases a<;>cases b<;>first|rfl|(exact absurd h (by decide))
theorem jb (b:Bool):0≤yZ b∧yZ b<256:=by cases b<;>decide
abbrev kF (v:Int):ByteArray:=av (fk v 1)
def qr (f:Pd):ByteArray:=(((FX f.1++kF (yZ f.2.1))++kF f.2.2.1)++kF ((f.2.2.2.size:Int)/4))++f.2.2.2
def rP (d:Pe):ByteArray:=FX d.1++FX d.2
def qt (r:AF):ByteArray:=(((kF r.1++kF r.2.1)++kF r.2.2.1)++FX r.2.2.2.1)++av (fk r.2.2.2.2 4)
def rQ (d:Int×Bool):ByteArray:=kF d.1++kF (yZ d.2)
structure FY (f:Pd):Prop where
 n:f.1.size≤20
 fr:0≤f.2.2.1∧f.2.2.1<256
 c:f.2.2.2.size≤256∧f.2.2.2.size%4=0
structure FZ (r:AF):Prop where
 u:0≤r.1∧r.1<256
 a:0≤r.2.1∧r.2.1<256
 k:0≤r.2.2.1∧r.2.2.1<256
 n:r.2.2.2.1.size≤20
 d: -2147483648≤r.2.2.2.2∧r.2.2.2.2≤2147483647
theorem F3 (a b:Pd) (x y:ByteArray) (ha:FY a) (hb:FY b) (h:qr a++x=qr b++y):a=b∧x=y:=by
 obtain⟨a1,a2,a3⟩:=ha
 obtain⟨c1,c2,c3⟩:=hb
 unfold qr at h
 simp only[ByteArray.append_assoc]at h
 obtain⟨e1,h⟩:=qp h (by omega) (by omega)
 obtain⟨e2,h⟩:=cf h (jb _) (jb _)
 obtain⟨e3,h⟩:=cf h a2 c2
 obtain⟨e4,h⟩:=cf h ⟨by omega,by omega⟩ ⟨by omega,by omega⟩
 obtain⟨e5,h5⟩:=ja h (by omega)
 exact⟨Prod.ext e1 (Prod.ext (wG e2) (Prod.ext e3 e5)),h5⟩
theorem F4 (a b:Pe) (x y:ByteArray) (ha:a.1.size≤20∧a.2.size≤64) (hb:b.1.size≤20∧b.2.size≤64) (h:rP a++x=rP b++y):a=b∧x=y:=by
 unfold rP at h
 simp only[ByteArray.append_assoc]at h
 obtain⟨e1,h⟩:=qp h (by omega) (by omega)
 obtain⟨e2,h⟩:=qp h (by omega) (by omega)
 exact⟨Prod.ext e1 e2,h⟩
theorem F5 (a b:AF) (x y:ByteArray) (ha:FZ a) (hb:FZ b) (h:qt a++x=qt b++y):a=b∧x=y:=by
 unfold qt at h
 simp only[ByteArray.append_assoc]at h
 obtain⟨e1,h⟩:=cf h ha.u hb.u
 obtain⟨e2,h⟩:=cf h ha.a hb.a
 obtain⟨e3,h⟩:=cf h ha.k hb.k
 have n1:=ha.n
 have n2:=hb.n
 obtain⟨e4,h⟩:=qp h (by omega) (by omega)
 obtain⟨e5,h⟩:=yY h
 have d1:=ha.d
 have d2:=hb.d
 rw[show(256:Int)^4=4294967296 by decide]at e5
 exact⟨Prod.ext e1 (Prod.ext e2 (Prod.ext e3 (Prod.ext e4 (by omega)))),h⟩
theorem F6 (a b:Int×Bool) (x y:ByteArray) (ha:0≤a.1∧a.1<256) (hb:0≤b.1∧b.1<256) (h:rQ a++x=rQ b++y):a=b∧x=y:=by
 unfold rQ at h
 simp only[ByteArray.append_assoc]at h
 obtain⟨e1,h⟩:=cf h ha hb
 obtain⟨e2,h⟩:=cf h (jb _) (jb _)
 exact⟨Prod.ext e1 (wG e2),h⟩
structure wH (o:bl):Prop where
 n:o.1.size≤20
 dep:0≤o.2.1∧o.2.1<256
 f:o.2.2.1.length≤4
 d:o.2.2.2.1.length≤4
 r:o.2.2.2.2.1.length≤32
 s:o.2.2.2.2.2.length≤4
 fs:∀f∈o.2.2.1,FY f
 ds:∀d∈o.2.2.2.1,d.1.size≤20∧d.2.size≤64
 rs:∀r∈o.2.2.2.2.1,FZ r
 ss:∀d∈o.2.2.2.2.2,0≤d.1∧d.1<256
def SD:ByteArray:=⟨#[80,79,66,49]⟩
def ml (o:bl):ByteArray:=((((((((((SD++FX o.1)++kF o.2.1)++kF o.2.2.1.length)++eM qr o.2.2.1)++kF o.2.2.2.1.length)++eM rP o.2.2.2.1)++kF o.2.2.2.2.1.length)++eM qt o.2.2.2.2.1)++kF o.2.2.2.2.2.length)++eM rQ o.2.2.2.2.2)
theorem wI {a b:bl} (ha:wH a) (hb:wH b) (x y:ByteArray) (h:ml a++x=ml b++y):a=b:=by
 have a1:=ha.n;have a2:=ha.f;have a3:=ha.d;have a4:=ha.r;have a5:=ha.s
 have c1:=hb.n;have c2:=hb.f;have c3:=hb.d;have c4:=hb.r;have c5:=hb.s
 unfold ml at h
 simp only[ByteArray.append_assoc]at h
 obtain⟨_,h⟩:=ja h rfl
 obtain⟨e1,h⟩:=qp h (by omega) (by omega)
 obtain⟨e2,h⟩:=cf h ha.dep hb.dep
 obtain⟨f1,h⟩:=cf h ⟨by omega,by omega⟩ ⟨by omega,by omega⟩
 obtain⟨e3,h⟩:=kx (Q:=FY) F3 _ _ _ _ (by omega) ha.fs hb.fs h
 obtain⟨f2,h⟩:=cf h ⟨by omega,by omega⟩ ⟨by omega,by omega⟩
 obtain⟨e4,h⟩:=kx (Q:=fun d:Pe=>d.1.size≤20∧d.2.size≤64) F4 _ _ _ _ (by omega) ha.ds hb.ds h
 obtain⟨f3,h⟩:=cf h ⟨by omega,by omega⟩ ⟨by omega,by omega⟩
 obtain⟨e5,h⟩:=kx (Q:=FZ) F5 _ _ _ _ (by omega) ha.rs hb.rs h
 obtain⟨f4,h⟩:=cf h ⟨by omega,by omega⟩ ⟨by omega,by omega⟩
 obtain⟨e6,h⟩:=kx (Q:=fun d:Int×Bool=>0≤d.1∧d.1<256) F6 _ _ _ _ (by omega) ha.ss hb.ss h
 exact Prod.ext e1 (Prod.ext e2 (Prod.ext e3 (Prod.ext e4 (Prod.ext e5 e6))))
theorem bQ (n:ByteArray):(FX n).size=n.size+1:=by unfold FX;rw[ByteArray.size_append,aB,aI];omega
theorem nj (v:Int):(kF v).size=1:=by unfold kF;rw[aB,aI]
theorem qu (n:ByteArray) (h:n.size≤4096):I4 n=some (FX n):=nY n h
theorem Ao (b:Bool):Q2 b=some (yZ b):=by rw[Nb];cases b<;>rfl
theorem iF {α:Type} {E:α→ByteArray} {m:Nat}:∀l:List α,(∀a∈l,(E a).size≤m)→(eM E l).size≤m*l.length
 | [],_=>Nat.zero_le _
 |a::l,h=>by
  have h1:=iF l fun x hx=>h x (List.mem_cons_of_mem _ hx)
  have h2:=h a (List.mem_cons_self ..)
  simp only[eM,ByteArray.size_append,List.length_cons,Nat.mul_add,Nat.mul_one];omega
theorem sW {f:Pd} (h:FY f):(qr f).size≤280:=by
 have h1:=h.n;have h2:=h.c
 unfold qr;simp only[ByteArray.size_append,bQ,nj];omega
theorem sX {d:Pe} (h:d.1.size≤20∧d.2.size≤64):(rP d).size≤86:=by
 unfold rP;simp only[ByteArray.size_append,bQ];omega
theorem sY {r:AF} (h:FZ r):(qt r).size≤28:=by
 have h1:=h.n
 unfold qt;simp only[ByteArray.size_append,bQ,aB,aI];omega
theorem sZ (d:Int×Bool):(rQ d).size≤2:=by
 unfold rQ;simp only[ByteArray.size_append,nj];omega
theorem F7 {o:bl} (h:wH o):∀(k i:Nat) (x:ByteArray),i+k=o.2.2.1.length→x.size≤100+280*i→gy.a o x (i:Int)=gy.a o (x++eM qr (o.2.2.1.drop i)) (o.2.2.1.length:Int):=by
 intro k
 have hl:=h.f
 induction k with
 |zero=>
  intro i x hi hx
  have:i=o.2.2.1.length:=by omega
  subst this
  rw[List.drop_length,eM,ByteArray.append_empty]
 |succ k ih=>
  intro i x hk hx
  have hi:i<o.2.2.1.length:=by omega
  have hq:=h.fs _ (List.getElem_mem hi)
  have hz:=sW hq
  rw[gy.a_eq o x (i:Int),ab,decide_eq_true hi,ae,decide_eq_true hi,aQ (τ:=aC) o.2.2.1 i hi,ah i _ hi (by omega),List.drop_eq_getElem_cons hi,eM]
  generalize o.2.2.1[i]=f at hq hz
  have h1:=hq.n;have h2:=hq.c
  have hd:((f.2.2.2.size:Int).tdiv 4)=(f.2.2.2.size:Int)/4:=Int.tdiv_eq_ediv_of_nonneg (by omega)
  rw[qu _ (by omega),Ao,hd,aV (n:=(f.2.2.2.size:Int)/4) (by omega) (by omega)]
  simp only[cond_true,uC,Option.bind_some]
  have e:∀y:ByteArray,y=qr f→(bif decide (x.size+y.size≤9223372036854775807)then gy.a o (x++y) ((i+1:Nat):Int)else none)=gy.a o (x++(qr f++eM qr (o.2.2.1.drop (i+1)))) (o.2.2.1.length:Int):=by
   intro y hy
   subst hy
   rw[kE (by omega),cond_true,←ByteArray.append_assoc]
   exact ih (i+1) _ (by omega) (by rw[ByteArray.size_append];omega)
  rw[kE,kE,kE,kE]
  ·exact e _ rfl
  all_goals simp only[ByteArray.size_append,bQ,aB,aI];omega
theorem F8 {o:bl} (h:wH o):∀(k i:Nat) (x:ByteArray),i+k=o.2.2.2.1.length→x.size≤1300+86*i→gy.b o x (i:Int)=gy.b o (x++eM rP (o.2.2.2.1.drop i)) (o.2.2.2.1.length:Int):=by
 intro k
 have hl:=h.d
 induction k with
 |zero=>
  intro i x hi hx
  have:i=o.2.2.2.1.length:=by omega
  subst this
  rw[List.drop_length,eM,ByteArray.append_empty]
 |succ k ih=>
  intro i x hk hx
  have hi:i<o.2.2.2.1.length:=by omega
  have hq:=h.ds _ (List.getElem_mem hi)
  have hz:=sX hq
  rw[gy.b_eq o x (i:Int),ab,decide_eq_true hi,ae,decide_eq_true hi,aQ (τ:=aW) o.2.2.2.1 i hi,ah i _ hi (by omega),List.drop_eq_getElem_cons hi,eM]
  generalize o.2.2.2.1[i]=d at hq hz
  rw[qu _ (by omega),qu _ (by omega)]
  simp only[cond_true,Option.bind_some]
  rw[kE (by simp only[bQ];omega),kE (by unfold rP at hz;omega)]
  simp only[cond_true]
  have q:=ih (i+1) (x++rP d) (by omega) (by rw[ByteArray.size_append];omega)
  rw[ByteArray.append_assoc]at q
  exact q
theorem F9 {o:bl} (h:wH o):∀(k i:Nat) (x:ByteArray),i+k=o.2.2.2.2.1.length→x.size≤1700+28*i→gy.c o x (i:Int)=gy.c o (x++eM qt (o.2.2.2.2.1.drop i)) (o.2.2.2.2.1.length:Int):=by
 intro k
 have hl:=h.r
 induction k with
 |zero=>
  intro i x hi hx
  have:i=o.2.2.2.2.1.length:=by omega
  subst this
  rw[List.drop_length,eM,ByteArray.append_empty]
 |succ k ih=>
  intro i x hk hx
  have hi:i<o.2.2.2.2.1.length:=by omega
  have hq:=h.rs _ (List.getElem_mem hi)
  have hz:=sY hq
  rw[gy.c_eq o x (i:Int),ab,decide_eq_true hi,ae,decide_eq_true hi,aQ (τ:=bH) o.2.2.2.2.1 i hi,ah i _ hi (by omega),List.drop_eq_getElem_cons hi,eM]
  generalize o.2.2.2.2.1[i]=r at hq hz
  have h1:=hq.n
  rw[qu _ (by omega)]
  simp only[cond_true,uC,JO,Option.bind_some]
  have e:∀y:ByteArray,y=qt r→(bif decide (x.size+y.size≤9223372036854775807)then gy.c o (x++y) ((i+1:Nat):Int)else none)=gy.c o (x++(qt r++eM qt (o.2.2.2.2.1.drop (i+1)))) (o.2.2.2.2.1.length:Int):=by
   intro y hy
   subst hy
   rw[kE (by omega),cond_true,←ByteArray.append_assoc]
   exact ih (i+1) _ (by omega) (by rw[ByteArray.size_append];omega)
  rw[kE,kE,kE,kE]
  ·exact e _ rfl
  all_goals simp only[ByteArray.size_append,bQ,aB,aI];omega
theorem Ga {o:bl} (h:wH o):∀(k i:Nat) (x:ByteArray),i+k=o.2.2.2.2.2.length→x.size≤2700+2*i→gy.d o x (i:Int)=gy.d o (x++eM rQ (o.2.2.2.2.2.drop i)) (o.2.2.2.2.2.length:Int):=by
 intro k
 have hl:=h.s
 induction k with
 |zero=>
  intro i x hi hx
  have:i=o.2.2.2.2.2.length:=by omega
  subst this
  rw[List.drop_length,eM,ByteArray.append_empty]
 |succ k ih=>
  intro i x hk hx
  have hi:i<o.2.2.2.2.2.length:=by omega
  rw[gy.d_eq o x (i:Int),ab,decide_eq_true hi,ae,decide_eq_true hi,aQ (τ:=cz) o.2.2.2.2.2 i hi,ah i _ hi (by omega),List.drop_eq_getElem_cons hi,eM]
  generalize o.2.2.2.2.2[i]=d
  have hz:=sZ d
  rw[Ao]
  simp only[cond_true,uC,Option.bind_some]
  rw[kE (by simp only[aB,aI];omega),kE (by unfold rQ kF at hz;omega)]
  simp only[cond_true]
  have q:=ih (i+1) (x++rQ d) (by omega) (by rw[ByteArray.size_append];omega)
  rw[ByteArray.append_assoc]at q
  exact q
theorem mm {o:bl} (h:wH o):∃v,gy o=some (Hw (ml o) v):=by
 have l1:=h.n;have l2:=h.f;have l3:=h.d;have l4:=h.r;have l5:=h.s
 have z1:=iF (E:=qr) o.2.2.1 fun f hf=>sW (h.fs f hf)
 have z2:=iF (E:=rP) o.2.2.2.1 fun f hf=>sX (h.ds f hf)
 have z3:=iF (E:=qt) o.2.2.2.2.1 fun f hf=>sY (h.rs f hf)
 have z4:=iF (E:=rQ) o.2.2.2.2.2 fun f _=>sZ f
 have e4:(⟨#[80,79,66,49]⟩:ByteArray).size=4:=rfl
 have e4':SD.size=4:=rfl
 have hB:(ml o).size≤4000:=by unfold ml;simp only[ByteArray.size_append,bQ,nj];omega
 obtain⟨v,w1⟩:=Jj (ml o) (by omega)
 refine⟨v, ?_⟩
 rw[Nc,qu _ (by omega)]
 simp only[uC,Option.bind_some]
 rw[kE (by simp only[bQ];omega),kE (by simp only[ByteArray.size_append,bQ,aB,aI];omega),kE (by simp only[ByteArray.size_append,bQ,aB,aI];omega)]
 simp only[cond_true]
 rw[show(0:Int)=((0:Nat):Int) from rfl,F7 h o.2.2.1.length 0 _ (by omega) (by simp only[ByteArray.size_append,bQ,aB,aI];omega),gy.a_eq,ab,decide_eq_false (Nat.lt_irrefl _),List.drop_zero]
 simp only[cond_false,uC,Option.bind_some]
 rw[kE (by simp only[ByteArray.size_append,bQ,aB,aI];omega),cond_true,
  show(0:Int)=((0:Nat):Int) from rfl,F8 h o.2.2.2.1.length 0 _ (by omega) (by simp only[ByteArray.size_append,bQ,aB,aI];omega),gy.b_eq,ab,decide_eq_false (Nat.lt_irrefl _),List.drop_zero]
 simp only[cond_false,uC,Option.bind_some]
 rw[kE (by simp only[ByteArray.size_append,bQ,aB,aI];omega),cond_true,
  show(0:Int)=((0:Nat):Int) from rfl,F9 h o.2.2.2.2.1.length 0 _ (by omega) (by simp only[ByteArray.size_append,bQ,aB,aI];omega),gy.c_eq,ab,decide_eq_false (Nat.lt_irrefl _),List.drop_zero]
 simp only[cond_false,uC,Option.bind_some]
 rw[kE (by simp only[ByteArray.size_append,bQ,aB,aI];omega),cond_true,
  show(0:Int)=((0:Nat):Int) from rfl,Ga h o.2.2.2.2.2.length 0 _ (by omega) (by simp only[ByteArray.size_append,bQ,aB,aI];omega),gy.d_eq,ab,decide_eq_false (Nat.lt_irrefl _),List.drop_zero]
 simp only[cond_false]
 show(Dk (ml o)).bind (fun r19=>(ic r19 4).bind fun r20=>bif decide ((ml o).size+r20.size≤9223372036854775807)then some (ml o++r20)else none)=_
 rw[w1]
 simp only[Option.bind_some,JO]
 rw[kE (by simp only[aB,aI];omega)]
 rfl
theorem IC {n:Nat} (h:bf n=true):n≤256∧n%4=0:=by
 have h0:=ob h
 unfold bf at h
 cases h1:bZ n with
 |false=>rw[h1]at h;cases h
 |true=>
  refine⟨h0, ?_⟩
  have:=(dN h1).1
  omega
theorem wJ {o:bl} (hO:dG o) {r:AF} (h:gp o r=true):(0≤r.1∧r.1<256)∧(0≤r.2.1∧r.2.1<256):=by
 unfold gp at h
 rw[Bool.and_eq_true,bd,bd]at h
 have h1:=(oa o hO.toUnitSz r.1).2
 have h2:=hO.f
 have h3:=hO.d
 omega
theorem gL {o:bl} (h:ia o=true):wH o:=by
 have hO:=dH h
 have hN:=IB h
 refine⟨hN.n,by have:=hO.depth;omega,hO.f,hO.d,hO.r,hO.s,fun f hf=> ?_,fun d hd=> ?_,fun r hr=> ?_,fun d hd=> ?_⟩
 ·obtain⟨i,hi,e⟩:=gb (τ:=aC) hf
  obtain⟨g1,_,g3,g4⟩:=fL (hO.fun_ i hi)
  rw[e]at g1 g3 g4
  refine⟨dU g1, ?_,IC g4⟩
  unfold cS at g3
  cases hc:decide (16≤f.2.2.1)&&decide (f.2.2.1≤128)with
  |false=>rw[hc]at g3;cases g3
  |true=>rw[Bool.and_eq_true,decide_eq_true_eq,decide_eq_true_eq]at hc;omega
 ·obtain⟨i,hi,e⟩:=gb (τ:=aW) hd
  obtain⟨g1,_,g3⟩:=eQ (hO.dat i hi)
  rw[e]at g1 g3
  have:=kf g3
  exact⟨dU g1,by omega⟩
 ·obtain⟨i,hi,e⟩:=gb (τ:=bH) hr
  have g:=sM (hO.rel i hi)
  have g4:=hO.rel i hi
  unfold kI at g4
  rw[e]at g g4
  split at g4
  ·cases g4
  split at g4
  ·cases g4
  split at g4
  ·cases g4
  rename_i _ _ gn
  have gn:bY r.2.2.2.1=true:=by simpa using gn
  obtain⟨u1,u2⟩:=wJ hO g.at_
  exact⟨u1,u2,by have:=g.kind;omega,dU gn,g.add⟩
 ·obtain⟨i,hi,e⟩:=gb (τ:=cz) hd
  unfold ia at h
  rw[decide_eq_true_eq]at h
  unfold qU at h
  split at h
  ·cases h
  split at h
  ·cases h
  split at h
  ·cases h
  split at h
  ·cases h
  split at h
  ·rename_i h1;exact absurd h h1
  split at h
  ·rename_i h2;exact absurd h h2
  split at h
  ·rename_i h3;exact absurd h h3
  have g:=(cK _ _ _).1 h i (Nat.zero_le _) (by omega)
  unfold xk at g
  rw[e]at g
  cases hr:cP d.1 0 255 with
  |false=>rw[hr]at g;cases g
  |true=>have:=bd.1 hr;omega
def qv:Ty→Bool
 | .bool| .str| .int _=>true
 | .pair a b=>qv a&&qv b
 |_=>false
theorem uD:∀(τ:Ty),qv τ=true→∀x y:τ.den,d9 τ x y=true↔x=y
 | .bool,_,x,y=>by show((x:Bool)==y)=true↔_;simp
 | .str,_,x,y=>by show bh x y=true↔_;rw[aF,decide_eq_true_eq]
 | .int k,_,x,y=>by show decide ((x:Int)=y)=true↔_;rw[decide_eq_true_eq]
 | .pair a b,h,x,y=>by
  have h':qv a=true∧qv b=true:=by simpa[qv]using h
  show(d9 a x.1 y.1&&d9 b x.2 y.2)=true↔_
  rw[Bool.and_eq_true,uD a h'.1,uD b h'.2]
  exact⟨fun⟨h1,h2⟩=>Prod.ext h1 h2,fun h=>by rw[h];exact⟨rfl,rfl⟩⟩
 | .unit,h,_,_=>by cases h
 | .list _,h,_,_=>by cases h
 | .arr _ _,h,_,_=>by cases h
 | .opt _,h,_,_=>by cases h
theorem wK {τ:Ty} (p:τ.den→τ.den→Bool) (a b:List τ.den) (hp:∀i:Nat,i<a.length→i<b.length→(p (rd (τ:=τ) a (i:Int)) (rd (τ:=τ) b (i:Int))=true↔rd (τ:=τ) a (i:Int)=rd (τ:=τ) b (i:Int))):
  (decide (a.length=b.length)&&fG (fun i=>p (rd (τ:=τ) a (i:Int)) (rd (τ:=τ) b (i:Int))) 0 a.length)=true↔a=b:=by
 rw[Bool.and_eq_true,decide_eq_true_eq,dc]
 constructor
 ·rintro⟨h1,h2⟩
  refine List.ext_getElem h1 fun i hi hj=> ?_
  have:=(hp i hi hj).1 (h2 i (Nat.zero_le _) (by omega))
  rw[aQ a i hi,aQ b i hj]at this
  exact this
 ·rintro rfl
  exact⟨rfl,fun j _ hj=>(hp j (by omega) (by omega)).2 rfl⟩
def s7 (τ:Ty) (a b:List τ.den):Bool:=decide (a.length=b.length)&&fG (fun i=>d9 τ (rd (τ:=τ) a (i:Int)) (rd (τ:=τ) b (i:Int))) 0 a.length
theorem dK {τ:Ty} (h:qv τ=true) (a b:List τ.den):s7 τ a b=true↔a=b:=wK (d9 τ) a b fun i _ _=>uD τ h _ _
theorem Ap (a b:List Int):Im a b=true↔a=b:=dK (τ:= .int .i64) rfl a b
theorem Aq (a b:List ByteArray):O9 a b=true↔a=b:=wK (τ:= .str) (fun x y=>decide ((x:ByteArray)=y)) a b fun i _ _=>decide_eq_true_iff
theorem jc (a b:eX):dC a b=true↔a=b:=by
 unfold dC
 rw[Bool.and_eq_true,Bool.and_eq_true,Bool.and_eq_true,Ap,Aq,Ap,Aq]
 exact⟨fun⟨h1,h2,h3,h4⟩=>Prod.ext h1 (Prod.ext h2 (Prod.ext h3 h4)),fun h=>by rw[h];exact⟨rfl,rfl,rfl,rfl⟩⟩
theorem qw (a b:List Sv):rF a b=true↔a=b:=dK (τ:=gv) rfl a b
theorem ID (a b:List k6) (h:a.length≤1048576):Zz a b=some (s7 bE a b):=by
 rw[P5]
 refine be (L:=Zz.a a b (a.length:Int)) _ (fun _=> ?_) fun hl i hi=> ?_
 ·rw[Zz.a_eq,ab,decide_eq_false (Nat.lt_irrefl _),cond_false]
 ·rw[Zz.a_eq,ab,ae,ae,decide_eq_true hi,decide_eq_true (show i<b.length by omega),ah i _ hi (by omega)]
  simp only[cond_true]
  cases d9 bE (rd (τ:=bE) a (i:Int)) (rd (τ:=bE) b (i:Int))<;>rfl
theorem wL (a b:List fH) (h:a.length≤1048576):Gi a b=some (s7 aO a b)∧Hl a b=some (s7 aO a b):=by
 rw[JT,M7]
 constructor
 ·refine be (L:=Gi.a a b (a.length:Int)) _ (fun _=> ?_) fun hl i hi=> ?_
  ·rw[Gi.a_eq,ab,decide_eq_false (Nat.lt_irrefl _),cond_false]
  ·rw[Gi.a_eq,ab,ae,ae,decide_eq_true hi,decide_eq_true (show i<b.length by omega),ah i _ hi (by omega)]
   simp only[cond_true]
   cases d9 aO (rd (τ:=aO) a (i:Int)) (rd (τ:=aO) b (i:Int))<;>rfl
 ·refine be (L:=Hl.a a b) _ (fun _=> ?_) fun hl i hi=> ?_
  ·rw[Hl.a_eq,ab,decide_eq_false (Nat.lt_irrefl _),cond_false]
  ·rw[Hl.a_eq,ab,ae,ae,decide_eq_true hi,decide_eq_true (show i<b.length by omega),ah i _ hi (by omega)]
   simp only[cond_true]
   cases d9 aO (rd (τ:=aO) a (i:Int)) (rd (τ:=aO) b (i:Int))<;>rfl
theorem wM (a b:List Sh) (h:a.length≤1048576):Gj a b=some (s7 kH a b)∧Hm a b=some (s7 kH a b):=by
 rw[JY,M8]
 constructor
 ·refine be (L:=Gj.a a b (a.length:Int)) _ (fun _=> ?_) fun hl i hi=> ?_
  ·rw[Gj.a_eq,ab,decide_eq_false (Nat.lt_irrefl _),cond_false]
  ·rw[Gj.a_eq,ab,ae,ae,decide_eq_true hi,decide_eq_true (show i<b.length by omega),ah i _ hi (by omega)]
   simp only[cond_true]
   cases d9 kH (rd (τ:=kH) a (i:Int)) (rd (τ:=kH) b (i:Int))<;>rfl
 ·refine be (L:=Hm.a a b) _ (fun _=> ?_) fun hl i hi=> ?_
  ·rw[Hm.a_eq,ab,decide_eq_false (Nat.lt_irrefl _),cond_false]
  ·rw[Hm.a_eq,ab,ae,ae,decide_eq_true hi,decide_eq_true (show i<b.length by omega),ah i _ hi (by omega)]
   simp only[cond_true]
   cases d9 kH (rd (τ:=kH) a (i:Int)) (rd (τ:=kH) b (i:Int))<;>rfl
def nZ (a b:IY):Bool:=decide (a.1=b.1)&&(d9 xd a.2.1 b.2.1&&(Im a.2.2.1 b.2.2.1&&decide (a.2.2.2=b.2.2.2)))
theorem Gb (a b:IY) (h:a.2.2.1.length≤1048576):RF a b=some (nZ a b)∧Se a b=some (nZ a b):=by
 rw[JV,M9,(kw _ _ h).1,(kw _ _ h).2]
 unfold nZ
 simp only[Option.bind_some]
 cases decide (a.1=b.1)<;>cases d9 xd a.2.1 b.2.1<;>cases Im a.2.2.1 b.2.2.1<;>cases decide (a.2.2.2=b.2.2.2)<;>exact⟨rfl,rfl⟩
def uE (a b:List IY):Bool:=decide (a.length=b.length)&&fG (fun i=>nZ (rd (τ:=eA) a (i:Int)) (rd (τ:=eA) b (i:Int))) 0 a.length
def As (m n:Pb):Bool:=s7 aO m.1 n.1&&(uE m.2.1 n.2.1&&(Pa m.2.2.1 n.2.2.1&&s7 kH m.2.2.2 n.2.2.2))
theorem JP (m n:Pb) (hm:uN m=true):RH m n=some (As m n)∧Ec m n=some (As m n):=by
 obtain⟨l1,l2⟩:=wD hm
 have hh:=hm
 unfold uN at hh
 rw[Bool.and_eq_true,Bool.and_eq_true,Bool.and_eq_true]at hh
 obtain⟨_,_,h3,h4⟩:=hh
 unfold KW at h3
 unfold xh at h4
 rw[Bool.and_eq_true,decide_eq_true_eq]at h3
 rw[Bool.and_eq_true,bd]at h4
 have hn:m.2.1.length≤4:=by omega
 have ho:∀i:Nat,i<m.2.1.length→(rd (τ:=eA) m.2.1 (i:Int)).2.2.1.length≤1048576:=fun i hi=>by
  have:=(dc _ _ 0).1 h4.2 i (Nat.zero_le _) (by omega)
  obtain⟨t,ht⟩:∃t:IY,rd (τ:=eA) m.2.1 (i:Int)=t:=⟨_,rfl⟩
  rw[ht]at this⊢
  unfold xg at this
  by_cases hz:(t.2.2.1.length:Int)≤32
  ·omega
  ·rw[decide_eq_false hz]at this
   cases h1:cP t.1 1 3<;>cases h2:xe t.2.1<;>simp[h1,h2]at this
 have hT1:RG m.2.1 n.2.1=some (uE m.2.1 n.2.1):=by
  rw[JX,JW]
  have:=be (n:=m.2.1.length) (m:=n.2.1.length) (L:=Hx.a n.2.1 m.2.1 (m.2.1.length:Int)) (fun i=>nZ (rd (τ:=eA) m.2.1 (i:Int)) (rd (τ:=eA) n.2.1 (i:Int))) (fun _=>by
   rw[Hx.a_eq,ab,decide_eq_false (Nat.lt_irrefl _),cond_false]) fun hl i hi=>by
   rw[Hx.a_eq,ab,ae,ae,decide_eq_true hi,decide_eq_true (show i<n.2.1.length by omega),ah i _ hi (by omega),(Gb _ _ (ho i hi)).1]
   simp only[cond_true,Option.bind_some]
   cases nZ (rd (τ:=eA) m.2.1 (i:Int)) (rd (τ:=eA) n.2.1 (i:Int))<;>rfl
  rw[this];rfl
 rw[JZ,Na,JU,(wL _ _ (by omega)).1,(wL _ _ (by omega)).2,hT1,(oP _ _ (by omega)).1,(oP _ _ (by omega)).2,(wM _ _ (by omega)).1,(wM _ _ (by omega)).2]
 simp only[Option.bind_some]
 have hT2:=be (n:=m.2.1.length) (m:=n.2.1.length) (L:=Ec.a m n) (fun i=>nZ (rd (τ:=eA) m.2.1 (i:Int)) (rd (τ:=eA) n.2.1 (i:Int))) (fun _=>by
   rw[Ec.a_eq,ab,decide_eq_false (Nat.lt_irrefl _),cond_false]) fun hl i hi=>by
   rw[Ec.a_eq,ab,ae,ae,decide_eq_true hi,decide_eq_true (show i<n.2.1.length by omega),ah i _ hi (by omega),(Gb _ _ (ho i hi)).2]
   simp only[cond_true,Option.bind_some]
   cases nZ (rd (τ:=eA) m.2.1 (i:Int)) (rd (τ:=eA) n.2.1 (i:Int))<;>rfl
 unfold As
 have hT3:(bif (!decide ((m.2.1.length:Int)=(n.2.1.length:Int)))then some false else Ec.a m n 0)=some (uE m.2.1 n.2.1):=hT2
 constructor
 ·cases s7 aO m.1 n.1<;>cases uE m.2.1 n.2.1<;>cases Pa m.2.2.1 n.2.2.1<;>cases s7 kH m.2.2.2 n.2.2.2<;>rfl
 ·cases s7 aO m.1 n.1 with
  |false=>rfl
  |true=>
   cases Pa m.2.2.1 n.2.2.1 with
   |false=>
    simp only[Bool.not_true,Bool.not_false,cond_true,cond_false,Bool.false_and,Bool.and_false]
    cases (!decide ((m.2.1.length:Int)=(n.2.1.length:Int)))<;>rfl
   |true=>
    cases s7 kH m.2.2.2 n.2.2.2 with
    |false=>
     simp only[Bool.not_true,Bool.not_false,cond_true,cond_false,Bool.and_false]
     cases (!decide ((m.2.1.length:Int)=(n.2.1.length:Int)))<;>rfl
    |true=>
     simp only[Bool.not_true,cond_false,Bool.and_true,Bool.true_and]
     exact hT3
theorem IE (a b:List Pd) (h:a.length≤1048576):Gk a b=some (s7 aC a b):=by
 rw[J0]
 refine be (L:=Gk.a a b (a.length:Int)) _ (fun _=> ?_) fun hl i hi=> ?_
 ·rw[Gk.a_eq,ab,decide_eq_false (Nat.lt_irrefl _),cond_false]
 ·rw[Gk.a_eq,ab,ae,ae,decide_eq_true hi,decide_eq_true (show i<b.length by omega),ah i _ hi (by omega)]
  simp only[cond_true]
  cases d9 aC (rd (τ:=aC) a (i:Int)) (rd (τ:=aC) b (i:Int))<;>rfl
theorem IF (a b:List Pe) (h:a.length≤1048576):Gl a b=some (s7 aW a b):=by
 rw[J1]
 refine be (L:=Gl.a a b (a.length:Int)) _ (fun _=> ?_) fun hl i hi=> ?_
 ·rw[Gl.a_eq,ab,decide_eq_false (Nat.lt_irrefl _),cond_false]
 ·rw[Gl.a_eq,ab,ae,ae,decide_eq_true hi,decide_eq_true (show i<b.length by omega),ah i _ hi (by omega)]
  simp only[cond_true]
  cases d9 aW (rd (τ:=aW) a (i:Int)) (rd (τ:=aW) b (i:Int))<;>rfl
theorem IG (a b:List AF) (h:a.length≤1048576):Gm a b=some (s7 bH a b):=by
 rw[J2]
 refine be (L:=Gm.a a b (a.length:Int)) _ (fun _=> ?_) fun hl i hi=> ?_
 ·rw[Gm.a_eq,ab,decide_eq_false (Nat.lt_irrefl _),cond_false]
 ·rw[Gm.a_eq,ab,ae,ae,decide_eq_true hi,decide_eq_true (show i<b.length by omega),ah i _ hi (by omega)]
  simp only[cond_true]
  cases d9 bH (rd (τ:=bH) a (i:Int)) (rd (τ:=bH) b (i:Int))<;>rfl
theorem IH (a b:List (Int×Bool)) (h:a.length≤1048576):Gn a b=some (s7 cz a b):=by
 rw[J3]
 refine be (L:=Gn.a a b (a.length:Int)) _ (fun _=> ?_) fun hl i hi=> ?_
 ·rw[Gn.a_eq,ab,decide_eq_false (Nat.lt_irrefl _),cond_false]
 ·rw[Gn.a_eq,ab,ae,ae,decide_eq_true hi,decide_eq_true (show i<b.length by omega),ah i _ hi (by omega)]
  simp only[cond_true]
  cases d9 cz (rd (τ:=cz) a (i:Int)) (rd (τ:=cz) b (i:Int))<;>rfl
theorem wN (a b:bl) (h:ObjSz a):∃v,RI a b=some v∧(v=true↔a=b):=by
 have h1:=h.f;have h2:=h.d;have h3:=h.r;have h4:=h.s
 rw[J4,aF,IE _ _ (by omega),IF _ _ (by omega),IG _ _ (by omega),IH _ _ (by omega)]
 simp only[Option.bind_some]
 by_cases e1:a.1=b.1
 ·rw[decide_eq_true e1,cond_true]
  by_cases e2:a.2.1=b.2.1
  ·rw[decide_eq_true e2,cond_true]
   cases q1:s7 aC a.2.2.1 b.2.2.1 with
   |false=>exact⟨_,rfl,fun h=>(by cases h),fun h=>by rw[h,(dK (τ:=aC) rfl _ _).2 rfl]at q1;cases q1⟩
   |true=>
    cases q2:s7 aW a.2.2.2.1 b.2.2.2.1 with
    |false=>exact⟨_,rfl,fun h=>(by cases h),fun h=>by rw[h,(dK (τ:=aW) rfl _ _).2 rfl]at q2;cases q2⟩
    |true=>
     cases q3:s7 bH a.2.2.2.2.1 b.2.2.2.2.1 with
     |false=>exact⟨_,rfl,fun h=>(by cases h),fun h=>by rw[h,(dK (τ:=bH) rfl _ _).2 rfl]at q3;cases q3⟩
     |true=>
      refine⟨_,rfl,fun q4=>Prod.ext e1 (Prod.ext e2 (Prod.ext ((dK (τ:=aC) rfl _ _).1 q1) (Prod.ext ((dK (τ:=aW) rfl _ _).1 q2) (Prod.ext ((dK (τ:=bH) rfl _ _).1 q3) ((dK (τ:=cz) rfl _ _).1 q4))))),fun h=> ?_⟩
      rw[h];exact(dK (τ:=cz) rfl _ _).2 rfl
  ·rw[decide_eq_false e2]
   exact⟨_,rfl,fun h=>(by cases h),fun h=>absurd (by rw[h]) e2⟩
 ·rw[decide_eq_false e1]
  exact⟨_,rfl,fun h=>(by cases h),fun h=>absurd (by rw[h]) e1⟩
theorem wO (ps:List xt) (hp:ps.length≤6) (hW:qi ps) (i:Nat) (hi:i<ps.length) (t:List cW) (P:List Pc) (F:Int→Int) (a b:bm) (hL:rE i t P F a b) (hO:∀j:Nat,j<i→ia (rd (τ:=aZ) ps (j:Int)).1=true) (p:xt) (hpe:rd (τ:=aZ) ps (i:Int)=p):
  ∃R,Ze.a ps true ZI (t,P,ar F BL,a,b) ps (ps.length:Int) (i:Int)=R∧(R=some (ZI,false)∨
  (ia p.1=true∧∃(l:eX) (sv:List Sv) (t':List cW) (P':List Pc) (F':Int→Int) (a' b':bm),Zd (t,P,ar F BL,a,b) p.1 ((i+1:Nat):Int)=some (l,sv,0,(t',P',ar F' BL,a',b'))∧rE (i+1) t' P' F' a' b'∧
   R=bif dC l p.2.1 then bif rF sv p.2.2 then Ze.a ps true ZI (t',P',ar F' BL,a',b') ps (ps.length:Int) ((i+1:Nat):Int)else some (ZI,false)else some (ZI,false))):=by
 have hr:=hW i hi
 rw[Ze.a_eq ps true ZI (t,P,ar F BL,a,b),ab,ae,decide_eq_true hi]
 simp only[cond_true,aA]
 rw[hpe]at hr⊢
 rw[(gq p.1 hr).1]
 simp only[Option.bind_some]
 cases hob:ia p.1 with
 |false=>exact⟨_,rfl,.inl rfl⟩
 |true=>
  simp only[Bool.not_true,cond_false]
  by_cases hdep:p.1.2.1=(i:Int)
  ·rw[decide_eq_true hdep,gm i _ (by omega),gk]
   simp only[Bool.not_true,cond_false,cond_true]
   have hpo:=dH hob
   have hlt:(ps.take i).length=i:=by rw[List.length_take];omega
   have hsz:∀j:Nat,j< (ps.take i).length→ObjSz (rd (τ:=aZ) (ps.take i) (j:Int)).1:=fun j hj=>by
    rw[hlt]at hj
    rw[An (τ:=aZ) ps i j hj (by omega)]
    exact(dH (hO j hj)).toObjSz
   rw[dm (L:=Ze.b ps true ZI (t,P,ar F BL,a,b) (i:Int) p ps (ps.length:Int) (i:Int) (ps.take i) ((ps.take i).length:Int)) (fun j=>decide ((rd (τ:=aZ) (ps.take i) (j:Int)).1.1=p.1.1)||lE (rd (τ:=aZ) (ps.take i) (j:Int)).1 p.1) (ps.take i).length (some (ZI,false)) fun j hj=> ?_]
   ·rw[um]
    show∃R,(bif (i9 (ps.take i) p.1||ge (ps.take i) p.1)then _ else _)=R∧_
    cases hna:i9 (ps.take i) p.1 with
    |true=>exact⟨_,rfl,.inl rfl⟩
    |false=>
     cases hsa:ge (ps.take i) p.1 with
     |true=>exact⟨_,rfl,.inl rfl⟩
     |false=>
      simp only[Bool.or_self,cond_false]
      rw[Ze.b_eq,ab,decide_eq_false (Nat.lt_irrefl _),cond_false,ah i ps.length hi (by omega)]
      obtain⟨v,e1,e2,e3⟩:=wB i (by omega) t P F a b hL p.1 hr hob
      by_cases hv:v.2.2.2=0
      ·obtain⟨t',P',F',sv,hsv,hL',hl',g1,g2⟩:=e3 hv
       rw[g1]
       refine⟨_,rfl,.inr ⟨trivial,v.1,sv,t',P',F',v.2.1,v.2.2.1,rfl,hL', ?_⟩⟩
       simp only[Option.bind_some,decide_true,Bool.not_true,cond_false,aA]
       have hof:=hpo.f
       have hod:=hpo.d
       rw[(lD v.1 p.2.1 (by rw[hl'.a];omega) (by rw[hl'.c];omega) (by rw[hl'.d];omega) (by rw[hl'.b];omega)).1]
       simp only[Option.bind_some]
       cases dC v.1 p.2.1 with
       |false=>rfl
       |true=>
        simp only[Bool.not_true,cond_false,cond_true]
        rw[(jT sv p.2.2 (by omega)).1]
        simp only[Option.bind_some]
        cases rF sv p.2.2<;>rfl
      ·obtain⟨x,g1⟩:=e2 hv
       rw[g1]
       simp only[Option.bind_some,aA,Bool.not_true,cond_false]
       rw[decide_eq_false hv]
       exact⟨_,rfl,.inl rfl⟩
   ·have hj2:=hj
    rw[hlt]at hj2
    rw[Ze.b_eq,ab,ae,decide_eq_true hj,ah j _ hj (by omega),sS _ _ (hsz j hj) hpo.toObjSz,aF]
    simp only[cond_true,Option.bind_some]
    cases decide ((rd (τ:=aZ) (ps.take i) (j:Int)).1.1=p.1.1)<;>cases lE (rd (τ:=aZ) (ps.take i) (j:Int)).1 p.1<;>rfl
  ·rw[decide_eq_false hdep]
   exact⟨_,rfl,.inl rfl⟩
theorem wP (ps qs:List xt) (hp:ps.length≤6) (hl:qs.length=ps.length) (hW:qi ps) (hW':qi qs) (d:Nat) (hd:d≤ps.length) (ho:∀j:Nat,j<d→(rd (τ:=aZ) ps (j:Int)).1=(rd (τ:=aZ) qs (j:Int)).1):
  ∀(k i:Nat) (t:List cW) (P:List Pc) (F:Int→Int) (a b:bm),i+k=d→rE i t P F a b→(∀j:Nat,j<i→ia (rd (τ:=aZ) ps (j:Int)).1=true)→∀y y',
   Ze.a ps true ZI (t,P,ar F BL,a,b) ps (ps.length:Int) (i:Int)=some (y,true)→Ze.a qs true ZI (t,P,ar F BL,a,b) qs (qs.length:Int) (i:Int)=some (y',true)→
   ∀j:Nat,i≤j→j<d→rd (τ:=aZ) ps (j:Int)=rd (τ:=aZ) qs (j:Int):=by
 intro k
 induction k with
 |zero=>intro i t P F a b h _ _ y y' _ _ j h1 h2;omega
 |succ k ih=>
  intro i t P F a b h hL hO y y' e e' j h1 h2
  have hi:i<ps.length:=by omega
  obtain⟨p,hpe⟩:∃p:xt,rd (τ:=aZ) ps (i:Int)=p:=⟨_,rfl⟩
  obtain⟨q,hqe⟩:∃q:xt,rd (τ:=aZ) qs (i:Int)=q:=⟨_,rfl⟩
  have hpq:p.1=q.1:=by rw[←hpe,←hqe];exact ho i (by omega)
  obtain⟨R,hR,g|⟨g0,l,sv,t',P',F',a',b',g1,g2,g3⟩⟩:=wO ps hp hW i hi t P F a b hL hO p hpe
  ·rw[hR,g]at e;cases e
  obtain⟨R',hR',f|⟨f0,l2,sv2,t2,P2,F2,a2,b2,f1,f2,f3⟩⟩:=wO qs (by omega) hW' i (by omega) t P F a b hL (fun j hj=>by rw[←ho j (by omega)];exact hO j hj) q hqe
  ·rw[hR',f]at e';cases e'
  rw[hpq,f1]at g1
  simp only[Option.some.injEq,Prod.mk.injEq]at g1
  obtain⟨rfl,rfl,_,rfl,rfl,hm,rfl,rfl⟩:=g1
  rw[hR,g3]at e
  rw[hR',f3]at e'
  cases c1:dC l2 p.2.1 with
  |false=>rw[c1]at e;cases e
  |true=>
   cases c2:rF sv2 p.2.2 with
   |false=>rw[c1,c2]at e;cases e
   |true=>
    cases c3:dC l2 q.2.1 with
    |false=>rw[c3]at e';cases e'
    |true=>
     cases c4:rF sv2 q.2.2 with
     |false=>rw[c3,c4]at e';cases e'
     |true=>
      rw[c1,c2]at e
      rw[c3,c4]at e'
      simp only[cond_true]at e e'
      have d1:=(jc _ _).1 c1
      have d2:=(qw _ _).1 c2
      have d3:=(jc _ _).1 c3
      have d4:=(qw _ _).1 c4
      by_cases hij:j=i
      ·rw[hij,hpe,hqe]
       exact Prod.ext hpq (Prod.ext (d1.symm.trans d3) (d2.symm.trans d4))
      ·rw[hm]at e'
       exact ih (i+1) t2 P2 F' a2 b2 (by omega) g2 (fun j hj=>by
        by_cases e:j=i
        ·rw[e,hpe];exact g0
        ·exact hO j (by omega)) y y' e e' j (by omega) h2
theorem Gd {im:fj} (h:mB im=true):IA im∧∀s∈im.2.2,yX s:=by
 obtain⟨i1,i2,i3⟩:=cF im
 have hI:=i3 h
 have hn:=hI.sz.n
 have hc:=hI.sz.c
 have hd:=hI.sz.d
 have hs:∀s∈im.2.2,yX s:=fun s hs=>by
  obtain⟨i,hi,e⟩:=gb (τ:=bE) hs
  obtain⟨g,gf⟩:=hI.sym i hi
  rw[e]at g gf
  have h0:=g.at0
  have h1:=g.size
  refine⟨dU g.name, ?_⟩
  rcases g.kind with hk|hk
  ·have h2:=g.func hk
   have h3:=(gf hk).1
   have h4:16≤s.2.2.2.2∧s.2.2.2.2≤128:=by
    have h5:=(gf hk).2.1
    unfold cS at h5
    cases hc:decide (16≤s.2.2.2.2)&&decide (s.2.2.2.2≤128)with
    |false=>rw[hc]at h5;cases h5
    |true=>rwa [Bool.and_eq_true,decide_eq_true_eq,decide_eq_true_eq]at hc
   exact⟨⟨by omega,by omega⟩,⟨by omega,by omega⟩,⟨by omega,by omega⟩,⟨by omega,by omega⟩⟩
  ·have h2:=g.data hk
   exact⟨⟨by omega,by omega⟩,⟨by omega,by omega⟩,⟨by omega,by omega⟩,⟨by omega,by omega⟩⟩
 exact⟨⟨hn,by omega,by omega,fun s h=>(hs s h).1,by rw[i1,h],by rw[i2,h]⟩,hs⟩
theorem Ge (im:fj) (hl:im.2.2.length≤16) (hn:∀s∈im.2.2,s.1.size≤20):∀(k i:Nat) (x:ByteArray),i+k=im.2.2.length→x.size≤4000+27*i→∃v,zI.a im x (i:Int)=some (Hw (x++nX (im.2.2.drop i)) v):=by
 intro k
 induction k with
 |zero=>
  intro i x h hx
  have:i=im.2.2.length:=by omega
  subst this
  obtain⟨v,h1⟩:=Jj x (by omega)
  refine⟨v, ?_⟩
  rw[zI.a_eq,ab,decide_eq_false (Nat.lt_irrefl _),List.drop_length,nX,ByteArray.append_empty,h1]
  simp only[cond_false,JO,Option.bind_some]
  rw[kE (by rw[aB,aI];omega)];rfl
 |succ k ih=>
  intro i x h hx
  have hi:i<im.2.2.length:=by omega
  have hs:=hn _ (List.getElem_mem hi)
  rw[zI.a_eq,ab,decide_eq_true hi,ae,decide_eq_true hi,aQ (τ:=bE) im.2.2 i hi,ah i _ hi (by omega),List.drop_eq_getElem_cons hi,nX,←ByteArray.append_assoc]
  generalize hS:im.2.2[i]=s at hs
  rw[nY _ (by omega)]
  simp only[cond_true,uC,Py,Option.bind_some]
  have e:∀y:ByteArray,y=uB s→∃v,(bif decide (x.size+y.size≤9223372036854775807)then zI.a im (x++y) ((i+1:Nat):Int)else none)=some (Hw (x++uB s++nX (im.2.2.drop (i+1))) v):=by
   intro y hy
   subst hy
   have hz:=Cr s
   rw[kE (by omega),cond_true]
   exact ih (i+1) _ (by omega) (by rw[ByteArray.size_append];omega)
  rw[kE,kE,kE,kE]
  ·exact e _ rfl
  all_goals simp only[ByteArray.size_append,aB,aI];omega
theorem At {im:fj} (h:IA im):∃v,zI im=some (Hw (Iz im) v):=by
 have hn:=h.n
 have hc:=h.c
 have hd:=h.d
 rw[M6]
 simp only[Option.bind_some,uC,Py]
 rw[kE,kE,kE,kE,kE]
 ·have hz:=Cs im
  exact Ge im hn h.s im.2.2.length 0 (FV im) (by omega) (by omega)
 all_goals simp only[ByteArray.size_append,aB,aI,Ji];omega
theorem oR {v w:Int} {x y:ByteArray} (h:av (fk v 2)++x=av (fk w 2)++y) (hv:0≤v∧v<65536) (hw:0≤w∧w<65536):v=w∧x=y:=by
 obtain⟨h1,h2⟩:=yY h
 rw[show(256:Int)^2=65536 by decide]at h1
 exact⟨by omega,h2⟩
theorem Gf (a b:k6) (x y:ByteArray) (ha:yX a) (hb:yX b) (h:uB a++x=uB b++y):a=b∧x=y:=by
 obtain⟨a1,a2,a3,a4,a5⟩:=ha
 obtain⟨b1,b2,b3,b4,b5⟩:=hb
 unfold uB at h
 simp only[ByteArray.append_assoc]at h
 obtain⟨e0,h⟩:=cf h ⟨by omega,by omega⟩ ⟨by omega,by omega⟩
 obtain⟨e1,h⟩:=ja h (by omega)
 obtain⟨e2,h⟩:=cf h a2 b2
 obtain⟨e3,h⟩:=oR h a3 b3
 obtain⟨e4,h⟩:=oR h a4 b4
 obtain⟨e5,h⟩:=cf h a5 b5
 exact⟨Prod.ext e1 (Prod.ext e2 (Prod.ext e3 (Prod.ext e4 e5))),h⟩
theorem nk:∀l:List k6,nX l=eM uB l
 | []=>rfl
 |s::l=>by rw[nX,eM,nk l]
theorem Gg {a b:fj} (tA:IA a) (sA:∀s∈a.2.2,yX s) (tB:IA b) (sB:∀s∈b.2.2,yX s) (x y:ByteArray) (h:Iz a++x=Iz b++y):a=b:=by
 have nA:=tA.n;have cA:=tA.c;have dA:=tA.d;have nB:=tB.n;have cB:=tB.c;have dB:=tB.d
 unfold Iz FV at h
 rw[nk,nk]at h
 simp only[ByteArray.append_assoc]at h
 obtain⟨_,h⟩:=ja h rfl
 obtain⟨e0,h⟩:=oR h ⟨by omega,by omega⟩ ⟨by omega,by omega⟩
 obtain⟨e1,h⟩:=ja h (by omega)
 obtain⟨e2,h⟩:=oR h ⟨by omega,by omega⟩ ⟨by omega,by omega⟩
 obtain⟨e3,h⟩:=ja h (by omega)
 obtain⟨e4,h⟩:=cf h ⟨by omega,by omega⟩ ⟨by omega,by omega⟩
 obtain⟨e5,_⟩:=kx (Q:=yX) Gf _ _ _ _ (by omega) sA sB h
 exact Prod.ext e1 (Prod.ext e3 e5)
theorem y6 (a b:fj) (ha:mB a=true) (hb:mB b=true):∃v,RE a b=some v∧(v=true↔a=b)∧∃ta tb,zI a=some ta∧zI b=some tb∧(ta=tb↔a=b):=by
 obtain⟨tA,sA⟩:=Gd ha
 obtain⟨tB,sB⟩:=Gd hb
 have hn:=tA.n
 rw[JS,aF,aF,ID _ _ (by omega)]
 obtain⟨va,wa⟩:=At tA
 obtain⟨vb,wb⟩:=At tB
 have hiff:(bif decide (a.1=b.1)then bif decide (a.2.1=b.2.1)then s7 bE a.2.2 b.2.2 else false else false)=true↔a=b:=by
  constructor
  ·intro h
   by_cases h1:a.1=b.1
   ·by_cases h2:a.2.1=b.2.1
    ·rw[decide_eq_true h1,decide_eq_true h2]at h
     exact Prod.ext h1 (Prod.ext h2 ((dK (τ:=bE) rfl _ _).1 h))
    ·rw[decide_eq_true h1,decide_eq_false h2]at h;cases h
   ·rw[decide_eq_false h1]at h;cases h
  ·intro h
   subst h
   rw[decide_eq_true rfl,decide_eq_true rfl]
   exact(dK (τ:=bE) rfl _ _).2 rfl
 refine⟨_, ?_,hiff,_,_,wa,wb,⟨fun h=> ?_,fun h=>by subst h;rw[wa]at wb;exact Option.some.inj wb⟩⟩
 ·cases decide (a.1=b.1)<;>cases decide (a.2.1=b.2.1)<;>rfl
 ·unfold Hw at h
  exact Gg tA sA tB sB _ _ h
theorem jd (p q:xt) (hp:ia p.1=true) (hq:ia q.1=true) (hl:p.2.1.1.length≤1048576∧p.2.1.2.1.length≤1048576∧p.2.1.2.2.1.length≤1048576∧p.2.1.2.2.2.length≤1048576∧p.2.2.length≤1048576) (hd:p.1=q.1→p=q):
  ∃v,RJ p q=some v∧(v=true↔p.1=q.1)∧∃tp tq,gy p.1=some tp∧gy q.1=some tq∧bh tp tq=v:=by
 obtain⟨l1,l2,l3,l4,l5⟩:=hl
 obtain⟨v,e1,e2⟩:=wN p.1 q.1 (dH hp).toObjSz
 obtain⟨x,tx⟩:=mm (gL hp)
 obtain⟨y,ty⟩:=mm (gL hq)
 have ht:Hw (ml p.1) x=Hw (ml q.1) y↔p.1=q.1:=by
  constructor
  ·intro h
   unfold Hw at h
   exact wI (gL hp) (gL hq) _ _ h
  ·intro h
   rw[h]
   rw[h,ty]at tx
   exact(Option.some.inj tx).symm
 rw[Gp,e1,(lD _ _ l1 l2 l3 l4).1,(jT _ _ l5).1]
 simp only[Option.bind_some]
 cases v with
 |false=>
  have hne:¬p.1=q.1:=fun h=>by have:=e2.2 h;cases this
  exact⟨false,rfl,e2,_,_,tx,ty,by rw[aF];exact decide_eq_false fun h=>hne (ht.1 h)⟩
 |true=>
  have he:=e2.1 rfl
  have hpq:=hd he
  subst hpq
  rw[(jc p.2.1 p.2.1).2 rfl,(qw p.2.2 p.2.2).2 rfl]
  exact⟨true,rfl,e2,_,_,tx,ty,by rw[aF];exact decide_eq_true (ht.2 he)⟩
theorem gM {s:Qv} {y:Ii} (him:mB s.1=true) (h:Zx s=some (y,true)):s.2.2.length≤6∧∃y',Ze.a s.2.2 true ZI (lC s.1,rD s.1,ar (F0 s.1) BL,(8192,1024,8192),(20480,256,20480)) s.2.2 (s.2.2.length:Int) ((0:Nat):Int)=some (y',true):=by
 obtain⟨i1,i2,i3⟩:=cF s.1
 obtain⟨n1,n2⟩:=Al s.1 (i3 him).sz
 rw[Au,wS,i1,him,n1]at h
 simp only[Option.bind_some,aA,Bool.not_true,cond_false]at h
 rcases Nat.lt_or_ge 6 s.2.2.length with hl|hl
 ·rw[decide_eq_true (show(s.2.2.length:Int)>6 by omega)]at h
  simp only[cond_true,Option.bind_some,Bool.not_false]at h
  cases h
 ·refine⟨hl, ?_⟩
  rw[decide_eq_false (show¬(s.2.2.length:Int)>6 by omega)]at h
  simp only[cond_false]at h
  rw[show((0:Nat):Int)=0 from rfl]
  cases hr:Ze.a s.2.2 true ZI (lC s.1,rD s.1,ar (F0 s.1) BL,(8192,1024,8192),(20480,256,20480)) s.2.2 (s.2.2.length:Int) 0 with
  |none=>rw[hr]at h;cases h
  |some r=>
   obtain⟨r1,r2⟩:=r
   rw[hr]at h
   cases r2 with
   |true=>exact⟨r1,rfl⟩
   |false=>simp only[Option.bind_some,Bool.not_false,cond_true]at h;cases h
end Go.Proofs.YtnjljkceeijaaaaGreat.S
