import Derived.Test.YtiahcgampoehdaaGreatDoorSxP
namespace Go.Proofs.YtiahcgampoehdaaGreatDoor.S
open Go.Ps
set_option linter.unusedVariables false
set_option maxRecDepth 100000
theorem xR (o:bn) (hz:UnitSz o) (x4:bm) (x6:eY) (x7 x8:bm) (l3:List Int) (l4:List ByteArray):∀(k i:Nat) (a:bm) (ats:List Int) (codes:List ByteArray),i+k=o.2.2.1.length→cc a→ats.length=i→codes.length=i→
  ((d6 (ge o) a i k).2.2=true→qH.a a x4 o x6 x7 x8 (ats,codes,l3,l4) (i:Int)=qH.b (d6 (ge o) a i k).1 x4 o x6 x7 x8 (ats++(d6 (ge o) a i k).2.1,codes++bc (kN o) i k,l3,l4) 0)∧
  ((d6 (ge o) a i k).2.2=false→∃r,qH.a a x4 o x6 x7 x8 (ats,codes,l3,l4) (i:Int)=some r∧r.2.2.2=false):=by
 have h4:=hz.f
 intro k
 induction k with
 |zero=>
  intro i a ats codes hk ha h1 h2
  have:i=o.2.2.1.length:=by omega
  subst this
  rw[qH.a_eq,ab,decide_eq_false (Nat.lt_irrefl _),cond_false,d6,bc,List.append_nil,List.append_nil]
  exact⟨fun _=>rfl,fun h=>by cases h⟩
 |succ k ih=>
  intro i a ats codes hk ha h1 h2
  have hi:i<o.2.2.1.length:=by omega
  rw[qH.a_eq,ab,ae,decide_eq_true hi,ah i _ hi (by omega)]
  rw[jQ a ha _ (by have:=hz.fs i hi;omega)]
  simp only[cond_true,Option.bind_some]
  rw[kL _ (by simp;omega),gP _ (by simp;omega)]
  simp only[cond_true]
  obtain⟨i1,i2⟩:=ih (i+1) (aB a (ge o i)).1 (ats++[(aB a (ge o i)).2.1]) (codes++[kN o i]) (by omega) (df ha _) (by simp;omega) (by simp;omega)
  rw[d6,bc]
  rw[show aB a (rd (τ:=aA) o.2.2.1 (i:Int)).2.2.2.size=aB a (ge o i) from rfl]
  cases hp:(aB a (ge o i)).2.2 with
  |false=>exact⟨fun h=>by simp at h,fun _=>⟨_,rfl,rfl⟩⟩
  |true=>
   simp only[Bool.true_and,Bool.not_true,cond_false]
   refine⟨fun h=> ?_,fun h=>i2 h⟩
   have:=i1 h
   rw[List.append_assoc,List.append_assoc]at this
   exact this
theorem xS (o:bn) (hz:UnitSz o) (x3:bm) (x6:eY) (x7 x8:bm) (l1:List Int) (l2:List ByteArray):∀(k i:Nat) (a:bm) (ats:List Int) (codes:List ByteArray),i+k=o.2.2.2.1.length→cc a→ats.length=i→codes.length=i→
  ((d6 (kM o) a i k).2.2=true→qH.b x3 a o x6 x7 x8 (l1,l2,ats,codes) (i:Int)=some ((l1,l2,ats++(d6 (kM o) a i k).2.1,codes++bc (jR o) i k),x3,(d6 (kM o) a i k).1,true))∧
  ((d6 (kM o) a i k).2.2=false→∃r,qH.b x3 a o x6 x7 x8 (l1,l2,ats,codes) (i:Int)=some r∧r.2.2.2=false):=by
 have h4:=hz.d
 intro k
 induction k with
 |zero=>
  intro i a ats codes hk ha h1 h2
  have:i=o.2.2.2.1.length:=by omega
  subst this
  rw[qH.b_eq,ab,decide_eq_false (Nat.lt_irrefl _),cond_false,d6,bc,List.append_nil,List.append_nil]
  exact⟨fun _=>rfl,fun h=>by cases h⟩
 |succ k ih=>
  intro i a ats codes hk ha h1 h2
  have hi:i<o.2.2.2.1.length:=by omega
  rw[qH.b_eq,ab,ae,decide_eq_true hi,ah i _ hi (by omega)]
  rw[jQ a ha _ (by have:=hz.ds i hi;omega)]
  simp only[cond_true,Option.bind_some]
  rw[kL _ (by simp;omega),gP _ (by simp;omega)]
  simp only[cond_true]
  obtain⟨i1,i2⟩:=ih (i+1) (aB a (kM o i)).1 (ats++[(aB a (kM o i)).2.1]) (codes++[jR o i]) (by omega) (df ha _) (by simp;omega) (by simp;omega)
  rw[d6,bc]
  rw[show aB a (rd (τ:=aX) o.2.2.2.1 (i:Int)).2.size=aB a (kM o i) from rfl]
  cases hp:(aB a (kM o i)).2.2 with
  |false=>exact⟨fun h=>by simp at h,fun _=>⟨_,rfl,rfl⟩⟩
  |true=>
   simp only[Bool.true_and,Bool.not_true,cond_false]
   refine⟨fun h=> ?_,fun h=>i2 h⟩
   have:=i1 h
   rw[List.append_assoc,List.append_assoc]at this
   exact this
def dl (o:bn) (a b:bm):eY×bm×bm×Bool:=
 (((d6 (ge o) a 0 o.2.2.1.length).2.1,bc (kN o) 0 o.2.2.1.length,(d6 (kM o) b 0 o.2.2.2.1.length).2.1,bc (jR o) 0 o.2.2.2.1.length),
  (d6 (ge o) a 0 o.2.2.1.length).1,(d6 (kM o) b 0 o.2.2.2.1.length).1,(d6 (ge o) a 0 o.2.2.1.length).2.2&&(d6 (kM o) b 0 o.2.2.2.1.length).2.2)
theorem EH (o:bn) (hz:UnitSz o) (a b:bm) (ha:cc a) (hb:cc b):((dl o a b).2.2.2=true→qH a b o=some (dl o a b))∧((dl o a b).2.2.2=false→∃r,qH a b o=some r∧r.2.2.2=false):=by
 rw[Kz]
 obtain⟨f1,f2⟩:=xR o hz b ([],[],[],[]) (0,0,0) (0,0,0) [] [] o.2.2.1.length 0 a [] [] (by omega) ha rfl rfl
 obtain⟨d1,d2⟩:=xS o hz (d6 (ge o) a 0 o.2.2.1.length).1 ([],[],[],[]) (0,0,0) (0,0,0) (d6 (ge o) a 0 o.2.2.1.length).2.1 (bc (kN o) 0 o.2.2.1.length) o.2.2.2.1.length 0 b [] [] (by omega) hb rfl rfl
 simp only[List.nil_append]at f1 d1
 unfold dl
 simp only
 cases h1:(d6 (ge o) a 0 o.2.2.1.length).2.2 with
 |false=>exact⟨fun h=>(by cases h),fun _=>f2 h1⟩
 |true=>
  rw[Bool.true_and]
  refine⟨fun h=> ?_,fun h=> ?_⟩
  ·rw[h]
   exact(f1 h1).trans (d1 h)
  ·obtain⟨r,h3,h4⟩:=d2 h
   exact⟨r,(f1 h1).trans h3,h4⟩
theorem EI (o:bn) (hz:UnitSz o) (a b:bm) (ha:cc a) (hb:cc b) (x8:eY) (x9 x10:bm) (t:List cU) (f:Int):
  d5.a a b o x8 x9 x10 (([],[],[],[]),t,o) f o.2.2.1 (o.2.2.1.length:Int) 0=
   d5.c (dl o a b).2.1 (dl o a b).2.2.1 o x8 x9 x10 ((dl o a b).1,t,o) (after f (dl o a b).2.2.2) o.2.2.2.2.1 (o.2.2.2.2.1.length:Int) 0:=by
 have h1:=zf o hz b x8 x9 x10 (t,o) [] [] o.2.2.1.length 0 a [] [] f (by omega) ha rfl rfl
 have h2:=zg o hz (d6 (ge o) a 0 o.2.2.1.length).1 x8 x9 x10 (t,o) (d6 (ge o) a 0 o.2.2.1.length).2.1 (bc (kN o) 0 o.2.2.1.length) o.2.2.2.1.length 0 b [] [] (after f (d6 (ge o) a 0 o.2.2.1.length).2.2) (by omega) hb rfl rfl
 simp only[List.nil_append]at h1 h2
 rw[jS]at h2
 exact h1.trans h2
def IG (x:Int):Prop:=0≤x∧x≤1048575∧x%8=0
theorem A9 {a:bm} (h:cc a) (n:Nat) (hn:1≤n):IG (aB a n).2.1:=by
 obtain⟨⟨h1,h2,h3⟩,⟨h4,h5,h6⟩,h7,h8,h9⟩:=h
 unfold aB
 split
 ·exact⟨by simp,by simp,by simp⟩
 ·have:8≤qL n:=by unfold qL;omega
  refine⟨?_, ?_, ?_⟩<;>simp only<;>omega
theorem xT (sz:Nat→Nat):∀k i a,cc a→(∀j,i≤j→j<i+k→1≤sz j)→∀x∈(d6 sz a i k).2.1,IG x
 |0,_,_,_,_,x,hx=>by cases hx
 |k+1,i,a,h,hs,x,hx=>by
  rw[d6]at hx
  rcases List.mem_cons.1 hx with rfl|hx
  ·exact A9 h _ (hs i (Nat.le_refl _) (by omega))
  ·exact xT sz k (i+1) _ (df h _) (fun j h1 h2=>hs j (by omega) (by omega)) x hx
structure eB (o:bn) (l:eY):Prop where
 a:l.1.length=o.2.2.1.length
 c:l.2.1.length=o.2.2.1.length
 d:l.2.2.1.length=o.2.2.2.1.length
 b:l.2.2.2.length=o.2.2.2.1.length
 cs:∀i:Nat,i<o.2.2.1.length→(rd (τ:= .str) l.2.1 (i:Int)).size=ge o i
 bs:∀i:Nat,i<o.2.2.2.1.length→(rd (τ:= .str) l.2.2.2 (i:Int)).size=kM o i
 fa:∀i:Nat,i<o.2.2.1.length→IG (rd (τ:= .int .i64) l.1 (i:Int))
 ds:∀i:Nat,i<o.2.2.2.1.length→IG (rd (τ:= .int .i64) l.2.2.1 (i:Int))
theorem tI {τ:Ty} (f:Nat→τ.den) (k j:Nat) (h:j<k):rd (τ:=τ) (bc f 0 k) (j:Int)=f j:=by
 rw[aM _ _ (by rw[az];exact h),f5,Nat.zero_add]
theorem dX.fsz_pos {o:bn} (h:dX o) (i:Nat) (hi:i<o.2.2.1.length):20≤ge o i∧ge o i≤256∧ge o i%4=0:=by
 have:=(iw (h.fun_ i hi)).2.2.2
 unfold bg at this
 unfold ge
 cases h1:ci (rd (τ:=aA) o.2.2.1 (i:Int)).2.2.2.size with
 |false=>rw[h1]at this;cases this
 |true=>
  rw[h1,cond_true,decide_eq_true_eq]at this
  have h2:=fk h1
  exact⟨by omega,h2.2,h2.1⟩
theorem dX.dsz_pos {o:bn} (h:dX o) (i:Nat) (hi:i<o.2.2.2.1.length):8≤kM o i∧kM o i≤64∧kM o i%8=0:=nJ (fD (h.dat i hi)).2.2
theorem vQ (o:bn) (h:dX o) (a b:bm) (ha:cc a) (hb:cc b):eB o (dl o a b).1∧cc (dl o a b).2.1∧cc (dl o a b).2.2.1:=by
 refine⟨⟨dQ _ _ _ _,az _ _ _,dQ _ _ _ _,az _ _ _,fun i hi=> ?_,fun i hi=> ?_,fun i hi=> ?_,fun i hi=> ?_⟩,qF _ _ _ _ ha,qF _ _ _ _ hb⟩
 ·show(rd (τ:= .str) (bc (kN o) 0 o.2.2.1.length) (i:Int)).size=_
  rw[tI (τ:= .str) (kN o) _ _ hi];rfl
 ·show(rd (τ:= .str) (bc (jR o) 0 o.2.2.2.1.length) (i:Int)).size=_
  rw[tI (τ:= .str) (jR o) _ _ hi];rfl
 ·have hl:=dQ (ge o) o.2.2.1.length 0 a
  show IG (rd (τ:= .int .i64) (d6 (ge o) a 0 o.2.2.1.length).2.1 (i:Int))
  rw[aM (τ:= .int .i64) _ i (by rw[hl];exact hi)]
  exact xT _ _ _ _ ha (fun j _ h2=>by have:=h.fsz_pos j (by omega);omega) _ (List.getElem_mem _)
 ·have hl:=dQ (kM o) o.2.2.2.1.length 0 b
  show IG (rd (τ:= .int .i64) (d6 (kM o) b 0 o.2.2.2.1.length).2.1 (i:Int))
  rw[aM (τ:= .int .i64) _ i (by rw[hl];exact hi)]
  exact xT _ _ _ _ hb (fun j _ h2=>by have:=h.dsz_pos j (by omega);omega) _ (List.getElem_mem _)
theorem HC (v:Int) (i:Nat) (hi:i<8):(v%18446744073709551616)/2^(8*i)%256=v/2^(8*i)%256:=by
 match i,hi with
 |0,_=>omega
 |1,_=>omega
 |2,_=>omega
 |3,_=>omega
 |4,_=>omega
 |5,_=>omega
 |6,_=>omega
 |7,_=>omega
theorem OS (n:Nat) (h:n≤4096):ar n 1=true:=by simp[ar];omega
theorem mO (v:Int) (n:Nat) (hn:n≤8):∀(k i:Nat) (xs:List Int),i+k=n→xs.length=i→w4.a v (n:Int) xs (i:Int)=some (aC (xs++qv (v/2^(8*i)) k)):=by
 intro k
 induction k with
 |zero=>
  intro i xs h hx
  have:i=n:=by omega
  subst this
  rw[w4.a_eq,ab,decide_eq_false (Nat.lt_irrefl _),cond_false,qv,List.append_nil]
 |succ k ih=>
  intro i xs h hx
  rw[w4.a_eq,ab,decide_eq_true (show i<n by omega),aH (n:=8*(i:Int)) (by omega) (by omega),FL (n:=8*(i:Int)) (by omega) (by omega),decide_eq_false (show¬8*(i:Int)<0 by omega),ah i n (by omega) (by omega),ma,sK (by omega) (by omega),oA,OS _ (by simp;omega),ih (i+1) _ (by omega) (by simp;omega),qv,List.append_assoc]
  have e1:(8*(i:Int)).toNat=8*i:=by omega
  rw[e1,HC v i (by omega)]
  have e2:v/2^(8*i)/256=v/2^(8*(i+1)):=by
   rw[Int.ediv_ediv_of_nonneg (Int.pow_nonneg (by decide))]
   congr 1
   rw[show 8*(i+1)=8*i+8 by omega,Int.pow_add];rfl
  rw[e2];rfl
theorem jB (v:Int) (n:Nat) (hn:n≤8):w4 v (n:Int)=some (aC (qv v n)):=by
 rw[KB]
 have:=mO v n hn n 0 [] (by omega) rfl
 simpa using this
theorem Ba {β:Type} (L:Int→Option β) (p:Nat→Bool) (g:Nat→Option β) (n:Nat) (hstep:∀i:Nat,i<n→L (i:Int)=bif p i then g i else L ((i+1:Nat):Int)):
  ∀k i:Nat,i+k=n→L (i:Int)=if dV p i k<0 then L (n:Int)else g (dV p i k).toNat:=by
 intro k
 induction k with
 |zero=>
   intro i h;have:i=n:=by omega
   subst this;rfl
 |succ k ih=>
  intro i h
  rw[hstep i (by omega),ih (i+1) (by omega),dV]
  cases p i with
  |false=>rfl
  |true=>rw[cond_true,cond_true,if_neg (by omega)];rfl
theorem iM {β:Type} {L:Int→Option β} (p:Nat→Bool) (g:Nat→Option β) (n:Nat) (hstep:∀i:Nat,i<n→L (i:Int)=bif p i then g i else L ((i+1:Nat):Int)):L 0=if dV p 0 n<0 then L (n:Int)else g (dV p 0 n).toNat:=
 Ba L p g n hstep n 0 (by omega)
theorem vR (p:Nat→Bool) (n:Nat) (h:¬dV p 0 n<0):(dV p 0 n).toNat<n:=by
 rcases cr p n 0 with⟨h1,_⟩|⟨j,h1,h2,h3,_⟩
 ·omega
 ·omega
def vS (o:bn) (name:ByteArray):Int:=dV (fun i=>decide ((rd (τ:=aA) o.2.2.1 (i:Int)).1=name)&& !(rd (τ:=aA) o.2.2.1 (i:Int)).2.1) 0 o.2.2.1.length
def vT (o:bn) (name:ByteArray):Int:=dV (fun i=>decide ((rd (τ:=aX) o.2.2.2.1 (i:Int)).1=name)) 0 o.2.2.2.1.length
def vU (t:List cU) (o:bn) (l:eY) (name:ByteArray):Int×Bool:=
 if vS o name<0 then if vT o name<0 then if cg t name<0 then(0,false)else((rd (τ:=aS) t (cg t name)).2.2.1,true)
  else(rd (τ:= .int .i64) l.2.2.1 ((vT o name).toNat:Int),true)
 else(rd (τ:= .int .i64) l.1 ((vS o name).toNat:Int),true)
theorem EJ (t:List cU) (o:bn) (l:eY) (name:ByteArray) (ht:t.length≤64) (hz:ObjSz o) (hl:eB o l):qT (l,t,o) name=some (vU t o l name):=by
 have h1:=hz.f
 have h2:=hz.d
 rw[ML]
 show qT.a (l,t,o) name o.2.2.1 (o.2.2.1.length:Int) 0=_
 rw[iM (L:=qT.a (l,t,o) name o.2.2.1 (o.2.2.1.length:Int)) (fun i=>decide ((rd (τ:=aA) o.2.2.1 (i:Int)).1=name)&& !(rd (τ:=aA) o.2.2.1 (i:Int)).2.1) (fun i=>some (rd (τ:= .int .i64) l.1 (i:Int),true)) o.2.2.1.length fun i hi=> ?_]
 ·unfold vU
  show(if vS o name<0 then _ else _)=some (if vS o name<0 then _ else _)
  by_cases hf:vS o name<0
  ·rw[if_pos hf,if_pos hf,qT.a_eq,ab,decide_eq_false (Nat.lt_irrefl _),cond_false]
   show qT.b (l,t,o) name o.2.2.2.1 (o.2.2.2.1.length:Int) 0=_
   rw[iM (L:=qT.b (l,t,o) name o.2.2.2.1 (o.2.2.2.1.length:Int)) (fun i=>decide ((rd (τ:=aX) o.2.2.2.1 (i:Int)).1=name)) (fun i=>some (rd (τ:= .int .i64) l.2.2.1 (i:Int),true)) o.2.2.2.1.length fun i hi=> ?_]
   ·show(if vT o name<0 then _ else _)=some (if vT o name<0 then _ else _)
    by_cases hd:vT o name<0
    ·rw[if_pos hd,if_pos hd,qT.b_eq,ab,decide_eq_false (Nat.lt_irrefl _),cond_false,(dI t _ (by omega)).1]
     simp only[Option.bind_some]
     have hr:=dP t name
     by_cases he:cg t name<0
     ·rw[if_pos he,decide_eq_true he];rfl
     ·rw[if_neg he,decide_eq_false he,inL_true (by omega) (by omega)];rfl
    ·rw[if_neg hd,if_neg hd];rfl
   ·rw[qT.b_eq,ab,ae,decide_eq_true hi,ah i _ hi (by omega),aL,ae,show decide (i<l.2.2.1.length)=true from decide_eq_true (by rw[hl.d];exact hi)]
    simp only[cond_true]
  ·rw[if_neg hf,if_neg hf];rfl
 ·rw[qT.a_eq,ab,ae,decide_eq_true hi,ah i _ hi (by omega),aL,ae,show decide (i<l.1.length)=true from decide_eq_true (by rw[hl.a];exact hi)]
  simp only[cond_true]
  cases decide ((rd (τ:=aA) o.2.2.1 (i:Int)).1=name)<;>cases (rd (τ:=aA) o.2.2.1 (i:Int)).2.1<;>rfl
theorem EK (t:List cU) (o:bn) (l:eY) (name:ByteArray) (ht:t.length≤64) (hz:ObjSz o) (hl:eB o l):tc t o l name=some (vU t o l name):=by
 have h1:=hz.f
 have h2:=hz.d
 rw[KA]
 rw[iM (L:=tc.a t name o l) (fun i=>decide ((rd (τ:=aA) o.2.2.1 (i:Int)).1=name)&& !(rd (τ:=aA) o.2.2.1 (i:Int)).2.1) (fun i=>some (rd (τ:= .int .i64) l.1 (i:Int),true)) o.2.2.1.length fun i hi=> ?_]
 ·unfold vU
  show(if vS o name<0 then _ else _)=some (if vS o name<0 then _ else _)
  by_cases hf:vS o name<0
  ·rw[if_pos hf,if_pos hf,tc.a_eq,ab,decide_eq_false (Nat.lt_irrefl _),cond_false]
   rw[iM (L:=tc.b t name o l) (fun i=>decide ((rd (τ:=aX) o.2.2.2.1 (i:Int)).1=name)) (fun i=>some (rd (τ:= .int .i64) l.2.2.1 (i:Int),true)) o.2.2.2.1.length fun i hi=> ?_]
   ·show(if vT o name<0 then _ else _)=some (if vT o name<0 then _ else _)
    by_cases hd:vT o name<0
    ·rw[if_pos hd,if_pos hd,tc.b_eq,ab,decide_eq_false (Nat.lt_irrefl _),cond_false,(dI t _ (by omega)).2]
     simp only[Option.bind_some]
     have hr:=dP t name
     by_cases he:cg t name<0
     ·rw[if_pos he,decide_eq_true he];rfl
     ·rw[if_neg he,decide_eq_false he,inL_true (by omega) (by omega)];rfl
    ·rw[if_neg hd,if_neg hd];rfl
   ·rw[tc.b_eq,ab,ae,decide_eq_true hi,ah i _ hi (by omega),aL,ae,show decide (i<l.2.2.1.length)=true from decide_eq_true (by rw[hl.d];exact hi)]
    simp only[cond_true]
  ·rw[if_neg hf,if_neg hf];rfl
 ·rw[tc.a_eq,ab,ae,decide_eq_true hi,ah i _ hi (by omega),aL,ae,show decide (i<l.1.length)=true from decide_eq_true (by rw[hl.a];exact hi)]
  simp only[cond_true]
  cases decide ((rd (τ:=aA) o.2.2.1 (i:Int)).1=name)<;>cases (rd (τ:=aA) o.2.2.1 (i:Int)).2.1<;>rfl
def Bb (t:List cU):Prop:=t.length≤64∧∀i:Nat,i<t.length→cR (rd (τ:=aS) t (i:Int))=true
theorem vV {e:cU} (h:cR e=true):0≤e.2.2.1∧e.2.2.1≤1048575:=by
 unfold cR at h
 cases h1:bW e.1 with
 |false=>rw[h1]at h;cases h
 |true=>
  cases h2:bQ e.2.2.1 with
  |false=>rw[h1,h2]at h;cases h
  |true=>exact kI h2
theorem xU (t:List cU) (o:bn) (l:eY) (name:ByteArray) (ht:Bb t) (hl:eB o l):0≤(vU t o l name).1∧(vU t o l name).1≤1048575:=by
 unfold vU
 split
 ·split
  ·split
   ·simp
   ·rename_i h1 h2 h3
    have hr:=dP t name
    have:=ht.2 (cg t name).toNat (by omega)
    rw[show(((cg t name).toNat:Nat):Int)=cg t name by omega]at this
    exact vV this
  ·rename_i h1 h2
   have:=hl.ds _ (vR _ _ h2)
   exact⟨this.1,this.2.1⟩
 ·rename_i h1
  have:=hl.fa _ (vR _ _ h1)
  exact⟨this.1,this.2.1⟩
def gt (t:ByteArray) (i:Nat) (b:ByteArray):ByteArray:=t.extract 0 i++b++t.extract (i+b.size) t.size
theorem lO (t:ByteArray) (i:Nat) (b:ByteArray) (h:i+b.size≤t.size):(gt t i b).size=t.size:=by
 unfold gt
 simp only[ByteArray.size_append,ByteArray.size_extract]
 omega
theorem nv (t:ByteArray) (i:Nat) (b:ByteArray) (h:i+b.size≤t.size) (ht:t.size≤4096):Qx t (i:Int) b=some (gt t i b):=by
 rw[MM,aH (n:=(i:Int)+(b.size:Int)) (by omega) (by omega)]
 unfold gt
 rw[show(decide (0≤0)&&decide (0≤(i:Int))&&decide ((i:Int)≤(t.size:Int)))=true by simp;omega,show(decide (0≤(i:Int)+(b.size:Int))&&decide ((i:Int)+(b.size:Int)≤(t.size:Int))&&decide ((t.size:Int)≤(t.size:Int)))=true by simp;omega]
 rw[show(Int.toNat 0)=0 from rfl,Int.toNat_natCast,show((i:Int)+(b.size:Int)).toNat=i+b.size by omega,Int.toNat_natCast]
 rw[decide_eq_true (show(t.extract 0 i).size+b.size≤9223372036854775807 by simp only[ByteArray.size_extract];omega),decide_eq_true (show(t.extract 0 i++b).size+(t.extract (i+b.size) t.size).size≤9223372036854775807 by simp only[ByteArray.size_append,ByteArray.size_extract];omega)]
 rfl
theorem EL {τ:Ty} (l:List τ.den) (k:Nat) (x:τ.den) (hk:k<l.length) (i:Nat) (hi:i<l.length):rd (τ:=τ) (l.set k x) (i:Int)=if i=k then x else rd (τ:=τ) l (i:Int):=by
 rw[aM _ _ (by rw[List.length_set];exact hi),aM _ _ hi,List.getElem_set]
 by_cases h:i=k
 ·rw[if_pos h,if_pos h.symm]
 ·rw[if_neg h,if_neg (fun e=>h e.symm)]
theorem eB.setB {o:bn} {l:eY} (h:eB o l) (k:Nat) (hk:k<o.2.2.2.1.length) (x:ByteArray) (hx:x.size=kM o k):eB o (l.1,l.2.1,l.2.2.1,l.2.2.2.set k x):=by
 refine⟨h.a,h.c,h.d,by simp only[List.length_set];exact h.b,h.cs,fun i hi=> ?_,h.fa,h.ds⟩
 simp only
 rw[EL (τ:= .str) l.2.2.2 k x (by rw[h.b];exact hk) i (by rw[h.b];exact hi)]
 split
 ·rename_i e;rw[e];exact hx
 ·exact h.bs i hi
theorem eB.setC {o:bn} {l:eY} (h:eB o l) (k:Nat) (hk:k<o.2.2.1.length) (x:ByteArray) (hx:x.size=ge o k):eB o (l.1,l.2.1.set k x,l.2.2.1,l.2.2.2):=by
 refine⟨h.a,by simp only[List.length_set];exact h.c,h.d,h.b,fun i hi=> ?_,h.bs,h.fa,h.ds⟩
 simp only
 rw[EL (τ:= .str) l.2.1 k x (by rw[h.c];exact hk) i (by rw[h.c];exact hi)]
 split
 ·rename_i e;rw[e];exact hx
 ·exact h.cs i hi
structure Bc (o:bn) (r:IL):Prop where
 at_:iv o r=true
 kind:1≤r.2.2.1∧r.2.2.1≤9
 word:r.2.2.1=9↔(o.2.2.1.length:Int)≤r.1
 add: -2147483648≤r.2.2.2.2∧r.2.2.2.2≤2147483647
theorem Bd {o:bn} {k:Nat} (h:lm o k=0):Bc o (rd (τ:=bT) o.2.2.2.2.1 (k:Int)):=by
 unfold lm at h
 generalize rd (τ:=bT) o.2.2.2.2.1 (k:Int)=r at*
 split at h
 ·cases h
 split at h
 ·cases h
 split at h
 ·cases h
 split at h
 ·cases h
 rename_i h1 h2 h3 h4
 have h2:(cM r.2.2.1 1 9&&(decide (r.2.2.1=9)==decide (r.1≥(o.2.2.1.length:Int))))=true:=by
  cases h5:(cM r.2.2.1 1 9&&(decide (r.2.2.1=9)==decide (r.1≥(o.2.2.1.length:Int))));exact absurd h5 h2;rfl
 rw[Bool.and_eq_true,bd]at h2
 refine⟨?_,h2.1, ?_, ?_⟩
 ·cases h5:iv o r;exact absurd h5 h1;rfl
 ·have:=h2.2
  rw[beq_iff_eq,decide_eq_decide]at this
  exact this
 ·rw[←bd]
  cases h5:cM r.2.2.2.2 (-2147483648) 2147483647;exact absurd h5 h4;rfl
theorem Bc.data {o:bn} {r:IL} (ho:dX o) (h:Bc o r) (hu:(o.2.2.1.length:Int)≤r.1):∃k j:Nat,r.1-(o.2.2.1.length:Int)=(k:Int)∧k<o.2.2.2.1.length∧r.2.1=(j:Int)∧8*j+8≤kM o k:=by
 have h1:=h.at_
 unfold iv at h1
 rw[Bool.and_eq_true,bd,bd]at h1
 refine⟨(r.1-(o.2.2.1.length:Int)).toNat,r.2.1.toNat,by omega,by omega,by omega, ?_⟩
 have hv:et o r.1=((kM o (r.1-(o.2.2.1.length:Int)).toNat:Nat):Int)/8:=by
  unfold et
  rw[if_neg (by omega),if_pos ⟨hu,by omega⟩,Int.tdiv_eq_ediv_of_nonneg (by omega)]
  unfold kM
  rw[show(((r.1-(o.2.2.1.length:Int)).toNat:Nat):Int)=r.1-(o.2.2.1.length:Int) by omega]
 have:=ho.dsz_pos (r.1-(o.2.2.1.length:Int)).toNat (by omega)
 omega
theorem Bc.code {o:bn} {r:IL} (ho:dX o) (h:Bc o r) (hu:¬(o.2.2.1.length:Int)≤r.1):∃k j:Nat,r.1=(k:Int)∧k<o.2.2.1.length∧r.2.1=(j:Int)∧4*j+4≤ge o k:=by
 have h1:=h.at_
 unfold iv at h1
 rw[Bool.and_eq_true,bd,bd]at h1
 refine⟨r.1.toNat,r.2.1.toNat,by omega,by omega,by omega, ?_⟩
 have hv:et o r.1=((ge o r.1.toNat:Nat):Int)/4:=by
  unfold et
  rw[if_pos ⟨by omega,by omega⟩,Int.tdiv_eq_ediv_of_nonneg (by omega)]
  unfold ge
  rw[show((r.1.toNat:Nat):Int)=r.1 by omega]
 have:=ho.fsz_pos r.1.toNat (by omega)
 omega
theorem zK (n:Nat) (h:n≤4096):ar (0+n) 16=true:=gP _ (by omega)
theorem xV (t:List cU) (o:bn) (l:eY) (r:IL) (ht:Bb t) (ho:dX o) (hl:eB o l) (hr:Bc o r):
  ∃l' c,RO (l,t,o) r=some (c,l',t,o)∧Rv t o l r=some (l',c)∧eB o l'∧l'.1=l.1:=by
 have h1:=ho.f
 have h2:=ho.d
 have hs:=xU t o l r.2.2.2.1 ht hl
 have hadd:=hr.add
 rw[MT,KH,EJ t o l _ ht.1 ho.toObjSz hl,EK t o l _ ht.1 ho.toObjSz hl]
 simp only[Option.bind_some]
 generalize vU t o l r.2.2.2.1=s at*
 cases hs2:s.2 with
 |false=>exact⟨l,23,rfl,rfl,hl,rfl⟩
 |true=>
  have hat:=hr.at_
  unfold iv at hat
  rw[Bool.and_eq_true,bd,bd]at hat
  rw[aH (n:=r.1-(o.2.2.1.length:Int)) (by omega) (by omega),aH (n:=s.1+r.2.2.2.2) (by omega) (by omega)]
  simp only[Bool.not_true,cond_false]
  by_cases hu:(o.2.2.1.length:Int)≤r.1
  ·obtain⟨k,j,e1,hk,e2,hj⟩:=hr.data ho hu
   have hd:=ho.dsz_pos k hk
   have hsz:=hl.bs k hk
   rw[decide_eq_true (show r.1-(o.2.2.1.length:Int)≥0 by omega),decide_eq_true (show r.1≥(o.2.2.1.length:Int) from hu),e1,e2,ae,decide_eq_true (show k<l.2.2.2.length by rw[hl.b];exact hk),aH (n:=8*(j:Int)) (by omega) (by omega),aH (n:=8*(j:Int)+8) (by omega) (by omega),zK l.2.2.2.length (by rw[hl.b];omega),
    show(8:Int)*(j:Int)=((8*j:Nat):Int) by omega,show w6 (s.1+r.2.2.2.2) 8=some (aC (qv (s.1+r.2.2.2.2) 8)) from lk _ 8 (by omega)]
   rw[show w4 (s.1+r.2.2.2.2) 8=some (aC (qv (s.1+r.2.2.2.2) 8)) from jB _ 8 (by omega)]
   simp only[Option.bind_some,cond_true,letB]
   have hb:(aC (qv (s.1+r.2.2.2.2) 8)).size=8:=by rw[bK,lj]
   generalize aC (qv (s.1+r.2.2.2.2) 8)=b at*
   rw[nv _ _ _ (by rw[hsz,hb];omega) (by rw[hsz];omega)]
   simp only[Option.bind_some]
   generalize rd (τ:= .str) l.2.2.2 (k:Int)=d at*
   refine⟨_,0,rfl, ?_,hl.setB k hk (gt d (8*j) b) (by rw[lO _ _ _ (by rw[hsz,hb];omega),hsz]),rfl⟩
   rw[show(decide (0≤0)&&decide (0≤((8*j:Nat):Int))&&decide (((8*j:Nat):Int)≤(d.size:Int)))=true by simp;omega,show(decide (0≤((8*j:Nat):Int)+8)&&decide (((8*j:Nat):Int)+8≤(d.size:Int))&&decide ((d.size:Int)≤(d.size:Int)))=true by simp;omega]
   rw[show(Int.toNat 0)=0 from rfl,Int.toNat_natCast,show(((8*j:Nat):Int)+8).toNat=8*j+8 by omega,Int.toNat_natCast,Int.toNat_natCast]
   rw[decide_eq_true (show(d.extract 0 (8*j)).size+b.size≤9223372036854775807 by simp only[ByteArray.size_extract];omega),decide_eq_true (show(d.extract 0 (8*j)++b).size+(d.extract (8*j+8) d.size).size≤9223372036854775807 by simp only[ByteArray.size_append,ByteArray.size_extract];omega)]
   unfold gt
   rw[hb]
   rfl
  ·obtain⟨k,j,e1,hk,e2,hj⟩:=hr.code ho hu
   have hd:=ho.fsz_pos k hk
   have hsz:=hl.cs k hk
   have hk8:1≤r.2.2.1∧r.2.2.1≤8:=by
    have:=hr.kind
    have h9:r.2.2.1≠9:=fun e=>hu (hr.word.1 e)
    omega
   have hat2:=hl.fa k hk
   rw[decide_eq_false (show¬r.1-(o.2.2.1.length:Int)≥0 by omega),decide_eq_false (show¬r.1≥(o.2.2.1.length:Int) from hu),e1,e2,ae,ae,decide_eq_true (show k<l.2.1.length by rw[hl.c];exact hk),decide_eq_true (show k<l.1.length by rw[hl.a];exact hk),aH (n:=4*(j:Int)) (by omega) (by omega),aH (n:=4*(j:Int)+4) (by omega) (by omega),zK l.2.1.length (by rw[hl.c];omega),
    show(4:Int)*(j:Int)=((4*j:Nat):Int) by omega]
   simp only[cond_false,cond_true,letB]
   generalize rd (τ:= .str) l.2.1 (k:Int)=d at*
   obtain⟨a,ha⟩:∃x:Int,rd (τ:= .int .i64) l.1 (k:Int)=x:=⟨_,rfl⟩
   rw[ha]at hat2
   simp only[ha]
   have hat3:0≤a∧a≤1048575:=⟨hat2.1,hat2.2.1⟩
   rw[show(decide (0≤((4*j:Nat):Int))&&decide (((4*j:Nat):Int)≤((4*j:Nat):Int)+4)&&decide (((4*j:Nat):Int)+4≤(d.size:Int)))=true by simp;omega,show(decide (0≤0)&&decide (0≤((4*j:Nat):Int))&&decide (((4*j:Nat):Int)≤(d.size:Int)))=true by simp;omega,show(decide (0≤((4*j:Nat):Int)+4)&&decide (((4*j:Nat):Int)+4≤(d.size:Int))&&decide ((d.size:Int)≤(d.size:Int)))=true by simp;omega]
   rw[show(Int.toNat 0)=0 from rfl,Int.toNat_natCast,show(((4*j:Nat):Int)+4).toNat=4*j+4 by omega,Int.toNat_natCast,Int.toNat_natCast]
   have hx:(d.extract (4*j) (4*j+4)).size=4:=by simp only[ByteArray.size_extract];omega
   rw[gJ _ (by omega),hx,nF d (4*j) (4*j+4) (by omega) 4 0 (by omega),Nat.add_zero]
   rw[show wY d ((4*j:Nat):Int) 4=some (IntKind.wrap .i64 (ks d (4*j) 4)) from gK d (4*j) 4 (by omega) (by omega)]
   have h4:=R1 d (4*j)
   rw[aH (n:=(ks d (4*j) 4:Int)) (by omega) (by omega),aH (n:=a+((4*j:Nat):Int)) (by omega) (by omega)]
   simp only[Option.bind_some,cond_true]
   obtain⟨q,q1,q2⟩:=rD (ks d (4*j) 4:Int) r.2.2.1 (s.1+r.2.2.2.2) (a+((4*j:Nat):Int)) h4 hk8 ⟨by omega,by omega⟩ ⟨by omega,by omega⟩
   rw[q1,q2]
   simp only[Option.bind_some]
   by_cases hq:q.2=0
   ·rw[decide_eq_true hq,show w6 q.1 4=some (aC (qv q.1 4)) from lk _ 4 (by omega),show w4 q.1 4=some (aC (qv q.1 4)) from jB _ 4 (by omega)]
    have hb:(aC (qv q.1 4)).size=4:=by rw[bK,lj]
    simp only[Option.bind_some,cond_true,Bool.not_true,cond_false]
    generalize aC (qv q.1 4)=b at*
    rw[nv _ _ _ (by omega) (by omega)]
    simp only[Option.bind_some]
    refine⟨_,q.2,rfl, ?_,hl.setC k hk (gt d (4*j) b) (by rw[lO _ _ _ (by omega),hsz]),rfl⟩
    rw[decide_eq_true (show(d.extract 0 (4*j)).size+b.size≤9223372036854775807 by simp only[ByteArray.size_extract];omega),decide_eq_true (show(d.extract 0 (4*j)++b).size+(d.extract (4*j+4) d.size).size≤9223372036854775807 by simp only[ByteArray.size_append,ByteArray.size_extract];omega),hq]
    unfold gt
    rw[hb]
    rfl
   ·rw[decide_eq_false hq]
    exact⟨l,q.2,rfl,rfl,hl,rfl⟩
def c8 {α:Type} (p:Nat→Bool) (f:Nat→α):Nat→Nat→List α
 |_,0=>[]
 |i,k+1=>bif p i then f i::c8 p f (i+1) k else c8 p f (i+1) k
theorem bS {α:Type} (p:Nat→Bool) (f:Nat→α):∀k i,(c8 p f i k).length≤k
 |0,_=>Nat.le_refl _
 |k+1,i=>by
  have:=bS p f k (i+1)
  rw[c8]
  cases p i
  ·rw[cond_false];omega
  ·rw[cond_true,List.length_cons];omega
theorem Be {α β:Type} (L:List α→Int→Option β) (p:Nat→Bool) (f:Nat→α) (n A:Nat) (hstep:∀acc (i:Nat),i<n→acc.length≤A+i→L acc (i:Int)=bif p i then L (acc++[f i]) ((i+1:Nat):Int)else L acc ((i+1:Nat):Int)):
  ∀(k i:Nat) (acc:List α),i+k=n→acc.length≤A+i→L acc (i:Int)=L (acc++c8 p f i k) (n:Int):=by
 intro k
 induction k with
 |zero=>
   intro i acc h _;have:i=n:=by omega
   subst this;rw[c8,List.append_nil]
 |succ k ih=>
  intro i acc h ha
  rw[hstep acc i (by omega) ha,c8]
  cases p i with
  |false=>rw[cond_false,cond_false,ih (i+1) _ (by omega) (by omega)]
  |true=>rw[cond_true,cond_true,ih (i+1) _ (by omega) (by simp;omega),List.append_assoc];rfl
theorem c9 {α β:Type} {L:List α→Int→Option β} (p:Nat→Bool) (f:Nat→α) (n:Nat) (acc:List α) (hstep:∀acc' (i:Nat),i<n→acc'.length≤acc.length+i→L acc' (i:Int)=bif p i then L (acc'++[f i]) ((i+1:Nat):Int)else L acc' ((i+1:Nat):Int)):L acc 0=L (acc++c8 p f 0 n) (n:Int):=
 Be L p f n acc.length hstep n 0 acc (by omega) (by omega)
def mP (t:List cU) (o:bn) (l:eY):List Int:=
 c8 (fun i=>decide ((rd (τ:=aS) t (i:Int)).2.1=1)) (fun i=>(rd (τ:=aS) t (i:Int)).2.2.1) 0 t.length++
  c8 (fun i=> !(rd (τ:=aA) o.2.2.1 (i:Int)).2.1) (fun i=>rd (τ:= .int .i64) l.1 (i:Int)) 0 o.2.2.1.length
theorem rf (t:List cU) (o:bn) (l:eY) (ht:t.length≤64) (hz:ObjSz o):(mP t o l).length≤68:=by
 have:=hz.f
 unfold mP
 have h1:=bS (fun i=>decide ((rd (τ:=aS) t (i:Int)).2.1=1)) (fun i=>(rd (τ:=aS) t (i:Int)).2.2.1) t.length 0
 have h2:=bS (fun i=> !(rd (τ:=aA) o.2.2.1 (i:Int)).2.1) (fun i=>rd (τ:= .int .i64) l.1 (i:Int)) o.2.2.1.length 0
 rw[List.length_append];omega
theorem xW (t:List cU) (o:bn) (l:eY) (ht:t.length≤64) (hz:ObjSz o) (hl:eB o l):nL (l,t,o)=some (mP t o l):=by
 have h1:=hz.f
 rw[MU]
 show nL.a (l,t,o) [] t (t.length:Int) 0=_
 rw[c9 (L:=fun acc i=>nL.a (l,t,o) acc t (t.length:Int) i) (fun i=>decide ((rd (τ:=aS) t (i:Int)).2.1=1)) (fun i=>(rd (τ:=aS) t (i:Int)).2.2.1) t.length [] fun acc i hi ha=> ?_]
 ·rw[nL.a_eq,ab,decide_eq_false (Nat.lt_irrefl _),cond_false,List.nil_append]
  have hf:=bS (fun i=>decide ((rd (τ:=aS) t (i:Int)).2.1=1)) (fun i=>(rd (τ:=aS) t (i:Int)).2.2.1) t.length 0
  show nL.b (l,t,o) _ o.2.2.1 (o.2.2.1.length:Int) 0=_
  rw[c9 (L:=fun acc i=>nL.b (l,t,o) acc o.2.2.1 (o.2.2.1.length:Int) i) (fun i=> !(rd (τ:=aA) o.2.2.1 (i:Int)).2.1) (fun i=>rd (τ:= .int .i64) l.1 (i:Int)) o.2.2.1.length (c8 (fun i=>decide ((rd (τ:=aS) t (i:Int)).2.1=1)) (fun i=>(rd (τ:=aS) t (i:Int)).2.2.1) 0 t.length) fun acc i hi ha=> ?_]
  ·show nL.b (l,t,o) _ o.2.2.1 (o.2.2.1.length:Int) (o.2.2.1.length:Int)=_
   rw[nL.b_eq,ab,decide_eq_false (Nat.lt_irrefl _),cond_false];rfl
  ·show nL.b (l,t,o) acc o.2.2.1 (o.2.2.1.length:Int) (i:Int)=_
   rw[nL.b_eq,ab,ae,decide_eq_true hi,ah i _ hi (by omega),ae,show decide (i<l.1.length)=true from decide_eq_true (by rw[hl.a];exact hi),kL _ (by simp;omega)]
   cases (rd (τ:=aA) o.2.2.1 (i:Int)).2.1<;>rfl
 ·show nL.a (l,t,o) acc t (t.length:Int) (i:Int)=_
  rw[nL.a_eq,ab,ae,decide_eq_true hi,ah i _ hi (by omega),kL _ (by simp at ha⊢;omega)]
  cases decide ((rd (τ:=aS) t (i:Int)).2.1=1)<;>rfl
theorem xX (t:List cU) (o:bn) (l:eY) (ht:t.length≤64) (hz:ObjSz o) (hl:eB o l) (x8:eY) (x9 x10 a b:bm):gf.b t o x8 x9 x10 l a b [] 0=gf.d o x8 x9 x10 l a b (mP t o l) 0:=by
 have h1:=hz.f
 rw[c9 (L:=fun acc i=>gf.b t o x8 x9 x10 l a b acc i) (fun i=>decide ((rd (τ:=aS) t (i:Int)).2.1=1)) (fun i=>(rd (τ:=aS) t (i:Int)).2.2.1) t.length [] fun acc i hi ha=> ?_]
 ·rw[gf.b_eq,ab,decide_eq_false (Nat.lt_irrefl _),cond_false,List.nil_append]
  have hf:=bS (fun i=>decide ((rd (τ:=aS) t (i:Int)).2.1=1)) (fun i=>(rd (τ:=aS) t (i:Int)).2.2.1) t.length 0
  rw[c9 (L:=fun acc i=>gf.c o x8 x9 x10 l a b acc i) (fun i=> !(rd (τ:=aA) o.2.2.1 (i:Int)).2.1) (fun i=>rd (τ:= .int .i64) l.1 (i:Int)) o.2.2.1.length (c8 (fun i=>decide ((rd (τ:=aS) t (i:Int)).2.1=1)) (fun i=>(rd (τ:=aS) t (i:Int)).2.2.1) 0 t.length) fun acc i hi ha=> ?_]
  ·rw[gf.c_eq,ab,decide_eq_false (Nat.lt_irrefl _),cond_false];rfl
  ·show gf.c o x8 x9 x10 l a b acc (i:Int)=_
   rw[gf.c_eq,ab,ae,decide_eq_true hi,ah i _ hi (by omega),ae,show decide (i<l.1.length)=true from decide_eq_true (by rw[hl.a];exact hi),kL _ (by simp;omega)]
   cases (rd (τ:=aA) o.2.2.1 (i:Int)).2.1<;>rfl
 ·show gf.b t o x8 x9 x10 l a b acc (i:Int)=_
  rw[gf.b_eq,ab,ae,decide_eq_true hi,ah i _ hi (by omega),kL _ (by simp at ha⊢;omega)]
  cases decide ((rd (τ:=aS) t (i:Int)).2.1=1)<;>rfl
theorem gH (o:bn) (hz:ObjSz o) (x5 x6:bm) (x8:eY) (x9 x10:bm) (s:R2) (c:Int) (hc:c≠0):∀k i:Nat,i+k=o.2.2.2.2.1.length→
  d5.c x5 x6 o x8 x9 x10 s c o.2.2.2.2.1 (o.2.2.2.2.1.length:Int) (i:Int)=d5.d x5 x6 x8 x9 x10 s c o.2.2.1 (o.2.2.1.length:Int) 0:=by
 have h1:=hz.r
 intro k
 induction k with
 |zero=>
   intro i h;have:i=o.2.2.2.2.1.length:=by omega
   subst this;rw[d5.c_eq,ab,decide_eq_false (Nat.lt_irrefl _),cond_false]
 |succ k ih=>
  intro i h
  have hi:i<o.2.2.2.2.1.length:=by omega
  rw[d5.c_eq,ab,ae,decide_eq_true hi,ah i _ hi (by omega),decide_eq_false hc,ih (i+1) (by omega)];rfl
abbrev ZL:eY:=([],[],[],[])
abbrev ZA:bm:=(0,0,0)
theorem Bf (t:List cU) (o:bn) (ht:Bb t) (ho:dX o) (x5 x6:bm) (x8:eY) (x9 x10:bm) (a b:bm):∀(k i:Nat) (l:eY),i+k=o.2.2.2.2.1.length→eB o l→
  ∃l' c,d5.c x5 x6 o x8 x9 x10 (l,t,o) 0 o.2.2.2.2.1 (o.2.2.2.2.1.length:Int) (i:Int)=d5.d x5 x6 x8 x9 x10 (l',t,o) c o.2.2.1 (o.2.2.1.length:Int) 0∧
   (c=0→eB o l'∧l'.1=l.1∧gf.a t o ZL ZA ZA l a b (i:Int)=gf.b t o ZL ZA ZA l' a b [] 0)∧(c≠0→gf.a t o ZL ZA ZA l a b (i:Int)=some (ZL,ZA,ZA,c)):=by
 have h1:=ho.r
 intro k
 induction k with
 |zero=>
  intro i l h hl
  have:i=o.2.2.2.2.1.length:=by omega
  subst this
  rw[d5.c_eq,ab,decide_eq_false (Nat.lt_irrefl _),cond_false,gf.a_eq,ab,decide_eq_false (Nat.lt_irrefl _),cond_false]
  exact⟨l,0,rfl,fun _=>⟨hl,rfl,rfl⟩,fun h=>absurd rfl h⟩
 |succ k ih=>
  intro i l h hl
  have hi:i<o.2.2.2.2.1.length:=by omega
  obtain⟨l1,c,e1,e2,hl1,hl2⟩:=xV t o l (rd (τ:=bT) o.2.2.2.2.1 (i:Int)) ht ho hl (Bd (ho.rel i hi))
  rw[d5.c_eq,ab,ae,decide_eq_true hi,ah i _ hi (by omega),gf.a_eq,ab,ae,decide_eq_true hi,ah i _ hi (by omega),e1,e2]
  simp only[cond_true,decide_true,Option.bind_some]
  by_cases hc:c=0
  ·subst hc
   obtain⟨l',c',g1,g2,g3⟩:=ih (i+1) l1 (by omega) hl1
   exact⟨l',c',g1,fun h=>⟨(g2 h).1,(g2 h).2.1.trans hl2,(g2 h).2.2⟩,g3⟩
  ·rw[gH o ho.toObjSz x5 x6 x8 x9 x10 (l1,t,o) c hc k (i+1) (by omega),decide_eq_false hc]
   exact⟨l1,c,rfl,fun h=>absurd h hc,fun _=>rfl⟩
theorem ef (o:bn) (hz:ObjSz o) (x5 x6:bm) (x8:eY) (x9 x10:bm) (s:R2) (c:Int) (hc:c≠0):∀k i:Nat,i+k=o.2.2.1.length→
  d5.d x5 x6 x8 x9 x10 s c o.2.2.1 (o.2.2.1.length:Int) (i:Int)=some (ZL,ZA,ZA,c):=by
 have h1:=hz.f
 intro k
 induction k with
 |zero=>
   intro i h;have:i=o.2.2.1.length:=by omega
   subst this;rw[d5.d_eq,ab,decide_eq_false (Nat.lt_irrefl _),cond_false,decide_eq_false hc];rfl
 |succ k ih=>
  intro i h
  have hi:i<o.2.2.1.length:=by omega
  rw[d5.d_eq,ab,ae,decide_eq_true hi,ah i _ hi (by omega),decide_eq_false hc,ih (i+1) (by omega)];rfl
theorem xY (t:List cU) (o:bn) (ht:Bb t) (ho:dX o) (x8:eY) (x9 x10:bm) (a b:bm) (l:eY) (hl:eB o l):∀(k i:Nat),i+k=o.2.2.1.length→
  ∃v,d5.d a b x8 x9 x10 (l,t,o) 0 o.2.2.1 (o.2.2.1.length:Int) (i:Int)=some v∧gf.d o ZL ZA ZA l a b (mP t o l) (i:Int)=some v∧(v.2.2.2=0→v=(l,a,b,0)):=by
 have h1:=ho.f
 intro k
 induction k with
 |zero=>
  intro i h
  have:i=o.2.2.1.length:=by omega
  subst this
  rw[d5.d_eq,ab,decide_eq_false (Nat.lt_irrefl _),cond_false,gf.d_eq,ab,decide_eq_false (Nat.lt_irrefl _),cond_false]
  exact⟨(l,a,b,0),rfl,rfl,fun _=>rfl⟩
 |succ k ih=>
  intro i h
  have hi:i<o.2.2.1.length:=by omega
  have hsz:=hl.cs i hi
  have hfs:=ho.fsz_pos i hi
  have hcl:=rf t o l ht.1 ho.toObjSz
  obtain⟨v,e1,e2⟩:=sR (rd (τ:= .str) l.2.1 (i:Int)) (rd (τ:= .int .i64) l.1 (i:Int)) (rd (τ:=aA) o.2.2.1 (i:Int)).2.2.1 (mP t o l) (by omega) (by omega)
  rw[d5.d_eq,ab,ae,decide_eq_true hi,ah i _ hi (by omega),gf.d_eq,ab,ae,decide_eq_true hi,ah i _ hi (by omega),xW t o l ht.1 ho.toObjSz hl]
  rw[ae,ae,show decide (i<l.2.1.length)=true from decide_eq_true (by rw[hl.c];exact hi),show decide (i<l.1.length)=true from decide_eq_true (by rw[hl.a];exact hi),decide_eq_true hi]
  simp only[cond_true,decide_true,Option.bind_some]
  rw[e1,e2]
  simp only[Option.bind_some]
  by_cases hv:v.2=0
  ·rw[hv]
   exact ih (i+1) (by omega)
  ·rw[ef o ho.toObjSz a b x8 x9 x10 (l,t,o) v.2 hv k (i+1) (by omega),decide_eq_false hv]
   exact⟨(ZL,ZA,ZA,v.2),rfl,rfl,fun h=>absurd h hv⟩
structure EM (t:List cU) (a b:bm) (o:bn) (v:eY×bm×bm×Int):Prop where
 lnk:eB o v.1
 ea:v.2.1=(dl o a b).2.1
 eb:v.2.2.1=(dl o a b).2.2.1
 ok:(dl o a b).2.2.2=true
 ats:v.1.1=(dl o a b).1.1
 names:ga t o=0
theorem vW (f:Int) (hf:f≠0) (ok:Bool):after f ok=f:=by unfold after;rw[if_neg (fun h=>hf h.1)]
theorem Bg (t:List cU) (a b:bm) (o:bn) (ht:Bb t) (ha:cc a) (hb:cc b) (ho:dX o) (x8:eY) (x9 x10:bm):
  ∃v,d5.a a b o x8 x9 x10 (([],[],[],[]),t,o) (ga t o) o.2.2.1 (o.2.2.1.length:Int) 0=some v∧gf t a b o=some v∧(v.2.2.2=0→EM t a b o v):=by
 rw[EI o ho.toUnitSz a b ha hb,KI,ze t o ht.1 ho.toObjSz]
 simp only[Option.bind_some]
 obtain⟨hl,hA,hB⟩:=vQ o ho a b ha hb
 by_cases hn:ga t o=0
 ·rw[hn]
  obtain⟨s1,s2⟩:=EH o ho.toUnitSz a b ha hb
  cases hok:(dl o a b).2.2.2 with
  |false=>
   obtain⟨r,e1,e2⟩:=s2 hok
   rw[e1]
   simp only[Option.bind_some]
   rw[e2,show after 0 false=7 from rfl]
   refine⟨(ZL,ZA,ZA,7), ?_,rfl,fun h=>by cases h⟩
   rw[show(0:Int)=((0:Nat):Int) from rfl,gH o ho.toObjSz _ _ x8 x9 x10 ((dl o a b).1,t,o) 7 (by decide) o.2.2.2.2.1.length 0 (by omega)]
   exact ef o ho.toObjSz _ _ x8 x9 x10 ((dl o a b).1,t,o) 7 (by decide) o.2.2.1.length 0 (by omega)
  |true=>
   rw[s1 hok]
   simp only[Option.bind_some]
   rw[hok,show after 0 true=0 from rfl]
   obtain⟨l',c,g1,g2,g3⟩:=Bf t o ht ho (dl o a b).2.1 (dl o a b).2.2.1 x8 x9 x10 (dl o a b).2.1 (dl o a b).2.2.1 o.2.2.2.2.1.length 0 (dl o a b).1 (by omega) hl
   have g1':d5.c (dl o a b).2.1 (dl o a b).2.2.1 o x8 x9 x10 ((dl o a b).1,t,o) 0 o.2.2.2.2.1 (o.2.2.2.2.1.length:Int) 0=_:=g1
   rw[g1']
   simp only[decide_true,Bool.not_true,cond_false]
   by_cases hc:c=0
   ·subst hc
    obtain⟨hl',hl2,g4⟩:=g2 rfl
    obtain⟨v,e1,e2,e3⟩:=xY t o ht ho x8 x9 x10 (dl o a b).2.1 (dl o a b).2.2.1 l' hl' o.2.2.1.length 0 (by omega)
    have g4':=xX t o l' ht.1 ho.toObjSz hl' ZL ZA ZA (dl o a b).2.1 (dl o a b).2.2.1
    refine⟨v,e1,g4.trans (g4'.trans e2),fun h=> ?_⟩
    rw[e3 h]
    exact⟨hl',rfl,rfl,hok,hl2,hn⟩
   ·refine⟨(ZL,ZA,ZA,c), ?_,g3 hc,fun h=>absurd h hc⟩
    exact ef o ho.toObjSz _ _ x8 x9 x10 (l',t,o) c hc o.2.2.1.length 0 (by omega)
 ·rw[decide_eq_false hn,vW _ hn]
  refine⟨(ZL,ZA,ZA,ga t o), ?_,rfl,fun h=>absurd h hn⟩
  rw[show(0:Int)=((0:Nat):Int) from rfl,gH o ho.toObjSz _ _ x8 x9 x10 ((dl o a b).1,t,o) _ hn o.2.2.2.2.1.length 0 (by omega)]
  exact ef o ho.toObjSz _ _ x8 x9 x10 ((dl o a b).1,t,o) _ hn o.2.2.1.length 0 (by omega)
theorem HD {t:List cU} (h:nV t=true):Bb t:=by
 unfold nV at h
 rw[Bool.and_eq_true,decide_eq_true_eq,fZ]at h
 refine⟨h.1,fun i hi=> ?_⟩
 have:=h.2 i (Nat.zero_le _) (by omega)
 unfold wI at this
 cases h1:cR (rd (τ:=aS) t (i:Int))with
 |true=>rfl
 |false=>rw[h1]at this;cases this
theorem Bh (t:List cU) (a b:bm) (o:bn) (hr:sX o) (ht:nV t=true) (ha:cc a) (hb:cc b) (ho:m9 o=true):
  ∃v,d5 t a b o=some v∧gf t a b o=some v∧(v.2.2.2=0→EM t a b o v):=by
 have hT:=HD ht
 have hO:=jO ho
 have:=hT.1
 obtain⟨v,e1,e2,e3⟩:=Bg t a b o hT ha hb hO ([],[],[],[]) (0,0,0) (0,0,0)
 refine⟨v, ?_,e2,e3⟩
 rw[MV,decide_eq_false (show¬(t.length:Int)>4096 by omega),(ir t).1,ht,sU a,s9.2 ha,sU b,s9.2 hb,(iZ o hr).1,ho]
 simp only[Option.bind_some,av,Bool.not_true,cond_false]
 rw[zd _ _ _ hT.1 hO.toObjSz]
 exact e1
def updF (F:Int→Int) (a:Int) (t:ByteArray) (x:Int):Int:=if a≤x∧x<a+(t.size:Int)then bt t (x-a)else F x
def FR (F:Int→Int):Prop:=∀x,0≤F x∧F x≤255
theorem dL {F:Int→Int} (h:FR F) (a:Int) (t:ByteArray):FR (updF F a t):=by
 intro x
 unfold updF
 split
 ·exact ws _ _
 ·exact h x
def pg (F:Int→Int) (b:Int):ByteArray:=aC (bc (fun i=>F (b+(i:Int))) 0 128)
def ca (F:Int→Int) (q:Int×Int):fy:=(q.1,q.2,pg F q.1)
def ax (F:Int→Int) (L:List (Int×Int)):List fy:=L.map (ca F)
theorem fu (F:Int→Int) (b:Int):(pg F b).size=128:=by unfold pg;rw[bK,az]
theorem vX {α:Type} (f:Nat→α) (P:α→Prop) (k i:Nat) (h:∀j,P (f j)):∀x∈bc f i k,P x:=by
 intro x hx
 obtain⟨j,_,_,rfl⟩:=(cy f x k i).1 hx
 exact h j
theorem vY {F:Int→Int} (hF:FR F) (b i:Int) (h:0≤i) (h':i<128):bt (pg F b) i=F (b+i):=by
 obtain⟨n,rfl⟩:∃n:Nat,i=(n:Int):=⟨i.toNat,by omega⟩
 rw[fY]
 unfold pg
 rw[uk _ n (vX _ _ _ _ fun j=>hF _) (by rw[az];omega),f5,Nat.zero_add]
theorem pI (xs:List Int) (h:∀x∈xs,0≤x∧x≤255):fb (aC xs)=xs:=by
 unfold fb aC
 simp only[List.map_map]
 rw[List.map_congr_left (g:=id) fun x hx=> ?_,List.map_id]
 have:=h x hx
 simp only[Function.comp,id]
 rw[UInt8.toNat_ofNat']
 omega
theorem EN {α:Type} (f:Nat→α) (n i:Nat) (x:α):(bc f 0 n).set i x=bc (fun j=>if j=i then x else f j) 0 n:=by
 apply List.ext_getElem
 ·rw[List.length_set,az,az]
 ·intro j h1 h2
  rw[List.getElem_set,f5,f5,Nat.zero_add]
  by_cases h:j=i
  ·rw[if_pos h.symm,if_pos h]
  ·rw[if_neg (fun e=>h e.symm),if_neg h]
theorem dM {α:Type} {f g:Nat→α}:∀(k i:Nat),(∀j,i≤j→j<i+k→f j=g j)→bc f i k=bc g i k
 |0,_,_=>rfl
 |k+1,i,h=>by rw[bc,bc,h i (Nat.le_refl _) (by omega),dM k (i+1) fun j h1 h2=>h j (by omega) (by omega)]
def lP (F:Int→Int) (a:Int) (t:ByteArray) (b:Int) (i:Nat):List Int:=bc (fun j=>if j<i then updF F a t (b+(j:Int))else F (b+(j:Int))) 0 128
structure eC (L:List (Int×Int)):Prop where
 len:L.length≤64
 base:∀q∈L,0≤q.1∧q.1≤1048575
def EO (a:Int) (t:ByteArray):Prop:= -1099511627776≤a∧a≤1099511627776∧t.size≤1048576
theorem tJ {F:Int→Int} (hF:FR F) (a:Int) (t:ByteArray) (hA:EO a t) (x6 m:List fy) (k:Nat) (p:fy) (hp:0≤p.1∧p.1≤1048575) (x17 x18:Int) (hk:k<m.length):∀(d i:Nat),i+d=128→
  nY.b a t x6 m (k:Int) p (lP F a t p.1 i) x17 x18 128 (i:Int)=nY.a a t x6 (m.set k ((rd (τ:=aO) m (k:Int)).1,(rd (τ:=aO) m (k:Int)).2.1,aC (lP F a t p.1 128))) x17 (IntKind.wrap .i64 (x18+1)):=by
 obtain⟨a1,a2,a3⟩:=hA
 intro d
 induction d with
 |zero=>
  intro i h
  have:i=128:=by omega
  subst this
  rw[nY.b_eq,show decide (((128:Nat):Int)<128)=false by decide,cond_false,ae,decide_eq_true hk,Int.toNat_natCast];rfl
 |succ d ih=>
  intro i h
  have hi:i<128:=by omega
  have hs:lP F a t p.1 (i+1)=if a≤p.1+(i:Int)∧p.1+(i:Int)<a+(t.size:Int)then(lP F a t p.1 i).set i (bt t (p.1+(i:Int)-a))else lP F a t p.1 i:=by
   unfold lP
   split
   ·rename_i hc
    rw[EN]
    apply dM
    intro j _ _
    by_cases hj:j=i
    ·subst hj
     rw[if_pos (by omega),if_pos rfl]
     unfold updF
     rw[if_pos hc]
    ·rw[if_neg hj]
     by_cases hj2:j<i
     ·rw[if_pos (by omega),if_pos hj2]
     ·rw[if_neg (by omega),if_neg hj2]
   ·rename_i hc
    apply dM
    intro j _ _
    by_cases hj:j=i
    ·subst hj
     rw[if_pos (by omega),if_neg (by omega)]
     unfold updF
     rw[if_neg hc]
    ·by_cases hj2:j<i
     ·rw[if_pos (by omega),if_pos hj2]
     ·rw[if_neg (by omega),if_neg hj2]
  have hl:(lP F a t p.1 i).length=128:=by unfold lP;rw[az]
  have ih':=ih (i+1) (by omega)
  rw[hs]at ih'
  rw[nY.b_eq,decide_eq_true (show(i:Int)<128 by omega),aH (n:=p.1+(i:Int)) (by omega) (by omega),aH (n:=p.1+(i:Int)-a) (by omega) (by omega),aH (n:=(t.size:Int)-1) (by omega) (by omega),aH (n:=(i:Int)+1) (by omega) (by omega),show(i:Int)+1=((i+1:Nat):Int) by omega,Ip]
  simp only[cond_true,Option.bind_some]
  by_cases hc:a≤p.1+(i:Int)∧p.1+(i:Int)<a+(t.size:Int)
  ·rw[bd.2 (show 0≤p.1+(i:Int)-a∧p.1+(i:Int)-a≤(t.size:Int)-1 by omega),inL_true (i:=p.1+(i:Int)-a) (n:=t.size) (by omega) (by omega),ae,hl,decide_eq_true hi]
   rw[if_pos hc]at ih'
   simp only[cond_true,letB,Int.toNat_natCast]
   exact ih'
  ·rw[show cM (p.1+(i:Int)-a) 0 ((t.size:Int)-1)=false by cases h5:cM (p.1+(i:Int)-a) 0 ((t.size:Int)-1);rfl;rw[bd]at h5;omega]
   rw[if_neg hc]at ih'
   simp only[cond_false]
   exact ih'
theorem rg {F:Int→Int} (hF:FR F) (a:Int) (t:ByteArray) (hA:EO a t) (L:List (Int×Int)) (hL:eC L) (x6:List fy):∀(d k:Nat),k+d=L.length→
  nY.a a t x6 (ax (updF F a t) (L.take k)++ax F (L.drop k)) (L.length:Int) (k:Int)=some (ax (updF F a t) L):=by
 have hn:=hL.len
 intro d
 induction d with
 |zero=>
  intro k h
  have:k=L.length:=by omega
  subst this
  rw[nY.a_eq,ab,decide_eq_false (Nat.lt_irrefl _),cond_false,List.take_length,List.drop_length]
  simp[ax]
 |succ d ih=>
  intro k h
  have hk:k<L.length:=by omega
  have hml:(ax (updF F a t) (L.take k)++ax F (L.drop k)).length=L.length:=by simp[ax];omega
  have hrd:rd (τ:=aO) (ax (updF F a t) (L.take k)++ax F (L.drop k)) (k:Int)=ca F L[k]:=by
   rw[aM (τ:=aO) _ k (by rw[hml];exact hk),List.getElem_append_right (by simp[ax];omega)]
   simp[ax,List.getElem_drop]
   congr 2
   omega
  have hset:(ax (updF F a t) (L.take k)++ax F (L.drop k)).set k (ca (updF F a t) L[k])=ax (updF F a t) (L.take (k+1))++ax F (L.drop (k+1)):=by
   rw[List.set_append_right _ _ (by simp[ax];omega)]
   have e:k-(ax (updF F a t) (L.take k)).length=0:=by simp[ax];omega
   rw[e]
   unfold ax
   rw[List.drop_eq_getElem_cons hk,List.map_cons,List.set_cons_zero,List.take_succ_eq_append_getElem hk,List.map_append,List.append_assoc]
   rfl
  have hq:=hL.base L[k] (List.getElem_mem hk)
  rw[nY.a_eq,ab,ae,hml,decide_eq_true hk,hrd]
  have hint:fb (pg F (L[k]).1)=lP F a t (L[k]).1 0:=by
   unfold pg
   rw[pI _ (vX _ _ _ _ fun j=>hF _)]
   unfold lP
   apply dM
   intro j _ _
   rw[if_neg (by omega)]
  show(bif true then bif true then bif decide ((pg F (L[k]).1).size≤9223372036854775807)then nY.b a t x6 _ (k:Int) (ca F L[k]) (fb (pg F (L[k]).1)) (L.length:Int) (k:Int) ((fb (pg F (L[k]).1)).length:Int) 0 else none else none else _)=_
  rw[fu,hint,show(lP F a t (L[k]).1 0).length=128 by unfold lP;rw[az]]
  have hrow:=tJ hF a t hA x6 (ax (updF F a t) (L.take k)++ax F (L.drop k)) k (ca F L[k]) hq (L.length:Int) (k:Int) (by rw[hml];exact hk) 128 0 (by omega)
  rw[hrd]at hrow
  have hfin:aC (lP F a t (ca F L[k]).1 128)=pg (updF F a t) (L[k]).1:=by
   unfold lP pg
   rw[dM (f:=fun j=>if j<128 then updF F a t ((ca F L[k]).1+(j:Int))else F ((ca F L[k]).1+(j:Int))) (g:=fun j=>updF F a t ((L[k]).1+(j:Int))) 128 0 fun j _ hj=>if_pos (by omega)]
  rw[hfin,ah k L.length hk (by omega)]at hrow
  have hset':(ax (updF F a t) (L.take k)++ax F (L.drop k)).set k ((ca F L[k]).1,(ca F L[k]).2.1,pg (updF F a t) (L[k]).1)=ax (updF F a t) (L.take (k+1))++ax F (L.drop (k+1)):=hset
  rw[hset']at hrow
  exact hrow.trans (ih (k+1) (by omega))
theorem pJ (m:List fy) (h:m.length≤64):Z5 m=some m:=by
 rw[Pa,show ar m.length 32=true by simp[ar];omega];rfl
theorem vZ {F:Int→Int} (hF:FR F) (a:Int) (t:ByteArray) (hA:EO a t) (L:List (Int×Int)) (hL:eC L):nY (ax F L) a t=some (ax (updF F a t) L):=by
 have hml:(ax F L).length=L.length:=by simp[ax]
 have hn:=hL.len
 rw[Mf,Me,pJ _ (by omega)]
 simp only[Option.bind_some]
 rw[hml]
 exact rg hF a t hA L hL [] L.length 0 (by omega)
theorem mQ (a b:ByteArray) (i:Nat):bt (a++b) (i:Int)=if i<a.size then bt a (i:Int)else bt b ((i-a.size:Nat):Int):=by
 rw[fY,fY,fY]
 have hs:a.size=a.data.size:=rfl
 rw[ByteArray.data_append,Array.getD_eq_getD_getElem?,Array.getD_eq_getD_getElem?,Array.getD_eq_getD_getElem?,Array.getElem?_append,hs]
 split<;>rfl
theorem iN (t:ByteArray) (s e i:Nat) (h:s+i<e) (he:e≤t.size):bt (t.extract s e) (i:Int)=bt t ((s+i:Nat):Int):=by
 rw[fY,fY]
 have hs:t.size=t.data.size:=rfl
 rw[ByteArray.data_extract,Array.getD_eq_getD_getElem?,Array.getD_eq_getD_getElem?,Array.getElem?_extract,if_pos (by omega)]
theorem Jc {a b:ByteArray} (hs:a.size=b.size) (h:∀i:Nat,i<a.size→bt a (i:Int)=bt b (i:Int)):a=b:=by
 apply Gf hs
 intro i hi
 have:=h i hi
 rw[fY,fY]at this
 exact UInt8.toNat_inj.1 (by omega)
abbrev fR:Ty:= .pair (.int .i64) (.int .i64)
def dN (b a:Int):Bool:=decide (b≤a)&&decide (a≤b+127)
def du (L:List (Int×Int)) (a:Int):Int:=dV (fun i=>dN (rd (τ:=fR) L (i:Int)).1 a) 0 L.length
theorem jC (F:Int→Int) (L:List (Int×Int)) (i:Nat) (h:i<L.length):rd (τ:=aO) (ax F L) (i:Int)=ca F (rd (τ:=fR) L (i:Int)):=by
 rw[aM (τ:=aO) (ax F L) i (by simp[ax];exact h),aM (τ:=fR) L i h]
 simp[ax]
theorem ke {L:List (Int×Int)} (hL:eC L) (i:Nat) (h:i<L.length) {q:Int×Int} (hq:rd (τ:=fR) L (i:Int)=q):0≤q.1∧q.1≤1048575:=by
 rw[aM (τ:=fR) L i h]at hq;rw[←hq];exact hL.base _ (List.getElem_mem h)
def Jd (a:Int):Prop:= -1099511627776≤a∧a≤1099511627776
theorem Bi (F:Int→Int) (L:List (Int×Int)) (hL:eC L) (a:Int) (ha:Jd a):RP (ax F L) a=some (du L a):=by
 have hn:=hL.len
 obtain⟨a1,a2⟩:=ha
 have hml:(ax F L).length=L.length:=by simp[ax]
 rw[M1,M0,hml]
 rw[dc (L:=Hc.a a (ax F L) (L.length:Int)) (fun i=>dN (rd (τ:=fR) L (i:Int)).1 a) L.length ?_ fun i hi=> ?_]
 ·rfl
 ·rw[Hc.a_eq,ab];simp
 ·rw[Hc.a_eq,ab,ae,hml,decide_eq_true hi,ah i _ hi (by omega),jC F L i hi,MZ]
  obtain⟨q,hq⟩:∃q:Int×Int,rd (τ:=fR) L (i:Int)=q:=⟨_,rfl⟩
  have hb:=ke hL i hi hq
  rw[hq]
  obtain⟨b,hbe⟩:∃b:Int,q.1=b:=⟨_,rfl⟩
  rw[hbe]at hb⊢
  show(bif true then bif true then(Option.bind (Option.bind (gg a (ca F q).1 (IntKind.wrap .i64 (IntKind.wrap .i64 ((ca F q).1+128)-1))) fun r1=>some r1) _)else none else _)=_
  rw[show(ca F q).1=b from hbe,aH (n:=b+128) (by omega) (by omega),aH (n:=b+128-1) (by omega) (by omega),Ip,show cM a b (b+128-1)=dN b a by unfold cM dN;rw[show b+128-1=b+127 by omega]]
  rfl
theorem mR (F:Int→Int) (L:List (Int×Int)) (hL:eC L) (a:Int) (ha:Jd a):Ae (ax F L) a=some (du L a):=by
 have hn:=hL.len
 obtain⟨a1,a2⟩:=ha
 have hml:(ax F L).length=L.length:=by simp[ax]
 rw[Kf]
 refine dc (L:=Ae.a a (ax F L)) (fun i=>dN (rd (τ:=fR) L (i:Int)).1 a) L.length ?_ fun i hi=> ?_
 ·rw[Ae.a_eq,hml,ab];simp
 ·rw[Ae.a_eq,hml,ab,ae,decide_eq_true hi,ah i _ hi (by omega),jC F L i hi]
  obtain⟨q,hq⟩:∃q:Int×Int,rd (τ:=fR) L (i:Int)=q:=⟨_,rfl⟩
  have hb:=ke hL i hi hq
  rw[hq]
  obtain⟨b,hbe⟩:∃b:Int,q.1=b:=⟨_,rfl⟩
  rw[hbe]at hb⊢
  rw[show(ca F q).1=b from hbe,aH (n:=a-b) (by omega) (by omega)]
  unfold dN
  by_cases h1:b≤a
  ·rw[decide_eq_true h1,show decide (a-b<128)=decide (a≤b+127) by congr 1;apply propext;omega]
   cases decide (a≤b+127)<;>rfl
  ·rw[decide_eq_false h1];rfl
def xZ (L:List (Int×Int)):Prop:=∀(i j:Nat) (a:Int),i<L.length→j<L.length→dN (rd (τ:=fR) L (i:Int)).1 a=true→dN (rd (τ:=fR) L (j:Int)).1 a=true→i=j
theorem jD {L:List (Int×Int)} {a:Int} (h:0≤du L a):∃(k:Nat) (q:Int×Int),du L a=(k:Int)∧k<L.length∧rd (τ:=fR) L (k:Int)=q∧q.1≤a∧a≤q.1+127:=by
 unfold du at h⊢
 rcases cr (fun i=>dN (rd (τ:=fR) L (i:Int)).1 a) L.length 0 with⟨h1,_⟩|⟨j,h1,h2,h3,h4,_⟩
 ·omega
 ·unfold dN at h4
  rw[Bool.and_eq_true,decide_eq_true_eq,decide_eq_true_eq]at h4
  exact⟨j,_,h1,by omega,rfl,h4.1,h4.2⟩
theorem HE (m:List fy) (h:m.length≤64):Rl m=some m:=by
 rw[Kg,show ar (0+m.length) 32=true by simp[ar];omega];rfl
theorem tK {F:Int→Int} (hF:FR F) (L:List (Int×Int)) (hL:eC L) (hN:xZ L) (a:Int) (ha:Jd a) (t:ByteArray) (k:Nat) (hk:du L a=(k:Int)) (hkl:k<L.length) {q:Int×Int} (hq:rd (τ:=fR) L (k:Int)=q) (h1:q.1≤a) (h2:a+(t.size:Int)≤q.1+128):
  Rm (ax F L) a t=some (ax (updF F a t) L):=by
 have hn:=hL.len
 have hml:(ax F L).length=L.length:=by simp[ax]
 have hb:=ke hL k hkl hq
 rw[Kh,HE _ (by omega),mR F L hL a ha,hk]
 simp only[Option.bind_some]
 rw[ae,hml,decide_eq_true hkl,jC F L k hkl]
 rw[hq]
 obtain⟨j,hj⟩:∃j:Nat,a-q.1=(j:Int):=⟨(a-q.1).toNat,by omega⟩
 show(bif true then bif true then(bif decide (0≤0)&&decide (0≤IntKind.wrap .i64 (a-q.1))&&decide (IntKind.wrap .i64 (a-q.1)≤((pg F q.1).size:Int))then _ else none)else none else none)=_
 simp only[show(ca F q).1=q.1 from rfl,show(ca F q).2.1=q.2 from rfl,show(ca F q).2.2=pg F q.1 from rfl]
 rw[aH (n:=a-q.1) (by omega) (by omega),hj,fu,aH (n:=(j:Int)+(t.size:Int)) (by omega) (by omega)]
 rw[show(decide (0≤0)&&decide (0≤(j:Int))&&decide ((j:Int)≤((128:Nat):Int)))=true by simp;omega,show(decide (0≤(j:Int)+(t.size:Int))&&decide ((j:Int)+(t.size:Int)≤((128:Nat):Int))&&decide (((128:Nat):Int)≤((128:Nat):Int)))=true by simp;omega]
 rw[show(Int.toNat 0)=0 from rfl,Int.toNat_natCast,show((j:Int)+(t.size:Int)).toNat=j+t.size by omega,Int.toNat_natCast,Int.toNat_natCast]
 have hz1:((pg F q.1).extract 0 j).size=j:=by rw[ByteArray.size_extract,fu];omega
 have hz2:((pg F q.1).extract (j+t.size) 128).size=128-(j+t.size):=by rw[ByteArray.size_extract,fu];omega
 rw[decide_eq_true (show((pg F q.1).extract 0 j).size+t.size≤9223372036854775807 by rw[hz1];omega),decide_eq_true (show((pg F q.1).extract 0 j++t).size+((pg F q.1).extract (j+t.size) 128).size≤9223372036854775807 by rw[ByteArray.size_append,hz1,hz2];omega)]
 have hpage:(pg F q.1).extract 0 j++t++(pg F q.1).extract (j+t.size) 128=pg (updF F a t) q.1:=by
  apply Jc
  ·rw[ByteArray.size_append,ByteArray.size_append,hz1,hz2,fu];omega
  ·intro i hi
   rw[ByteArray.size_append,ByteArray.size_append,hz1,hz2]at hi
   rw[vY (dL hF a t) _ _ (by omega) (by omega),mQ,ByteArray.size_append,hz1,mQ,hz1]
   unfold updF
   by_cases c1:i<j
   ·rw[if_pos (by omega),if_pos c1,if_neg (by omega),iN _ _ _ _ (by omega) (by rw[fu];omega),vY hF _ _ (by omega) (by omega),Nat.zero_add]
   ·by_cases c2:i<j+t.size
    ·rw[if_pos c2,if_neg c1,if_pos (by omega),show q.1+(i:Int)-a=((i-j:Nat):Int) by omega]
    ·rw[if_neg c2,if_neg (by omega),iN _ _ _ _ (by omega) (by rw[fu];omega),vY hF _ _ (by omega) (by omega)]
     congr 1;omega
 rw[hpage]
 show some ((ax F L).set k (ca (updF F a t) q))=_
 congr 1
 apply List.ext_getElem
 ·simp[ax]
 ·intro i g1 g2
  have hi:i<L.length:=by simpa[ax]using g2
  rw[List.getElem_set]
  have e1:(ax (updF F a t) L)[i]=ca (updF F a t) L[i]:=by simp[ax]
  have e2:(ax F L)[i]'(by simp[ax];exact hi)=ca F L[i]:=by simp[ax]
  rw[e1,e2]
  have hqk:L[k]=q:=by rw[←hq,aM (τ:=fR) L k hkl]
  by_cases c:k=i
  ·subst c
   rw[if_pos rfl,hqk]
  ·rw[if_neg c]
   unfold ca
   congr 2
   have hpg:∀x:Nat,x<128→F ((L[i]).1+(x:Int))=updF F a t ((L[i]).1+(x:Int)):=by
    intro x hx
    unfold updF
    rw[if_neg]
    intro hc
    refine c (hN k i ((L[i]).1+(x:Int)) hkl hi ?_ ?_)
    ·rw[hq];unfold dN
     rw[Bool.and_eq_true,decide_eq_true_eq,decide_eq_true_eq];omega
    ·rw[aM (τ:=fR) L i hi];unfold dN
     rw[Bool.and_eq_true,decide_eq_true_eq,decide_eq_true_eq];omega
   unfold pg
   rw[dM 128 0 fun x _ hx=>hpg x (by omega)]
theorem ya (F:Int→Int) (a:Int) (t:ByteArray) (n:Nat) (hn:n≤t.size):updF (updF F a (t.extract 0 n)) (a+(n:Int)) (t.extract n t.size)=updF F a t:=by
 funext x
 have hz1:(t.extract 0 n).size=n:=by rw[ByteArray.size_extract];omega
 have hz2:(t.extract n t.size).size=t.size-n:=by rw[ByteArray.size_extract];omega
 unfold updF
 rw[hz1,hz2]
 by_cases c1:a+(n:Int)≤x∧x<a+(n:Int)+((t.size-n:Nat):Int)
 ·rw[if_pos c1,if_pos (by omega)]
  obtain⟨i,hi⟩:∃i:Nat,x-(a+(n:Int))=(i:Int):=⟨(x-(a+(n:Int))).toNat,by omega⟩
  rw[hi,iN _ _ _ _ (by omega) (Nat.le_refl _)]
  congr 1;omega
 ·rw[if_neg c1]
  by_cases c2:a≤x∧x<a+(n:Int)
  ·rw[if_pos c2,if_pos (by omega)]
   obtain⟨i,hi⟩:∃i:Nat,x-a=(i:Int):=⟨(x-a).toNat,by omega⟩
   rw[hi,iN _ _ _ _ (by omega) hn]
   congr 1;omega
  ·rw[if_neg c2,if_neg (by omega)]
theorem pK (F:Int→Int) (a:Int) (t:ByteArray) (h:t.size=0):updF F a t=F:=by
 funext x
 unfold updF
 rw[if_neg (by omega)]
theorem EP (L:List (Int×Int)) (hL:eC L) (hN:xZ L) (x6:List fy):∀(n:Nat) (F:Int→Int) (a:Int) (t:ByteArray),FR F→t.size≤n→ -1000000000≤a→a+(t.size:Int)≤1000000000→(∀x,a≤x→x<a+(t.size:Int)→0≤du L x)→
  w3.a a t (ax F L) x6=some (ax (updF F a t) L):=by
 have hml:∀F,(ax F L).length=L.length:=by intro F;simp[ax]
 intro n
 induction n with
 |zero=>
  intro F a t hF ht h1 h2 hx
  have h0:t.size=0:=by omega
  rw[w3.a_eq,decide_eq_false (show¬(t.size:Int)>0 by omega),cond_false,pK F a t h0]
 |succ n ih=>
  intro F a t hF ht h1 h2 hx
  by_cases h0:t.size=0
  ·rw[w3.a_eq,decide_eq_false (show¬(t.size:Int)>0 by omega),cond_false,pK F a t h0]
  ·obtain⟨k,q,hk,hkl,hq,hb1,hb2⟩:=jD (hx a (Int.le_refl _) (by omega))
   have hb:=ke hL k hkl hq
   rw[w3.a_eq,decide_eq_true (show(t.size:Int)>0 by omega),mR F L hL a ⟨by omega,by omega⟩,hk]
   simp only[cond_true,Option.bind_some]
   rw[ae,hml,decide_eq_true hkl,jC F L k hkl]
   rw[hq]
   simp only[show(ca F q).1=q.1 from rfl,cond_true]
   rw[aH (n:=q.1+128) (by omega) (by omega),aH (n:=q.1+128-a) (by omega) (by omega)]
   obtain⟨m,hm⟩:∃m:Nat,(if q.1+128-a< (t.size:Int)then q.1+128-a else(t.size:Int))=(m:Int):=⟨(if q.1+128-a< (t.size:Int)then q.1+128-a else(t.size:Int)).toNat,by split<;>omega⟩
   have hm1:1≤m∧m≤t.size∧a+(m:Int)≤q.1+128:=by split at hm<;>omega
   rw[hm,aH (n:=a+(m:Int)) (by omega) (by omega)]
   rw[show(decide (0≤0)&&decide (0≤(m:Int))&&decide ((m:Int)≤(t.size:Int)))=true by simp;omega,show(decide (0≤(m:Int))&&decide ((m:Int)≤(t.size:Int))&&decide ((t.size:Int)≤(t.size:Int)))=true by simp;omega]
   rw[show(Int.toNat 0)=0 from rfl,Int.toNat_natCast,Int.toNat_natCast]
   have hz1:(t.extract 0 m).size=m:=by rw[ByteArray.size_extract];omega
   have hz2:(t.extract m t.size).size=t.size-m:=by rw[ByteArray.size_extract];omega
   rw[tK hF L hL hN a ⟨by omega,by omega⟩ (t.extract 0 m) k hk hkl hq hb1 (by rw[hz1];exact hm1.2.2)]
   simp only[cond_true,Option.bind_some]
   rw[ih _ _ _ (dL hF _ _) (by omega) (by omega) (by omega) fun x g1 g2=>hx x (by omega) (by omega),ya F a t m hm1.2.1]
def tL (F:Int→Int) (a:Int) (n:Nat):ByteArray:=aC (bc (fun i=>F (a+(i:Int))) 0 n)
theorem Bj (F:Int→Int) (a:Int) (n:Nat):(tL F a n).size=n:=by unfold tL;rw[bK,az]
theorem EQ (n:Nat) (h:n≤8192):ar n 1=true:=by simp[ar];omega
theorem yb {F:Int→Int} (hF:FR F) (L:List (Int×Int)) (hL:eC L) (a:Int) (n:Nat) (hn:n≤1024) (h1: -1000000000≤a) (h2:a≤1000000000) (hx:∀x,a≤x→x<a+(n:Int)→0≤du L x):
  Am (ax F L) a (n:Int)=some (tL F a n):=by
 have hml:(ax F L).length=L.length:=by simp[ax]
 rw[M2]
 have key:=ck (L:=fun acc i=>Am.a a (n:Int) (ax F L) acc (a+i)) (fun i=>F (a+(i:Int))) n ([]:List Int) fun acc i hi ha=> ?_
 ·simp only[Int.add_zero,List.nil_append]at key
  rw[key,Am.a_eq,aH (n:=a+(n:Int)) (by omega) (by omega),decide_eq_false (show¬a+(n:Int)<a+(n:Int) by omega)];rfl
 ·simp only[List.length_nil,Nat.zero_add]at ha
  obtain⟨k,q,hk,hkl,hq,hb1,hb2⟩:=jD (hx (a+(i:Int)) (by omega) (by omega))
  have hb:=ke hL k hkl hq
  show Am.a a (n:Int) (ax F L) acc (a+(i:Int))=Am.a a (n:Int) (ax F L) (acc++[F (a+(i:Int))]) (a+((i+1:Nat):Int))
  rw[Am.a_eq,aH (n:=a+(n:Int)) (by omega) (by omega),decide_eq_true (show a+(i:Int)<a+(n:Int) by omega),Bi F L hL _ ⟨by omega,by omega⟩,hk]
  simp only[cond_true,Option.bind_some]
  rw[ae,hml,decide_eq_true hkl,jC F L k hkl,hq]
  simp only[show(ca F q).1=q.1 from rfl,show(ca F q).2.2=pg F q.1 from rfl,cond_true]
  rw[aH (n:=a+(i:Int)-q.1) (by omega) (by omega),aH (n:=a+(i:Int)+1) (by omega) (by omega),fu,inL_true (i:=a+(i:Int)-q.1) (n:=128) (by omega) (by omega),vY hF _ _ (by omega) (by omega),show q.1+(a+(i:Int)-q.1)=a+(i:Int) by omega,EQ _ (by simp;omega),show a+(i:Int)+1=a+((i+1:Nat):Int) by omega]
  rfl
theorem ER {F:Int→Int} (hF:FR F) (L:List (Int×Int)) (hL:eC L) (a:Int) (n:Nat) (hn:n≤1024) (h1: -1000000000≤a) (h2:a≤1000000000) (hx:∀x,a≤x→x<a+(n:Int)→0≤du L x):
  Ag (ax F L) a (n:Int)=some (tL F a n):=by
 have hml:(ax F L).length=L.length:=by simp[ax]
 rw[KN]
 rw[ck (L:=fun acc i=>Ag.a a (n:Int) (ax F L) acc i) (fun i=>F (a+(i:Int))) n ([]:List Int) fun acc i hi ha=> ?_]
 ·rw[Ag.a_eq,ab,decide_eq_false (Nat.lt_irrefl _),cond_false,List.nil_append];rfl
 ·simp only[List.length_nil,Nat.zero_add]at ha
  obtain⟨k,q,hk,hkl,hq,hb1,hb2⟩:=jD (hx (a+(i:Int)) (by omega) (by omega))
  have hb:=ke hL k hkl hq
  show Ag.a a (n:Int) (ax F L) acc (i:Int)=Ag.a a (n:Int) (ax F L) (acc++[F (a+(i:Int))]) ((i+1:Nat):Int)
  rw[Ag.a_eq,ab,decide_eq_true hi,aH (n:=a+(i:Int)) (by omega) (by omega),ah i n hi (by omega),mR F L hL _ ⟨by omega,by omega⟩,hk]
  simp only[cond_true,Option.bind_some]
  rw[ae,hml,decide_eq_true hkl,jC F L k hkl,hq]
  simp only[show(ca F q).1=q.1 from rfl,show(ca F q).2.2=pg F q.1 from rfl,cond_true]
  rw[aH (n:=a+(i:Int)-q.1) (by omega) (by omega),fu,inL_true (i:=a+(i:Int)-q.1) (n:=128) (by omega) (by omega),vY hF _ _ (by omega) (by omega),show q.1+(a+(i:Int)-q.1)=a+(i:Int) by omega,EQ _ (by simp;omega)]
  rfl
def nQ (F:Int→Int) (b:Int) (n:Nat):Prop:=∀x,b≤x→x<b+(n:Int)→F x=0
theorem zL {F:Int→Int} {b:Int} (h:nQ F b 128):pg F b=aC (List.replicate 128 (0:Int)):=by
 unfold pg
 rw[dM (g:=fun _=>(0:Int)) 128 0 fun j _ hj=>h _ (by omega) (by omega)]
 rfl
theorem ES:q8 (⟨#[0]⟩:ByteArray) 128=aC (List.replicate 128 (0:Int)):=by decide+kernel
theorem ET {F:Int→Int} (L:List (Int×Int)) (hn:L.length<64) (b p:Int) (hb:∀q∈L,q.1<b) (hz:nQ F b 128):CU (ax F L) b p=some (ax F (L++[(b,p)])):=by
 have hml:(ax F L).length=L.length:=by simp[ax]
 rw[Mg]
 have loop:∀(d k:Nat),k+d=L.length→CU.a b p (ax F L) [] (k:Int)=CU.a b p (ax F L) [] (L.length:Int):=by
  intro d
  induction d with
  |zero=>
    intro k h;have:k=L.length:=by omega
    rw[this]
  |succ d ih=>
   intro k h
   have hk:k<L.length:=by omega
   obtain⟨q,hq⟩:∃q:Int×Int,rd (τ:=fR) L (k:Int)=q:=⟨_,rfl⟩
   have hqb:q.1<b:=by rw[aM (τ:=fR) L k hk]at hq;rw[←hq];exact hb _ (List.getElem_mem hk)
   rw[CU.a_eq,hml,ab,ae,decide_eq_true hk,jC F L k hk,hq]
   simp only[av,cond_true]
   rw[show decide ((ca F q).1<b)=true from decide_eq_true hqb,ah k L.length hk (by omega),cond_true,ih (k+1) (by omega)]
 have h0:=loop L.length 0 (by omega)
 rw[show((0:Nat):Int)=0 from rfl]at h0
 rw[h0,CU.a_eq,hml,ab,decide_eq_false (Nat.lt_irrefl _)]
 simp only[av,cond_false]
 rw[pJ _ (by omega),IR]
 simp only[Option.bind_some]
 rw[show(decide (0≤(128:Int))&&decide ((128:Int)≤9223372036854775807)&&decide (ByteArray.size (⟨#[0]⟩:ByteArray)*(128:Int).toNat≤140737488355328))=true by decide,cond_true,ES,←zL hz]
 simp only[Option.bind_some]
 rw[O9,hml,show(decide ((L.length:Int)=(L.length:Int))&&ar (L.length+[(b,p,pg F b)].length) 32)=true by simp[ar];omega]
 simp only[cond_true,Option.bind_some]
 unfold ax
 rw[List.map_append];rfl
theorem EU {F:Int→Int} (L:List (Int×Int)) (hn:L.length<64) (b p:Int) (hb:∀q∈L,q.1<b) (hz:nQ F b 128):Af (ax F L) b p=some (ax F (L++[(b,p)])):=by
 have hml:(ax F L).length=L.length:=by simp[ax]
 rw[Kj]
 have loop:∀(d k:Nat),k+d=L.length→Af.a b p (ax F L) [] (ax F (L.take k)) false (k:Int)=Af.a b p (ax F L) [] (ax F L) false (L.length:Int):=by
  intro d
  induction d with
  |zero=>
    intro k h;have:k=L.length:=by omega
    rw[this,List.take_length]
  |succ d ih=>
   intro k h
   have hk:k<L.length:=by omega
   obtain⟨q,hq⟩:∃q:Int×Int,rd (τ:=fR) L (k:Int)=q:=⟨_,rfl⟩
   have hqL:L[k]=q:=by rw[aM (τ:=fR) L k hk]at hq;exact hq
   have hqb:q.1<b:=by rw[←hqL];exact hb _ (List.getElem_mem hk)
   have hlt:(ax F (L.take k)).length=k:=by simp[ax];omega
   rw[Af.a_eq,hml,ab,ae,decide_eq_true hk,jC F L k hk,hq]
   simp only[av,cond_true,Bool.not_false]
   rw[show decide ((ca F q).1>b)=false from decide_eq_false (by show¬q.1>b;omega),ah k L.length hk (by omega),cond_false,show ar ((ax F (L.take k)).length+[ca F q].length) 32=true by rw[hlt];simp[ar];omega,cond_true]
   rw[show ax F (L.take k)++[ca F q]=ax F (L.take (k+1)) by unfold ax;rw[List.take_succ_eq_append_getElem hk,List.map_append,hqL];rfl]
   exact ih (k+1) (by omega)
 have h0:=loop L.length 0 (by omega)
 rw[show((0:Nat):Int)=0 from rfl,show ax F (L.take 0)=[] from rfl]at h0
 rw[h0,Af.a_eq,hml,ab,decide_eq_false (Nat.lt_irrefl _)]
 simp only[cond_false,Bool.not_false,cond_true]
 rw[show(decide ((0:Nat)≤128)&&ar (Int.toNat 128) 1)=true by decide,show(Int.toNat 128)=128 from rfl,←zL hz,show ar (L.length+[(b,p,pg F b)].length) 32=true by simp[ar];omega]
 simp only[cond_true]
 unfold ax
 rw[List.map_append];rfl
def mS (b p:Int) (n:Nat):List (Int×Int):=bc (fun i=>(b+128*(i:Int),p)) 0 n
theorem EV (b p:Int):∀n,mS b p (n+1)=mS b p n++[(b+128*(n:Int),p)]:=by
 intro n
 unfold mS
 have:∀(k i:Nat),bc (fun i=>(b+128*(i:Int),p)) i (k+1)=bc (fun i=>(b+128*(i:Int),p)) i k++[(b+128*((i+k:Nat):Int),p)]:=by
  intro k
  induction k with
  |zero=>intro i;rfl
  |succ k ih=>intro i;rw[bc,ih (i+1),bc,show i+1+k=i+(k+1) by omega];rfl
 rw[this n 0,Nat.zero_add]
theorem pL (b p:Int) (n:Nat):(mS b p n).length=n:=az _ _ _
theorem zM {b p:Int} {n:Nat} {q:Int×Int} (h:q∈mS b p n):b≤q.1∧q.1+128≤b+128*(n:Int):=by
 obtain⟨j,_,hj,rfl⟩:=(cy _ _ _ _).1 h
 simp only;omega
theorem v7 {F:Int→Int} (A:List fy→Int→Int→Option (List fy)) (hA:∀(L:List (Int×Int)) (b p:Int),L.length<64→(∀q∈L,q.1<b)→nQ F b 128→A (ax F L) b p=some (ax F (L++[(b,p)])))
  (X:List fy→Int→Option (List fy)) (L:List (Int×Int)) (b p:Int) (n:Nat) (hn:L.length+n≤64) (hb:∀q∈L,q.1<b) (hb0:0≤b∧b≤1048575) (hz:nQ F b (128*n))
  (hX:∀m (i:Nat),i<n→X m (128*(i:Int))=(A m (b+128*(i:Int)) p).bind fun r=>X r (128*((i+1:Nat):Int))):
  ∀(d k:Nat),k+d=n→X (ax F (L++mS b p k)) (128*(k:Int))=X (ax F (L++mS b p n)) (128*(n:Int)):=by
 intro d
 induction d with
 |zero=>
   intro k h;have:k=n:=by omega
   rw[this]
 |succ d ih=>
  intro k h
  rw[hX _ k (by omega),hA _ _ _ (by rw[List.length_append,pL];omega) (fun q hq=> ?_) (fun x h1 h2=>hz x (by omega) (by omega))]
  ·simp only[Option.bind_some]
   rw[List.append_assoc,←EV]
   exact ih (k+1) (by omega)
  ·rcases List.mem_append.1 hq with hq|hq
   ·have:=hb q hq;omega
   ·have:=zM hq;omega
def gI (t:ByteArray) (n:Nat):ByteArray:=t++q8 (⟨#[0]⟩:ByteArray) ((n-t.size:Nat):Int)
theorem zN:∀k:Nat,(Lib.repeatL [(0:UInt8)] k)=List.replicate k 0
 |0=>rfl
 |k+1=>by rw[Lib.repeatL,zN k];rfl
theorem sq (k:Nat):(q8 (⟨#[0]⟩:ByteArray) (k:Int)).data=(List.replicate k (0:UInt8)).toArray:=by
 unfold q8
 rw[Int.toNat_natCast]
 show(Lib.repeatL [(0:UInt8)] k).toArray=_
 rw[zN]
theorem sr (k:Nat):(q8 (⟨#[0]⟩:ByteArray) (k:Int)).size=k:=by
 show(q8 (⟨#[0]⟩:ByteArray) (k:Int)).data.size=k
 rw[sq];simp
theorem HF (k i:Nat):bt (q8 (⟨#[0]⟩:ByteArray) (k:Int)) (i:Int)=0:=by
 rw[fY,sq]
 simp only[Array.getD,List.size_toArray,List.length_replicate]
 split
 ·simp
 ·rfl
theorem eD (t:ByteArray) (n:Nat) (h:t.size≤n):(gI t n).size=n:=by
 unfold gI
 rw[ByteArray.size_append,sr];omega
theorem HG (t:ByteArray) (n i:Nat):bt (gI t n) (i:Int)=if i<t.size then bt t (i:Int)else 0:=by
 unfold gI
 rw[mQ]
 split
 ·rfl
 ·exact HF _ _
theorem fT (t:ByteArray) (n:Nat) (h:t.size≤n) (hn:n≤1048576):Dx t (n:Int)=some (gI t n):=by
 have hz:=eD t n h
 rw[Mi,aH (n:=(n:Int)-(t.size:Int)) (by omega) (by omega),show(n:Int)-(t.size:Int)=((n-t.size:Nat):Int) by omega,IR]
 rw[show(decide (0≤((n-t.size:Nat):Int))&&decide (((n-t.size:Nat):Int)≤9223372036854775807)&&decide (ByteArray.size (⟨#[0]⟩:ByteArray)*(((n-t.size:Nat):Int)).toNat≤140737488355328))=true by
  rw[show ByteArray.size (⟨#[0]⟩:ByteArray)=1 from rfl];simp;omega]
 simp only[cond_true,Option.bind_some]
 rw[sr,decide_eq_true (show t.size+(n-t.size)≤9223372036854775807 by omega)];rfl
theorem pM {F:Int→Int} (b:Int) (t:ByteArray) (n:Nat) (h:t.size≤n) (hz:nQ F b n):updF F b (gI t n)=updF F b t:=by
 funext x
 unfold updF
 rw[eD t n h]
 by_cases c:b≤x∧x<b+(n:Int)
 ·rw[if_pos c]
  obtain⟨i,hi⟩:∃i:Nat,x-b=(i:Int):=⟨(x-b).toNat,by omega⟩
  rw[hi,HG]
  by_cases c2:i<t.size
  ·rw[if_pos c2,if_pos (by omega)]
  ·rw[if_neg c2,if_neg (by omega),hz x c.1 c.2]
 ·rw[if_neg c,if_neg (by omega)]
theorem ij {F:Int→Int} (hF:FR F) (L:List (Int×Int)) (hL:eC L) (b p:Int) (n:Nat) (t:ByteArray) (hn:L.length+n≤64) (hb:∀q∈L,q.1<b) (hb0:0≤b∧b+128*(n:Int)≤1048575) (hz:nQ F b (128*n)) (ht:t.size=128*n):
  qQ (ax F L) b p t=some (ax (updF F b t) (L++mS b p n)):=by
 rw[Mh]
 have hL':eC (L++mS b p n):=⟨by rw[List.length_append,pL];omega,fun q hq=>by
  rcases List.mem_append.1 hq with hq|hq
  ·exact hL.base q hq
  ·have:=zM hq;omega⟩
 have h:=v7 (F:=F) CU (fun L b p h1 h2 h3=>ET L h1 b p h2 h3) (fun m i=>qQ.a b p t m [] i) L b p n hn hb ⟨by omega,by omega⟩ hz (fun m i hi=>by
  show qQ.a b p t m [] (128*(i:Int))=_
  rw[qQ.a_eq,ht,decide_eq_true (show 128*(i:Int)< ((128*n:Nat):Int) by omega),cond_true,aH (n:=b+128*(i:Int)) (by omega) (by omega),aH (n:=128*(i:Int)+128) (by omega) (by omega),show 128*(i:Int)+128=128*((i+1:Nat):Int) by omega]) n 0 (by omega)
 have h':qQ.a b p t (ax F (L++mS b p 0)) [] (128*((0:Nat):Int))=qQ.a b p t (ax F (L++mS b p n)) [] (128*(n:Int)):=h
 rw[show mS b p 0=[] from rfl,List.append_nil,show 128*((0:Nat):Int)=0 from rfl]at h'
 rw[h',qQ.a_eq,ht,decide_eq_false (show¬128*(n:Int)< ((128*n:Nat):Int) by omega),cond_false,vZ hF b t ⟨by omega,by omega,by omega⟩ _ hL'];rfl
theorem fU {F:Int→Int} (L:List (Int×Int)) (b p:Int) (n:Nat) (hn:L.length+n≤64) (hb:∀q∈L,q.1<b) (hb0:0≤b∧b+128*(n:Int)≤1048575) (hz:nQ F b (128*n)):
  qG (ax F L) b (128*(n:Int)) p=some (ax F (L++mS b p n)):=by
 rw[Kk]
 have h:=v7 (F:=F) Af (fun L b p h1 h2 h3=>EU L h1 b p h2 h3) (fun m i=>qG.a b (128*(n:Int)) p m [] i) L b p n hn hb ⟨by omega,by omega⟩ hz (fun m i hi=>by
  show qG.a b (128*(n:Int)) p m [] (128*(i:Int))=_
  rw[qG.a_eq,decide_eq_true (show 128*(i:Int)<128*(n:Int) by omega),cond_true,aH (n:=b+128*(i:Int)) (by omega) (by omega),aH (n:=128*(i:Int)+128) (by omega) (by omega),show 128*(i:Int)+128=128*((i+1:Nat):Int) by omega]) n 0 (by omega)
 have h':qG.a b (128*(n:Int)) p (ax F (L++mS b p 0)) [] (128*((0:Nat):Int))=qG.a b (128*(n:Int)) p (ax F (L++mS b p n)) [] (128*(n:Int)):=h
 rw[show mS b p 0=[] from rfl,List.append_nil,show 128*((0:Nat):Int)=0 from rfl]at h'
 rw[h',qG.a_eq,decide_eq_false (show¬128*(n:Int)<128*(n:Int) by omega),cond_false]
def L1:List (Int×Int):=mS 4096 4 8
def L2:List (Int×Int):=L1++mS 8192 4 8
def L3:List (Int×Int):=L2++mS 16384 3 2
def L4:List (Int×Int):=L3++mS 20480 3 2
def L5:List (Int×Int):=L4++mS 32768 11 4
def L6:List (Int×Int):=L5++mS 33792 11 4
def L7:List (Int×Int):=L6++mS 34816 11 4
def BL:List (Int×Int):=L7++mS 35840 11 4
def CX (L:List (Int×Int)) (m:Int):Bool:=decide (L.length≤64)&&L.all fun q=>decide (0≤q.1)&&decide (q.1≤1048575)&&decide (q.1<m)
theorem cK {L:List (Int×Int)} {m:Int} (h:CX L m=true):eC L∧∀q∈L,q.1<m:=by
 unfold CX at h
 rw[Bool.and_eq_true,decide_eq_true_eq,List.all_eq_true]at h
 refine⟨⟨h.1,fun q hq=> ?_⟩,fun q hq=> ?_⟩
 ·have:=h.2 q hq;simp only[Bool.and_eq_true,decide_eq_true_eq]at this;exact this.1
 ·have:=h.2 q hq;simp only[Bool.and_eq_true,decide_eq_true_eq]at this;exact this.2
theorem b1:CX L1 8192=true:=by decide
theorem b2:CX L2 16384=true:=by decide
theorem b3:CX L3 20480=true:=by decide
theorem b4:CX L4 32768=true:=by decide
theorem b5:CX L5 33792=true:=by decide
theorem b6:CX L6 34816=true:=by decide
theorem b7:CX L7 35840=true:=by decide
theorem b8:CX BL 40000=true:=by decide
def zF:Int→Int:=fun _=>0
def lQ (im:gL):Int→Int:=updF zF 4096 im.1
def F0 (im:gL):Int→Int:=updF (lQ im) 16384 im.2.1
theorem pN:FR zF:=fun _=>⟨Int.le_refl 0,show(0:Int)≤255 by omega⟩
theorem gu (im:gL):FR (lQ im):=dL pN _ _
theorem pO (im:gL):FR (F0 im):=dL (gu im) _ _
theorem fV {im:gL} (h:im.1.size≤1024) (b:Int) (n:Nat) (hb:5120≤b):nQ (lQ im) b n:=by
 intro x h1 h2
 unfold lQ updF
 rw[if_neg (by omega)];rfl
theorem oh {im:gL} (h:im.1.size≤1024) (h':im.2.1.size≤256) (b:Int) (n:Nat) (hb:16640≤b):nQ (F0 im) b n:=by
 intro x h1 h2
 unfold F0 updF
 rw[if_neg (by omega)]
 exact fV h b n (by omega) x h1 h2
theorem iO (b:Int) (n:Nat):nQ zF b n:=fun _ _ _=>rfl
theorem tM {F:Int→Int} (b:Int) (n:Nat) (hz:nQ F b n):updF F b (gI ⟨#[]⟩ n)=F:=by
 rw[pM b _ n (by show(0:Nat)≤n;omega) hz,pK _ _ _ rfl]
theorem iP (im:gL) (hc:im.1.size≤1024) (hd:im.2.1.size≤256) (L:List (Int×Int)) (i:Nat) (hi:i<4) (m:Int) (hL:CX L m=true) (hm:m=32768+1024*(i:Int)) (hn:L.length+4≤64):
  Dy.a [] (ax (F0 im) L) (i:Int)=Dy.a [] (ax (F0 im) (L++mS m 11 4)) ((i+1:Nat):Int):=by
 obtain⟨h1,h2⟩:=cK hL
 rw[Dy.a_eq,decide_eq_true (show(i:Int)<4 by omega),show Dx (⟨#[]⟩:ByteArray) 512=some (gI ⟨#[]⟩ 512) from fT _ 512 (by show(0:Nat)≤512;omega) (by omega),aH (n:=1024*(i:Int)) (by omega) (by omega),aH (n:=32768+1024*(i:Int)) (by omega) (by omega),aH (n:=(i:Int)+1) (by omega) (by omega),←hm]
 simp only[cond_true,Option.bind_some]
 rw[ij (pO im) L h1 m 11 4 (gI ⟨#[]⟩ 512) hn h2 (by omega) (oh hc hd m 512 (by omega)) (eD _ 512 (by show(0:Nat)≤512;omega)),tM m 512 (oh hc hd m 512 (by omega))]
 simp only[Option.bind_some]
 rw[show(i:Int)+1=((i+1:Nat):Int) by omega]
theorem v8 (im:gL) (hc:im.1.size≤1024) (hd:im.2.1.size≤256):Dy im=some (ax (F0 im) BL):=by
 have e0:(0:Nat)≤1024:=by omega
 rw[Mj,show Dx im.1 1024=some (gI im.1 1024) from fT _ 1024 hc (by omega),show Dx (⟨#[]⟩:ByteArray) 1024=some (gI ⟨#[]⟩ 1024) from fT _ 1024 (by show(0:Nat)≤1024;omega) (by omega),
  show Dx im.2.1 256=some (gI im.2.1 256) from fT _ 256 hd (by omega),show Dx (⟨#[]⟩:ByteArray) 256=some (gI ⟨#[]⟩ 256) from fT _ 256 (by show(0:Nat)≤256;omega) (by omega)]
 simp only[Option.bind_some]
 have a1:=ij pN [] ⟨by simp,fun q hq=>by cases hq⟩ 4096 4 8 (gI im.1 1024) (by simp) (fun q hq=>by cases hq) (by omega) (iO _ _) (eD _ 1024 hc)
 rw[pM 4096 im.1 1024 hc (iO _ _),List.nil_append]at a1
 rw[show qQ [] 4096 4 (gI im.1 1024)=some (ax (lQ im) L1) from a1]
 simp only[Option.bind_some]
 have a2:=ij (gu im) L1 (cK b1).1 8192 4 8 (gI ⟨#[]⟩ 1024) (by decide) (cK b1).2 (by omega) (fV hc _ _ (by omega)) (eD _ 1024 (by show(0:Nat)≤1024;omega))
 rw[tM 8192 1024 (fV hc _ _ (by omega))]at a2
 rw[show qQ (ax (lQ im) L1) 8192 4 (gI ⟨#[]⟩ 1024)=some (ax (lQ im) L2) from a2]
 simp only[Option.bind_some]
 have a3:=ij (gu im) L2 (cK b2).1 16384 3 2 (gI im.2.1 256) (by decide) (cK b2).2 (by omega) (fV hc _ _ (by omega)) (eD _ 256 hd)
 rw[pM 16384 im.2.1 256 hd (fV hc _ _ (by omega))]at a3
 rw[show qQ (ax (lQ im) L2) 16384 3 (gI im.2.1 256)=some (ax (F0 im) L3) from a3]
 simp only[Option.bind_some]
 have a4:=ij (pO im) L3 (cK b3).1 20480 3 2 (gI ⟨#[]⟩ 256) (by decide) (cK b3).2 (by omega) (oh hc hd _ _ (by omega)) (eD _ 256 (by show(0:Nat)≤256;omega))
 rw[tM 20480 256 (oh hc hd _ _ (by omega))]at a4
 rw[show qQ (ax (F0 im) L3) 20480 3 (gI ⟨#[]⟩ 256)=some (ax (F0 im) L4) from a4]
 simp only[Option.bind_some]
 have s0:=iP im hc hd L4 0 (by omega) 32768 b4 (by omega) (by decide)
 have s1:=iP im hc hd L5 1 (by omega) 33792 b5 (by omega) (by decide)
 have s2:=iP im hc hd L6 2 (by omega) 34816 b6 (by omega) (by decide)
 have s3:=iP im hc hd L7 3 (by omega) 35840 b7 (by omega) (by decide)
 refine s0.trans (s1.trans (s2.trans (s3.trans ?_)))
 rw[Dy.a_eq,show decide (((3+1:Nat):Int)<4)=false by decide,cond_false];rfl
theorem iQ (L:List (Int×Int)) (i:Nat) (hi:i<4) (m:Int) (hL:CX L m=true) (hm:m=32768+1024*(i:Int)) (hn:L.length+4≤64):
  Db.a [] (ax zF L) (i:Int)=Db.a [] (ax zF (L++mS m 11 4)) ((i+1:Nat):Int):=by
 obtain⟨h1,h2⟩:=cK hL
 rw[Db.a_eq,decide_eq_true (show(i:Int)<4 by omega),aH (n:=1024*(i:Int)) (by omega) (by omega),aH (n:=32768+1024*(i:Int)) (by omega) (by omega),aH (n:=(i:Int)+1) (by omega) (by omega),←hm]
 rw[show qG (ax zF L) m 512 11=some (ax zF (L++mS m 11 4)) from fU L m 11 4 hn h2 (by omega) (iO _ _)]
 simp only[Option.bind_some,cond_true]
 rw[show(i:Int)+1=((i+1:Nat):Int) by omega]
theorem yc:Db=some (ax zF BL):=by
 rw[Kl]
 rw[show qG [] 4096 1024 4=some (ax zF L1) from fU (F:=zF) [] 4096 4 8 (by simp) (fun q hq=>by cases hq) (by omega) (iO _ _)]
 simp only[Option.bind_some]
 rw[show qG (ax zF L1) 8192 1024 4=some (ax zF L2) from fU L1 8192 4 8 (by decide) (cK b1).2 (by omega) (iO _ _)]
 simp only[Option.bind_some]
 rw[show qG (ax zF L2) 16384 256 3=some (ax zF L3) from fU L2 16384 3 2 (by decide) (cK b2).2 (by omega) (iO _ _)]
 simp only[Option.bind_some]
 rw[show qG (ax zF L3) 20480 256 3=some (ax zF L4) from fU L3 20480 3 2 (by decide) (cK b3).2 (by omega) (iO _ _)]
 simp only[Option.bind_some]
 have s0:=iQ L4 0 (by omega) 32768 b4 (by omega) (by decide)
 have s1:=iQ L5 1 (by omega) 33792 b5 (by omega) (by decide)
 have s2:=iQ L6 2 (by omega) 34816 b6 (by omega) (by decide)
 have s3:=iQ L7 3 (by omega) 35840 b7 (by omega) (by decide)
 refine s0.trans (s1.trans (s2.trans (s3.trans ?_)))
 rw[Db.a_eq,show decide (((3+1:Nat):Int)<4)=false by decide,cond_false];rfl
theorem HH:eC BL:=(cK b8).1
theorem EW:BL.length=36:=by decide
def HI (i:Nat):Int:=(BL.getD i (0,0)).1
theorem IH (i:Nat):(rd (τ:=fR) BL (i:Int)).1=HI i:=by
 unfold rd HI
 rw[Int.toNat_natCast];rfl
theorem EX:∀i j:Fin 36,i<j→HI i+128≤HI j:=by decide+kernel
theorem HJ:xZ BL:=by
 intro i j a hi hj h1 h2
 rw[EW]at hi hj
 rw[IH]at h1 h2
 unfold dN at h1 h2
 rw[Bool.and_eq_true,decide_eq_true_eq,decide_eq_true_eq]at h1 h2
 rcases Nat.lt_trichotomy i j with h|h|h
 ·have:=EX ⟨i,hi⟩ ⟨j,hj⟩ h
  simp only at this;omega
 ·exact h
 ·have:=EX ⟨j,hj⟩ ⟨i,hi⟩ h
  simp only at this;omega
theorem tN (i:Nat) (hi:i<36) (x:Int) (h1:HI i≤x) (h2:x≤HI i+127):0≤du BL x:=by
 unfold du
 rcases cr (fun i=>dN (rd (τ:=fR) BL (i:Int)).1 x) BL.length 0 with⟨g1,g2⟩|⟨j,g1,_⟩
 ·have:=g2 i (Nat.zero_le _) (by rw[EW];omega)
  rw[IH]at this
  unfold dN at this
  rw[decide_eq_true h1,decide_eq_true h2]at this
  cases this
 ·rw[g1];omega
theorem HK:∀i:Fin 8,HI i=4096+128*((i:Nat):Int):=by decide+kernel
theorem EY:∀i:Fin 8,HI (8+i)=8192+128*((i:Nat):Int):=by decide+kernel
theorem HL:∀i:Fin 2,HI (16+i)=16384+128*((i:Nat):Int):=by decide+kernel
theorem ss {x:Int} (h1:4096≤x) (h2:x<5120):0≤du BL x:=by
 have:=HK ⟨((x-4096)/128).toNat,by omega⟩
 simp only at this
 exact tN ((x-4096)/128).toNat (by omega) x (by omega) (by omega)
theorem yd {x:Int} (h1:8192≤x) (h2:x<9216):0≤du BL x:=by
 have:=EY ⟨((x-8192)/128).toNat,by omega⟩
 simp only at this
 exact tN (8+((x-8192)/128).toNat) (by omega) x (by omega) (by omega)
theorem Bl {x:Int} (h1:16384≤x) (h2:x<16640):0≤du BL x:=by
 have:=HL ⟨((x-16384)/128).toNat,by omega⟩
 simp only at this
 exact tN (16+((x-16384)/128).toNat) (by omega) x (by omega) (by omega)
theorem mT {F:Int→Int} (hF:FR F) (a:Int) (t:ByteArray) (h1: -1000000000≤a) (h2:a+(t.size:Int)≤1000000000) (hx:∀x,a≤x→x<a+(t.size:Int)→0≤du BL x):w3 (ax F BL) a t=some (ax (updF F a t) BL):=by
 rw[Ki];exact EP BL HH HJ [] t.size F a t hF (Nat.le_refl _) h1 h2 hx
theorem Bm (im:gL) (hc:im.1.size≤1024) (hd:im.2.1.size≤256):Rn im=some (ax (F0 im) BL):=by
 rw[Km,yc]
 simp only[Option.bind_some]
 rw[mT pN 4096 im.1 (by omega) (by omega) fun x h1 h2=>ss h1 (by omega)]
 simp only[Option.bind_some]
 rw[show updF zF 4096 im.1=lQ im from rfl,mT (gu im) 16384 im.2.1 (by omega) (by omega) fun x h1 h2=>Bl h1 (by omega)]
 rfl
theorem an {τ:Ty} (l:List τ.den) (i:Nat) (h:i<l.length):rd (τ:=τ) l (i:Int)∈l:=by rw[aM l i h];exact List.getElem_mem h
theorem mU {τ:Ty} {l:List τ.den} {x:τ.den} (h:x∈l):∃i:Nat,i<l.length∧rd (τ:=τ) l (i:Int)=x:=by
 obtain⟨i,hi,e⟩:=List.mem_iff_getElem.1 h
 exact⟨i,hi,by rw[aM l i hi];exact e⟩
theorem lR {t:List cU} {n:ByteArray}:cg t n<0↔∀e∈t,e.1≠n:=by
 unfold cg
 rcases cr (fun i=>decide ((rd (τ:=aS) t (i:Int)).1=n)) t.length 0 with⟨h1,h2⟩|⟨j,h1,h2,h3,h4,_⟩
 ·refine⟨fun _ e he hn=> ?_,fun _=>by rw[h1];decide⟩
  obtain⟨i,hi,hr⟩:=mU (τ:=aS) he
  have:=h2 i (Nat.zero_le _) (by omega)
  rw[decide_eq_false_iff_not,hr]at this
  exact this hn
 ·refine⟨fun h=>by rw[h1]at h;omega,fun h=> ?_⟩
  rw[decide_eq_true_eq]at h4
  exact absurd h4 (h _ (an (τ:=aS) t j (by omega)))
structure zO (t:List cU):Prop where
 len:t.length≤64
 ent:∀e∈t,cR e=true
 dis:t.Pairwise fun a b=>a.1≠b.1
theorem wa {t:List cU}:nV t=true↔zO t:=by
 unfold nV
 rw[Bool.and_eq_true,decide_eq_true_eq,fZ]
 have key:∀i:Nat,i<t.length→(wI t i=true↔cR (rd (τ:=aS) t (i:Int))=true∧∀e∈t.take i,e.1≠(rd (τ:=aS) t (i:Int)).1):=by
  intro i hi
  unfold wI
  rw[←lR]
  cases cR (rd (τ:=aS) t (i:Int))<;>simp
 constructor
 ·rintro⟨h1,h2⟩
  refine⟨h1,fun e he=> ?_, ?_⟩
  ·obtain⟨i,hi,hr⟩:=mU (τ:=aS) he
   rw[←hr];exact((key i hi).1 (h2 i (Nat.zero_le _) (by omega))).1
  ·rw[List.pairwise_iff_getElem]
   intro i j hi hj hij
   have:=((key j hj).1 (h2 j (Nat.zero_le _) (by omega))).2 t[i] (by rw[List.mem_take_iff_getElem];exact⟨i,by omega,rfl⟩)
   rw[aM (τ:=aS) t j hj]at this
   exact this
 ·rintro⟨h1,h2,h3⟩
  refine⟨h1,fun i _ hi=>(key i (by omega)).2 ⟨h2 _ (an (τ:=aS) t i (by omega)),fun e he=> ?_⟩⟩
  obtain⟨j,hj,rfl⟩:=List.mem_take_iff_getElem.1 he
  rw[aM (τ:=aS) t i (by omega)]
  exact(List.pairwise_iff_getElem.1 h3) j i (by omega) (by omega) (by omega)
def nR (o:bn) (l:eY) (owner:Int) (i:Nat):cU:=((rd (τ:=aA) o.2.2.1 (i:Int)).1,1,rd (τ:= .int .i64) l.1 (i:Int),(ge o i:Int),(rd (τ:=aA) o.2.2.1 (i:Int)).2.2.1,owner)
def Bn (o:bn) (l:eY) (owner:Int) (i:Nat):cU:=((rd (τ:=aX) o.2.2.2.1 (i:Int)).1,2,rd (τ:= .int .i64) l.2.2.1 (i:Int),(kM o i:Int),0,owner)
def jc (t:List cU) (o:bn) (l:eY) (owner:Int):List cU:=
 (t++c8 (fun i=> !(rd (τ:=aA) o.2.2.1 (i:Int)).2.1) (nR o l owner) 0 o.2.2.1.length)++bc (Bn o l owner) 0 o.2.2.2.1.length
theorem jE (n:Nat) (h:n≤4096):ar n 56=true:=by simp[ar];omega
theorem pP (n:Nat) (h:n≤4096):ar n 40=true:=by simp[ar];omega
theorem lc (t:List cU) (o:bn) (l:eY) (owner:Int) (ht:t.length≤64) (hz:ObjSz o) (hl:eB o l):oF t o l owner=some (jc t o l owner):=by
 have h1:=hz.f
 have h2:=hz.d
 have hf:=bS (fun i=> !(rd (τ:=aA) o.2.2.1 (i:Int)).2.1) (nR o l owner) o.2.2.1.length 0
 rw[MX,O8,jE _ (by omega)]
 simp only[cond_true,Option.bind_some]
 rw[c9 (L:=fun acc i=>oF.a owner o l acc o.2.2.1 (o.2.2.1.length:Int) i) (fun i=> !(rd (τ:=aA) o.2.2.1 (i:Int)).2.1) (nR o l owner) o.2.2.1.length t fun acc i hi ha=> ?_]
 ·show oF.a owner o l _ o.2.2.1 (o.2.2.1.length:Int) (o.2.2.1.length:Int)=_
  rw[oF.a_eq,ab,decide_eq_false (Nat.lt_irrefl _),cond_false]
  rw[ck (L:=fun acc i=>oF.b owner l acc o.2.2.2.1 (o.2.2.2.1.length:Int) i) (Bn o l owner) o.2.2.2.1.length (t++c8 (fun i=> !(rd (τ:=aA) o.2.2.1 (i:Int)).2.1) (nR o l owner) 0 o.2.2.1.length) fun acc i hi ha=> ?_]
  ·show oF.b owner l _ o.2.2.2.1 (o.2.2.2.1.length:Int) (o.2.2.2.1.length:Int)=_
   rw[oF.b_eq,ab,decide_eq_false (Nat.lt_irrefl _),cond_false];rfl
  ·show oF.b owner l acc o.2.2.2.1 (o.2.2.2.1.length:Int) (i:Int)=_
   rw[List.length_append]at ha
   rw[oF.b_eq,ab,ae,decide_eq_true hi,ah i _ hi (by omega),ae,show decide (i<l.2.2.1.length)=true from decide_eq_true (by rw[hl.d];exact hi),jE _ (by simp;omega)];rfl
 ·show oF.a owner o l acc o.2.2.1 (o.2.2.1.length:Int) (i:Int)=_
  rw[oF.a_eq,ab,ae,decide_eq_true hi,ah i _ hi (by omega),ae,show decide (i<l.1.length)=true from decide_eq_true (by rw[hl.a];exact hi),jE _ (by simp;omega)]
  cases (rd (τ:=aA) o.2.2.1 (i:Int)).2.1<;>rfl
theorem rh (t:List cU) (o:bn) (l:eY) (owner:Int) (ht:t.length≤64) (hz:ObjSz o) (hl:eB o l):qO t o l owner=some (jc t o l owner):=by
 have h1:=hz.f
 have h2:=hz.d
 have hf:=bS (fun i=> !(rd (τ:=aA) o.2.2.1 (i:Int)).2.1) (nR o l owner) o.2.2.1.length 0
 rw[KM,jE _ (by omega)]
 simp only[cond_true]
 rw[c9 (L:=fun acc i=>qO.a owner o l acc i) (fun i=> !(rd (τ:=aA) o.2.2.1 (i:Int)).2.1) (nR o l owner) o.2.2.1.length t fun acc i hi ha=> ?_]
 ·rw[qO.a_eq,ab,decide_eq_false (Nat.lt_irrefl _),cond_false]
  rw[ck (L:=fun acc i=>qO.b owner o l acc i) (Bn o l owner) o.2.2.2.1.length (t++c8 (fun i=> !(rd (τ:=aA) o.2.2.1 (i:Int)).2.1) (nR o l owner) 0 o.2.2.1.length) fun acc i hi ha=> ?_]
  ·rw[qO.b_eq,ab,decide_eq_false (Nat.lt_irrefl _),cond_false];rfl
  ·show qO.b owner o l acc (i:Int)=_
   rw[List.length_append]at ha
   rw[qO.b_eq,ab,ae,decide_eq_true hi,ah i _ hi (by omega),ae,ae,show decide (i<l.2.2.1.length)=true from decide_eq_true (by rw[hl.d];exact hi),show decide (i<l.2.2.2.length)=true from decide_eq_true (by rw[hl.b];exact hi),jE _ (by simp;omega),hl.bs i hi];rfl
 ·show qO.a owner o l acc (i:Int)=_
  rw[qO.a_eq,ab,ae,decide_eq_true hi,ah i _ hi (by omega),ae,ae,show decide (i<l.1.length)=true from decide_eq_true (by rw[hl.a];exact hi),show decide (i<l.2.1.length)=true from decide_eq_true (by rw[hl.c];exact hi),jE _ (by simp;omega),hl.cs i hi]
  cases (rd (τ:=aA) o.2.2.1 (i:Int)).2.1<;>rfl
theorem rk (o:bn) (l:eY) (hz:ObjSz o) (hl:eB o l):ut l o=some true:=by
 have h1:=hz.f
 have h2:=hz.d
 rw[MW,hl.a,hl.c,hl.d,hl.b]
 simp only[decide_true,Bool.not_true,cond_false]
 rw[cQ (L:=ut.a l o o.2.2.1 (o.2.2.1.length:Int)) (fun _=>true) o.2.2.1.length ?_ fun i hi=> ?_]
 ·rw[(fZ _ _ _).2 fun _ _ _=>rfl]
 ·rw[ut.a_eq,ab,decide_eq_false (Nat.lt_irrefl _),cond_false]
  rw[cQ (L:=ut.b l o.2.2.2.1 (o.2.2.2.1.length:Int)) (fun _=>true) o.2.2.2.1.length ?_ fun i hi=> ?_]
  ·rw[(fZ _ _ _).2 fun _ _ _=>rfl]
  ·rw[ut.b_eq,ab,decide_eq_false (Nat.lt_irrefl _),cond_false]
  ·rw[ut.b_eq,ab,ae,decide_eq_true hi,ah i _ hi (by omega),ae,show decide (i<l.2.2.2.length)=true from decide_eq_true (by rw[hl.b];exact hi),hl.bs i hi,show decide ((kM o i:Int)=((rd (τ:=aX) o.2.2.2.1 (i:Int)).2.size:Int))=true from decide_eq_true rfl];rfl
 ·rw[ut.a_eq,ab,ae,decide_eq_true hi,ah i _ hi (by omega),ae,show decide (i<l.2.1.length)=true from decide_eq_true (by rw[hl.c];exact hi),hl.cs i hi,show decide ((ge o i:Int)=((rd (τ:=aA) o.2.2.1 (i:Int)).2.2.2.size:Int))=true from decide_eq_true rfl];rfl
theorem dU {α:Type} (p:Nat→Bool) (f:Nat→α) (x:α):∀k i,x∈c8 p f i k→∃j,i≤j∧j<i+k∧p j=true∧f j=x
 |0,i,h=>by cases h
 |k+1,i,h=>by
  rw[c8]at h
  cases hp:p i with
  |false=>
   rw[hp,cond_false]at h
   obtain⟨j,h1,h2,h3⟩:=dU p f x k (i+1) h
   exact⟨j,by omega,by omega,h3⟩
  |true=>
   rw[hp,cond_true]at h
   rcases List.mem_cons.1 h with rfl|h
   ·exact⟨i,Nat.le_refl _,by omega,hp,rfl⟩
   ·obtain⟨j,h1,h2,h3⟩:=dU p f x k (i+1) h
    exact⟨j,by omega,by omega,h3⟩
theorem pQ {α:Type} (p:Nat→Bool) (f:Nat→α) (R:α→α→Prop):∀k i,(∀a b,i≤a→a<b→b<i+k→R (f a) (f b))→(c8 p f i k).Pairwise R
 |0,_,_=>List.Pairwise.nil
 |k+1,i,h=>by
  have ih:=pQ p f R k (i+1) fun a b h1 h2 h3=>h a b (by omega) h2 (by omega)
  rw[c8]
  cases p i with
  |false=>exact ih
  |true=>
   rw[cond_true]
   refine List.Pairwise.cons (fun x hx=> ?_) ih
   obtain⟨j,h1,h2,_,rfl⟩:=dU p f x k (i+1) hx
   exact h i j (Nat.le_refl _) (by omega) (by omega)
theorem mV {α:Type} (f:Nat→α) (R:α→α→Prop):∀k i,(∀a b,i≤a→a<b→b<i+k→R (f a) (f b))→(bc f i k).Pairwise R
 |0,_,_=>List.Pairwise.nil
 |k+1,i,h=>by
  have ih:=mV f R k (i+1) fun a b h1 h2 h3=>h a b (by omega) h2 (by omega)
  rw[bc]
  refine List.Pairwise.cons (fun x hx=> ?_) ih
  obtain⟨j,h1,h2,rfl⟩:=(cy f x k (i+1)).1 hx
  exact h i j (Nat.le_refl _) (by omega) (by omega)
theorem dX.dis_ff {o:bn} (h:dX o) (a b:Nat) (hab:a<b) (hb:b<o.2.2.1.length):(rd (τ:=aA) o.2.2.1 (a:Int)).1≠(rd (τ:=aA) o.2.2.1 (b:Int)).1:=by
 have:=(iw (h.fun_ b hb)).2.1
 rw[mc o b (by omega)]at this
 intro e
 have:gQ (bc (fun i=>(rd (τ:=aA) o.2.2.1 (i:Int)).1) 0 b) (rd (τ:=aA) o.2.2.1 (b:Int)).1=true:=jM.2 ((cy _ _ _ _).2 ⟨a,Nat.zero_le _,by omega,e⟩)
 simp_all
theorem dX.dis_fd {o:bn} (h:dX o) (a b:Nat) (ha:a<o.2.2.1.length) (hb:b<o.2.2.2.1.length):(rd (τ:=aA) o.2.2.1 (a:Int)).1≠(rd (τ:=aX) o.2.2.2.1 (b:Int)).1:=by
 have:=(fD (h.dat b hb)).2.1
 rw[iY o b (by omega),qC,Bool.or_eq_false_iff]at this
 intro e
 have h2:gQ (bc (fun i=>(rd (τ:=aA) o.2.2.1 (i:Int)).1) 0 o.2.2.1.length) (rd (τ:=aX) o.2.2.2.1 (b:Int)).1=true:=jM.2 ((cy _ _ _ _).2 ⟨a,Nat.zero_le _,by omega,e⟩)
 rw[h2]at this
 exact absurd this.1 (by decide)
theorem dX.dis_dd {o:bn} (h:dX o) (a b:Nat) (hab:a<b) (hb:b<o.2.2.2.1.length):(rd (τ:=aX) o.2.2.2.1 (a:Int)).1≠(rd (τ:=aX) o.2.2.2.1 (b:Int)).1:=by
 have:=(fD (h.dat b hb)).2.1
 rw[iY o b (by omega),qC,Bool.or_eq_false_iff]at this
 intro e
 have h2:gQ (bc (fun i=>(rd (τ:=aX) o.2.2.2.1 (i:Int)).1) 0 b) (rd (τ:=aX) o.2.2.2.1 (b:Int)).1=true:=jM.2 ((cy _ _ _ _).2 ⟨a,Nat.zero_le _,by omega,e⟩)
 rw[h2]at this
 exact absurd this.2 (by decide)
theorem ny {t:List cU} {o:bn} (h:ga t o=0):(∀i,i<o.2.2.1.length→C0 t o i=0)∧(∀i,i<o.2.2.2.1.length→IN t o i=0):=by
 unfold ga at h
 by_cases h1:(aZ (C0 t o) 0 o.2.2.1.length).2=0
 ·rw[if_pos h1]at h
  exact⟨fun i hi=>(de _ _ _).1 h1 i (Nat.zero_le _) (by omega),fun i hi=>(de _ _ _).1 h i (Nat.zero_le _) (by omega)⟩
 ·rw[if_neg h1]at h;exact absurd h h1
theorem HM {t:List cU} {o:bn} {i:Nat} (h:C0 t o i=0) (hr:(rd (τ:=aA) o.2.2.1 (i:Int)).2.1=false):cg t (rd (τ:=aA) o.2.2.1 (i:Int)).1<0:=by
 unfold C0 at h
 rw[hr]at h
 simp only[Bool.false_eq_true,if_false]at h
 split at h
 ·cases h
 ·omega
theorem HN {t:List cU} {o:bn} {i:Nat} (h:C0 t o i=0) (hr:(rd (τ:=aA) o.2.2.1 (i:Int)).2.1=true):0≤cg t (rd (τ:=aA) o.2.2.1 (i:Int)).1∧(rd (τ:=aS) t (cg t (rd (τ:=aA) o.2.2.1 (i:Int)).1)).2.1=1:=by
 unfold C0 at h
 rw[hr]at h
 simp only[if_true]at h
 split at h
 ·cases h
 ·split at h
  ·rename_i h1 h2;exact⟨by omega,h2⟩
  ·cases h
theorem HO {t:List cU} {o:bn} {i:Nat} (h:IN t o i=0):cg t (rd (τ:=aX) o.2.2.2.1 (i:Int)).1<0:=by
 unfold IN at h
 split at h
 ·cases h
 ·omega
theorem su {x:Int} (h:IG x):bQ x=true:=by
 unfold bQ
 obtain⟨h1,h2,h3⟩:=h
 rw[show(decide (0≤x)&&decide (x≤1048575))=true by simp;omega,cond_true,decide_eq_true_eq,Int.tmod_eq_emod_of_nonneg h1];omega
theorem nz (t:List cU) (o:bn) (l:eY) (owner:Int) (hz:ObjSz o):(jc t o l owner).length≤t.length+8:=by
 have h1:=hz.f
 have h2:=hz.d
 have hf:=bS (fun i=> !(rd (τ:=aA) o.2.2.1 (i:Int)).2.1) (nR o l owner) o.2.2.1.length 0
 unfold jc
 rw[List.length_append,List.length_append,az];omega
theorem HP {t:List cU} {o:bn} {l:eY} {owner:Int} (ht:zO t) (ho:dX o) (hl:eB o l) (hn:ga t o=0) (how:1≤owner∧owner≤6) (hlen:t.length≤56):zO (jc t o l owner):=by
 obtain⟨n1,n2⟩:=ny hn
 refine⟨by have:=nz t o l owner ho.toObjSz;omega,fun e he=> ?_, ?_⟩
 ·unfold jc at he
  rcases List.mem_append.1 he with he|he
  ·rcases List.mem_append.1 he with he|he
   ·exact ht.ent e he
   ·obtain⟨j,_,hj,_,rfl⟩:=dU _ _ _ _ _ he
    have hf:=iw (ho.fun_ j (by omega))
    have hs:=ho.fsz_pos j (by omega)
    have ha:=hl.fa j (by omega)
    unfold cR nR
    simp only
    rw[hf.1,su ha,bd.2 (show(1:Int)≤(ge o j:Int)∧(ge o j:Int)≤1024 by omega),bd.2 (show 0≤owner∧owner≤6 by omega)]
    unfold wH
    rw[hf.2.2.1];rfl
  ·obtain⟨j,_,hj,rfl⟩:=(cy _ _ _ _).1 he
   have hf:=fD (ho.dat j (by omega))
   have hs:=ho.dsz_pos j (by omega)
   have ha:=hl.ds j (by omega)
   unfold cR Bn
   simp only
   rw[hf.1,su ha,bd.2 (show(1:Int)≤(kM o j:Int)∧(kM o j:Int)≤1024 by omega),bd.2 (show 0≤owner∧owner≤6 by omega)]
   rfl
 ·unfold jc
  rw[List.pairwise_append,List.pairwise_append]
  refine⟨⟨ht.dis,pQ _ _ _ _ _ fun a b _ h2 h3=>ho.dis_ff a b h2 (by omega),fun a ha b hb=> ?_⟩,mV _ _ _ _ fun a b _ h2 h3=>ho.dis_dd a b h2 (by omega),fun a ha b hb=> ?_⟩
  ·obtain⟨j,_,hj,hp,rfl⟩:=dU _ _ _ _ _ hb
   have:=HM (n1 j (by omega)) (by simpa using hp)
   exact lR.1 this a ha
  ·obtain⟨k,_,hk,rfl⟩:=(cy _ _ _ _).1 hb
   rcases List.mem_append.1 ha with ha|ha
   ·exact lR.1 (HO (n2 k (by omega))) a ha
   ·obtain⟨j,_,hj,hp,rfl⟩:=dU _ _ _ _ _ ha
    exact ho.dis_fd j k (by omega) (by omega)
theorem nA (a:bm) (n:Nat):(aB a n).1.1=a.1∧(aB a n).1.2.1=a.2.1:=by
 unfold aB;split<;>exact⟨rfl,rfl⟩
theorem pR (sz:Nat→Nat):∀k i a,(d6 sz a i k).1.1=a.1∧(d6 sz a i k).1.2.1=a.2.1
 |0,_,_=>⟨rfl,rfl⟩
 |k+1,i,a=>by
  have h:=pR sz k (i+1) (aB a (sz i)).1
  have h2:=nA a (sz i)
  rw[d6];exact⟨h.1.trans h2.1,h.2.trans h2.2⟩
theorem Bo {a:bm} (h:cc a) (n:Nat) (ok:(aB a n).2.2=true):a.1≤(aB a n).2.1∧(aB a n).2.1+(n:Int)≤a.1+a.2.1:=by
 obtain⟨⟨h1,h2,h3⟩,⟨h4,h5,h6⟩,h7,h8,h9⟩:=h
 unfold aB at ok⊢
 split at ok
 ·cases ok
 ·rename_i hc
  rw[if_neg hc]
  have:n≤qL n:=by unfold qL;omega
  exact⟨h7,by simp only;omega⟩
theorem EZ (sz:Nat→Nat):∀k i a,cc a→(d6 sz a i k).2.2=true→∀j (hj:j< (d6 sz a i k).2.1.length),a.1≤(d6 sz a i k).2.1[j]∧(d6 sz a i k).2.1[j]+(sz (i+j):Int)≤a.1+a.2.1
 |0,_,_,_,_,j,hj=>by simp[d6]at hj
 |k+1,i,a,h,ok,j,hj=>by
  have e:d6 sz a i (k+1)=((d6 sz (aB a (sz i)).1 (i+1) k).1,(aB a (sz i)).2.1::(d6 sz (aB a (sz i)).1 (i+1) k).2.1,(aB a (sz i)).2.2&&(d6 sz (aB a (sz i)).1 (i+1) k).2.2):=rfl
  rw[e,Bool.and_eq_true]at ok
  have hb:=nA a (sz i)
  cases j with
  |zero=>exact Bo h _ ok.1
  |succ j=>
   have:=EZ sz k (i+1) _ (df h (sz i)) ok.2 j (by rw[dQ]at hj⊢;omega)
   rw[hb.1,hb.2]at this
   rw[show i+(j+1)=i+1+j by omega]
   exact this
def ol (o:bn) (l:eY):Prop:=∀i:Nat,i<o.2.2.1.length→∃x:Int,rd (τ:= .int .i64) l.1 (i:Int)=x∧8192≤x∧x+(ge o i:Int)≤9216∧x%8=0
theorem ye {t:List cU} {a b:bm} {o:bn} {v:eY×bm×bm×Int} (h:EM t a b o v) (ha:cc a) (h1:a.1=8192) (h2:a.2.1=1024):ol o v.1:=by
 intro i hi
 rw[h.ats]
 have hl:=dQ (ge o) o.2.2.1.length 0 a
 have hok:=h.ok
 unfold dl at hok
 simp only[Bool.and_eq_true]at hok
 have:=EZ (ge o) o.2.2.1.length 0 a ha hok.1 i (by rw[hl];exact hi)
 have h8:=h.lnk.fa i hi
 rw[h.ats]at h8
 have e:(rd (τ:= .int .i64) (dl o a b).1.1 (i:Int):Int)=(d6 (ge o) a 0 o.2.2.1.length).2.1[i]'(by rw[hl];exact hi):=aM (τ:= .int .i64) _ i (by show i< (d6 (ge o) a 0 o.2.2.1.length).2.1.length;rw[hl];exact hi)
 have h8':IG ((d6 (ge o) a 0 o.2.2.1.length).2.1[i]'(by rw[hl];exact hi)):=by rw[←e];exact h8
 rw[Nat.zero_add,h1,h2]at this
 exact⟨_,e,this.1,this.2,h8'.2.2⟩
def mW (x:Int) (n:Int):Prop:=(4096≤x∧x+n≤5120)∨(8192≤x∧x+n≤9216)
theorem mW.page {x n:Int} (h:mW x n):∀y,x≤y→y<x+n→0≤du BL y:=by
 intro y h1 h2
 rcases h with h|h
 ·exact ss (by omega) (by omega)
 ·exact yd (by omega) (by omega)
theorem mW.range {x n:Int} (h:mW x n):4096≤x∧x+n≤9216:=by
 rcases h with h|h<;>omega
theorem wb {F:Int→Int} (hF:FR F) (a:Int) (t:ByteArray) (h:mW a (t.size:Int)):nY (ax F BL) a t=some (ax (updF F a t) BL)∧w3 (ax F BL) a t=some (ax (updF F a t) BL):=by
 have hr:=h.range
 exact⟨vZ hF a t ⟨by omega,by omega,by omega⟩ BL HH,mT hF a t (by omega) (by omega) h.page⟩
def pS (F:Int→Int) (l:eY):Nat→Nat→(Int→Int)
 |_,0=>F
 |i,k+1=>pS (updF F (rd (τ:= .int .i64) l.1 (i:Int)) (rd (τ:= .str) l.2.1 (i:Int))) l (i+1) k
theorem lS (l:eY):∀k i F,FR F→FR (pS F l i k)
 |0,_,_,h=>h
 |k+1,i,F,h=>lS l k (i+1) _ (dL h _ _)
theorem yf (o:bn) (l:eY) (t:List cU) (hz:ObjSz o) (hl:eB o l) (hp:ol o l) (x8:List (Int×Int)):∀(k i:Nat) (F:Int→Int),FR F→i+k=o.2.2.1.length→
  qU.a t (ax F BL) o l [] x8 (o.2.2.1.length:Int) (i:Int)=qU.b t (ax (pS F l i k) BL) l [] x8 o.2.2.1 (o.2.2.1.length:Int) 0∧
  qP.a t (ax F BL) o l [] (i:Int)=qP.b t (ax (pS F l i k) BL) o l [] [] 0:=by
 have h1:=hz.f
 intro k
 induction k with
 |zero=>
  intro i F hF h
  have:i=o.2.2.1.length:=by omega
  subst this
  rw[qU.a_eq,ab,decide_eq_false (Nat.lt_irrefl _),cond_false,qP.a_eq,ab,decide_eq_false (Nat.lt_irrefl _),cond_false]
  exact⟨rfl,rfl⟩
 |succ k ih=>
  intro i F hF h
  have hi:i<o.2.2.1.length:=by omega
  obtain⟨x,hx,hpi⟩:=hp i hi
  have hsz:=hl.cs i hi
  obtain⟨p1,p2⟩:=wb hF x (rd (τ:= .str) l.2.1 (i:Int)) (.inr ⟨hpi.1,by rw[hsz];exact hpi.2.1⟩)
  rw[←hx]at p1 p2
  rw[qU.a_eq,ab,ae,ae,decide_eq_true hi,ah i _ hi (by omega),show decide (i<l.1.length)=true from decide_eq_true (by rw[hl.a];exact hi),show decide (i<l.2.1.length)=true from decide_eq_true (by rw[hl.c];exact hi),p1,
   qP.a_eq,ab,ae,ae,decide_eq_true hi,ah i _ hi (by omega),show decide (i<l.1.length)=true from decide_eq_true (by rw[hl.a];exact hi),show decide (i<l.2.1.length)=true from decide_eq_true (by rw[hl.c];exact hi),p2]
  simp only[cond_true,Option.bind_some]
  exact ih (i+1) _ (dL hF _ _) (by omega)
def zP (t:List cU):Prop:=∀i:Nat,i<t.length→(rd (τ:=aS) t (i:Int)).2.1=1→mW (rd (τ:=aS) t (i:Int)).2.2.1 4
theorem E0 (d:Int) (h: -2147483648≤d∧d≤2147483647):∃w,w5 (3,0,0,0,d)=some w∧gX (3,0,0,0,d)=some w:=by
 have hR:lg (3,0,0,0,d):=⟨⟨by simp,by simp⟩,⟨by simp,by simp⟩,⟨by simp,by simp⟩,⟨by simp only;omega,by simp only;omega⟩⟩
 exact⟨_,fg (3,0,0,0,d) (by simp) (by simp) hR,fh (3,0,0,0,d) (by simp) (by simp) hR fun h=>by have h':(cW 3).1=1:=h;exact absurd h' (by decide)⟩
theorem yg (o:bn) (l:eY) (t:List cU) (ht:t.length≤64) (hz:ObjSz o) (hl:eB o l) (hp:ol o l) (hf:zP t) (hn:∀i:Nat,i<o.2.2.1.length→(rd (τ:=aA) o.2.2.1 (i:Int)).2.1=true→0≤cg t (rd (τ:=aA) o.2.2.1 (i:Int)).1∧(rd (τ:=aS) t (cg t (rd (τ:=aA) o.2.2.1 (i:Int)).1)).2.1=1):
  ∀(k i:Nat) (F:Int→Int) (sv:List (Int×Int)),FR F→i+k=o.2.2.1.length→sv.length≤i→∃F' sv',FR F'∧sv'.length≤o.2.2.1.length∧
  qU.b t (ax F BL) l [] sv o.2.2.1 (o.2.2.1.length:Int) (i:Int)=some (ax F' BL,sv')∧qP.b t (ax F BL) o l [] sv (i:Int)=some (ax F' BL,sv'):=by
 have h1:=hz.f
 intro k
 induction k with
 |zero=>
  intro i F sv hF h hs
  have:i=o.2.2.1.length:=by omega
  subst this
  rw[qU.b_eq,ab,decide_eq_false (Nat.lt_irrefl _),cond_false,qP.b_eq,ab,decide_eq_false (Nat.lt_irrefl _),cond_false]
  exact⟨F,sv,hF,hs,rfl,rfl⟩
 |succ k ih=>
  intro i F sv hF h hs
  have hi:i<o.2.2.1.length:=by omega
  rw[qU.b_eq,ab,ae,decide_eq_true hi,ah i _ hi (by omega),qP.b_eq,ab,decide_eq_true hi,ah i _ hi (by omega)]
  simp only[ae,decide_eq_true hi,cond_true]
  cases hr:(rd (τ:=aA) o.2.2.1 (i:Int)).2.1 with
  |false=>exact ih (i+1) F sv hF (by omega) (by omega)
  |true=>
   obtain⟨e1,e2⟩:=hn i hi hr
   have er:=dP t (rd (τ:=aA) o.2.2.1 (i:Int)).1
   rw[(dI t _ (by omega)).1,(dI t _ (by omega)).2]
   simp only[Bool.not_true,cond_false,Option.bind_some]
   obtain⟨q,hq⟩:∃q:Nat,cg t (rd (τ:=aA) o.2.2.1 (i:Int)).1=(q:Int):=⟨(cg t (rd (τ:=aA) o.2.2.1 (i:Int)).1).toNat,by omega⟩
   rw[hq]at e2 er⊢
   have hqt:q<t.length:=by omega
   have hat:=hf q hqt e2
   obtain⟨at_,hA⟩:∃x:Int,(rd (τ:=aS) t (q:Int)).2.2.1=x:=⟨_,rfl⟩
   rw[hA]at hat⊢
   have hr4:=hat.range
   have hg:=hat.page
   obtain⟨to,hT,hpi⟩:=hp i hi
   simp only[hT]
   rw[ae,decide_eq_true hqt,show decide (i<l.1.length)=true from decide_eq_true (by rw[hl.a];exact hi)]
   rw[show Am (ax F BL) at_ 4=some (tL F at_ 4) from yb hF BL HH at_ 4 (by omega) (by omega) (by omega) hg,show Ag (ax F BL) at_ 4=some (tL F at_ 4) from ER hF BL HH at_ 4 (by omega) (by omega) (by omega) hg]
   have hgz:=Bj F at_ 4
   simp only[cond_true,Option.bind_some]
   rw[gJ _ (by omega),hgz,show wY (tL F at_ 4) 0 4=some (IntKind.wrap .i64 (ks (tL F at_ 4) 0 4)) from gK (tL F at_ 4) 0 4 (by omega) (by omega)]
   simp only[Option.bind_some]
   rw[gP _ (by simp;omega),KO,aH (n:=to-at_) (by omega) (by omega)]
   obtain⟨w,w1,w2⟩:=E0 (to-at_) ⟨by omega,by omega⟩
   simp only[cond_true,Option.bind_some]
   rw[w1,w2]
   simp only[Option.bind_some]
   rw[show w6 w 4=some (aC (qv w 4)) from lk w 4 (by omega),show w4 w 4=some (aC (qv w 4)) from jB w 4 (by omega)]
   have hb:(aC (qv w 4)).size=4:=by rw[bK,lj]
   obtain⟨p1,p2⟩:=wb hF at_ (aC (qv w 4)) (by rw[hb];exact hat)
   simp only[Option.bind_some]
   rw[p1,p2]
   simp only[Option.bind_some]
   exact ih (i+1) _ _ (dL hF _ _) (by omega) (by simp;omega)
abbrev Pc:Type:=Int×Int×Int×Int×Int
def CY (s:nT):Int:=bif decide (s.2.1=1)then IntKind.wrap .i64 (4096+s.2.2.1)else IntKind.wrap .i64 (16384+s.2.2.1)
theorem oo (s:nT):LB s=some (CY s)∧JB s=some (CY s):=by
 rw[zj,GA]
 unfold CY
 cases decide (s.2.1=1)<;>exact⟨rfl,rfl⟩
def yh (im:gL) (i:Nat):cU:=((rd (τ:=bO) im.2.2 (i:Int)).1,(rd (τ:=bO) im.2.2 (i:Int)).2.1,CY (rd (τ:=bO) im.2.2 (i:Int)),(rd (τ:=bO) im.2.2 (i:Int)).2.2.2.1,(rd (τ:=bO) im.2.2 (i:Int)).2.2.2.2,0)
def mX (im:gL):List cU:=bc (yh im) 0 im.2.2.length
def wc (im:gL):List Pc:=c8 (fun i=>decide ((rd (τ:=bO) im.2.2 (i:Int)).2.1=1)) (fun i=>((i:Int),0,CY (rd (τ:=bO) im.2.2 (i:Int)),(rd (τ:=bO) im.2.2 (i:Int)).2.2.2)) 0 im.2.2.length
theorem Bp (im:gL) (hn:im.2.2.length≤16):Dw im=some (mX im):=by
 rw[Mc,ck (L:=fun acc i=>Dw.a acc im.2.2 (im.2.2.length:Int) i) (yh im) im.2.2.length [] fun acc i hi ha=> ?_]
 ·rw[Dw.a_eq,ab,decide_eq_false (Nat.lt_irrefl _),cond_false,List.nil_append];rfl
 ·show Dw.a acc im.2.2 (im.2.2.length:Int) (i:Int)=_
  rw[Dw.a_eq,ab,ae,decide_eq_true hi,ah i _ hi (by omega),(oo _).1]
  simp only[cond_true,Option.bind_some]
  rw[jE _ (by simp at ha⊢;omega)];rfl
theorem Br (im:gL) (hn:im.2.2.length≤16):Da im=some (mX im):=by
 rw[Kd,ck (L:=fun acc i=>Da.a im acc i) (yh im) im.2.2.length [] fun acc i hi ha=> ?_]
 ·rw[Da.a_eq,ab,decide_eq_false (Nat.lt_irrefl _),cond_false,List.nil_append];rfl
 ·show Da.a im acc (i:Int)=_
  rw[Da.a_eq,ab,ae,decide_eq_true hi,ah i _ hi (by omega),(oo _).2]
  simp only[cond_true,Option.bind_some]
  rw[jE _ (by simp at ha⊢;omega)];rfl
theorem Bs (im:gL) (hn:im.2.2.length≤16):CT im=some (wc im):=by
 rw[Md,c9 (L:=fun acc i=>CT.a acc im.2.2 (im.2.2.length:Int) i) (fun i=>decide ((rd (τ:=bO) im.2.2 (i:Int)).2.1=1)) (fun i=>(((i:Int),0,CY (rd (τ:=bO) im.2.2 (i:Int)),(rd (τ:=bO) im.2.2 (i:Int)).2.2.2):Pc)) im.2.2.length [] fun acc i hi ha=> ?_]
 ·rw[CT.a_eq,ab,decide_eq_false (Nat.lt_irrefl _),cond_false,List.nil_append];rfl
 ·show CT.a acc im.2.2 (im.2.2.length:Int) (i:Int)=_
  rw[CT.a_eq,ab,ae,decide_eq_true hi,ah i _ hi (by omega),(oo _).1]
  simp only[cond_true,Option.bind_some]
  rw[pP _ (by simp at ha⊢;omega)]
  cases decide ((rd (τ:=bO) im.2.2 (i:Int)).2.1=1)<;>rfl
theorem Bt (im:gL) (hn:im.2.2.length≤16):CP im=some (wc im):=by
 rw[Ke,c9 (L:=fun acc i=>CP.a im acc i) (fun i=>decide ((rd (τ:=bO) im.2.2 (i:Int)).2.1=1)) (fun i=>(((i:Int),0,CY (rd (τ:=bO) im.2.2 (i:Int)),(rd (τ:=bO) im.2.2 (i:Int)).2.2.2):Pc)) im.2.2.length [] fun acc i hi ha=> ?_]
 ·rw[CP.a_eq,ab,decide_eq_false (Nat.lt_irrefl _),cond_false,List.nil_append];rfl
 ·show CP.a im acc (i:Int)=_
  rw[CP.a_eq,ab,ae,decide_eq_true hi,ah i _ hi (by omega),(oo _).2]
  simp only[cond_true,Option.bind_some]
  rw[pP _ (by simp at ha⊢;omega)]
  cases decide ((rd (τ:=bO) im.2.2 (i:Int)).2.1=1)<;>rfl
abbrev Je:Type:=List cU×List Pc×List fy×bm×bm
abbrev E5:Type:=List cU×bm×bm×List Pc×List fy
theorem HQ (im:gL) (hz:kJ im):RF im=some ((mX im,wc im,ax (F0 im) BL,(8192,1024,8192),(20480,256,20480)):Je)∧Ro im=some ((mX im,(8192,1024,8192),(20480,256,20480),wc im,ax (F0 im) BL):E5):=by
 rw[Mk,Kn,Bp im hz.n,Br im hz.n,Bs im hz.n,Bt im hz.n,v8 im hz.c hz.d,Bm im hz.c hz.d]
 exact⟨rfl,rfl⟩
structure wd (n:Nat) (t:List cU) (P:List Pc) (F:Int→Int) (a b:bm):Prop where
 tab:zO t
 len:t.length≤16+8*n
 fin:zP t
 pl:P.length≤16+4*n
 fr:FR F
 aR:cc a
 a1:a.1=8192
 a2:a.2.1=1024
 bR:cc b
 pcs:∀p∈P,0≤p.1∧p.1< (t.length:Int)∧0≤p.2.2.1∧p.2.2.1≤1048575∧1≤p.2.2.2.1∧p.2.2.2.1≤1024∧0≤p.2.1∧p.2.1≤6
theorem HR {n:Nat} (h:bg n=true):20≤n:=by
 unfold bg at h
 cases h1:ci n with
 |false=>rw[h1]at h;cases h
 |true=>rw[h1,cond_true,decide_eq_true_eq]at h;omega
theorem wG.sym {im:gL} (h:wG im) (i:Nat) (hi:i<im.2.2.length):qu im (rd (τ:=bO) im.2.2 (i:Int))∧Ge (rd (τ:=bO) im.2.2 (i:Int)):=by
 obtain⟨E,hE,_⟩:=h.chain
 rw[aM (τ:=bO) im.2.2 i hi]
 exact⟨(m5 hE i hi).1,h.funs i hi⟩
theorem tO {im:gL} {s:nT} (hz:kJ im) (h:qu im s) (hk:s.2.1=1):CY s=4096+s.2.2.1:=by
 have:=h.func hk;have:=h.at0;have:=h.size;have:=hz.c
 unfold CY
 rw[decide_eq_true hk,cond_true,aH (by omega) (by omega)]
theorem HT {im:gL} {s:nT} (hz:kJ im) (h:qu im s) (hk:s.2.1=2):CY s=16384+s.2.2.1:=by
 have:=h.data hk;have:=h.at0;have:=h.size;have:=hz.d
 unfold CY
 rw[decide_eq_false (by omega),cond_false,aH (by omega) (by omega)]
theorem HU {im:gL} (h:wG im):wd 0 (mX im) (wc im) (F0 im) (8192,1024,8192) (20480,256,20480):=by
 have hz:=h.sz
 have hn:=hz.n
 have hc:=hz.c
 have hd:=hz.d
 refine⟨⟨by unfold mX;rw[az];omega,fun e he=> ?_, ?_⟩,by unfold mX;rw[az];omega,fun i hi hk=> ?_, ?_,pO im,⟨⟨by decide,by decide,by decide⟩,⟨by decide,by decide,by decide⟩,by decide,by decide,by decide⟩,rfl,rfl,⟨⟨by decide,by decide,by decide⟩,⟨by decide,by decide,by decide⟩,by decide,by decide,by decide⟩,fun p hp=> ?_⟩
 ·unfold mX at he
  obtain⟨i,_,hi,rfl⟩:=(cy _ _ _ _).1 he
  obtain⟨hS,hG⟩:=h.sym i (by omega)
  unfold yh
  obtain⟨s,hs⟩:∃s:nT,rd (τ:=bO) im.2.2 (i:Int)=s:=⟨_,rfl⟩
  rw[hs]at hS hG⊢
  have h0:=hS.at0
  have h1:=hS.size
  unfold cR
  simp only
  rw[hS.name]
  rcases hS.kind with hk|hk
  ·obtain⟨g1,g2,g3⟩:=hG hk
   have hf:=hS.func hk
   rw[tO hz hS hk,g1,bd.2 (show 1≤s.2.2.2.1∧s.2.2.2.1≤1024 by omega)]
   unfold wH
   rw[decide_eq_true hk,g2];rfl
  ·have hf:=hS.data hk
   rw[HT hz hS hk,bd.2 (show 1≤s.2.2.2.1∧s.2.2.2.1≤1024 by omega)]
   have hcode:bQ (16384+s.2.2.1)=true:=by
    unfold bQ
    rw[show(decide (0≤16384+s.2.2.1)&&decide (16384+s.2.2.1≤1048575))=true by simp;omega,cond_true,decide_eq_true_eq,Int.tmod_eq_emod_of_nonneg (by omega)];omega
   rw[hcode]
   unfold wH
   rw[decide_eq_true hk,decide_eq_true hf.2.2.2,decide_eq_false (show¬s.2.1=1 by omega)];rfl
 ·unfold mX
  refine mV _ _ _ _ fun a b _ hab hb=> ?_
  obtain⟨E,hE,_⟩:=h.chain
  have:=(m5 hE b (by omega)).2
  intro e
  unfold yh at e
  simp only at e
  rw[aM (τ:=bO) im.2.2 a (by omega),aM (τ:=bO) im.2.2 b (by omega)]at e
  unfold li at this
  have h2:(im.2.2.take b).any (fun y=>decide (y.1=(im.2.2[b]'(by omega)).1))=true:=List.any_eq_true.2 ⟨im.2.2[a]'(by omega),List.mem_take_iff_getElem.2 ⟨a,by omega,rfl⟩,decide_eq_true e⟩
  rw[h2]at this
  cases this
 ·unfold mX at hi hk⊢
  rw[az]at hi
  rw[tI (τ:=aS) (yh im) _ _ hi]at hk⊢
  obtain⟨hS,hG⟩:=h.sym i hi
  unfold yh at hk⊢
  simp only at hk⊢
  obtain⟨s,hs⟩:∃s:nT,rd (τ:=bO) im.2.2 (i:Int)=s:=⟨_,rfl⟩
  rw[hs]at hS hG hk⊢
  have h0:=hS.at0
  have h1:=hS.size
  have hf:=hS.func hk
  have h20:=HR (hG hk).2.2
  rw[tO hz hS hk]
  exact .inl ⟨by omega,by omega⟩
 ·unfold wc
  have:=bS (fun i=>decide ((rd (τ:=bO) im.2.2 (i:Int)).2.1=1)) (fun i=>(((i:Int),0,CY (rd (τ:=bO) im.2.2 (i:Int)),(rd (τ:=bO) im.2.2 (i:Int)).2.2.2):Pc)) im.2.2.length 0
  omega
 ·unfold wc at hp
  obtain⟨j,_,hj,hk,rfl⟩:=dU _ _ _ _ _ hp
  have hj':j<im.2.2.length:=by omega
  obtain⟨hS,hG⟩:=h.sym j hj'
  have hk':=of_decide_eq_true hk
  obtain⟨s,hs⟩:∃s:nT,rd (τ:=bO) im.2.2 (j:Int)=s:=⟨_,rfl⟩
  simp only[hs]at hS hG hk'⊢
  have h0:=hS.at0
  have h1:=hS.size
  have hf:=hS.func hk'
  rw[tO hz hS hk']
  have hl:(mX im).length=im.2.2.length:=by unfold mX;rw[az]
  rw[hl]
  refine⟨by omega,by omega,by omega,by omega,h1,by omega⟩
theorem wg {α:Type} (p:Nat→Bool) (f:Nat→α):∀(k i j:Nat),i≤j→j<i+k→p j=true→f j∈c8 p f i k
 |0,i,j,h1,h2,_=>by omega
 |k+1,i,j,h1,h2,hp=>by
  rw[c8]
  by_cases e:j=i
  ·subst e;rw[hp,cond_true];exact List.mem_cons_self ..
  ·have:=wg p f k (i+1) j (by omega) (by omega) hp
   cases p i
   ·exact this
   ·exact List.mem_cons_of_mem _ this
def Ox (t:List cU) (o:bn) (l:eY) (owner:Int) (i:Nat):Pc:=(cg t (rd (τ:=aA) o.2.2.1 (i:Int)).1,owner,rd (τ:= .int .i64) l.1 (i:Int),(ge o i:Int),(rd (τ:=aA) o.2.2.1 (i:Int)).2.2.1)
theorem E6 {t u:List cU} {n:ByteArray} (h:0≤cg t n):cg (t++u) n=cg t n∧rd (τ:=aS) (t++u) (cg t n)=rd (τ:=aS) t (cg t n):=by
 have hrd:∀i:Nat,i<t.length→rd (τ:=aS) (t++u) (i:Int)=rd (τ:=aS) t (i:Int):=fun i hi=>by
  rw[aM (τ:=aS) (t++u) i (by rw[List.length_append];omega),aM (τ:=aS) t i hi,List.getElem_append_left hi]
 unfold cg at h⊢
 rcases cr (fun i=>decide ((rd (τ:=aS) t (i:Int)).1=n)) t.length 0 with⟨h1,h2⟩|⟨j,h1,h2,h3,h4,h5⟩
 ·rw[h1]at h;exact absurd h (by decide)
 ·rw[h1]
  rcases cr (fun i=>decide ((rd (τ:=aS) (t++u) (i:Int)).1=n)) (t++u).length 0 with⟨g1,g2⟩|⟨k,g1,g2,g3,g4,g5⟩
  ·have:=g2 j (Nat.zero_le _) (by rw[List.length_append];omega)
   rw[hrd j (by omega),h4]at this;cases this
  ·have:k=j:=by
    rcases Nat.lt_trichotomy k j with c|c|c
    ·have:=h5 k (Nat.zero_le _) c
     rw[hrd k (by omega)]at g4
     rw[this]at g4;cases g4
    ·exact c
    ·have:=g5 j (Nat.zero_le _) c
     rw[hrd j (by omega),h4]at this;cases this
   rw[g1,this]
   exact⟨rfl,hrd j (by omega)⟩
theorem E7 {t:List cU} {o:bn} {l:eY} {owner:Int} (hf:zP t) (ho:dX o) (hp:ol o l):zP (jc t o l owner):=by
 intro i hi hk
 have hm:=an (τ:=aS) (jc t o l owner) i hi
 generalize rd (τ:=aS) (jc t o l owner) (i:Int)=e at*
 unfold jc at hm
 rcases List.mem_append.1 hm with hm|hm
 ·rcases List.mem_append.1 hm with hm|hm
  ·obtain⟨j,hj,rfl⟩:=mU (τ:=aS) hm
   exact hf j hj hk
  ·obtain⟨j,_,hj,_,rfl⟩:=dU _ _ _ _ _ hm
   obtain⟨x,hx,h1,h2,h3⟩:=hp j (by omega)
   have:=ho.fsz_pos j (by omega)
   unfold nR
   simp only[hx]
   exact .inr ⟨h1,by omega⟩
 ·obtain⟨j,_,hj,rfl⟩:=(cy _ _ _ _).1 hm
  unfold Bn at hk
  exact absurd hk (show¬((2:Int)=1) by decide)
theorem E8 (t:List cU) (o:bn) (l:eY) (owner:Int) (ht:t.length≤64) (hz:ObjSz o) (hl:eB o l) (P:List Pc) (hP:P.length≤100) (r:List fy×bm×bm) (x6:eY):
  An.a (t,P,r) owner o x6 l o.2.2.1 (o.2.2.1.length:Int) 0=(qU r.1 t o l).bind fun r3=>some (l,r3.2,0,t,P++bc (Ox t o l owner) 0 o.2.2.1.length,r3.1,r.2):=by
 have h1:=hz.f
 rw[ck (L:=fun acc i=>An.a (t,acc,r) owner o x6 l o.2.2.1 (o.2.2.1.length:Int) i) (Ox t o l owner) o.2.2.1.length P fun acc i hi ha=> ?_]
 ·rw[An.a_eq,ab,decide_eq_false (Nat.lt_irrefl _),cond_false]
 ·show An.a (t,acc,r) owner o x6 l o.2.2.1 (o.2.2.1.length:Int) (i:Int)=_
  rw[An.a_eq,ab,ae,decide_eq_true hi,ah i _ hi (by omega),(dI t _ (by omega)).1]
  simp only[cond_true,Option.bind_some]
  rw[ae,show decide (i<l.1.length)=true from decide_eq_true (by rw[hl.a];exact hi),pP _ (by simp;omega)];rfl
theorem E9 (t:List cU) (o:bn) (l:eY) (owner:Int) (ht:t.length≤64) (hz:ObjSz o) (hl:eB o l) (P:List Pc) (hP:P.length≤100) (y:E5) (a b:bm) (x12:E5):
  CQ.a owner y o l a b x12 t P 0=(qP y.2.2.2.2 t o l).bind fun r2=>some ((t,a,b,P++bc (Ox t o l owner) 0 o.2.2.1.length,r2.1),r2.2):=by
 have h1:=hz.f
 rw[ck (L:=fun acc i=>CQ.a owner y o l a b x12 t acc i) (Ox t o l owner) o.2.2.1.length P fun acc i hi ha=> ?_]
 ·rw[CQ.a_eq,ab,decide_eq_false (Nat.lt_irrefl _),cond_false]
 ·show CQ.a owner y o l a b x12 t acc (i:Int)=_
  rw[CQ.a_eq,ab,ae,decide_eq_true hi,ah i _ hi (by omega),(dI t _ (by omega)).2]
  simp only[cond_true,Option.bind_some]
  rw[ae,ae,show decide (i<l.1.length)=true from decide_eq_true (by rw[hl.a];exact hi),show decide (i<l.2.1.length)=true from decide_eq_true (by rw[hl.c];exact hi),hl.cs i hi,pP _ (by simp;omega)];rfl
theorem Fa (n:Nat) (hn:n≤5) (t:List cU) (P:List Pc) (F:Int→Int) (a b:bm) (hL:wd n t P F a b) (o:bn) (hr:sX o) (ho:m9 o=true):
  ∃v,gf t a b o=some v∧(v.2.2.2≠0→∃x,An (t,P,ax F BL,a,b) o ((n+1:Nat):Int)=some (x,[],v.2.2.2,(t,P,ax F BL,a,b)))∧
   (v.2.2.2=0→∃(t':List cU) (P':List Pc) (F':Int→Int) (sv:List (Int×Int)),sv.length≤4∧wd (n+1) t' P' F' v.2.1 v.2.2.1∧eB o v.1∧
    An (t,P,ax F BL,a,b) o ((n+1:Nat):Int)=some (v.1,sv,0,(t',P',ax F' BL,v.2.1,v.2.2.1))∧
    CQ (t,a,b,P,ax F BL) o v.1 v.2.1 v.2.2.1 ((n+1:Nat):Int)=some ((t',v.2.1,v.2.2.1,P',ax F' BL),sv)):=by
 have hO:=jO ho
 have hlen:=hL.len
 have hpl:=hL.pl
 have htab:=wa.2 hL.tab
 obtain⟨v,e1,e2,e3⟩:=Bh t a b o hr htab hL.aR hL.bR ho
 refine⟨v,e2,fun hv=> ?_,fun hv=> ?_⟩
 ·rw[GR]
  simp only
  rw[e1]
  simp only[Option.bind_some]
  rw[decide_eq_false hv]
  exact⟨_,rfl⟩
 ·have hR:=e3 hv
  have hl:=hR.lnk
  have hp:=ye hR hL.aR hL.a1 hL.a2
  obtain⟨n1,n2⟩:=ny hR.names
  have hT:=HP (owner:=((n+1:Nat):Int)) hL.tab hO hl hR.names (by omega) (by omega)
  have hTf:=E7 (owner:=((n+1:Nat):Int)) hL.fin hO hp
  have hTl:=nz t o v.1 ((n+1:Nat):Int) hO.toObjSz
  have hTr:∀i:Nat,i<o.2.2.1.length→(rd (τ:=aA) o.2.2.1 (i:Int)).2.1=true→0≤cg (jc t o v.1 ((n+1:Nat):Int)) (rd (τ:=aA) o.2.2.1 (i:Int)).1∧(rd (τ:=aS) (jc t o v.1 ((n+1:Nat):Int)) (cg (jc t o v.1 ((n+1:Nat):Int)) (rd (τ:=aA) o.2.2.1 (i:Int)).1)).2.1=1:=by
   intro i hi hrr
   obtain⟨g1,g2⟩:=HN (n1 i hi) hrr
   unfold jc
   rw[List.append_assoc]
   obtain⟨f1,f2⟩:=E6 (u:=c8 (fun i=> !(rd (τ:=aA) o.2.2.1 (i:Int)).2.1) (nR o v.1 ((n+1:Nat):Int)) 0 o.2.2.1.length++bc (Bn o v.1 ((n+1:Nat):Int)) 0 o.2.2.2.1.length) g1
   rw[f1,f2];exact⟨g1,g2⟩
  generalize hTn:jc t o v.1 ((n+1:Nat):Int)=T at*
  obtain⟨c1,c2⟩:=yf o v.1 T hO.toObjSz hl hp [] o.2.2.1.length 0 F hL.fr (by omega)
  obtain⟨F',sv,hF',hsv,j1,j2⟩:=yg o v.1 T hT.len hO.toObjSz hl hp hTf hTr o.2.2.1.length 0 (pS F v.1 0 o.2.2.1.length) [] (lS v.1 _ _ F hL.fr) (by omega) (by simp)
  have hi:qU (ax F BL) T o v.1=some (ax F' BL,sv):=by rw[M3];exact c1.trans j1
  have hs:qP (ax F BL) T o v.1=some (ax F' BL,sv):=by rw[KP];exact c2.trans j2
  have hf4:=hO.f
  obtain⟨_,hA,hB⟩:=vQ o hO a b hL.aR hL.bR
  refine⟨T,P++bc (Ox T o v.1 ((n+1:Nat):Int)) 0 o.2.2.1.length,F',sv,by omega,⟨hT,by omega,hTf,by rw[List.length_append,az];omega,hF',by rw[hR.ea];exact hA, ?_, ?_,by rw[hR.eb];exact hB,fun p hp=> ?_⟩,hl, ?_, ?_⟩
  ·rw[hR.ea];exact(pR _ _ _ _).1.trans hL.a1
  ·rw[hR.ea];exact(pR _ _ _ _).2.trans hL.a2
  ·have hTlen:t.length≤T.length:=by rw[←hTn];unfold jc;simp only[List.length_append];omega
   rcases List.mem_append.1 hp with hp|hp
   ·have:=hL.pcs p hp
    omega
   ·obtain⟨j,_,hj,rfl⟩:=(cy _ _ _ _).1 hp
    have hj':j<o.2.2.1.length:=by omega
    have hfs:=hO.fsz_pos j hj'
    have hat:=hl.fa j hj'
    have her:=dP T (rd (τ:=aA) o.2.2.1 (j:Int)).1
    have hnn:¬cg T (rd (τ:=aA) o.2.2.1 (j:Int)).1<0:=by
     cases hrep:(rd (τ:=aA) o.2.2.1 (j:Int)).2.1 with
     |true=>have:=(hTr j hj' hrep).1;omega
     |false=>
      rw[lR]
      intro hall
      refine hall (nR o v.1 ((n+1:Nat):Int) j) ?_ rfl
      rw[←hTn];unfold jc
      exact List.mem_append_left _ (List.mem_append_right _ (wg _ _ _ _ j (Nat.zero_le _) (by omega) (by rw[hrep];rfl)))
    unfold Ox
    simp only
    exact⟨by omega,by omega,hat.1,hat.2.1,by omega,by omega,by omega,by omega⟩
  ·rw[GR]
   simp only
   rw[e1]
   simp only[Option.bind_some]
   rw[hv,MY,decide_eq_false (show¬(t.length:Int)>4096 by omega),(ir t).1,htab,(iZ o hr).1,ho,rk o v.1 hO.toObjSz hl,(bp _ _ _).1,bd.2 (show 1≤((n+1:Nat):Int)∧((n+1:Nat):Int)≤6 by omega),lc t o v.1 _ (by omega) hO.toObjSz hl,hTn]
   simp only[decide_true,Bool.not_true,cond_false,Option.bind_some,av]
   rw[(ir T).1,wa.2 hT]
   simp only[decide_true,Bool.not_true,cond_false,Option.bind_some]
   rw[E8 T o v.1 _ hT.len hO.toObjSz hl P (by omega)]
   simp only
   rw[hi];rfl
  ·rw[KQ]
   simp only
   rw[rh t o v.1 _ (by omega) hO.toObjSz hl,hTn]
   simp only[Option.bind_some]
   rw[pP _ (by omega),cond_true,E9 T o v.1 _ hT.len hO.toObjSz hl P (by omega)]
   simp only
   rw[hs];rfl
theorem cP {L:Int→Option Bool} {n m:Nat} (p:Nat→Bool) (hend:n=m→L (n:Int)=some true) (hstep:n=m→∀i:Nat,i<n→L (i:Int)=bif p i then L ((i+1:Nat):Int)else some false):
  (bif (!decide ((n:Int)=(m:Int)))then some false else L 0)=some (decide (n=m)&&gO p 0 n):=by
 by_cases h:n=m
 ·rw[decide_eq_true (show(n:Int)=(m:Int) by omega),decide_eq_true h,cQ p n (hend h) (hstep h)];rfl
 ·rw[decide_eq_false (show¬(n:Int)=(m:Int) by omega),decide_eq_false h];rfl
def Oy (a b:List Int):Bool:=decide (a.length=b.length)&&gO (fun i=>decide ((rd (τ:= .int .i64) a (i:Int):Int)=rd (τ:= .int .i64) b (i:Int))) 0 a.length
def OT (a b:List ByteArray):Bool:=decide (a.length=b.length)&&gO (fun i=>decide ((rd (τ:= .str) a (i:Int):ByteArray)=rd (τ:= .str) b (i:Int))) 0 a.length
theorem oq (a b:List Int) (h:a.length≤1048576):Dz a b=some (Oy a b)∧Df a b=some (Oy a b):=by
 rw[M4,KJ]
 constructor
 ·refine cP (L:=Dz.a a b (a.length:Int)) _ (fun _=> ?_) fun hl i hi=> ?_
  ·rw[Dz.a_eq,ab,decide_eq_false (Nat.lt_irrefl _),cond_false]
  ·rw[Dz.a_eq,ab,ae,ae,decide_eq_true hi,decide_eq_true (show i<b.length by omega),ah i _ hi (by omega)]
   simp only[cond_true]
   cases decide ((rd (τ:= .int .i64) a (i:Int):Int)=rd (τ:= .int .i64) b (i:Int))<;>rfl
 ·refine cP (L:=Df.a a b) _ (fun _=> ?_) fun hl i hi=> ?_
  ·rw[Df.a_eq,ab,decide_eq_false (Nat.lt_irrefl _),cond_false]
  ·rw[Df.a_eq,ab,ae,ae,decide_eq_true hi,decide_eq_true (show i<b.length by omega),ah i _ hi (by omega)]
   simp only[cond_true]
   cases decide ((rd (τ:= .int .i64) a (i:Int):Int)=rd (τ:= .int .i64) b (i:Int))<;>rfl
theorem ot (a b:List ByteArray) (h:a.length≤1048576):DA a b=some (OT a b)∧Dg a b=some (OT a b):=by
 rw[M5,KK]
 constructor
 ·refine cP (L:=DA.a a b (a.length:Int)) _ (fun _=> ?_) fun hl i hi=> ?_
  ·rw[DA.a_eq,ab,decide_eq_false (Nat.lt_irrefl _),cond_false]
  ·rw[DA.a_eq,ab,ae,ae,decide_eq_true hi,decide_eq_true (show i<b.length by omega),ah i _ hi (by omega),aL]
   simp only[cond_true]
   cases decide ((rd (τ:= .str) a (i:Int):ByteArray)=rd (τ:= .str) b (i:Int))<;>rfl
 ·refine cP (L:=Dg.a a b) _ (fun _=> ?_) fun hl i hi=> ?_
  ·rw[Dg.a_eq,ab,decide_eq_false (Nat.lt_irrefl _),cond_false]
  ·rw[Dg.a_eq,ab,ae,ae,decide_eq_true hi,decide_eq_true (show i<b.length by omega),ah i _ hi (by omega),aL]
   simp only[cond_true]
   cases decide ((rd (τ:= .str) a (i:Int):ByteArray)=rd (τ:= .str) b (i:Int))<;>rfl
def lT (a b:eY):Bool:=Oy a.1 b.1&&(OT a.2.1 b.2.1&&(Oy a.2.2.1 b.2.2.1&&OT a.2.2.2 b.2.2.2))
theorem yi (a b:eY) (h1:a.1.length≤1048576) (h2:a.2.1.length≤1048576) (h3:a.2.2.1.length≤1048576) (h4:a.2.2.2.length≤1048576):Qz a b=some (lT a b)∧Rw a b=some (lT a b):=by
 rw[M6,KL,(oq _ _ h1).1,(oq _ _ h1).2,(ot _ _ h2).1,(ot _ _ h2).2,(oq _ _ h3).1,(oq _ _ h3).2,(ot _ _ h4).1,(ot _ _ h4).2]
 unfold lT
 simp only[Option.bind_some]
 cases Oy a.1 b.1<;>cases OT a.2.1 b.2.1<;>cases Oy a.2.2.1 b.2.2.1<;>exact⟨rfl,rfl⟩
abbrev Sv:Type:=Int×Int
def Fb (a b:List Sv):Bool:=decide (a.length=b.length)&&gO (fun i=>ka fR (rd (τ:=fR) a (i:Int)) (rd (τ:=fR) b (i:Int))) 0 a.length
theorem pT (a b:List Sv) (h:a.length≤1048576):DB a b=some (Fb a b)∧GF a b=some (Fb a b):=by
 rw[M7,KR]
 constructor
 ·refine cP (L:=DB.a a b (a.length:Int)) _ (fun _=> ?_) fun hl i hi=> ?_
  ·rw[DB.a_eq,ab,decide_eq_false (Nat.lt_irrefl _),cond_false]
  ·rw[DB.a_eq,ab,ae,ae,decide_eq_true hi,decide_eq_true (show i<b.length by omega),ah i _ hi (by omega)]
   simp only[cond_true]
   cases ka fR (rd (τ:=fR) a (i:Int)) (rd (τ:=fR) b (i:Int))<;>rfl
 ·refine cP (L:=GF.a a b) _ (fun _=> ?_) fun hl i hi=> ?_
  ·rw[GF.a_eq,ab,decide_eq_false (Nat.lt_irrefl _),cond_false]
  ·rw[GF.a_eq,ab,ae,ae,decide_eq_true hi,decide_eq_true (show i<b.length by omega),ah i _ hi (by omega)]
   simp only[cond_true]
   cases ka fR (rd (τ:=fR) a (i:Int)) (rd (τ:=fR) b (i:Int))<;>rfl
def Q2 (a b:List cU):Bool:=decide (a.length=b.length)&&gO (fun i=>ka aS (rd (τ:=aS) a (i:Int)) (rd (τ:=aS) b (i:Int))) 0 a.length
theorem zQ (a b:List cU) (h:a.length≤1048576):GX a b=some (Q2 a b)∧GG a b=some (Q2 a b):=by
 rw[Nl,KT]
 constructor
 ·refine cP (L:=GX.a a b (a.length:Int)) _ (fun _=> ?_) fun hl i hi=> ?_
  ·rw[GX.a_eq,ab,decide_eq_false (Nat.lt_irrefl _),cond_false]
  ·rw[GX.a_eq,ab,ae,ae,decide_eq_true hi,decide_eq_true (show i<b.length by omega),ah i _ hi (by omega)]
   simp only[cond_true]
   cases ka aS (rd (τ:=aS) a (i:Int)) (rd (τ:=aS) b (i:Int))<;>rfl
 ·refine cP (L:=GG.a a b) _ (fun _=> ?_) fun hl i hi=> ?_
  ·rw[GG.a_eq,ab,decide_eq_false (Nat.lt_irrefl _),cond_false]
  ·rw[GG.a_eq,ab,ae,ae,decide_eq_true hi,decide_eq_true (show i<b.length by omega),ah i _ hi (by omega)]
   simp only[cond_true]
   cases ka aS (rd (τ:=aS) a (i:Int)) (rd (τ:=aS) b (i:Int))<;>rfl
def zR (a b:fy):Bool:=decide (a.1=b.1)&&(decide (a.2.1=b.2.1)&&(!decide (a.2.1=4)||decide (a.2.2=b.2.2)))
def Fc (a b:List fy):Bool:=decide (a.length=b.length)&&gO (fun i=>zR (rd (τ:=aO) a (i:Int)) (rd (τ:=aO) b (i:Int))) 0 a.length
theorem wh (a b:List fy) (h:a.length≤1048576):RW a b=some (Fc a b)∧Dh a b=some (Fc a b):=by
 rw[No,Nn,KU]
 constructor
 ·rw[cP (L:=He.a b a (a.length:Int)) (fun i=>zR (rd (τ:=aO) a (i:Int)) (rd (τ:=aO) b (i:Int))) (fun _=> ?_) fun hl i hi=> ?_]
  ·rfl
  ·rw[He.a_eq,ab,decide_eq_false (Nat.lt_irrefl _),cond_false]
  ·rw[He.a_eq,ab,ae,ae,decide_eq_true hi,decide_eq_true (show i<b.length by omega),ah i _ hi (by omega),Nm,aL]
   unfold zR
   simp only[cond_true]
   generalize rd (τ:=aO) a (i:Int)=x
   generalize rd (τ:=aO) b (i:Int)=y
   cases decide (x.1=y.1)<;>cases decide (x.2.1=y.2.1)<;>cases decide (x.2.1=4)<;>cases decide (x.2.2=y.2.2)<;>rfl
 ·refine cP (L:=Dh.a a b) _ (fun _=> ?_) fun hl i hi=> ?_
  ·rw[Dh.a_eq,ab,decide_eq_false (Nat.lt_irrefl _),cond_false]
  ·rw[Dh.a_eq,ab,ae,ae,decide_eq_true hi,decide_eq_true (show i<b.length by omega),ah i _ hi (by omega),aL]
   unfold zR
   simp only[cond_true]
   generalize rd (τ:=aO) a (i:Int)=x
   generalize rd (τ:=aO) b (i:Int)=y
   cases decide (x.1=y.1)<;>cases decide (x.2.1=y.2.1)<;>cases decide (x.2.1=4)<;>cases decide (x.2.2=y.2.2)<;>rfl
def sw (o:bn) (id:Int):Bool:=fA (fun k=>decide ((rd (τ:=dq) o.2.2.2.2.2 (k:Int)).1=id)) 0 o.2.2.2.2.2.length
def pU (q o:bn):Bool:=fA (fun i=>sw o (rd (τ:=dq) q.2.2.2.2.2 (i:Int)).1) 0 q.2.2.2.2.2.length
theorem Fd (o:bn) (hz:ObjSz o) (id:Int):RI o id=some (sw o id):=by
 have h:=hz.s
 rw[Mw,Mv,Mu]
 rw[dc (L:=G9.a id o.2.2.2.2.2 (o.2.2.2.2.2.length:Int)) (fun k=>decide ((rd (τ:=dq) o.2.2.2.2.2 (k:Int)).1=id)) o.2.2.2.2.2.length ?_ fun i hi=> ?_]
 ·simp only[Option.bind_some];rw[qB];rfl
 ·rw[G9.a_eq,ab];simp
 ·rw[G9.a_eq,ab,ae,decide_eq_true hi,ah i _ hi (by omega),Mt];rfl
theorem Bu (q o:bn) (hq:ObjSz q) (ho:ObjSz o):RJ q o=some (pU q o):=by
 have h:=hq.s
 rw[MA,Mz,My]
 rw[dc (L:=Ha.a o q.2.2.2.2.2 (q.2.2.2.2.2.length:Int)) (fun i=>sw o (rd (τ:=dq) q.2.2.2.2.2 (i:Int)).1) q.2.2.2.2.2.length ?_ fun i hi=> ?_]
 ·simp only[Option.bind_some];rw[qB];rfl
 ·rw[Ha.a_eq,ab];simp
 ·rw[Ha.a_eq,ab,ae,decide_eq_true hi,ah i _ hi (by omega),Mx,Fd o ho];rfl
abbrev HV:Ty:= .pair .str (.pair (.int .i64) (.pair (.list aA) (.pair (.list aX) (.pair (.list bT) (.list dq)))))
abbrev HW:Ty:= .pair (.list (.int .i64)) (.pair (.list .str) (.pair (.list (.int .i64)) (.list .str)))
abbrev bX:Ty:= .pair HV (.pair HW (.list fR))
abbrev wi:Type:=bn×eY×List Sv
def lU (ps:List wi) (o:bn):Bool:=fA (fun j=>decide ((rd (τ:=bX) ps (j:Int)).1.1=o.1)) 0 ps.length
def jF (ps:List wi) (o:bn):Bool:=fA (fun j=>pU (rd (τ:=bX) ps (j:Int)).1 o) 0 ps.length
theorem Fe (o:bn) (id:Int):fA (fun k=>decide (id=(rd (τ:=dq) o.2.2.2.2.2 (k:Int)).1)) 0 o.2.2.2.2.2.length=sw o id:=by
 unfold sw
 have e:(fun k:Nat=>decide (id=(rd (τ:=dq) o.2.2.2.2.2 (k:Int)).1))=fun k:Nat=>decide ((rd (τ:=dq) o.2.2.2.2.2 (k:Int)).1=id):=by
  funext k
  congr 1
  exact propext ⟨Eq.symm,Eq.symm⟩
 rw[e]
theorem yj (ps:List wi) (o:bn) (hp:ps.length≤6) (hz:∀j:Nat,j<ps.length→ObjSz (rd (τ:=bX) ps (j:Int)).1) (ho:ObjSz o):jf.b ps o 0=bif jF ps o then some 30 else some 0:=by
 have hs:=ho.s
 rw[dW (L:=jf.b ps o) (fun j=>pU (rd (τ:=bX) ps (j:Int)).1 o) ps.length (some 30) fun j hj=> ?_]
 ·rw[jf.b_eq,ab,decide_eq_false (Nat.lt_irrefl _),cond_false];rfl
 ·obtain⟨q,hq⟩:∃q:bn,(rd (τ:=bX) ps (j:Int)).1=q:=⟨_,rfl⟩
  have hqz:=hz j hj
  rw[hq]at hqz⊢
  have hqs:=hqz.s
  rw[jf.b_eq,ab,ae,decide_eq_true hj,cond_true,cond_true,hq]
  rw[dW (L:=jf.c ps o (j:Int) q.2.2.2.2.2) (fun k=>sw o (rd (τ:=dq) q.2.2.2.2.2 (k:Int)).1) q.2.2.2.2.2.length (some 30) fun k hk=> ?_]
  ·rw[jf.c_eq,ab,decide_eq_false (Nat.lt_irrefl _),cond_false,ah j _ hj (by omega)];rfl
  ·rw[jf.c_eq,ab,decide_eq_true hk,cond_true]
   rw[dW (L:=jf.d ps o (j:Int) q.2.2.2.2.2 (k:Int)) (fun n=>decide ((rd (τ:=dq) q.2.2.2.2.2 (k:Int)).1=(rd (τ:=dq) o.2.2.2.2.2 (n:Int)).1)) o.2.2.2.2.2.length (some 30) fun n hn=> ?_]
   ·rw[jf.d_eq,ab,decide_eq_false (Nat.lt_irrefl _),cond_false,ah k _ hk (by omega),Fe]
   ·rw[jf.d_eq,ab,ae,ae,decide_eq_true hn,decide_eq_true hk,ah n _ hn (by omega)]
    simp only[cond_true]
theorem tP (ps:List wi) (o:bn) (hp:ps.length≤6) (hz:∀j:Nat,j<ps.length→ObjSz (rd (τ:=bX) ps (j:Int)).1) (ho:ObjSz o):jf ps o=some (bif lU ps o then 24 else bif jF ps o then 30 else 0):=by
 rw[Kw,dW (L:=jf.a ps o) (fun j=>decide ((rd (τ:=bX) ps (j:Int)).1.1=o.1)) ps.length (some 24) fun j hj=> ?_]
 ·rw[jf.a_eq,ab,decide_eq_false (Nat.lt_irrefl _),cond_false,yj ps o hp hz ho]
  show(bif lU ps o then _ else _)=_
  cases lU ps o<;>cases jF ps o<;>rfl
 ·rw[jf.a_eq,ab,ae,decide_eq_true hj,ah j _ hj (by omega),aL]
  simp only[cond_true]
theorem zS (p q:Nat→Bool):∀k i,fA (fun j=>p j||q j) i k=(fA p i k||fA q i k)
 |0,_=>rfl
 |k+1,i=>by
  rw[fA,fA,fA,zS p q k (i+1)]
  cases p i<;>cases q i<;>simp
abbrev PW:Type:=gL×PX×List wi
def wj (ps:List wi):Prop:=∀j:Nat,j<ps.length→sX (rd (τ:=bX) ps (j:Int)).1
abbrev ZI:Je:=([],[],[],(0,0,0),0,0,0)
theorem HX {τ:Ty} (l:List τ.den) (n j:Nat) (hj:j<n) (hn:n≤l.length):rd (τ:=τ) (l.take n) (j:Int)=rd (τ:=τ) l (j:Int):=by
 rw[aM _ _ (by rw[List.length_take];omega),aM _ _ (by omega),List.getElem_take]
theorem Ff (ps:List wi) (hp:ps.length≤6) (hW:wj ps) (saved:Bool) (x6:Je) (x6':E5):∀(k i:Nat) (t:List cU) (P:List Pc) (F:Int→Int) (a b:bm),i+k=ps.length→wd i t P F a b→(∀j:Nat,j<i→m9 (rd (τ:=bX) ps (j:Int)).1=true)→
  ∃rI rS,td.a ps saved ZI (t,P,ax F BL,a,b) ps (ps.length:Int) (i:Int)=some rI∧Ah.a ps saved x6' (t,a,b,P,ax F BL) (i:Int)=some rS∧rI.2=rS.2∧
   (rI.2=true→(ps.length≤6∧∀j:Nat,j<ps.length→m9 (rd (τ:=bX) ps (j:Int)).1=true)∧∃t' P' F' a' b',rI.1=(t',P',ax F' BL,a',b')∧rS.1=(t',a',b',P',ax F' BL)∧wd ps.length t' P' F' a' b'):=by
 intro k
 induction k with
 |zero=>
  intro i t P F a b h hL hO
  have:i=ps.length:=by omega
  subst this
  rw[td.a_eq,ab,decide_eq_false (Nat.lt_irrefl _),cond_false,Ah.a_eq,ab,decide_eq_false (Nat.lt_irrefl _),cond_false]
  exact⟨_,_,rfl,rfl,rfl,fun _=>⟨⟨hp,hO⟩,t,P,F,a,b,rfl,rfl,hL⟩⟩
 |succ k ih=>
  intro i t P F a b h hL hO
  have hi:i<ps.length:=by omega
  have hr:=hW i hi
  rw[td.a_eq,ab,ae,decide_eq_true hi,Ah.a_eq,ab,decide_eq_true hi]
  simp only[ae,decide_eq_true hi,cond_true,av]
  obtain⟨p,hpe⟩:∃p:wi,rd (τ:=bX) ps (i:Int)=p:=⟨_,rfl⟩
  rw[hpe]at hr⊢
  rw[(iZ p.1 hr).1,(iZ p.1 hr).2]
  simp only[Option.bind_some]
  cases hob:m9 p.1 with
  |false=>exact⟨_,_,rfl,rfl,rfl,fun h=>by cases h⟩
  |true=>
   simp only[Bool.not_true,cond_false]
   by_cases hdep:p.1.2.1=(i:Int)
   ·rw[decide_eq_true hdep,iX i _ (by omega),iW]
    simp only[Bool.not_true,cond_false,cond_true]
    have hpo:=jO hob
    have hlt:(ps.take i).length=i:=by rw[List.length_take];omega
    have hsz:∀j:Nat,j< (ps.take i).length→ObjSz (rd (τ:=bX) (ps.take i) (j:Int)).1:=fun j hj=>by
     rw[hlt]at hj
     rw[HX (τ:=bX) ps i j hj (by omega)]
     exact(jO (hO j hj)).toObjSz
    rw[tP (ps.take i) p.1 (by omega) hsz hpo.toObjSz]
    simp only[Option.bind_some]
    rw[dW (L:=td.b ps saved ZI (t,P,ax F BL,a,b) (i:Int) p ps (ps.length:Int) (i:Int) (ps.take i) ((ps.take i).length:Int)) (fun j=>decide ((rd (τ:=bX) (ps.take i) (j:Int)).1.1=p.1.1)||pU (rd (τ:=bX) (ps.take i) (j:Int)).1 p.1) (ps.take i).length (some (ZI,false)) fun j hj=> ?_]
    ·rw[zS]
     show∃rI rS,(bif (lU (ps.take i) p.1||jF (ps.take i) p.1)then _ else _)=some rI∧_
     cases hna:lU (ps.take i) p.1 with
     |true=>exact⟨_,_,rfl,rfl,rfl,fun h=>by cases h⟩
     |false=>
      cases hsa:jF (ps.take i) p.1 with
      |true=>exact⟨_,_,rfl,rfl,rfl,fun h=>by cases h⟩
      |false=>
       simp only[Bool.or_self,cond_false,decide_true,Bool.not_true]
       rw[td.b_eq,ab,decide_eq_false (Nat.lt_irrefl _),cond_false,ah i ps.length hi (by omega)]
       obtain⟨v,e1,e2,e3⟩:=Fa i (by omega) t P F a b hL p.1 hr hob
       rw[e1]
       simp only[Option.bind_some,av]
       by_cases hv:v.2.2.2=0
       ·obtain⟨t',P',F',sv,hsv,hL',hl',g1,g2⟩:=e3 hv
        rw[g1,hv]
        simp only[Option.bind_some,decide_true,Bool.not_true,cond_false]
        have hof:=hpo.f
        have hod:=hpo.d
        obtain⟨q1,q2⟩:=yi v.1 p.2.1 (by rw[hl'.a];omega) (by rw[hl'.c];omega) (by rw[hl'.d];omega) (by rw[hl'.b];omega)
        rw[q1,q2]
        simp only[Option.bind_some]
        have hnext:=ih (i+1) t' P' F' v.2.1 v.2.2.1 (by omega) hL' fun j hj=>by
         by_cases e:j=i
         ·rw[e,hpe];exact hob
         ·exact hO j (by omega)
        cases lT v.1 p.2.1 with
        |false=>cases saved<;>exact⟨_,_,rfl,rfl,rfl,fun h=>by cases h⟩
        |true=>
         simp only[Bool.not_true,cond_false]
         rw[g2]
         simp only[Option.bind_some]
         cases saved with
         |true=>
          simp only[Bool.not_true,cond_false,cond_true]
          rw[(pT sv p.2.2 (by omega)).1,(pT sv p.2.2 (by omega)).2]
          simp only[Option.bind_some]
          cases Fb sv p.2.2 with
          |false=>exact⟨_,_,rfl,rfl,rfl,fun h=>by cases h⟩
          |true=>exact hnext
         |false=>
          simp only[Bool.not_false,cond_true,cond_false]
          rw[(pT [] p.2.2 (by simp)).1]
          simp only[Option.bind_some]
          have e:Fb [] p.2.2= !decide ((p.2.2.length:Int)>0):=by
           unfold Fb
           rw[show gO (fun i=>ka fR (rd (τ:=fR) ([]:List Sv) (i:Int)) (rd (τ:=fR) p.2.2 (i:Int))) 0 ([]:List Sv).length=true from rfl,Bool.and_true,←decide_not]
           congr 1
           apply propext
           simp only[List.length_nil]
           omega
          rw[e]
          cases decide ((p.2.2.length:Int)>0)with
          |true=>exact⟨_,_,rfl,rfl,rfl,fun h=>by cases h⟩
          |false=>exact hnext
       ·obtain⟨x,g1⟩:=e2 hv
        rw[g1]
        simp only[Option.bind_some]
        rw[decide_eq_false hv]
        cases saved<;>exact⟨_,_,rfl,rfl,rfl,fun h=>by cases h⟩
    ·have hj2:=hj
     rw[hlt]at hj2
     rw[td.b_eq,ab,ae,decide_eq_true hj,ah j _ hj (by omega),Bu _ _ (hsz j hj) hpo.toObjSz,aL]
     simp only[cond_true,Option.bind_some]
     cases decide ((rd (τ:=bX) (ps.take i) (j:Int)).1.1=p.1.1)<;>cases pU (rd (τ:=bX) (ps.take i) (j:Int)).1 p.1<;>rfl
   ·rw[decide_eq_false hdep]
    exact⟨_,_,rfl,rfl,rfl,fun h=>by cases h⟩
theorem tQ (im:gL) (him:Ct im=true) (ps:List wi) (hW:wj ps) (saved:Bool):
  ∃rI rS,td im ps saved=some rI∧Ah im ps saved=some rS∧rI.2=rS.2∧
   (rI.2=true→(ps.length≤6∧∀j:Nat,j<ps.length→m9 (rd (τ:=bX) ps (j:Int)).1=true)∧∃t' P' F' a' b',rI.1=(t',P',ax F' BL,a',b')∧rS.1=(t',a',b',P',ax F' BL)∧wd ps.length t' P' F' a' b'):=by
 obtain⟨i1,i2,i3⟩:=nH im
 have hI:=i3 him
 obtain⟨n1,n2⟩:=HQ im hI.sz
 rw[GS,KS,i1,him,n2]
 simp only[Option.bind_some,av,Bool.not_true,cond_false]
 rcases Nat.lt_or_ge 6 ps.length with h|h
 ·rw[decide_eq_true (show(ps.length:Int)>6 by omega)]
  exact⟨_,_,rfl,rfl,rfl,fun h=>by cases h⟩
 ·rw[decide_eq_false (show¬(ps.length:Int)>6 by omega),n1]
  simp only[Option.bind_some,cond_false]
  exact Ff ps h hW saved ZI ([],(0,0,0),(0,0,0),[],[]) ps.length 0 (mX im) (wc im) (F0 im) _ _ (by omega) (HU hI) fun j hj=>by omega
theorem Fg {m:PX} (h:yZ m=true):m.1.length≤64∧m.2.2.1.length≤64:=by
 unfold yZ at h
 rw[Bool.and_eq_true,Bool.and_eq_true]at h
 have h1:=h.1
 have h2:=h.2.1
 unfold qz at h1
 unfold nV at h2
 rw[Bool.and_eq_true,decide_eq_true_eq]at h1 h2
 exact⟨h1.1,h2.1⟩
theorem lV (s:PW) (hW:wj s.2.2):∃rI rS,PR s=some rI∧PJ s=some rS∧rI.2=rS.2∧
  (rI.2=true→(s.2.2.length≤6∧yZ s.2.1=true∧∀j:Nat,j<s.2.2.length→m9 (rd (τ:=bX) s.2.2 (j:Int)).1=true)∧∃t' P' F' a' b',rI.1=(t',P',ax F' BL,a',b')∧rS.1=(t',a',b',P',ax F' BL)∧wd s.2.2.length t' P' F' a' b'):=by
 obtain⟨i1,i2,i3⟩:=nH s.1
 obtain⟨m1,m2⟩:=wL s.2.1
 rw[Np,KV,i2,m1,m2]
 simp only[Option.bind_some,av]
 cases him:Ct s.1 with
 |false=>
  rw[GS,i1,him]
  simp only[Option.bind_some,av,Bool.not_false,cond_true]
  exact⟨_,_,rfl,rfl,rfl,fun h=>by cases h⟩
 |true=>
  obtain⟨rI,rS,e1,e2,e3,e4⟩:=tQ s.1 him s.2.2 hW true
  rw[e1]
  simp only[Option.bind_some,Bool.not_true,cond_false]
  cases hm:yZ s.2.1 with
  |false=>
   cases h:rI.2 with
   |false=>exact⟨_,_,rfl,rfl,rfl,fun h=>by cases h⟩
   |true=>exact⟨_,_,rfl,rfl,rfl,fun h=>by cases h⟩
  |true=>
   obtain⟨l1,l2⟩:=Fg hm
   simp only[Bool.not_true,cond_false]
   rw[e2]
   simp only[Option.bind_some]
   rw[←e3]
   cases h:rI.2 with
   |false=>exact⟨_,_,rfl,rfl,rfl,fun h=>by cases h⟩
   |true=>
    obtain⟨f0,t',P',F',a',b',f1,f2,f3⟩:=e4 h
    rw[f1,f2]
    simp only[Bool.not_true,cond_false,cond_true]
    rw[(zQ _ _ (by omega)).1,(zQ _ _ (by omega)).2]
    simp only[Option.bind_some]
    cases Q2 s.2.1.2.2.1 t' with
    |false=>exact⟨_,_,rfl,rfl,rfl,fun h=>by cases h⟩
    |true=>
     simp only[Bool.not_true,cond_false,cond_true]
     rw[(wh _ _ (by omega)).1,(wh _ _ (by omega)).2]
     simp only[Option.bind_some]
     cases Fc s.2.1.1 (ax F' BL)with
     |false=>exact⟨_,_,rfl,rfl,rfl,fun h=>by cases h⟩
     |true=>exact⟨_,_,rfl,rfl,rfl,fun _=>⟨⟨f0.1,trivial,f0.2⟩,t',P',F',a',b',rfl,rfl,f3⟩⟩
theorem wk (s:PW) (hW:wj s.2.2):∃rI rS,PR s=some rI∧PJ s=some rS∧rI.2=rS.2∧
  (rI.2=true→∃t' P' F' a' b',rI.1=(t',P',ax F' BL,a',b')∧rS.1=(t',a',b',P',ax F' BL)∧wd s.2.2.length t' P' F' a' b'):=by
 obtain⟨rI,rS,e1,e2,e3,e4⟩:=lV s hW
 exact⟨rI,rS,e1,e2,e3,fun h=>(e4 h).2⟩
def wU:(τ:Ty)→τ.den→Prop
 | .list e,l=>List.length l≤1048576∧∀x∈l,wU e x
 | .pair a b,x=>wU a x.1∧wU b x.2
 |_,_=>True
def SP (B:Prop) (left:Int) (v:Option Int):Prop:=∃r,v=some r∧r≤left∧(0≤r→B)
def nB (left:Int):Prop:=0≤left∧left≤1048576
theorem SP.fin {B:Prop} {left:Int} (h:B):SP B left (some left):=⟨left,rfl,Int.le_refl _,fun _=>h⟩
theorem SP.str {B:Prop} {left:Int} (n:Nat) (hn:n≤9223372036854775807) (hl:nB left) (K:Int→Option Int) (hK:∀l',nB l'→l'≤left→n≤1048576→SP B l' (K l')):SP B left (bif decide (IntKind.wrap .i64 (left-(n:Int))<0)then some (-1)else K (IntKind.wrap .i64 (left-(n:Int)))):=by
 obtain⟨h1,h2⟩:=hl
 rw[aH (n:=left-(n:Int)) (by omega) (by omega)]
 by_cases h:left-(n:Int)<0
 ·rw[decide_eq_true h];exact⟨-1,rfl,by omega,fun h=>absurd h (by decide)⟩
 ·rw[decide_eq_false h,cond_false]
  obtain⟨r,e1,e2,e3⟩:=hK (left-(n:Int)) ⟨by omega,by omega⟩ (by omega) (by omega)
  exact⟨r,e1,by omega,e3⟩
theorem SP.call {B B1:Prop} {left:Int} {v:Option Int} (hf:SP B1 left v) (hl:nB left) (K:Int→Option Int) (hK:B1→∀r,nB r→SP B r (K r)):SP B left (v.bind fun r=>bif decide (r<0)then some (-1)else K r):=by
 obtain⟨r,e1,e2,e3⟩:=hf
 rw[e1,Option.bind_some]
 have:=hl.2
 by_cases h:r<0
 ·rw[decide_eq_true h];exact⟨-1,rfl,by have:=hl.1;omega,fun h=>absurd h (by decide)⟩
 ·rw[decide_eq_false h,cond_false]
  obtain⟨r',e4,e5,e6⟩:=hK (e3 (by omega)) r ⟨by omega,by omega⟩
  exact⟨r',e4,by omega,e6⟩
def lW (τ:Ty) (f:τ.den→Int→Option Int):Prop:=∀x,pC τ x→∀left,nB left→SP (wU τ x) left (f x left)
theorem HY {τ:Ty} (l:List τ.den) (g:τ.den→Int→Option Int) (hg:lW τ g) (hw:∀x∈l,pC τ x) (L:Int→Int→Option Int)
  (hstep:∀left (i:Nat),i<l.length→L left (i:Int)=(g (rd (τ:=τ) l (i:Int)) left).bind fun r1=>bif decide (r1<0)then some (-1)else L r1 ((i+1:Nat):Int)) (hend:∀left,L left (l.length:Int)=some left):
  ∀(k i:Nat),i+k=l.length→∀left,nB left→SP (∀j:Nat,i≤j→j<l.length→wU τ (rd (τ:=τ) l (j:Int))) left (L left (i:Int)):=by
 intro k
 induction k with
 |zero=>
  intro i h left hl
  have:i=l.length:=by omega
  subst this
  rw[hend]
  exact SP.fin fun j h1 h2=>by omega
 |succ k ih=>
  intro i h left hl
  rw[hstep left i (by omega)]
  refine SP.call (hg _ (hw _ (an l i (by omega))) left hl) hl _ fun b r hr=> ?_
  obtain⟨r',e1,e2,e3⟩:=ih (i+1) (by omega) r hr
  exact⟨r',e1,e2,fun h0 j h1 h2=>by
   by_cases e:j=i
   ·rw[e];exact b
   ·exact e3 h0 j (by omega) h2⟩
theorem fw {τ:Ty} (l:List τ.den) (hw:pC (.list τ) l) (g:τ.den→Int→Option Int) (hg:lW τ g) (L:Int→Int→Option Int)
  (hstep:l.length≤1048576→∀left (i:Nat),i<l.length→L left (i:Int)=(g (rd (τ:=τ) l (i:Int)) left).bind fun r1=>bif decide (r1<0)then some (-1)else L r1 ((i+1:Nat):Int)) (hend:∀left,L left (l.length:Int)=some left) (left:Int) (hl:nB left):
  SP (wU (.list τ) l) left (bif decide (IntKind.wrap .i64 (left-(l.length:Int))<0)then some (-1)else L (IntKind.wrap .i64 (left-(l.length:Int))) 0):=by
 have hw':List.length l≤9223372036854775807∧∀x∈l,pC τ x:=hw
 refine SP.str l.length hw'.1 hl (fun r=>L r 0) fun l' h1 h2 h3=> ?_
 obtain⟨r,e1,e2,e3⟩:=HY l g hg hw'.2 L (hstep h3) hend l.length 0 (by omega) l' h1
 refine⟨r,e1,e2,fun h0=> ?_⟩
 show List.length l≤1048576∧∀x∈l,wU τ x
 refine⟨h3,fun x hx=> ?_⟩
 obtain⟨i,hi,hr⟩:=mU hx
 rw[←hr];exact e3 h0 i (Nat.zero_le _) hi
theorem ou {τ:Ty} (l:List τ.den) (hw:pC (.list τ) l) (hb:∀x,wU τ x) (left:Int) (hl:nB left):
  SP (wU (.list τ) l) left (bif decide (IntKind.wrap .i64 (left-(l.length:Int))<0)then some (-1)else some (IntKind.wrap .i64 (left-(l.length:Int)))):=by
 have hw':List.length l≤9223372036854775807∧∀x∈l,pC τ x:=hw
 exact SP.str l.length hw'.1 hl some fun l' h1 h2 h3=>SP.fin ⟨h3,fun x _=>hb x⟩
def kG (τ:Ty) (f:τ.den→Option τ.den):Prop:=∀x,pC τ x→wU τ x→f x=some x
theorem wl {τ:Ty} (l:List τ.den) (L:List τ.den→Int→Option (List τ.den))
  (hstep:∀acc (i:Nat),i<l.length→acc.length=l.length→L acc (i:Int)=L (acc.set i (rd (τ:=τ) l (i:Int))) ((i+1:Nat):Int)) (hend:∀acc,L acc (l.length:Int)=some acc):
  ∀(k i:Nat) (u:List τ.den),i+k=l.length→u.length=k→L (l.take i++u) (i:Int)=some l:=by
 intro k
 induction k with
 |zero=>
  intro i u h hu
  have:i=l.length:=by omega
  subst this
  rw[hend,List.take_length,List.eq_nil_of_length_eq_zero hu,List.append_nil]
 |succ k ih=>
  intro i u h hu
  have hi:i<l.length:=by omega
  rw[hstep _ i hi (by rw[List.length_append,List.length_take];omega)]
  cases u with
  |nil=>simp at hu
  |cons y u=>
   have e:(l.take i++y::u).set i (rd (τ:=τ) l (i:Int))=l.take (i+1)++u:=by
    rw[List.set_append_right _ _ (by rw[List.length_take];omega),List.length_take,show i-min i l.length=0 by omega,List.set_cons_zero,List.take_succ_eq_append_getElem hi,List.append_assoc,aM l i hi];rfl
   rw[e]
   exact ih (i+1) u (by omega) (by simpa using hu)
theorem dm {τ:Ty} (l:List τ.den) (b:Nat) (hbt:b≤4096) (hb:l.length≤1048576) (z:τ.den) (L:List τ.den→Int→Option (List τ.den))
  (hstep:∀acc (i:Nat),i<l.length→acc.length=l.length→L acc (i:Int)=L (acc.set i (rd (τ:=τ) l (i:Int))) ((i+1:Nat):Int)) (hend:∀acc,L acc (l.length:Int)=some acc):
  (bif decide (0≤(l.length:Int))&&ar (Int.toNat (l.length:Int)) b then L (List.replicate (Int.toNat (l.length:Int)) z) 0 else none)=some l:=by
 have hm:l.length*b≤1048576*4096:=Nat.mul_le_mul hb hbt
 rw[Int.toNat_natCast,show(decide (0≤(l.length:Int))&&ar l.length b)=true by simp[ar];omega,cond_true]
 have:=wl l L hstep hend l.length 0 (List.replicate l.length z) (by omega) (by simp)
 simpa using this
def kH (τ:Ty) (f:τ.den→τ.den→Option Bool):Prop:=∀x,pC τ x→wU τ x→f x x=some true
theorem cH (L:Int→Option Bool) (n:Nat) (hstep:∀i:Nat,i<n→L (i:Int)=L ((i+1:Nat):Int)) (hend:L (n:Int)=some true):L 0=some true:=by
 have:∀k i:Nat,i+k=n→L (i:Int)=some true:=by
  intro k
  induction k with
  |zero=>
    intro i h;have:i=n:=by omega
    rw[this];exact hend
  |succ k ih=>intro i h;rw[hstep i (by omega)];exact ih (i+1) (by omega)
 exact this n 0 (by omega)
abbrev Fh:Ty:= .pair .str (.pair .str (.list bO))
abbrev Fk:Ty:= .pair (.list aO) (.pair (.list eJ) (.pair (.list aS) (.list oB)))
abbrev TSys:Ty:= .pair Fh (.pair Fk (.list bX))
theorem Bv:lW bO Z6:=by
 intro x hw left hl
 show SP _ left (Z6 x left)
 rw[Pb]
 refine SP.str (ByteArray.size x.1) hw.1 hl (fun r=>some r) fun l0 h0 _ _=> ?_
 exact SP.fin ⟨trivial,⟨trivial,⟨trivial,⟨trivial,trivial⟩⟩⟩⟩
theorem yk:lW (.list bO) Z7:=by
 intro x hw left hl
 show SP _ left (Z7 x left)
 rw[Pd]
 exact fw x hw Z6 Bv (Z7.a x) (fun hb left i hi=>by
  rw[Z7.a_eq,ab,ae,decide_eq_true hi,ah i _ hi (by omega)];rfl) (fun left=>by
  rw[Z7.a_eq,ab,decide_eq_false (Nat.lt_irrefl _),cond_false]) left hl
theorem Fm:lW aS Zf:=by
 intro x hw left hl
 show SP _ left (Zf x left)
 rw[Pm]
 refine SP.str (ByteArray.size x.1) hw.1 hl (fun r=>some r) fun l0 h0 _ _=> ?_
 exact SP.fin ⟨trivial,⟨trivial,⟨trivial,⟨trivial,⟨trivial,trivial⟩⟩⟩⟩⟩
theorem Bw:lW (.list aS) Zg:=by
 intro x hw left hl
 show SP _ left (Zg x left)
 rw[Pn]
 exact fw x hw Zf Fm (Zg.a x) (fun hb left i hi=>by
  rw[Zg.a_eq,ab,ae,decide_eq_true hi,ah i _ hi (by omega)];rfl) (fun left=>by
  rw[Zg.a_eq,ab,decide_eq_false (Nat.lt_irrefl _),cond_false]) left hl
theorem HZ:lW aO Z9:=by
 intro x hw left hl
 show SP _ left (Z9 x left)
 rw[Pf]
 refine SP.str (ByteArray.size x.2.2) hw.2.2 hl (fun r=>some r) fun l0 h0 _ _=> ?_
 exact SP.fin ⟨trivial,⟨trivial,trivial⟩⟩
theorem Fo:lW (.list aO) Za:=by
 intro x hw left hl
 show SP _ left (Za x left)
 rw[Pg]
 exact fw x hw Z9 HZ (Za.a x) (fun hb left i hi=>by
  rw[Za.a_eq,ab,ae,decide_eq_true hi,ah i _ hi (by omega)];rfl) (fun left=>by
  rw[Za.a_eq,ab,decide_eq_false (Nat.lt_irrefl _),cond_false]) left hl
theorem tR:lW aA Zj:=by
 intro x hw left hl
 show SP _ left (Zj x left)
 rw[Pq]
 refine SP.str (ByteArray.size x.1) hw.1 hl (fun r=>bif decide ((IntKind.wrap .i64 (r-(ByteArray.size x.2.2.2:Int)))<0)then some (-1)else(some (IntKind.wrap .i64 (r-(ByteArray.size x.2.2.2:Int))))) fun l0 h0 _ _=> ?_
 refine SP.str (ByteArray.size x.2.2.2) hw.2.2.2 h0 (fun r=>some r) fun l1 h1 _ _=> ?_
 exact SP.fin ⟨trivial,⟨trivial,⟨trivial,trivial⟩⟩⟩
theorem rm:lW (.list aA) Zk:=by
 intro x hw left hl
 show SP _ left (Zk x left)
 rw[Pr]
 exact fw x hw Zj tR (Zk.a x) (fun hb left i hi=>by
  rw[Zk.a_eq,ab,ae,decide_eq_true hi,ah i _ hi (by omega)];rfl) (fun left=>by
  rw[Zk.a_eq,ab,decide_eq_false (Nat.lt_irrefl _),cond_false]) left hl
theorem tS:lW aX Zl:=by
 intro x hw left hl
 show SP _ left (Zl x left)
 rw[Pt]
 refine SP.str (ByteArray.size x.1) hw.1 hl (fun r=>bif decide ((IntKind.wrap .i64 (r-(ByteArray.size x.2:Int)))<0)then some (-1)else(some (IntKind.wrap .i64 (r-(ByteArray.size x.2:Int))))) fun l0 h0 _ _=> ?_
 refine SP.str (ByteArray.size x.2) hw.2 h0 (fun r=>some r) fun l1 h1 _ _=> ?_
 exact SP.fin ⟨trivial,trivial⟩
theorem rn:lW (.list aX) Zm:=by
 intro x hw left hl
 show SP _ left (Zm x left)
 rw[Pu]
 exact fw x hw Zl tS (Zm.a x) (fun hb left i hi=>by
  rw[Zm.a_eq,ab,ae,decide_eq_true hi,ah i _ hi (by omega)];rfl) (fun left=>by
  rw[Zm.a_eq,ab,decide_eq_false (Nat.lt_irrefl _),cond_false]) left hl
theorem Fp:lW bT Zn:=by
 intro x hw left hl
 show SP _ left (Zn x left)
 rw[Pv]
 refine SP.str (ByteArray.size x.2.2.2.1) hw.2.2.2.1 hl (fun r=>some r) fun l0 h0 _ _=> ?_
 exact SP.fin ⟨trivial,⟨trivial,⟨trivial,⟨trivial,trivial⟩⟩⟩⟩
theorem By:lW (.list bT) Zo:=by
 intro x hw left hl
 show SP _ left (Zo x left)
 rw[Pw]
 exact fw x hw Zn Fp (Zo.a x) (fun hb left i hi=>by
  rw[Zo.a_eq,ab,ae,decide_eq_true hi,ah i _ hi (by omega)];rfl) (fun left=>by
  rw[Zo.a_eq,ab,decide_eq_false (Nat.lt_irrefl _),cond_false]) left hl
theorem tT:lW (.list (.int .i64)) Zc:=by
 intro x hw left hl
 show SP _ left (Zc x left)
 rw[Pi]
 exact ou x hw (fun _=>trivial) left hl
theorem Fq:lW (.list fR) Zt:=by
 intro x hw left hl
 show SP _ left (Zt x left)
 rw[PB]
 exact ou x hw (fun _=>⟨trivial,trivial⟩) left hl
theorem pV:lW (.list dq) Zp:=by
 intro x hw left hl
 show SP _ left (Zp x left)
 rw[Px]
 exact ou x hw (fun _=>⟨trivial,trivial⟩) left hl
theorem yl:lW (.list oB) Zh:=by
 intro x hw left hl
 show SP _ left (Zh x left)
 rw[Po]
 exact ou x hw (fun _=>⟨trivial,⟨trivial,trivial⟩⟩) left hl
theorem pW:lW (.list .str) Zr:=by
 intro x hw left hl
 show SP _ left (Zr x left)
 rw[Pz]
 exact fw x hw (fun s left=>bif decide (IntKind.wrap .i64 (left-(ByteArray.size s:Int))<0)then some (-1)else some (IntKind.wrap .i64 (left-(ByteArray.size s:Int)))) (fun s hs left hl=>SP.str (ByteArray.size s) hs hl some fun l' _ _ _=>SP.fin trivial) (Zr.a x) (fun hb left i hi=>by
  rw[Zr.a_eq,ab,ae,decide_eq_true hi,ah i _ hi (by omega)]
  simp only[cond_true]
  cases hc:decide (IntKind.wrap .i64 (left-(ByteArray.size (rd (τ:= .str) x (i:Int)):Int))<0)with
  |true=>rfl
  |false=>rw[cond_false,cond_false,Option.bind_some,hc];rfl) (fun left=>by
  rw[Zr.a_eq,ab,decide_eq_false (Nat.lt_irrefl _),cond_false]) left hl
theorem Bz:lW eJ Zd:=by
 intro x hw left hl
 show SP _ left (Zd x left)
 rw[Pj]
 refine SP.call (tT x.2.2.1 hw.2.2.1 left hl) hl _ fun b0 l0 h0=> ?_
 exact SP.fin ⟨trivial,⟨⟨trivial,trivial⟩,⟨b0,trivial⟩⟩⟩
theorem ym:lW (.list eJ) Ze:=by
 intro x hw left hl
 show SP _ left (Ze x left)
 rw[Pk]
 exact fw x hw Zd Bz (Ze.a x) (fun hb left i hi=>by
  rw[Ze.a_eq,ab,ae,decide_eq_true hi,ah i _ hi (by omega)];rfl) (fun left=>by
  rw[Ze.a_eq,ab,decide_eq_false (Nat.lt_irrefl _),cond_false]) left hl
theorem Fr:lW Fh Z8:=by
 intro x hw left hl
 show SP _ left (Z8 x left)
 rw[Pe]
 refine SP.str (ByteArray.size x.1) hw.1 hl (fun r=>bif decide ((IntKind.wrap .i64 (r-(ByteArray.size x.2.1:Int)))<0)then some (-1)else((Z7 x.2.2 (IntKind.wrap .i64 (r-(ByteArray.size x.2.1:Int)))).bind fun q1=>bif decide (q1<0)then some (-1)else(some q1))) fun l0 h0 _ _=> ?_
 refine SP.str (ByteArray.size x.2.1) hw.2.1 h0 (fun r=>(Z7 x.2.2 r).bind fun q2=>bif decide (q2<0)then some (-1)else(some q2)) fun l1 h1 _ _=> ?_
 refine SP.call (yk x.2.2 hw.2.2 l1 h1) h1 _ fun b2 l2 h2=> ?_
 exact SP.fin ⟨trivial,⟨trivial,b2⟩⟩
theorem BA:lW (.list aO) Zb:=by
 intro x hw left hl
 show SP _ left (Zb x left)
 rw[Ph]
 exact SP.call (Fo x hw left hl) hl _ fun b l h=>SP.fin b
theorem yn:lW Fk Zi:=by
 intro x hw left hl
 show SP _ left (Zi x left)
 rw[Pp]
 refine SP.call (BA x.1 hw.1 left hl) hl _ fun b0 l0 h0=> ?_
 refine SP.call (ym x.2.1 hw.2.1 l0 h0) h0 _ fun b1 l1 h1=> ?_
 refine SP.call (Bw x.2.2.1 hw.2.2.1 l1 h1) h1 _ fun b2 l2 h2=> ?_
 refine SP.call (yl x.2.2.2 hw.2.2.2 l2 h2) h2 _ fun b3 l3 h3=> ?_
 exact SP.fin ⟨b0,⟨b1,⟨b2,b3⟩⟩⟩
theorem BC:lW HW Zs:=by
 intro x hw left hl
 show SP _ left (Zs x left)
 rw[PA]
 refine SP.call (tT x.1 hw.1 left hl) hl _ fun b0 l0 h0=> ?_
 refine SP.call (pW x.2.1 hw.2.1 l0 h0) h0 _ fun b1 l1 h1=> ?_
 refine SP.call (tT x.2.2.1 hw.2.2.1 l1 h1) h1 _ fun b2 l2 h2=> ?_
 refine SP.call (pW x.2.2.2 hw.2.2.2 l2 h2) h2 _ fun b3 l3 h3=> ?_
 exact SP.fin ⟨b0,⟨b1,⟨b2,b3⟩⟩⟩
theorem BD:lW HV Zq:=by
 intro x hw left hl
 show SP _ left (Zq x left)
 rw[Py]
 refine SP.str (ByteArray.size x.1) hw.1 hl (fun r=>(Zk x.2.2.1 r).bind fun q3=>bif decide (q3<0)then some (-1)else((Zm x.2.2.2.1 q3).bind fun q4=>bif decide (q4<0)then some (-1)else((Zo x.2.2.2.2.1 q4).bind fun q5=>bif decide (q5<0)then some (-1)else((Zp x.2.2.2.2.2 q5).bind fun q6=>bif decide (q6<0)then some (-1)else(some q6))))) fun l0 h0 _ _=> ?_
 refine SP.call (rm x.2.2.1 hw.2.2.1 l0 h0) h0 _ fun b1 l1 h1=> ?_
 refine SP.call (rn x.2.2.2.1 hw.2.2.2.1 l1 h1) h1 _ fun b2 l2 h2=> ?_
 refine SP.call (By x.2.2.2.2.1 hw.2.2.2.2.1 l2 h2) h2 _ fun b3 l3 h3=> ?_
 refine SP.call (pV x.2.2.2.2.2 hw.2.2.2.2.2 l3 h3) h3 _ fun b4 l4 h4=> ?_
 exact SP.fin ⟨trivial,⟨trivial,⟨b1,⟨b2,⟨b3,b4⟩⟩⟩⟩⟩
theorem Ft:lW bX Zu:=by
 intro x hw left hl
 show SP _ left (Zu x left)
 rw[PC]
 refine SP.call (BD x.1 hw.1 left hl) hl _ fun b0 l0 h0=> ?_
 refine SP.call (BC x.2.1 hw.2.1 l0 h0) h0 _ fun b1 l1 h1=> ?_
 refine SP.call (Fq x.2.2 hw.2.2 l1 h1) h1 _ fun b2 l2 h2=> ?_
 exact SP.fin ⟨b0,⟨b1,b2⟩⟩
theorem BE:lW (.list bX) Zv:=by
 intro x hw left hl
 show SP _ left (Zv x left)
 rw[PD]
 exact fw x hw Zu Ft (Zv.a x) (fun hb left i hi=>by
  rw[Zv.a_eq,ab,ae,decide_eq_true hi,ah i _ hi (by omega)];rfl) (fun left=>by
  rw[Zv.a_eq,ab,decide_eq_false (Nat.lt_irrefl _),cond_false]) left hl
theorem sx:lW TSys Zw:=by
 intro x hw left hl
 show SP _ left (Zw x left)
 rw[PE]
 refine SP.call (Fr x.1 hw.1 left hl) hl _ fun b0 l0 h0=> ?_
 refine SP.call (yn x.2.1 hw.2.1 l0 h0) h0 _ fun b1 l1 h1=> ?_
 refine SP.call (BE x.2.2 hw.2.2 l1 h1) h1 _ fun b2 l2 h2=> ?_
 exact SP.fin ⟨b0,⟨b1,b2⟩⟩
theorem BF:kG bO P4:=by
 intro x _ _
 show P4 x=_
 rw[KZ]
theorem yp:kG (.list bO) Dj:=by
 intro x hw hb
 show Dj x=_
 rw[K0]
 exact dm (τ:=bO) x 48 (by omega) hb.1 _ (Dj.a x) (fun acc i hi ha=>by
  rw[Dj.a_eq,ab,ae,decide_eq_true hi,ah i _ hi (by have:=hb.1;omega),BF _ (hw.2 _ (an (τ:=bO) x i hi)) (hb.2 _ (an (τ:=bO) x i hi))]
  simp only[cond_true,Option.bind_some]
  rw[ae,show decide (i<acc.length)=true from decide_eq_true (by rw[ha];exact hi),Int.toNat_natCast];rfl) (fun acc=>by
  rw[Dj.a_eq,ab,decide_eq_false (Nat.lt_irrefl _),cond_false])
theorem Fu:kG aS Qa:=by
 intro x _ _
 show Qa x=_
 rw[Lc]
theorem BG:kG (.list aS) Dm:=by
 intro x hw hb
 show Dm x=_
 rw[Ld]
 exact dm (τ:=aS) x 56 (by omega) hb.1 _ (Dm.a x) (fun acc i hi ha=>by
  rw[Dm.a_eq,ab,ae,decide_eq_true hi,ah i _ hi (by have:=hb.1;omega),Fu _ (hw.2 _ (an (τ:=aS) x i hi)) (hb.2 _ (an (τ:=aS) x i hi))]
  simp only[cond_true,Option.bind_some]
  rw[ae,show decide (i<acc.length)=true from decide_eq_true (by rw[ha];exact hi),Int.toNat_natCast];rfl) (fun acc=>by
  rw[Dm.a_eq,ab,decide_eq_false (Nat.lt_irrefl _),cond_false])
theorem H0:kG aO P6:=by
 intro x _ _
 show P6 x=_
 rw[K4]
theorem Fv:kG (.list aO) Dk:=by
 intro x hw hb
 show Dk x=_
 rw[K5]
 exact dm (τ:=aO) x 32 (by omega) hb.1 _ (Dk.a x) (fun acc i hi ha=>by
  rw[Dk.a_eq,ab,ae,decide_eq_true hi,ah i _ hi (by have:=hb.1;omega),H0 _ (hw.2 _ (an (τ:=aO) x i hi)) (hb.2 _ (an (τ:=aO) x i hi))]
  simp only[cond_true,Option.bind_some]
  rw[ae,show decide (i<acc.length)=true from decide_eq_true (by rw[ha];exact hi),Int.toNat_natCast];rfl) (fun acc=>by
  rw[Dk.a_eq,ab,decide_eq_false (Nat.lt_irrefl _),cond_false])
theorem BH:kG oB Qb:=by
 intro x _ _
 show Qb x=_
 rw[Lf]
theorem yq:kG (.list oB) Dn:=by
 intro x hw hb
 show Dn x=_
 rw[Lg]
 exact dm (τ:=oB) x 24 (by omega) hb.1 _ (Dn.a x) (fun acc i hi ha=>by
  rw[Dn.a_eq,ab,ae,decide_eq_true hi,ah i _ hi (by have:=hb.1;omega),BH _ (hw.2 _ (an (τ:=oB) x i hi)) (hb.2 _ (an (τ:=oB) x i hi))]
  simp only[cond_true,Option.bind_some]
  rw[ae,show decide (i<acc.length)=true from decide_eq_true (by rw[ha];exact hi),Int.toNat_natCast];rfl) (fun acc=>by
  rw[Dn.a_eq,ab,decide_eq_false (Nat.lt_irrefl _),cond_false])
theorem tU:kG aA Qd:=by
 intro x _ _
 show Qd x=_
 rw[Li]
theorem rp:kG (.list aA) Do:=by
 intro x hw hb
 show Do x=_
 rw[Lj]
 exact dm (τ:=aA) x 48 (by omega) hb.1 _ (Do.a x) (fun acc i hi ha=>by
  rw[Do.a_eq,ab,ae,decide_eq_true hi,ah i _ hi (by have:=hb.1;omega),tU _ (hw.2 _ (an (τ:=aA) x i hi)) (hb.2 _ (an (τ:=aA) x i hi))]
  simp only[cond_true,Option.bind_some]
  rw[ae,show decide (i<acc.length)=true from decide_eq_true (by rw[ha];exact hi),Int.toNat_natCast];rfl) (fun acc=>by
  rw[Do.a_eq,ab,decide_eq_false (Nat.lt_irrefl _),cond_false])
theorem tV:kG aX Qe:=by
 intro x _ _
 show Qe x=_
 rw[Lk]
theorem rq:kG (.list aX) Dp:=by
 intro x hw hb
 show Dp x=_
 rw[Ll]
 exact dm (τ:=aX) x 32 (by omega) hb.1 _ (Dp.a x) (fun acc i hi ha=>by
  rw[Dp.a_eq,ab,ae,decide_eq_true hi,ah i _ hi (by have:=hb.1;omega),tV _ (hw.2 _ (an (τ:=aX) x i hi)) (hb.2 _ (an (τ:=aX) x i hi))]
  simp only[cond_true,Option.bind_some]
  rw[ae,show decide (i<acc.length)=true from decide_eq_true (by rw[ha];exact hi),Int.toNat_natCast];rfl) (fun acc=>by
  rw[Dp.a_eq,ab,decide_eq_false (Nat.lt_irrefl _),cond_false])
theorem Fw:kG bT Qf:=by
 intro x _ _
 show Qf x=_
 rw[Lm]
theorem BI:kG (.list bT) Dq:=by
 intro x hw hb
 show Dq x=_
 rw[Ln]
 exact dm (τ:=bT) x 48 (by omega) hb.1 _ (Dq.a x) (fun acc i hi ha=>by
  rw[Dq.a_eq,ab,ae,decide_eq_true hi,ah i _ hi (by have:=hb.1;omega),Fw _ (hw.2 _ (an (τ:=bT) x i hi)) (hb.2 _ (an (τ:=bT) x i hi))]
  simp only[cond_true,Option.bind_some]
  rw[ae,show decide (i<acc.length)=true from decide_eq_true (by rw[ha];exact hi),Int.toNat_natCast];rfl) (fun acc=>by
  rw[Dq.a_eq,ab,decide_eq_false (Nat.lt_irrefl _),cond_false])
theorem rt:kG dq Qg:=by
 intro x _ _
 show Qg x=_
 rw[Lo]
theorem pX:kG (.list dq) Dr:=by
 intro x hw hb
 show Dr x=_
 rw[Lq]
 exact dm (τ:=dq) x 16 (by omega) hb.1 _ (Dr.a x) (fun acc i hi ha=>by
  rw[Dr.a_eq,ab,ae,decide_eq_true hi,ah i _ hi (by have:=hb.1;omega),rt _ (hw.2 _ (an (τ:=dq) x i hi)) (hb.2 _ (an (τ:=dq) x i hi))]
  simp only[cond_true,Option.bind_some]
  rw[ae,show decide (i<acc.length)=true from decide_eq_true (by rw[ha];exact hi),Int.toNat_natCast];rfl) (fun acc=>by
  rw[Dr.a_eq,ab,decide_eq_false (Nat.lt_irrefl _),cond_false])
theorem H1:kG fR Qj:=by
 intro x _ _
 show Qj x=_
 rw[Lu]
theorem Fx:kG (.list fR) Ds:=by
 intro x hw hb
 show Ds x=_
 rw[Lv]
 exact dm (τ:=fR) x 16 (by omega) hb.1 _ (Ds.a x) (fun acc i hi ha=>by
  rw[Ds.a_eq,ab,ae,decide_eq_true hi,ah i _ hi (by have:=hb.1;omega),H1 _ (hw.2 _ (an (τ:=fR) x i hi)) (hb.2 _ (an (τ:=fR) x i hi))]
  simp only[cond_true,Option.bind_some]
  rw[ae,show decide (i<acc.length)=true from decide_eq_true (by rw[ha];exact hi),Int.toNat_natCast];rfl) (fun acc=>by
  rw[Ds.a_eq,ab,decide_eq_false (Nat.lt_irrefl _),cond_false])
theorem tW:kG (.list (.int .i64)) Aj:=by
 intro x hw hb
 show Aj x=_
 rw[K9]
 exact dm (τ:=(.int .i64)) x 8 (by omega) hb.1 _ (Aj.a x) (fun acc i hi ha=>by
  rw[Aj.a_eq,ab,ae,decide_eq_true hi,ah i _ hi (by have:=hb.1;omega)]
  rw[ae,show decide (i<acc.length)=true from decide_eq_true (by rw[ha];exact hi),Int.toNat_natCast];rfl) (fun acc=>by
  rw[Aj.a_eq,ab,decide_eq_false (Nat.lt_irrefl _),cond_false])
theorem pY:kG (.list .str) CR:=by
 intro x hw hb
 show CR x=_
 rw[Ls]
 exact dm (τ:= .str) x 16 (by omega) hb.1 _ (CR.a x) (fun acc i hi ha=>by
  rw[CR.a_eq,ab,ae,decide_eq_true hi,ah i _ hi (by have:=hb.1;omega)]
  rw[ae,show decide (i<acc.length)=true from decide_eq_true (by rw[ha];exact hi),Int.toNat_natCast];rfl) (fun acc=>by
  rw[CR.a_eq,ab,decide_eq_false (Nat.lt_irrefl _),cond_false])
theorem BJ:kG (.arr (.int .i64) 32) Ai:=by
 intro x hw hb
 show Ai x=_
 have hl:List.length x=32:=hw.1
 rw[K7]
 have h:=wl (τ:= .int .i64) x (fun acc i=>Ai.a x [0,0,0,0,0,0,0,0,0,0,0,0,0,0,0,0,0,0,0,0,0,0,0,0,0,0,0,0,0,0,0,0] acc i) (fun acc i hi ha=>by
  show Ai.a x _ acc (i:Int)=_
  rw[Ai.a_eq,decide_eq_true (show(i:Int)<32 by omega),ae,decide_eq_true (show i<32 by omega),ah i 32 (by omega) (by omega),Int.toNat_natCast];rfl) (fun acc=>by
  show Ai.a x _ acc (List.length x:Int)=_
  rw[Ai.a_eq,hl];rfl) 32 0 (List.replicate 32 (0:Int)) (by rw[hl]) (by simp)
 exact h
theorem H3:kG Gq P8:=by
 intro x hw hb
 show P8 x=_
 rw[K8,BJ x.1 hw.1 hb.1]
 rfl
theorem BK:kG eJ P9:=by
 intro x hw hb
 show P9 x=_
 rw[La,H3 x.2.1 hw.2.1 hb.2.1,tW x.2.2.1 hw.2.2.1 hb.2.2.1]
 rfl
theorem yr:kG (.list eJ) Dl:=by
 intro x hw hb
 show Dl x=_
 rw[Lb]
 exact dm (τ:=eJ) x 304 (by omega) hb.1 _ (Dl.a x) (fun acc i hi ha=>by
  rw[Dl.a_eq,ab,ae,decide_eq_true hi,ah i _ hi (by have:=hb.1;omega),BK _ (hw.2 _ (an (τ:=eJ) x i hi)) (hb.2 _ (an (τ:=eJ) x i hi))]
  simp only[cond_true,Option.bind_some]
  rw[ae,show decide (i<acc.length)=true from decide_eq_true (by rw[ha];exact hi),Int.toNat_natCast];rfl) (fun acc=>by
  rw[Dl.a_eq,ab,decide_eq_false (Nat.lt_irrefl _),cond_false])
theorem Fy:kG Fh P5:=by
 intro x hw hb
 show P5 x=_
 rw[K3,yp x.2.2 hw.2.2 hb.2.2]
 rfl
theorem BM:kG (.list aO) P7:=by
 intro x hw hb
 show P7 x=_
 rw[K6,Fv x hw hb]
 rfl
theorem yu:kG Fk Qc:=by
 intro x hw hb
 show Qc x=_
 rw[Lh,BM x.1 hw.1 hb.1,yr x.2.1 hw.2.1 hb.2.1,BG x.2.2.1 hw.2.2.1 hb.2.2.1,yq x.2.2.2 hw.2.2.2 hb.2.2.2]
 rfl
theorem BN:kG HW Qi:=by
 intro x hw hb
 show Qi x=_
 rw[Lt,tW x.1 hw.1 hb.1,pY x.2.1 hw.2.1 hb.2.1,tW x.2.2.1 hw.2.2.1 hb.2.2.1,pY x.2.2.2 hw.2.2.2 hb.2.2.2]
 rfl
theorem BO:kG HV Qh:=by
 intro x hw hb
 show Qh x=_
 rw[Lr,rp x.2.2.1 hw.2.2.1 hb.2.2.1,rq x.2.2.2.1 hw.2.2.2.1 hb.2.2.2.1,BI x.2.2.2.2.1 hw.2.2.2.2.1 hb.2.2.2.2.1,pX x.2.2.2.2.2 hw.2.2.2.2.2 hb.2.2.2.2.2]
 rfl
theorem Fz:kG bX Qk:=by
 intro x hw hb
 show Qk x=_
 rw[Lw,BO x.1 hw.1 hb.1,BN x.2.1 hw.2.1 hb.2.1,Fx x.2.2 hw.2.2 hb.2.2]
 rfl
theorem BP:kG (.list bX) Dt:=by
 intro x hw hb
 show Dt x=_
 rw[Lx]
 exact dm (τ:=bX) x 240 (by omega) hb.1 _ (Dt.a x) (fun acc i hi ha=>by
  rw[Dt.a_eq,ab,ae,decide_eq_true hi,ah i _ hi (by have:=hb.1;omega),Fz _ (hw.2 _ (an (τ:=bX) x i hi)) (hb.2 _ (an (τ:=bX) x i hi))]
  simp only[cond_true,Option.bind_some]
  rw[ae,show decide (i<acc.length)=true from decide_eq_true (by rw[ha];exact hi),Int.toNat_natCast];rfl) (fun acc=>by
  rw[Dt.a_eq,ab,decide_eq_false (Nat.lt_irrefl _),cond_false])
theorem sy:kG TSys GI:=by
 intro x hw hb
 show GI x=_
 rw[Ly,Fy x.1 hw.1 hb.1,yu x.2.1 hw.2.1 hb.2.1,BP x.2.2 hw.2.2 hb.2.2]
 rfl
theorem BQ:kH bO QE:=by
 intro x _ _
 show QE x x=_
 rw[Nw]
 simp[aL]
theorem yw:kH (.list bO) DD:=by
 intro x hw hb
 show DD x x=_
 have h1:List.length x≤1048576:=hb.1
 rw[Nx,decide_eq_true (rfl:(List.length x:Int)=(List.length x:Int)),Bool.not_true,cond_false]
 refine cH (DD.a x x) (List.length x) (fun i hi=> ?_) ?_
 ·rw[DD.a_eq,ab,ae,decide_eq_true hi,ah i _ hi (by omega),BQ _ (hw.2 _ (an (τ:=bO) x i hi)) (hb.2 _ (an (τ:=bO) x i hi))];rfl
 ·rw[DD.a_eq,ab,decide_eq_false (Nat.lt_irrefl _),cond_false]
theorem FA:kH aS QK:=by
 intro x _ _
 show QK x x=_
 rw[NH]
 simp[aL]
theorem BR:kH (.list aS) DH:=by
 intro x hw hb
 show DH x x=_
 have h1:List.length x≤1048576:=hb.1
 rw[NI,decide_eq_true (rfl:(List.length x:Int)=(List.length x:Int)),Bool.not_true,cond_false]
 refine cH (DH.a x x) (List.length x) (fun i hi=> ?_) ?_
 ·rw[DH.a_eq,ab,ae,decide_eq_true hi,ah i _ hi (by omega),FA _ (hw.2 _ (an (τ:=aS) x i hi)) (hb.2 _ (an (τ:=aS) x i hi))];rfl
 ·rw[DH.a_eq,ab,decide_eq_false (Nat.lt_irrefl _),cond_false]
theorem H4:kH aO QG:=by
 intro x _ _
 show QG x x=_
 rw[Nz]
 simp[aL]
theorem FB:kH (.list aO) DE:=by
 intro x hw hb
 show DE x x=_
 have h1:List.length x≤1048576:=hb.1
 rw[NA,decide_eq_true (rfl:(List.length x:Int)=(List.length x:Int)),Bool.not_true,cond_false]
 refine cH (DE.a x x) (List.length x) (fun i hi=> ?_) ?_
 ·rw[DE.a_eq,ab,ae,decide_eq_true hi,ah i _ hi (by omega),H4 _ (hw.2 _ (an (τ:=aO) x i hi)) (hb.2 _ (an (τ:=aO) x i hi))];rfl
 ·rw[DE.a_eq,ab,decide_eq_false (Nat.lt_irrefl _),cond_false]
theorem BS:kH oB QL:=by
 intro x _ _
 show QL x x=_
 rw[NJ]
 simp[]
theorem yx:kH (.list oB) DI:=by
 intro x hw hb
 show DI x x=_
 have h1:List.length x≤1048576:=hb.1
 rw[NK,decide_eq_true (rfl:(List.length x:Int)=(List.length x:Int)),Bool.not_true,cond_false]
 refine cH (DI.a x x) (List.length x) (fun i hi=> ?_) ?_
 ·rw[DI.a_eq,ab,ae,decide_eq_true hi,ah i _ hi (by omega),BS _ (hw.2 _ (an (τ:=oB) x i hi)) (hb.2 _ (an (τ:=oB) x i hi))];rfl
 ·rw[DI.a_eq,ab,decide_eq_false (Nat.lt_irrefl _),cond_false]
theorem tX:kH aA QN:=by
 intro x _ _
 show QN x x=_
 rw[NM]
 simp[aL]
theorem ru:kH (.list aA) DJ:=by
 intro x hw hb
 show DJ x x=_
 have h1:List.length x≤1048576:=hb.1
 rw[NN,decide_eq_true (rfl:(List.length x:Int)=(List.length x:Int)),Bool.not_true,cond_false]
 refine cH (DJ.a x x) (List.length x) (fun i hi=> ?_) ?_
 ·rw[DJ.a_eq,ab,ae,decide_eq_true hi,ah i _ hi (by omega),tX _ (hw.2 _ (an (τ:=aA) x i hi)) (hb.2 _ (an (τ:=aA) x i hi))];rfl
 ·rw[DJ.a_eq,ab,decide_eq_false (Nat.lt_irrefl _),cond_false]
theorem tY:kH aX QO:=by
 intro x _ _
 show QO x x=_
 rw[NO]
 simp[aL]
theorem rv:kH (.list aX) DK:=by
 intro x hw hb
 show DK x x=_
 have h1:List.length x≤1048576:=hb.1
 rw[NP,decide_eq_true (rfl:(List.length x:Int)=(List.length x:Int)),Bool.not_true,cond_false]
 refine cH (DK.a x x) (List.length x) (fun i hi=> ?_) ?_
 ·rw[DK.a_eq,ab,ae,decide_eq_true hi,ah i _ hi (by omega),tY _ (hw.2 _ (an (τ:=aX) x i hi)) (hb.2 _ (an (τ:=aX) x i hi))];rfl
 ·rw[DK.a_eq,ab,decide_eq_false (Nat.lt_irrefl _),cond_false]
theorem FC:kH bT QP:=by
 intro x _ _
 show QP x x=_
 rw[NQ]
 simp[aL]
theorem BT:kH (.list bT) DL:=by
 intro x hw hb
 show DL x x=_
 have h1:List.length x≤1048576:=hb.1
 rw[NR,decide_eq_true (rfl:(List.length x:Int)=(List.length x:Int)),Bool.not_true,cond_false]
 refine cH (DL.a x x) (List.length x) (fun i hi=> ?_) ?_
 ·rw[DL.a_eq,ab,ae,decide_eq_true hi,ah i _ hi (by omega),FC _ (hw.2 _ (an (τ:=bT) x i hi)) (hb.2 _ (an (τ:=bT) x i hi))];rfl
 ·rw[DL.a_eq,ab,decide_eq_false (Nat.lt_irrefl _),cond_false]
theorem rx:kH dq QQ:=by
 intro x _ _
 show QQ x x=_
 rw[NS]
 simp[]
theorem pZ:kH (.list dq) DM:=by
 intro x hw hb
 show DM x x=_
 have h1:List.length x≤1048576:=hb.1
 rw[NT,decide_eq_true (rfl:(List.length x:Int)=(List.length x:Int)),Bool.not_true,cond_false]
 refine cH (DM.a x x) (List.length x) (fun i hi=> ?_) ?_
 ·rw[DM.a_eq,ab,ae,decide_eq_true hi,ah i _ hi (by omega),rx _ (hw.2 _ (an (τ:=dq) x i hi)) (hb.2 _ (an (τ:=dq) x i hi))];rfl
 ·rw[DM.a_eq,ab,decide_eq_false (Nat.lt_irrefl _),cond_false]
theorem H5:kH fR QT:=by
 intro x _ _
 show QT x x=_
 rw[NW]
 simp[]
theorem FD:kH (.list fR) DN:=by
 intro x hw hb
 show DN x x=_
 have h1:List.length x≤1048576:=hb.1
 rw[NX,decide_eq_true (rfl:(List.length x:Int)=(List.length x:Int)),Bool.not_true,cond_false]
 refine cH (DN.a x x) (List.length x) (fun i hi=> ?_) ?_
 ·rw[DN.a_eq,ab,ae,decide_eq_true hi,ah i _ hi (by omega),H5 _ (hw.2 _ (an (τ:=fR) x i hi)) (hb.2 _ (an (τ:=fR) x i hi))];rfl
 ·rw[DN.a_eq,ab,decide_eq_false (Nat.lt_irrefl _),cond_false]
theorem tZ:kH (.list (.int .i64)) Ao:=by
 intro x hw hb
 show Ao x x=_
 have h1:List.length x≤1048576:=hb.1
 rw[NE,decide_eq_true (rfl:(List.length x:Int)=(List.length x:Int)),Bool.not_true,cond_false]
 refine cH (Ao.a x x) (List.length x) (fun i hi=> ?_) ?_
 ·rw[Ao.a_eq,ab,ae,decide_eq_true hi,ah i _ hi (by omega),decide_eq_true (rfl:rd (τ:= .int .i64) x (i:Int)=rd (τ:= .int .i64) x (i:Int))];rfl
 ·rw[Ao.a_eq,ab,decide_eq_false (Nat.lt_irrefl _),cond_false]
theorem p7:kH (.list .str) qI:=by
 intro x hw hb
 show qI x x=_
 have h1:List.length x≤1048576:=hb.1
 rw[GY,decide_eq_true (rfl:(List.length x:Int)=(List.length x:Int)),Bool.not_true,cond_false]
 refine cH (qI.a x x) (List.length x) (fun i hi=> ?_) ?_
 ·rw[qI.a_eq,ab,ae,decide_eq_true hi,ah i _ hi (by omega),aL,decide_eq_true (rfl:rd (τ:= .str) x (i:Int)=rd (τ:= .str) x (i:Int))];rfl
 ·rw[qI.a_eq,ab,decide_eq_false (Nat.lt_irrefl _),cond_false]
theorem BU:kH (.arr (.int .i64) 32) DF:=by
 intro x hw hb
 show DF x x=_
 rw[NC]
 refine cH (DF.a x x) 32 (fun i hi=> ?_) ?_
 ·rw[DF.a_eq,decide_eq_true (show(i:Int)<32 by omega),ae,decide_eq_true hi,ah i 32 hi (by omega),decide_eq_true (rfl:rd (τ:= .int .i64) x (i:Int)=rd (τ:= .int .i64) x (i:Int))];rfl
 ·rw[DF.a_eq];rfl
theorem H6:kH Gq QI:=by
 intro x hw hb
 show QI x x=_
 rw[ND,BU x.1 hw.1 hb.1]
 simp[]
theorem BV:kH eJ QJ:=by
 intro x hw hb
 show QJ x x=_
 rw[NF,H6 x.2.1 hw.2.1 hb.2.1,tZ x.2.2.1 hw.2.2.1 hb.2.2.1]
 simp[]
theorem yy:kH (.list eJ) DG:=by
 intro x hw hb
 show DG x x=_
 have h1:List.length x≤1048576:=hb.1
 rw[NG,decide_eq_true (rfl:(List.length x:Int)=(List.length x:Int)),Bool.not_true,cond_false]
 refine cH (DG.a x x) (List.length x) (fun i hi=> ?_) ?_
 ·rw[DG.a_eq,ab,ae,decide_eq_true hi,ah i _ hi (by omega),BV _ (hw.2 _ (an (τ:=eJ) x i hi)) (hb.2 _ (an (τ:=eJ) x i hi))];rfl
 ·rw[DG.a_eq,ab,decide_eq_false (Nat.lt_irrefl _),cond_false]
theorem FE:kH Fh QF:=by
 intro x hw hb
 show QF x x=_
 rw[Ny,yw x.2.2 hw.2.2 hb.2.2]
 simp[aL]
theorem BW:kH (.list aO) QH:=by
 intro x hw hb
 show QH x x=_
 rw[NB,FB x hw hb]
 rfl
theorem yz:kH Fk QM:=by
 intro x hw hb
 show QM x x=_
 rw[NL,BW x.1 hw.1 hb.1,yy x.2.1 hw.2.1 hb.2.1,BR x.2.2.1 hw.2.2.1 hb.2.2.1,yx x.2.2.2 hw.2.2.2 hb.2.2.2]
 simp[]
theorem BZ:kH HW QS:=by
 intro x hw hb
 show QS x x=_
 rw[NV,tZ x.1 hw.1 hb.1,p7 x.2.1 hw.2.1 hb.2.1,tZ x.2.2.1 hw.2.2.1 hb.2.2.1,p7 x.2.2.2 hw.2.2.2 hb.2.2.2]
 simp[]
theorem B3:kH HV QR:=by
 intro x hw hb
 show QR x x=_
 rw[NU,ru x.2.2.1 hw.2.2.1 hb.2.2.1,rv x.2.2.2.1 hw.2.2.2.1 hb.2.2.2.1,BT x.2.2.2.2.1 hw.2.2.2.2.1 hb.2.2.2.2.1,pZ x.2.2.2.2.2 hw.2.2.2.2.2 hb.2.2.2.2.2]
 simp[aL]
theorem FF:kH bX QU:=by
 intro x hw hb
 show QU x x=_
 rw[NY,B3 x.1 hw.1 hb.1,BZ x.2.1 hw.2.1 hb.2.1,FD x.2.2 hw.2.2 hb.2.2]
 simp[]
theorem B4:kH (.list bX) DO:=by
 intro x hw hb
 show DO x x=_
 have h1:List.length x≤1048576:=hb.1
 rw[NZ,decide_eq_true (rfl:(List.length x:Int)=(List.length x:Int)),Bool.not_true,cond_false]
 refine cH (DO.a x x) (List.length x) (fun i hi=> ?_) ?_
 ·rw[DO.a_eq,ab,ae,decide_eq_true hi,ah i _ hi (by omega),FF _ (hw.2 _ (an (τ:=bX) x i hi)) (hb.2 _ (an (τ:=bX) x i hi))];rfl
 ·rw[DO.a_eq,ab,decide_eq_false (Nat.lt_irrefl _),cond_false]
theorem sA:kH TSys PS:=by
 intro x hw hb
 show PS x x=_
 rw[N0,FE x.1 hw.1 hb.1,yz x.2.1 hw.2.1 hb.2.1,B4 x.2.2 hw.2.2 hb.2.2]
 simp[]
theorem wm {ps:List wi} (h:pC (.list bX) ps):wj ps:=by
 intro j hj k hk
 have hp:=h.2 _ (an (τ:=bX) ps j hj)
 generalize rd (τ:=bX) ps (j:Int)=p at*
 have hr:=hp.1.2.2.2.2.1.2 _ (an (τ:=bT) p.1.2.2.2.2.1 k hk)
 exact hr.1
theorem m2 (a:Int):0≤a%2∧a%2<2:=by omega
theorem OU {n:Int} (h:(31≤n∧n≤40)∨(50≤n∧n≤62)):(cW n).1=8:=by
 obtain⟨k,rfl⟩:=qg (n:=n) (by omega) (by omega)
 revert k
 decide
theorem wn {n d a b i:Int} (f:Int) (hf:(cW n).1=f) (hn:1≤n∧n≤64) (hd:0≤d∧d≤31) (ha:0≤a∧a≤31) (hb:0≤b∧b≤31) (g1:(aU f).1=true∨d=0) (g2:(aU f).2.1=true∨a=0) (g3:(aU f).2.2=true∨b=0) (hi:l9 f i=true):eH (n,d,a,b,i)=true:=by
 simp only[eH,Bool.and_eq_true,Bool.or_eq_true,decide_eq_true_eq,hf]
 exact⟨⟨⟨⟨⟨⟨⟨⟨⟨⟨⟨hn.1,hn.2⟩,hd.1⟩,hd.2⟩,ha.1⟩,ha.2⟩,hb.1⟩,hb.2⟩,g1⟩,g2⟩,g3⟩,hi⟩
theorem Q3 {i:Int} (h: -2147483648≤i∧i≤2147479552∧i%4096=0):l9 1 i=true:=by simp[l9];omega
theorem r1 {a i:Int} (ha:0≤a∧a≤31) (h: -2147483648≤i∧i≤2147479552∧i%4096=0):eH (1,a,0,0,i)=true:=wn 1 rfl (by decide) ha (by decide) (by decide) (.inl rfl) (.inr rfl) (.inr rfl) (Q3 h)
theorem r8 {n a b c:Int} (h:(31≤n∧n≤40)∨(50≤n∧n≤62)) (ha:0≤a∧a≤31) (hb:0≤b∧b≤31) (hc:0≤c∧c≤31):eH (n,a,b,c,0)=true:=wn 8 (OU h) (by omega) ha hb hc (.inl rfl) (.inl rfl) (.inl rfl) rfl
theorem gW {a b:ByteArray} (h:a.size+b.size≤4194304):decide (a.size+b.size≤9223372036854775807)=true:=decide_eq_true (by omega)
def MK {α:Type} (m:Int) (C:Nat) (v:Option (Int×α)):Prop:=∃r,v=some r∧m≤r.1∧r.1≤m+C
def uv {α:Type} (τ:Ty) (f:τ.den→Int→Option (Int×α)) (C:Nat):Prop:=∀x,wU τ x→∀m:Int,1≤m→m+C≤4611686018427387904→MK m C (f x m)
theorem MK.bind {α β:Type} {m:Int} {C D E:Nat} {v:Option (Int×α)} (h:MK m C v) (k:Int×α→Option (Int×β)) (hk:∀r,m≤r.1→r.1≤m+C→MK r.1 D (k r)) (hE:C+D≤E):MK m E (v.bind k):=by
 obtain⟨r,e,h1,h2⟩:=h
 obtain⟨q,e',h3,h4⟩:=hk r h1 h2
 rw[e,Option.bind_some]
 exact⟨q,e',by omega,by omega⟩
theorem t6 {τ:Ty} (xs:List τ.den) (i j:Nat) (v:τ.den) (h:i≠j):rd (τ:=τ) (xs.set i v) (j:Int)=rd (τ:=τ) xs (j:Int):=by
 unfold rd;rw[Int.toNat_natCast,List.getD_eq_getElem?_getD,List.getElem?_set_ne h,←List.getD_eq_getElem?_getD]
theorem H7 {τ:Ty} (L:List τ.den→Int→Int→Option (Int×List τ.den)) (c n:Nat) (hn:n≤1048576)
  (step:∀(y:List τ.den) (m:Int) (i:Nat),y.length=n→i<y.length→wU τ (rd (τ:=τ) y (i:Int))→1≤m→m+c≤4611686018427387904→∃z m',L y m (i:Int)=L (y.set i z) m' ((i+1:Nat):Int)∧m≤m'∧m'≤m+c)
  (last:∀(y:List τ.den) (m:Int),y.length=n→L y m (n:Int)=some (m,y)):
  ∀(k i:Nat) (y:List τ.den),i+k=n→y.length=n→(∀j:Nat,i≤j→j<n→wU τ (rd (τ:=τ) y (j:Int)))→∀m:Int,1≤m→m+(c*k:Nat)≤4611686018427387904→MK m (c*k) (L y m (i:Int)):=by
 intro k
 induction k with
 |zero=>
  intro i y h hy hb m h1 h2
  have:i=n:=by omega
  subst this
  rw[last y m hy]
  exact⟨_,rfl,Int.le_refl _,by simp⟩
 |succ k ih=>
  intro i y h hy hb m h1 h2
  rw[Nat.mul_succ]at h2⊢
  obtain⟨z,m',e,a,b⟩:=step y m i hy (by omega) (hb i (Nat.le_refl _) (by omega)) h1 (by omega)
  rw[e]
  obtain⟨r,e',a',b'⟩:=ih (i+1) (y.set i z) (by omega) (by rw[List.length_set];exact hy) (fun j h1 h2=>by rw[t6 _ _ _ _ (by omega)];exact hb j (by omega) h2) m' (by omega) (by omega)
  exact⟨r,e',by omega,by omega⟩
theorem dp {τ:Ty} (f:List τ.den→Int→Option (Int×List τ.den)) (L:List τ.den→Int→Int→Option (Int×List τ.den)) (c:Nat) (hf:∀x m,f x m=L x m 0)
  (step:∀(y:List τ.den) (m:Int) (i:Nat),y.length≤1048576→i<y.length→wU τ (rd (τ:=τ) y (i:Int))→1≤m→m+c≤4611686018427387904→∃z m',L y m (i:Int)=L (y.set i z) m' ((i+1:Nat):Int)∧m≤m'∧m'≤m+c)
  (last:∀(y:List τ.den) (m:Int),L y m (y.length:Int)=some (m,y)):uv (.list τ) f (c*1048576):=by
 intro x hb m h1 h2
 have hx:List.length x≤1048576:=hb.1
 have hc:=Nat.mul_le_mul_left c hx
 obtain⟨r,e,a,b⟩:=H7 L c x.length hx (fun y m i h=>step y m i (by omega)) (fun y m h=>by rw[←h];exact last y m) x.length 0 x (by omega) rfl (fun j _ h=>hb.2 _ (an (τ:=τ) x j h)) m h1 (by omega)
 exact⟨r,by rw[hf];exact e,a,by omega⟩
theorem yA:uv (.list bO) DP (5*1048576):=by
 refine dp (τ:=bO) DP DP.a 5 (fun x m=>by rw[N2]) (fun y m i hy hi _ h1 h2=> ?_) fun y m=> ?_
 ·rw[DP.a_eq,ab,decide_eq_true hi,ae]
  simp only[cond_true,letB,List.length_set,ae,decide_eq_true hi,Int.toNat_natCast]
  rw[aH (n:=m+1) (by omega) (by omega),aH (n:=m+1+1) (by omega) (by omega),aH (n:=m+1+1+1) (by omega) (by omega),aH (n:=m+1+1+1+1) (by omega) (by omega),aH (n:=m+1+1+1+1+1) (by omega) (by omega),ah i _ hi (by omega)]
  simp only[cj (m) (by omega) (by omega),Option.bind_some,List.set_set]
  exact⟨_,_,rfl,by omega,by omega⟩
 ·rw[DP.a_eq,ab,decide_eq_false (Nat.lt_irrefl _),cond_false]
theorem B5:uv (.list aS) DR (6*1048576):=by
 refine dp (τ:=aS) DR DR.a 6 (fun x m=>by rw[N8]) (fun y m i hy hi _ h1 h2=> ?_) fun y m=> ?_
 ·rw[DR.a_eq,ab,decide_eq_true hi,ae]
  simp only[cond_true,letB,List.length_set,ae,decide_eq_true hi,Int.toNat_natCast]
  rw[aH (n:=m+1) (by omega) (by omega),aH (n:=m+1+1) (by omega) (by omega),aH (n:=m+1+1+1) (by omega) (by omega),aH (n:=m+1+1+1+1) (by omega) (by omega),aH (n:=m+1+1+1+1+1) (by omega) (by omega),aH (n:=m+1+1+1+1+1+1) (by omega) (by omega),ah i _ hi (by omega)]
  simp only[cj (m) (by omega) (by omega),Option.bind_some,List.set_set]
  exact⟨_,_,rfl,by omega,by omega⟩
 ·rw[DR.a_eq,ab,decide_eq_false (Nat.lt_irrefl _),cond_false]
theorem FG:uv (.list aO) DQ (3*1048576):=by
 refine dp (τ:=aO) DQ DQ.a 3 (fun x m=>by rw[N4]) (fun y m i hy hi _ h1 h2=> ?_) fun y m=> ?_
 ·rw[DQ.a_eq,ab,decide_eq_true hi,ae]
  simp only[cond_true,letB,List.length_set,ae,decide_eq_true hi,Int.toNat_natCast]
  rw[aH (n:=m+1) (by omega) (by omega),aH (n:=m+1+1) (by omega) (by omega),aH (n:=m+1+1+1) (by omega) (by omega),ah i _ hi (by omega)]
  simp only[cj (m+1+1) (by omega) (by omega),Option.bind_some,List.set_set]
  exact⟨_,_,rfl,by omega,by omega⟩
 ·rw[DQ.a_eq,ab,decide_eq_false (Nat.lt_irrefl _),cond_false]
theorem yB:uv (.list oB) DS (3*1048576):=by
 refine dp (τ:=oB) DS DS.a 3 (fun x m=>by rw[N9]) (fun y m i hy hi _ h1 h2=> ?_) fun y m=> ?_
 ·rw[DS.a_eq,ab,decide_eq_true hi,ae]
  simp only[cond_true,letB,List.length_set,ae,decide_eq_true hi,Int.toNat_natCast]
  rw[aH (n:=m+1) (by omega) (by omega),aH (n:=m+1+1) (by omega) (by omega),aH (n:=m+1+1+1) (by omega) (by omega),ah i _ hi (by omega)]
  simp only[List.set_set]
  exact⟨_,_,rfl,by omega,by omega⟩
 ·rw[DS.a_eq,ab,decide_eq_false (Nat.lt_irrefl _),cond_false]
theorem ry:uv (.list aA) DT (4*1048576):=by
 refine dp (τ:=aA) DT DT.a 4 (fun x m=>by rw[Ob]) (fun y m i hy hi _ h1 h2=> ?_) fun y m=> ?_
 ·rw[DT.a_eq,ab,decide_eq_true hi,ae]
  simp only[cond_true,letB,List.length_set,ae,decide_eq_true hi,Int.toNat_natCast]
  rw[aH (n:=m+1) (by omega) (by omega),aH (n:=m+1+1) (by omega) (by omega),aH (n:=m+1+1+1) (by omega) (by omega),aH (n:=m+1+1+1+1) (by omega) (by omega),ah i _ hi (by omega)]
  simp only[cj (m) (by omega) (by omega),cj (m+1+1+1) (by omega) (by omega),Option.bind_some,List.set_set]
  exact⟨_,_,rfl,by omega,by omega⟩
 ·rw[DT.a_eq,ab,decide_eq_false (Nat.lt_irrefl _),cond_false]
theorem rz:uv (.list aX) DU (2*1048576):=by
 refine dp (τ:=aX) DU DU.a 2 (fun x m=>by rw[Oc]) (fun y m i hy hi _ h1 h2=> ?_) fun y m=> ?_
 ·rw[DU.a_eq,ab,decide_eq_true hi,ae]
  simp only[cond_true,letB,List.length_set,ae,decide_eq_true hi,Int.toNat_natCast]
  rw[aH (n:=m+1) (by omega) (by omega),aH (n:=m+1+1) (by omega) (by omega),ah i _ hi (by omega)]
  simp only[cj (m) (by omega) (by omega),cj (m+1) (by omega) (by omega),Option.bind_some,List.set_set]
  exact⟨_,_,rfl,by omega,by omega⟩
 ·rw[DU.a_eq,ab,decide_eq_false (Nat.lt_irrefl _),cond_false]
theorem B6:uv (.list bT) DV (5*1048576):=by
 refine dp (τ:=bT) DV DV.a 5 (fun x m=>by rw[Od]) (fun y m i hy hi _ h1 h2=> ?_) fun y m=> ?_
 ·rw[DV.a_eq,ab,decide_eq_true hi,ae]
  simp only[cond_true,letB,List.length_set,ae,decide_eq_true hi,Int.toNat_natCast]
  rw[aH (n:=m+1) (by omega) (by omega),aH (n:=m+1+1) (by omega) (by omega),aH (n:=m+1+1+1) (by omega) (by omega),aH (n:=m+1+1+1+1) (by omega) (by omega),aH (n:=m+1+1+1+1+1) (by omega) (by omega),ah i _ hi (by omega)]
  simp only[cj (m+1+1+1) (by omega) (by omega),Option.bind_some,List.set_set]
  exact⟨_,_,rfl,by omega,by omega⟩
 ·rw[DV.a_eq,ab,decide_eq_false (Nat.lt_irrefl _),cond_false]
theorem p8:uv (.list dq) DW (2*1048576):=by
 refine dp (τ:=dq) DW DW.a 2 (fun x m=>by rw[Oe]) (fun y m i hy hi _ h1 h2=> ?_) fun y m=> ?_
 ·rw[DW.a_eq,ab,decide_eq_true hi,ae]
  simp only[cond_true,letB,List.length_set,ae,decide_eq_true hi,Int.toNat_natCast]
  rw[aH (n:=m+1) (by omega) (by omega),aH (n:=m+1+1) (by omega) (by omega),ah i _ hi (by omega)]
  simp only[List.set_set]
  exact⟨_,_,rfl,by omega,by omega⟩
 ·rw[DW.a_eq,ab,decide_eq_false (Nat.lt_irrefl _),cond_false]
theorem FH:uv (.list fR) DX (2*1048576):=by
 refine dp (τ:=fR) DX DX.a 2 (fun x m=>by rw[Of]) (fun y m i hy hi _ h1 h2=> ?_) fun y m=> ?_
 ·rw[DX.a_eq,ab,decide_eq_true hi,ae]
  simp only[cond_true,letB,List.length_set,ae,decide_eq_true hi,Int.toNat_natCast]
  rw[aH (n:=m+1) (by omega) (by omega),aH (n:=m+1+1) (by omega) (by omega),ah i _ hi (by omega)]
  simp only[List.set_set]
  exact⟨_,_,rfl,by omega,by omega⟩
 ·rw[DX.a_eq,ab,decide_eq_false (Nat.lt_irrefl _),cond_false]
theorem t7:uv (.list (.int .i64)) Ap (1*1048576):=by
 refine dp (τ:=(.int .i64)) Ap Ap.a 1 (fun x m=>by rw[N6]) (fun y m i hy hi _ h1 h2=> ?_) fun y m=> ?_
 ·rw[Ap.a_eq,ab,decide_eq_true hi,ae]
  simp only[cond_true,decide_eq_true hi,Int.toNat_natCast]
  rw[aH (n:=m+1) (by omega) (by omega),ah i _ hi (by omega)]
  skip
  exact⟨_,_,rfl,by omega,by omega⟩
 ·rw[Ap.a_eq,ab,decide_eq_false (Nat.lt_irrefl _),cond_false]
theorem p9:uv (.list .str) uu (1*1048576):=by
 refine dp (τ:= .str) uu uu.a 1 (fun x m=>by rw[GZ]) (fun y m i hy hi _ h1 h2=> ?_) fun y m=> ?_
 ·rw[uu.a_eq,ab,decide_eq_true hi,ae]
  simp only[cond_true,decide_eq_true hi,Int.toNat_natCast]
  rw[aH (n:=m+1) (by omega) (by omega),ah i _ hi (by omega)]
  simp only[cj (m) (by omega) (by omega),Option.bind_some]
  exact⟨_,_,rfl,by omega,by omega⟩
 ·rw[uu.a_eq,ab,decide_eq_false (Nat.lt_irrefl _),cond_false]
theorem H8 (y0:List Jw) (i:Nat) (hn:y0.length≤1048576) (hi:i<y0.length):∀(k j:Nat),j+k=32→∀(y:List Jw) (m:Int),y.length=y0.length→(∃z,y=y0.set i z)→wU (.list (.int .i64)) (rd (τ:=eJ) y (i:Int)).2.2.1→1≤m→m+(k+2+1048576:Nat)≤4611686018427387904→
  ∃z m',rG.b y m (i:Int) (j:Int)=rG.a (y0.set i z) m' ((i+1:Nat):Int)∧m≤m'∧m'≤m+(k+2+1048576:Nat):=by
 intro k
 induction k with
 |zero=>
  intro j hj y m hy hz hb h1 h2
  obtain⟨z,rfl⟩:=hz
  rw[List.length_set]at hy
  have:j=32:=by omega
  subst this
  rw[cD (τ:=eJ) _ _ _ hi]at hb
  obtain⟨r,e,a,b⟩:=t7 z.2.2.1 hb (m+1) (by omega) (by omega)
  rw[rG.b_eq,show decide (((32:Nat):Int)<32)=false from rfl]
  simp only[cond_false,cond_true,letB,List.length_set,ae,decide_eq_true hi,Int.toNat_natCast,List.set_set,aH (n:=m+1) (by omega) (by omega)]
  rw[cD (τ:=eJ) _ _ _ hi,cD (τ:=eJ) _ _ _ hi,e]
  simp only[Option.bind_some,decide_true,cond_true,aH (n:=r.1+1) (by omega) (by omega),ah i _ hi (by omega)]
  exact⟨_,_,rfl,by omega,by omega⟩
 |succ k ih=>
  intro j hj y m hy hz hb h1 h2
  obtain⟨z,rfl⟩:=hz
  rw[List.length_set]at hy
  rw[cD (τ:=eJ) _ _ _ hi]at hb
  rw[rG.b_eq,decide_eq_true (show(j:Int)<32 by omega),show ao (j:Int) 32=true by rw[ae];exact decide_eq_true (by omega)]
  simp only[cond_true,letB,List.length_set,ae,decide_eq_true hi,Int.toNat_natCast,List.set_set,aH (n:=m+1) (by omega) (by omega),ah j 32 (by omega) (by omega)]
  rw[cD (τ:=eJ) _ _ _ hi]
  obtain⟨z',m',e,a,b⟩:=ih (j+1) (by omega) (y0.set i (z.1,(z.2.1.1.set j m,z.2.1.2),z.2.2)) (m+1) (by rw[List.length_set]) ⟨_,rfl⟩ (by rw[cD (τ:=eJ) _ _ _ hi];exact hb) (by omega) (by omega)
  exact⟨z',m',e,by omega,by omega⟩
theorem yC:uv (.list eJ) rG (1048700*1048576):=by
 refine dp (τ:=eJ) rG rG.a 1048700 (fun x m=>by rw[N7]) (fun y m i hy hi hb h1 h2=> ?_) fun y m=> ?_
 ·rw[rG.a_eq,ab,decide_eq_true hi,ae,decide_eq_true hi,aH (n:=m+1) (by omega) (by omega),Int.toNat_natCast]
  simp only[cond_true]
  obtain⟨z,m',e,a,b⟩:=H8 y i hy hi 32 0 rfl (y.set i (m,(rd (τ:=eJ) y (i:Int)).2)) (m+1) (by rw[List.length_set]) ⟨_,rfl⟩ (by rw[cD (τ:=eJ) _ _ _ hi];exact hb.2.2.1) (by omega) (by omega)
  exact⟨z,m',e,by omega,by omega⟩
 ·rw[rG.a_eq,ab,decide_eq_false (Nat.lt_irrefl _),cond_false]
theorem FI:uv Fh QV (5*1048576):=by
 intro x hb m h1 h2
 show MK m _ (QV x m)
 rw[N3]
 exact(yA x.2.2 hb.2.2 m h1 (by omega)).bind (D:=0) _ (fun r a b=>⟨_,rfl,Int.le_refl _,by simp⟩) (by omega)
theorem B7:uv (.list aO) QW (3*1048576):=by
 intro x hb m h1 h2
 show MK m _ (QW x m)
 rw[N5]
 exact(FG x hb m h1 (by omega)).bind (D:=0) _ (fun r a b=>⟨_,rfl,Int.le_refl _,by simp⟩) (by omega)
theorem yD:uv Fk QX (1048800*1048576):=by
 intro x hb m h1 h2
 show MK m _ (QX x m)
 rw[Oa]
 refine(B7 x.1 hb.1 m h1 (by omega)).bind (D:=1048797*1048576) _ (fun r a b=> ?_) (by omega)
 refine(yC x.2.1 hb.2.1 r.1 (by omega) (by omega)).bind (D:=97*1048576) _ (fun r a b=> ?_) (by omega)
 refine(B5 x.2.2.1 hb.2.2.1 r.1 (by omega) (by omega)).bind (D:=91*1048576) _ (fun r a b=> ?_) (by omega)
 exact(yB x.2.2.2 hb.2.2.2 r.1 (by omega) (by omega)).bind (D:=0) _ (fun r a b=>⟨_,rfl,Int.le_refl _,by simp⟩) (by omega)
theorem B8:uv (.list bX) DY (19922946*1048576):=by
 refine dp (τ:=bX) DY DY.a 19922946 (fun x m=>by rw[Og]) (fun y m i hy hi hb h1 h2=> ?_) fun y m=> ?_
 ·rw[DY.a_eq,ab,decide_eq_true hi,ae,cj m (by omega) (by omega),aH (n:=m+1) (by omega) (by omega),aH (n:=m+1+1) (by omega) (by omega),ah i _ hi (by omega)]
  simp only[cond_true,Option.bind_some,letB,List.length_set,ae,decide_eq_true hi,Int.toNat_natCast,List.set_set,cD (τ:=bX) _ _ _ hi,decide_true]
  obtain⟨r0,e0,a0,b0⟩:=ry (rd (τ:=bX) y (i:Int)).1.2.2.1 hb.1.2.2.1 (m+1+1) (by omega) (by omega)
  rw[e0]
  simp only[Option.bind_some]
  obtain⟨r1,e1,a1,b1⟩:=rz (rd (τ:=bX) y (i:Int)).1.2.2.2.1 hb.1.2.2.2.1 r0.1 (by omega) (by omega)
  rw[e1]
  simp only[Option.bind_some]
  obtain⟨r2,e2,a2,b2⟩:=B6 (rd (τ:=bX) y (i:Int)).1.2.2.2.2.1 hb.1.2.2.2.2.1 r1.1 (by omega) (by omega)
  rw[e2]
  simp only[Option.bind_some]
  obtain⟨r3,e3,a3,b3⟩:=p8 (rd (τ:=bX) y (i:Int)).1.2.2.2.2.2 hb.1.2.2.2.2.2 r2.1 (by omega) (by omega)
  rw[e3]
  simp only[Option.bind_some]
  obtain⟨r4,e4,a4,b4⟩:=t7 (rd (τ:=bX) y (i:Int)).2.1.1 hb.2.1.1 r3.1 (by omega) (by omega)
  rw[e4]
  simp only[Option.bind_some]
  obtain⟨r5,e5,a5,b5⟩:=p9 (rd (τ:=bX) y (i:Int)).2.1.2.1 hb.2.1.2.1 r4.1 (by omega) (by omega)
  rw[e5]
  simp only[Option.bind_some]
  obtain⟨r6,e6,a6,b6⟩:=t7 (rd (τ:=bX) y (i:Int)).2.1.2.2.1 hb.2.1.2.2.1 r5.1 (by omega) (by omega)
  rw[e6]
  simp only[Option.bind_some]
  obtain⟨r7,e7,a7,b7⟩:=p9 (rd (τ:=bX) y (i:Int)).2.1.2.2.2 hb.2.1.2.2.2 r6.1 (by omega) (by omega)
  rw[e7]
  simp only[Option.bind_some]
  obtain⟨r8,e8,a8,b8⟩:=FH (rd (τ:=bX) y (i:Int)).2.2 hb.2.2 r7.1 (by omega) (by omega)
  rw[e8]
  simp only[Option.bind_some]
  exact⟨_,_,rfl,by omega,by omega⟩
 ·rw[DY.a_eq,ab,decide_eq_false (Nat.lt_irrefl _),cond_false]
theorem sB:uv TSys PT (20971751*1048576):=by
 intro x hb m h1 h2
 show MK m _ (PT x m)
 rw[Oh]
 refine(FI x.1 hb.1 m h1 (by omega)).bind (D:=20971746*1048576) _ (fun r a b=> ?_) (by omega)
 refine(yD x.2.1 hb.2.1 r.1 (by omega) (by omega)).bind (D:=19922946*1048576) _ (fun r a b=> ?_) (by omega)
 exact(B8 x.2.2 hb.2.2 r.1 (by omega) (by omega)).bind (D:=0) _ (fun r a b=>⟨_,rfl,Int.le_refl _,by simp⟩) (by omega)
abbrev Q4:Ty:= .pair (.int .i64) (.pair (.int .i64) (.pair (.int .i64) (.pair (.int .i64) (.int .i64))))
theorem t8 (k:Int) (y:E5) (P:List Pc) (hy:y.2.2.2.1=P) (hl:P.length≤9000000):∀(n i:Nat) (x:Int),i+n=P.length→∃v,zk.a k x P (P.length:Int) (i:Int)=some v∧Di.a k y x (i:Int)=some v:=by
 intro n
 induction n with
 |zero=>
  intro i x h
  have:i=P.length:=by omega
  subst this
  rw[zk.a_eq,Di.a_eq,hy,ab,decide_eq_false (Nat.lt_irrefl _)]
  exact⟨_,rfl,rfl⟩
 |succ n ih=>
  intro i x h
  have hi:i<P.length:=by omega
  rw[zk.a_eq,Di.a_eq,hy,ab,ae,decide_eq_true hi,ah i _ hi (by omega)]
  simp only[cond_true]
  cases decide ((rd (τ:=Q4) P (i:Int)).1=k)with
  |true=>exact ih (i+1) _ (by omega)
  |false=>exact ih (i+1) _ (by omega)
theorem kf {n:Int} (h:0≤n):decide (n<0)=false:=decide_eq_false (by omega)
def qa (u:Nat):ByteArray:=⟨(Lib.decDigits u).toArray⟩
theorem ua (u:Nat) (h:u<10):qa u=aC [(48:Int)+u]:=by
 unfold qa aC
 rw[Lib.decDigits,dif_pos h]
 congr 1
theorem sC (u:Nat) (h:¬u<10):qa u=qa (u/10)++aC [(48:Int)+(u%10:Nat)]:=by
 apply ByteArray.ext
 rw[ByteArray.data_append]
 unfold qa aC
 rw[Lib.decDigits,dif_neg h]
 simp only[List.map_cons,List.map_nil,show((48:Int)+(u%10:Nat)).toNat=48+u%10 by omega]
 generalize UInt8.ofNat (48+u%10)=c
 simp
theorem kg:∀(k u:Nat),u<10^k→1≤k→(qa u).size≤k:=by
 intro k
 induction k with
 |zero=>intro u h h1;omega
 |succ k ih=>
  intro u h _
  by_cases hu:u<10
  ·rw[ua u hu,bK];simp
  ·rw[sC u hu,ByteArray.size_append,bK]
   rw[Nat.pow_succ]at h
   by_cases hk:k=0
   ·subst hk;omega
   ·have:=ih (u/10) (by omega) (by omega)
    simp only[List.length_cons,List.length_nil];omega
theorem sD (u:Nat):fP (u:Int)=qa u:=by
 unfold fP qa Lib.itoa
 rw[if_neg (by omega)];rfl
theorem sF (u:Nat) (h:0<u):fP (-(u:Int))=(⟨#[45]⟩:ByteArray)++qa u:=by
 apply ByteArray.ext
 rw[ByteArray.data_append]
 unfold fP qa Lib.itoa
 rw[if_pos (by omega),show(-(u:Int)).natAbs=u by omega,List.toArray_cons]
theorem eE (n:Int) (h:CZ n):(fP n).size≤20:=by
 obtain⟨h1,h2⟩:=h
 by_cases h0:0≤n
 ·obtain⟨u,rfl⟩:=Int.eq_ofNat_of_zero_le h0
  rw[sD]
  exact kg 20 u (by omega) (by decide)
 ·obtain⟨u,hu⟩:=Int.eq_ofNat_of_zero_le (show 0≤ -n by omega)
  have:n= -(u:Int):=by omega
  subst this
  rw[sF u (by omega),ByteArray.size_append]
  have:=kg 19 u (by omega) (by decide)
  show 1+_≤20
  omega
theorem qb:∀(k u:Nat),u<10^k→u≤9223372036854775807→G6 (u:Int)=some (qa u):=by
 intro k
 induction k with
 |zero=>
  intro u h h2
  have:u=0:=by omega
  subst this
  rw[ur,decide_eq_false (by decide),decide_eq_false (by decide),decide_eq_true (by decide)]
  simp only[cond_false,cond_true]
  rw[ua 0 (by decide),aH (by decide) (by decide)];rfl
 |succ k ih=>
  intro u h h2
  rw[ur,decide_eq_false (show¬(u:Int)= -9223372036854775808 by omega),decide_eq_false (show¬(u:Int)<0 by omega)]
  simp only[cond_false]
  by_cases hu:u<10
  ·rw[decide_eq_true (show(u:Int)<10 by omega),cond_true,ua u hu,aH (by omega) (by omega),oA,Int.emod_eq_of_lt (by omega) (by omega)]
  ·rw[Nat.pow_succ]at h
   rw[decide_eq_false (show¬(u:Int)<10 by omega),cond_false,Int.tdiv_eq_ediv_of_nonneg (by omega),Int.tmod_eq_emod_of_nonneg (by omega),show(u:Int)/10=((u/10:Nat):Int) by omega,aH (n:=((u/10:Nat):Int)) (by omega) (by omega),ih (u/10) (by omega) (by omega),show(u:Int)%10=((u%10:Nat):Int) by omega,aH (n:=48+((u%10:Nat):Int)) (by omega) (by omega),oA,Int.emod_eq_of_lt (by omega) (by omega)]
   simp only[Option.bind_some]
   have:=kg 20 (u/10) (by omega) (by decide)
   rw[gW (by rw[bK];simp only[List.length_cons,List.length_nil];omega),cond_true,←sC u hu]
theorem yE:fP (-9223372036854775808)=(⟨#[45,57,50,50,51,51,55,50,48,51,54,56,53,52,55,55,53,56,48,56]⟩:ByteArray):=by
 unfold fP Lib.itoa
 rw[if_pos (by decide),show(-9223372036854775808:Int).natAbs=9223372036854775808 from rfl]
 simp[Lib.decDigits]
theorem da (n:Int) (h:CZ n):QD n=some (fP n)∧G6 n=some (fP n):=by
 obtain⟨h1,h2⟩:=h
 constructor
 ·rw[Ns,Nr,Nq,O7,decide_eq_true h1,decide_eq_true h2];rfl
 ·by_cases h0:0≤n
  ·obtain⟨u,rfl⟩:=Int.eq_ofNat_of_zero_le h0
   rw[sD]
   exact qb 19 u (by omega) (by omega)
  ·obtain⟨u,hu⟩:=Int.eq_ofNat_of_zero_le (show 0≤ -n by omega)
   have:n= -(u:Int):=by omega
   subst this
   by_cases hm:u=9223372036854775808
   ·subst hm
    rw[ur,decide_eq_true (by decide),cond_true,←yE];rfl
   ·rw[ur,decide_eq_false (by omega),decide_eq_true (show-(u:Int)<0 by omega),show(0:Int)- -(u:Int)=(u:Int) by omega,aH (n:=(u:Int)) (by omega) (by omega),qb 19 u (by omega) (by omega),sF u (by omega)]
    simp only[cond_false,cond_true,Option.bind_some]
    have:=kg 19 u (by omega) (by decide)
    rw[gW (by show 1+_≤_;omega)];rfl
theorem cw (w:ByteArray) (n:Int) (hw:w.size≤100) (h:CZ n):OG w n=some ((((⟨#[32]⟩:ByteArray)++w)++(⟨#[32]⟩:ByteArray))++fP n):=by
 have:=eE n h
 have e1:(⟨#[32]⟩:ByteArray).size=1:=rfl
 rw[Nt,(da n h).1]
 simp only[Option.bind_some]
 rw[gW (by omega),gW (by simp only[ByteArray.size_append];omega),gW (by simp only[ByteArray.size_append];omega)];rfl
theorem zT (x:List ByteArray) (h1:x.length≤1048576):qI x x=some true:=by
 rw[GY,decide_eq_true (rfl:(List.length x:Int)=(List.length x:Int)),Bool.not_true,cond_false]
 refine cH (qI.a x x) (List.length x) (fun i hi=> ?_) ?_
 ·rw[qI.a_eq,ab,ae,decide_eq_true hi,ah i _ hi (by omega),qy];rfl
 ·rw[qI.a_eq,ab,decide_eq_false (Nat.lt_irrefl _),cond_false]
theorem sG (l:List ByteArray) (hl:l.length≤1048576):uu l 1=some (1+1*(l.length:Int),gM Oz 1 1 l.length)∧Aq (gM Oz 1 1 l.length) 1=some (1+1*(l.length:Int)):=by
 constructor
 ·rw[GZ]
  refine Gg uu.a Oz 1 l.length 1 9000000 (by decide) (by omega) ?_ ?_ l rfl
  ·intro x m i hx hi hm hM
   have hi':i<x.length:=by omega
   rw[uu.a_eq,ab,ae,decide_eq_true hi',cj m hm (by omega),aH (n:=m+1) (by omega) (by omega),ah i x.length hi' (by omega),Int.toNat_natCast]
   rfl
  ·intro x m hx
   rw[uu.a_eq,ab,decide_eq_false (by omega)];rfl
 ·rw[Oi]
  refine Gi Aq.a Oz 1 l.length 1 9000000 (by decide) (by omega) ?_ ?_
  ·intro x m i hx hi hm hM he
   have hi':i<x.length:=by omega
   rw[Aq.a_eq,ab,ae,decide_eq_true hi',cj m hm (by omega),aH (n:=m+1) (by omega) (by omega),ah i x.length hi' (by omega),Io (τ:= .str) x i _ he]
   simp only[Option.bind_some,qy,cond_true,Bool.not_true,cond_false]
   rfl
  ·intro x m hx
   rw[Aq.a_eq,ab,decide_eq_false (by omega)];rfl
theorem iR {t:ByteArray} (h:bW t=true):t.size≤20:=by
 rcases Nat.lt_or_ge 20 t.size with h1|h1
 ·have e:=(db t).2
  rw[IS,h,decide_eq_false (show¬(t.size:Int)<1 by omega),decide_eq_true (show(t.size:Int)>20 by omega)]at e
  cases e
 ·exact h1
structure OV (e:cU):Prop where
 n:e.1.size≤20
 a:CZ e.2.2.1
 s:CZ e.2.2.2.1
 o:0≤e.2.2.2.2.2∧e.2.2.2.2.2≤6
theorem H9 {e:cU} (h:cR e=true):OV e:=by
 have h0:=vV h
 unfold cR at h
 cases h1:bW e.1 with
 |false=>rw[h1]at h;cases h
 |true=>
  rw[h1,cond_true]at h
  cases h2:bQ e.2.2.1 with
  |false=>rw[h2]at h;cases h
  |true=>
   rw[h2,cond_true]at h
   cases h3:cM e.2.2.2.1 1 1024 with
   |false=>rw[h3]at h;cases h
   |true=>
    rw[h3,cond_true]at h
    cases h4:cM e.2.2.2.2.2 0 6 with
    |false=>rw[h4]at h;cases h
    |true=>
     have g3:=bd.1 h3
     exact⟨iR h1,⟨by omega,by omega⟩,⟨by omega,by omega⟩,bd.1 h4⟩
theorem yF (k:Int) (P:List Pc) (hp:∀p∈P,0≤p.2.1∧p.2.1≤6) (hl:P.length≤9000000):∀(n i:Nat) (x v:Int),i+n=P.length→0≤x∧x≤6→zk.a k x P (P.length:Int) (i:Int)=some v→0≤v∧v≤6:=by
 intro n
 induction n with
 |zero=>
  intro i x v h hx e
  have:i=P.length:=by omega
  subst this
  rw[zk.a_eq,ab,decide_eq_false (Nat.lt_irrefl _),cond_false]at e
  cases e;exact hx
 |succ n ih=>
  intro i x v h hx e
  have hi:i<P.length:=by omega
  rw[zk.a_eq,ab,ae,decide_eq_true hi,ah i _ hi (by omega)]at e
  simp only[cond_true]at e
  cases hc:decide ((rd (τ:=Q4) P (i:Int)).1=k)with
  |true=>rw[hc]at e;exact ih (i+1) _ v (by omega) (hp _ (an (τ:=Q4) P i hi)) e
  |false=>rw[hc]at e;exact ih (i+1) _ v (by omega) hx e
theorem wo (t:List cU) (P:List Pc) (m:List fy) (a b:bm) (ht:t.length≤64) (he:∀e∈t,OV e) (hp:∀p∈P,0≤p.2.1∧p.2.1≤6) (hl:P.length≤9000000):
  ∃V:List ByteArray,V.length≤64∧CW.a (t,P,m,a,b) [] t (t.length:Int) 0=some (V,0)∧GH (t,a,b,P,m)=some V:=by
 have key:∀(n i:Nat) (x:List ByteArray),i+n=t.length→x.length=i→∃V:List ByteArray,V.length≤64∧
   CW.a (t,P,m,a,b) x t (t.length:Int) (i:Int)=some (V,0)∧GH.a (t,a,b,P,m) x (i:Int)=some V:=by
  intro n
  induction n with
  |zero=>
   intro i x h hx
   have:i=t.length:=by omega
   subst this
   rw[CW.a_eq,GH.a_eq,ab,decide_eq_false (Nat.lt_irrefl _)]
   exact⟨x,by omega,rfl,rfl⟩
  |succ n ih=>
   intro i x h hx
   have hi:i<t.length:=by omega
   obtain⟨v,e1,e2⟩:=t8 (i:Int) (t,a,b,P,m) P rfl hl P.length 0 (rd (τ:=aS) t (i:Int)).2.2.2.2.2 (by omega)
   have e3:zk (t,P,m,a,b) (i:Int)=some v:=by rw[Nu,ae,decide_eq_true hi];exact e1
   have e4:Di (t,a,b,P,m) (i:Int)=some v:=by rw[KW,ae,decide_eq_true hi];exact e2
   have hE:=he _ (an (τ:=aS) t i hi)
   have hv:0≤v∧v≤6:=yF (i:Int) P hp hl P.length 0 _ v (by omega) hE.o e1
   obtain⟨e,hee⟩:∃e:cU,rd (τ:=aS) t (i:Int)=e:=⟨_,rfl⟩
   rw[hee]at hE
   obtain⟨E1,E2,E3,E4⟩:=hE
   have E4':CZ e.2.2.2.2.2:=⟨by omega,by omega⟩
   have hv':CZ v:=⟨by omega,by omega⟩
   have s1:=eE _ E2
   have s2:=eE _ E3
   have s3:=eE _ E4'
   have s4:=eE _ hv'
   have q1:(⟨#[32,115,105,122,101,32]⟩:ByteArray).size=6:=rfl
   have q2:(⟨#[32,111,119,110,101,114,32]⟩:ByteArray).size=7:=rfl
   have q3:(⟨#[32,118,101,114,115,105,111,110,32]⟩:ByteArray).size=9:=rfl
   have q4:(⟨#[32,100,97,116,97,32]⟩:ByteArray).size=6:=rfl
   have q5:(⟨#[32,102,117,110,99,32]⟩:ByteArray).size=6:=rfl
   have c1:((⟨#[32]⟩:ByteArray)++(⟨#[115,105,122,101]⟩:ByteArray))++(⟨#[32]⟩:ByteArray)=(⟨#[32,115,105,122,101,32]⟩:ByteArray):=rfl
   have c2:((⟨#[32]⟩:ByteArray)++(⟨#[111,119,110,101,114]⟩:ByteArray))++(⟨#[32]⟩:ByteArray)=(⟨#[32,111,119,110,101,114,32]⟩:ByteArray):=rfl
   have c3:((⟨#[32]⟩:ByteArray)++(⟨#[118,101,114,115,105,111,110]⟩:ByteArray))++(⟨#[32]⟩:ByteArray)=(⟨#[32,118,101,114,115,105,111,110,32]⟩:ByteArray):=rfl
   have c4:((⟨#[32]⟩:ByteArray)++(⟨#[100,97,116,97]⟩:ByteArray))++(⟨#[32]⟩:ByteArray)=(⟨#[32,100,97,116,97,32]⟩:ByteArray):=rfl
   have c5:((⟨#[32]⟩:ByteArray)++(⟨#[102,117,110,99]⟩:ByteArray))++(⟨#[32]⟩:ByteArray)=(⟨#[32,102,117,110,99,32]⟩:ByteArray):=rfl
   rw[CW.a_eq,GH.a_eq,ab,decide_eq_true hi,ae,decide_eq_true hi,hee,ah i _ hi (by omega),e3,e4]
   simp only[cond_true,av]
   rw[cw _ _ (by decide) E3,cw _ _ (by decide) E4',(da _ E2).2,(da _ E3).2,(da _ E4').2]
   have hx16:ar (x.length+1) 16=true:=gP _ (by omega)
   cases hk:decide (e.2.1=2)with
   |true=>
    rw[cond_true,cond_true,cw _ _ (by decide) E2]
    simp only[Option.bind_some]
    rw[cw _ _ (by decide) hv',(da _ hv').2,c1,c2,c3,c4]
    simp only[Option.bind_some]
    rw[gW (by simp only[ByteArray.size_append];omega),gW (by simp only[ByteArray.size_append];omega),gW (by simp only[ByteArray.size_append];omega),gW (by simp only[ByteArray.size_append];omega),gW (by omega),gW (by simp only[ByteArray.size_append];omega),gW (by simp only[ByteArray.size_append];omega),gW (by simp only[ByteArray.size_append];omega),gW (by simp only[ByteArray.size_append];omega),gW (by simp only[ByteArray.size_append];omega),gW (by simp only[ByteArray.size_append];omega),gW (by simp only[ByteArray.size_append];omega)]
    simp only[cond_true,List.length_cons,List.length_nil]
    rw[hx16]
    simp only[cond_true,ByteArray.append_assoc]
    exact ih (i+1) _ (by omega) (by simp;omega)
   |false=>
    rw[cond_false,cond_false,cw _ _ (by decide) E2]
    simp only[Option.bind_some]
    rw[cw _ _ (by decide) hv',(da _ hv').2,c1,c2,c3,c5]
    simp only[Option.bind_some]
    rw[gW (by simp only[ByteArray.size_append];omega),gW (by simp only[ByteArray.size_append];omega),gW (by simp only[ByteArray.size_append];omega),gW (by simp only[ByteArray.size_append];omega),gW (by omega),gW (by simp only[ByteArray.size_append];omega),gW (by simp only[ByteArray.size_append];omega),gW (by simp only[ByteArray.size_append];omega),gW (by simp only[ByteArray.size_append];omega),gW (by simp only[ByteArray.size_append];omega),gW (by simp only[ByteArray.size_append];omega),gW (by simp only[ByteArray.size_append];omega)]
    simp only[cond_true,List.length_cons,List.length_nil]
    rw[hx16]
    simp only[cond_true,ByteArray.append_assoc]
    exact ih (i+1) _ (by omega) (by simp;omega)
 rw[KX]
 exact key t.length 0 [] (by omega) rfl
theorem qc (s:PW) (hw:pC TSys s):Ss s=some true:=by
 rw[Oj]
 obtain⟨r,e1,e2,e3⟩:=sx s hw 1048576 ⟨by decide,by decide⟩
 rw[e1]
 simp only[Option.bind_some]
 by_cases h:r<0
 ·rw[decide_eq_true h];rfl
 ·have hb:=e3 (by omega)
  have hn:List.length s.2.2≤1048576:=hb.2.2.1
  have hV:∃(V:List ByteArray) (c:Int),V.length≤64∧CW s=some (V,c)∧Rx s=some (V,c):=by
   obtain⟨rI,rS,f1,f2,f3,f4⟩:=wk s (wm hw.2.2)
   rw[Nv,KY,f1,f2]
   simp only[Option.bind_some]
   rw[←f3]
   cases hr:rI.2 with
   |false=>exact⟨_,_,by simp,rfl,rfl⟩
   |true=>
    obtain⟨t',P',F',a',b',g1,g2,g3⟩:=f4 hr
    have:=g3.pl
    obtain⟨V,v0,v1,v2⟩:=wo t' P' (ax F' BL) a' b' g3.tab.len (fun e he=>H9 (g3.tab.ent e he)) (fun p hp=>by have:=g3.pcs p hp;omega) (by omega)
    rw[g1,g2]
    simp only[Bool.not_true,cond_false]
    rw[v1,v2]
    exact⟨V,0,v0,rfl,rfl⟩
  obtain⟨V,c,v0,v1,v2⟩:=hV
  obtain⟨k,m1,m2,m3⟩:=sB s hb 1 (by decide) (by decide)
  obtain⟨i1,i2⟩:=sG V (by omega)
  rw[decide_eq_false h,sy s hw hb]
  simp only[Option.bind_some,cond_false,av]
  rw[v1,v2]
  simp only[Option.bind_some,zT V (by omega),decide_true,Bool.not_true,cond_false,sA s hw hb,m1,kf (show 0≤k.1 by omega),i1,i2,kf (show 0≤1+1*(V.length:Int) by omega)]
def FJ (f:O5):ByteArray:=(bif f.2.1 then(⟨#[32,114,101,112,108,97,99,101,115,32]⟩:ByteArray)else(⟨#[32,97,100,100,115,32]⟩:ByteArray))++f.1
def qd:List O5→ByteArray
 | []=>ByteArray.empty
 |f::l=>FJ f++qd l
def ub:List PY→ByteArray
 | []=>ByteArray.empty
 |d::l=>((⟨#[32,97,100,100,115,32]⟩:ByteArray)++d.1)++ub l
theorem sH:∀l:List PY,(∀d∈l,d.1.size≤20)→(ub l).size≤26*l.length
 | [],_=>Nat.le_refl _
 |d::l,h=>by
  have h1:=sH l fun x hx=>h x (List.mem_cons_of_mem _ hx)
  have h2:=h d (List.mem_cons_self ..)
  have e:(⟨#[32,97,100,100,115,32]⟩:ByteArray).size=6:=rfl
  simp only[ub,ByteArray.size_append,List.length_cons];omega
theorem qe (f:O5) (h:f.1.size≤20):(FJ f).size≤30:=by
 unfold FJ
 have e:(⟨#[32,97,100,100,115,32]⟩:ByteArray).size=6:=rfl
 have e':(⟨#[32,114,101,112,108,97,99,101,115,32]⟩:ByteArray).size=10:=rfl
 cases f.2.1<;>simp only[cond_true,cond_false,ByteArray.size_append]<;>omega
theorem sI:∀l:List O5,(∀d∈l,d.1.size≤20)→(qd l).size≤30*l.length
 | [],_=>Nat.le_refl _
 |d::l,h=>by
  have h1:=sI l fun x hx=>h x (List.mem_cons_of_mem _ hx)
  have h2:=qe d (h d (List.mem_cons_self ..))
  simp only[qd,ByteArray.size_append,List.length_cons];omega
theorem OW (x4:List ByteArray) (p:wi) (ps:List wi) (n:Int) (i:Int) (hl:p.1.2.2.1.length≤4) (hn:∀f∈p.1.2.2.1,f.1.size≤20):∀(k j:Nat) (y:ByteArray),j+k=p.1.2.2.1.length→y.size≤1000+30*j→
  ko.b x4 p y ps n i p.1.2.2.1 (p.1.2.2.1.length:Int) (j:Int)=ko.c x4 (y++qd (p.1.2.2.1.drop j)) ps n i p.1.2.2.2.1 (p.1.2.2.2.1.length:Int) 0:=by
 intro k
 induction k with
 |zero=>
  intro j y h hy
  have:j=p.1.2.2.1.length:=by omega
  subst this
  rw[ko.b_eq,ab,decide_eq_false (Nat.lt_irrefl _),cond_false,List.drop_length,qd,ByteArray.append_empty]
 |succ k ih=>
  intro j y h hy
  have hj:j<p.1.2.2.1.length:=by omega
  have hf:=hn _ (List.getElem_mem hj)
  rw[ko.b_eq,ab,ae,decide_eq_true hj,aM (τ:=aA) p.1.2.2.1 j hj,ah j _ hj (by omega),List.drop_eq_getElem_cons hj,qd]
  have hs:=qe _ hf
  have e:(⟨#[32,97,100,100,115,32]⟩:ByteArray).size=6:=rfl
  have e':(⟨#[32,114,101,112,108,97,99,101,115,32]⟩:ByteArray).size=10:=rfl
  have fin:∀z:ByteArray,z=FJ (p.1.2.2.1[j])→(bif decide (y.size+z.size≤9223372036854775807)then ko.b x4 p (y++z) ps n i p.1.2.2.1 (p.1.2.2.1.length:Int) ((j+1:Nat):Int)else none)=ko.c x4 (y++(FJ (p.1.2.2.1[j])++qd (p.1.2.2.1.drop (j+1)))) ps n i p.1.2.2.2.1 (p.1.2.2.2.1.length:Int) 0:=by
   intro z hz
   subst hz
   rw[gW (by omega),cond_true,←ByteArray.append_assoc]
   exact ih (j+1) _ (by omega) (by rw[ByteArray.size_append];omega)
  simp only[cond_true]
  generalize hF:p.1.2.2.1[j]=f at hf hs fin
  cases hr:f.2.1 with
  |true=>rw[cond_true,gW (by omega),cond_true];exact fin ((⟨#[32,114,101,112,108,97,99,101,115,32]⟩:ByteArray)++f.1) (by unfold FJ;rw[hr,cond_true])
  |false=>rw[cond_false,gW (by omega),cond_true];exact fin ((⟨#[32,97,100,100,115,32]⟩:ByteArray)++f.1) (by unfold FJ;rw[hr,cond_false])
theorem OX (x0:List wi) (x3:List ByteArray) (x4:Int) (o:bn) (hl:o.2.2.1.length≤4) (hn:∀f∈o.2.2.1,f.1.size≤20):∀(k j:Nat) (y:ByteArray),j+k=o.2.2.1.length→y.size≤1000+30*j→
  kO.b x0 x3 x4 o y (j:Int)=kO.c x0 x3 x4 o (y++qd (o.2.2.1.drop j)) 0:=by
 intro k
 induction k with
 |zero=>
  intro j y h hy
  have:j=o.2.2.1.length:=by omega
  subst this
  rw[kO.b_eq,ab,decide_eq_false (Nat.lt_irrefl _),cond_false,List.drop_length,qd,ByteArray.append_empty]
 |succ k ih=>
  intro j y h hy
  have hj:j<o.2.2.1.length:=by omega
  have hf:=hn _ (List.getElem_mem hj)
  rw[kO.b_eq,ab,ae,decide_eq_true hj,aM (τ:=aA) o.2.2.1 j hj,ah j _ hj (by omega),List.drop_eq_getElem_cons hj,qd]
  have hs:=qe _ hf
  have e:(⟨#[32,97,100,100,115,32]⟩:ByteArray).size=6:=rfl
  have e':(⟨#[32,114,101,112,108,97,99,101,115,32]⟩:ByteArray).size=10:=rfl
  have fin:∀z:ByteArray,z=FJ (o.2.2.1[j])→(bif decide (y.size+z.size≤9223372036854775807)then kO.b x0 x3 x4 o (y++z) ((j+1:Nat):Int)else none)=kO.c x0 x3 x4 o (y++(FJ (o.2.2.1[j])++qd (o.2.2.1.drop (j+1)))) 0:=by
   intro z hz
   subst hz
   rw[gW (by omega),cond_true,←ByteArray.append_assoc]
   exact ih (j+1) _ (by omega) (by rw[ByteArray.size_append];omega)
  simp only[cond_true]
  generalize hF:o.2.2.1[j]=f at hf hs fin
  cases hr:f.2.1 with
  |true=>rw[cond_true,gW (by omega),cond_true];exact fin ((⟨#[32,114,101,112,108,97,99,101,115,32]⟩:ByteArray)++f.1) (by unfold FJ;rw[hr,cond_true])
  |false=>rw[cond_false,gW (by omega),cond_true];exact fin ((⟨#[32,97,100,100,115,32]⟩:ByteArray)++f.1) (by unfold FJ;rw[hr,cond_false])
theorem OY (x4:List ByteArray) (ps:List wi) (n:Int) (i:Int) (ds:List PY) (hl:ds.length≤4) (hn:∀d∈ds,d.1.size≤20):∀(k j:Nat) (y:ByteArray),j+k=ds.length→y.size≤2000+26*j→
  ko.c x4 y ps n i ds (ds.length:Int) (j:Int)=ko.c x4 (y++ub (ds.drop j)) ps n i ds (ds.length:Int) (ds.length:Int):=by
 intro k
 induction k with
 |zero=>
  intro j y h hy
  have:j=ds.length:=by omega
  subst this
  rw[List.drop_length,ub,ByteArray.append_empty]
 |succ k ih=>
  intro j y h hy
  have hj:j<ds.length:=by omega
  have hf:=hn _ (List.getElem_mem hj)
  have e:(⟨#[32,97,100,100,115,32]⟩:ByteArray).size=6:=rfl
  rw[ko.c_eq x4 y ps n i ds (ds.length:Int) (j:Int),ab,ae,decide_eq_true hj,aM (τ:=aX) ds j hj,ah j _ hj (by omega),List.drop_eq_getElem_cons hj,ub]
  simp only[cond_true]
  rw[gW (by omega),gW (by rw[ByteArray.size_append];omega)]
  simp only[cond_true]
  have q:=ih (j+1) (y++((⟨#[32,97,100,100,115,32]⟩:ByteArray)++(ds[j]).1)) (by omega) (by rw[ByteArray.size_append,ByteArray.size_append];omega)
  rw[ByteArray.append_assoc]at q
  exact q
theorem OZ (x0:List wi) (x3:List ByteArray) (x4:Int) (o:bn) (hl:o.2.2.2.1.length≤4) (hn:∀d∈o.2.2.2.1,d.1.size≤20):∀(k j:Nat) (y:ByteArray),j+k=o.2.2.2.1.length→y.size≤2000+26*j→
  kO.c x0 x3 x4 o y (j:Int)=kO.c x0 x3 x4 o (y++ub (o.2.2.2.1.drop j)) (o.2.2.2.1.length:Int):=by
 intro k
 induction k with
 |zero=>
  intro j y h hy
  have:j=o.2.2.2.1.length:=by omega
  subst this
  rw[List.drop_length,ub,ByteArray.append_empty]
 |succ k ih=>
  intro j y h hy
  have hj:j<o.2.2.2.1.length:=by omega
  have hf:=hn _ (List.getElem_mem hj)
  have e:(⟨#[32,97,100,100,115,32]⟩:ByteArray).size=6:=rfl
  rw[kO.c_eq x0 x3 x4 o y (j:Int),ab,ae,decide_eq_true hj,aM (τ:=aX) o.2.2.2.1 j hj,ah j _ hj (by omega),List.drop_eq_getElem_cons hj,ub]
  simp only[cond_true]
  rw[gW (by omega),gW (by rw[ByteArray.size_append];omega)]
  simp only[cond_true]
  have q:=ih (j+1) (y++((⟨#[32,97,100,100,115,32]⟩:ByteArray)++(o.2.2.2.1[j]).1)) (by omega) (by rw[ByteArray.size_append,ByteArray.size_append];omega)
  rw[ByteArray.append_assoc]at q
  exact q
structure O0 (o:bn):Prop where
 n:o.1.size≤20
 f:o.2.2.1.length≤4
 d:o.2.2.2.1.length≤4
 fn:∀f∈o.2.2.1,f.1.size≤20
 dn:∀d∈o.2.2.2.1,d.1.size≤20
theorem Ia {o:bn} (h:m9 o=true):O0 o:=by
 have hO:=jO h
 refine⟨?_,hO.f,hO.d,fun f hf=> ?_,fun d hd=> ?_⟩
 ·unfold m9 at h
  rw[decide_eq_true_eq]at h
  unfold sY at h
  split at h
  ·cases h
  ·rename_i hn
   exact iR (by simpa using hn)
 ·obtain⟨i,hi,hr⟩:=mU (τ:=aA) hf
  rw[←hr]
  exact iR (iw (hO.fun_ i hi)).1
 ·obtain⟨i,hi,hr⟩:=mU (τ:=aX) hd
  rw[←hr]
  exact iR (fD (hO.dat i hi)).1
theorem wq (ps:List wi) (hp:ps.length≤6) (hN:∀j:Nat,j<ps.length→O0 (rd (τ:=bX) ps (j:Int)).1):
  ∃V:List ByteArray,V.length≤6∧ko.a [] ps (ps.length:Int) 0=some (V,0)∧kO ps=some V:=by
 have key:∀(k i:Nat) (x:List ByteArray),i+k=ps.length→x.length=i→∃V:List ByteArray,V.length≤6∧
   ko.a x ps (ps.length:Int) (i:Int)=some (V,0)∧kO.a ps x (i:Int)=some V:=by
  intro k
  induction k with
  |zero=>
   intro i x h hx
   have:i=ps.length:=by omega
   subst this
   rw[ko.a_eq,kO.a_eq,ab,decide_eq_false (Nat.lt_irrefl _)]
   exact⟨x,by omega,rfl,rfl⟩
  |succ k ih=>
   intro i x h hx
   have hi:i<ps.length:=by omega
   have hn:=hN i hi
   obtain⟨p,hpe⟩:∃p:wi,rd (τ:=bX) ps (i:Int)=p:=⟨_,rfl⟩
   rw[hpe]at hn
   obtain⟨n1,n2,n3,n4,n5⟩:=hn
   have hI:CZ ((i+1:Nat):Int):=⟨by omega,by omega⟩
   have s1:=eE _ hI
   have e6:(⟨#[112,97,116,99,104,32]⟩:ByteArray).size=6:=rfl
   have e1:(⟨#[32]⟩:ByteArray).size=1:=rfl
   rw[ko.a_eq,kO.a_eq,ab,decide_eq_true hi,ae,decide_eq_true hi,hpe,ah i _ hi (by omega),(da _ hI).1,(da _ hI).2]
   simp only[cond_true,Option.bind_some]
   rw[gW (by omega),gW (by simp only[ByteArray.size_append];omega),gW (by simp only[ByteArray.size_append];omega)]
   simp only[cond_true]
   have b1:=sI p.1.2.2.1 n4
   have b2:=sH p.1.2.2.2.1 n5
   have hh:(((⟨#[112,97,116,99,104,32]⟩:ByteArray)++fP ((i+1:Nat):Int))++(⟨#[32]⟩:ByteArray)++p.1.1).size≤100:=by simp only[ByteArray.size_append];omega
   generalize ((⟨#[112,97,116,99,104,32]⟩:ByteArray)++fP ((i+1:Nat):Int))++(⟨#[32]⟩:ByteArray)++p.1.1=y at hh
   rw[show(0:Int)=((0:Nat):Int) from rfl,OW x p ps _ _ n2 n4 p.1.2.2.1.length 0 y (by omega) (by omega),OX ps x _ p.1 n2 n4 p.1.2.2.1.length 0 y (by omega) (by omega),List.drop_zero,
    show(0:Int)=((0:Nat):Int) from rfl,OY x ps _ _ p.1.2.2.2.1 n3 n5 p.1.2.2.2.1.length 0 _ (by omega) (by rw[ByteArray.size_append];omega),OZ ps x _ p.1 n3 n5 p.1.2.2.2.1.length 0 _ (by omega) (by rw[ByteArray.size_append];omega),List.drop_zero,
    ko.c_eq,kO.c_eq,ab,decide_eq_false (Nat.lt_irrefl _),ah i _ hi (by omega)]
   simp only[cond_false,List.length_cons,List.length_nil]
   rw[gP _ (by omega)]
   exact ih (i+1) _ (by omega) (by simp;omega)
 rw[Ol]
 exact key ps.length 0 [] (by omega) rfl
theorem FK (s:PW) (hw:pC TSys s):Sx s=some true:=by
 rw[Oq]
 obtain⟨r,e1,e2,e3⟩:=sx s hw 1048576 ⟨by decide,by decide⟩
 rw[e1]
 simp only[Option.bind_some]
 by_cases h:r<0
 ·rw[decide_eq_true h];rfl
 ·have hb:=e3 (by omega)
  have hV:∃(V:List ByteArray) (c:Int),V.length≤64∧ko s=some (V,c)∧RX s=some (V,c):=by
   obtain⟨rI,rS,f1,f2,f3,f4⟩:=lV s (wm hw.2.2)
   rw[Oo,Om,On,Ok,f1,f2]
   simp only[Option.bind_some]
   rw[←f3]
   cases hr:rI.2 with
   |false=>exact⟨_,_,by simp,rfl,rfl⟩
   |true=>
    obtain⟨⟨g1,_,g2⟩,_⟩:=f4 hr
    obtain⟨V,v0,v1,v2⟩:=wq s.2.2 g1 fun j hj=>Ia (g2 j hj)
    simp only[Bool.not_true,cond_false]
    rw[v1,v2]
    exact⟨V,0,by omega,rfl,rfl⟩
  obtain⟨V,c,v0,v1,v2⟩:=hV
  obtain⟨k,m1,m2,m3⟩:=sB s hb 1 (by decide) (by decide)
  obtain⟨i1,i2⟩:=sG V (by omega)
  rw[decide_eq_false h,sy s hw hb]
  simp only[Option.bind_some,cond_false,av]
  rw[v1,v2]
  simp only[Option.bind_some,zT V (by omega),decide_true,Bool.not_true,cond_false,sA s hw hb,m1,kf (show 0≤k.1 by omega),i1,i2,kf (show 0≤1+1*(V.length:Int) by omega)]
end Go.Proofs.YtiahcgampoehdaaGreatDoor.S
