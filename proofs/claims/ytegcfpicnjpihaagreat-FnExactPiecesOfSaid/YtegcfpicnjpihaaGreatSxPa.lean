import Derived.Test.YtegcfpicnjpihaaGreatSxP
namespace Go.Proofs.YtegcfpicnjpihaaGreat.S
open Go.Ps
set_option linter.unusedVariables false
set_option maxRecDepth 100000
theorem xe (o:bn) (hz:UnitSz o) (x4:bl) (x6:eT) (x7 x8:bl) (l3:List Int) (l4:List ByteArray):∀(k i:Nat) (a:bl) (ats:List Int) (codes:List ByteArray),i+k=o.2.2.1.length→cb a→ats.length=i→codes.length=i→
  ((dX (fW o) a i k).2.2=true→pK.a a x4 o x6 x7 x8 (ats,codes,l3,l4) (i:Int)=pK.b (dX (fW o) a i k).1 x4 o x6 x7 x8 (ats++(dX (fW o) a i k).2.1,codes++bb (kB o) i k,l3,l4) 0)∧
  ((dX (fW o) a i k).2.2=false→∃r,pK.a a x4 o x6 x7 x8 (ats,codes,l3,l4) (i:Int)=some r∧r.2.2.2=false):=by
 have h4:=hz.f
 intro k
 induction k with
 |zero=>
  intro i a ats codes hk ha h1 h2
  have:i=o.2.2.1.length:=by omega
  subst this
  rw[pK.a_eq,ab,decide_eq_false (Nat.lt_irrefl _),cond_false,dX,bb,List.append_nil,List.append_nil]
  exact⟨fun _=>rfl,fun h=>by cases h⟩
 |succ k ih=>
  intro i a ats codes hk ha h1 h2
  have hi:i<o.2.2.1.length:=by omega
  rw[pK.a_eq,ab,ae,decide_eq_true hi,ah i _ hi (by omega)]
  rw[jH a ha _ (by have:=hz.fs i hi;omega)]
  simp only[cond_true,Option.bind_some]
  rw[jD _ (by simp;omega),jC _ (by simp;omega)]
  simp only[cond_true]
  obtain⟨i1,i2⟩:=ih (i+1) (aB a (fW o i)).1 (ats++[(aB a (fW o i)).2.1]) (codes++[kB o i]) (by omega) (c9 ha _) (by simp;omega) (by simp;omega)
  rw[dX,bb]
  rw[show aB a (rd (τ:=aA) o.2.2.1 (i:Int)).2.2.2.size=aB a (fW o i) from rfl]
  cases hp:(aB a (fW o i)).2.2 with
  |false=>exact⟨fun h=>by simp at h,fun _=>⟨_,rfl,rfl⟩⟩
  |true=>
   simp only[Bool.true_and,Bool.not_true,cond_false]
   refine⟨fun h=> ?_,fun h=>i2 h⟩
   have:=i1 h
   rw[List.append_assoc,List.append_assoc]at this
   exact this
theorem xf (o:bn) (hz:UnitSz o) (x3:bl) (x6:eT) (x7 x8:bl) (l1:List Int) (l2:List ByteArray):∀(k i:Nat) (a:bl) (ats:List Int) (codes:List ByteArray),i+k=o.2.2.2.1.length→cb a→ats.length=i→codes.length=i→
  ((dX (kA o) a i k).2.2=true→pK.b x3 a o x6 x7 x8 (l1,l2,ats,codes) (i:Int)=some ((l1,l2,ats++(dX (kA o) a i k).2.1,codes++bb (jI o) i k),x3,(dX (kA o) a i k).1,true))∧
  ((dX (kA o) a i k).2.2=false→∃r,pK.b x3 a o x6 x7 x8 (l1,l2,ats,codes) (i:Int)=some r∧r.2.2.2=false):=by
 have h4:=hz.d
 intro k
 induction k with
 |zero=>
  intro i a ats codes hk ha h1 h2
  have:i=o.2.2.2.1.length:=by omega
  subst this
  rw[pK.b_eq,ab,decide_eq_false (Nat.lt_irrefl _),cond_false,dX,bb,List.append_nil,List.append_nil]
  exact⟨fun _=>rfl,fun h=>by cases h⟩
 |succ k ih=>
  intro i a ats codes hk ha h1 h2
  have hi:i<o.2.2.2.1.length:=by omega
  rw[pK.b_eq,ab,ae,decide_eq_true hi,ah i _ hi (by omega)]
  rw[jH a ha _ (by have:=hz.ds i hi;omega)]
  simp only[cond_true,Option.bind_some]
  rw[jD _ (by simp;omega),jC _ (by simp;omega)]
  simp only[cond_true]
  obtain⟨i1,i2⟩:=ih (i+1) (aB a (kA o i)).1 (ats++[(aB a (kA o i)).2.1]) (codes++[jI o i]) (by omega) (c9 ha _) (by simp;omega) (by simp;omega)
  rw[dX,bb]
  rw[show aB a (rd (τ:=bc) o.2.2.2.1 (i:Int)).2.size=aB a (kA o i) from rfl]
  cases hp:(aB a (kA o i)).2.2 with
  |false=>exact⟨fun h=>by simp at h,fun _=>⟨_,rfl,rfl⟩⟩
  |true=>
   simp only[Bool.true_and,Bool.not_true,cond_false]
   refine⟨fun h=> ?_,fun h=>i2 h⟩
   have:=i1 h
   rw[List.append_assoc,List.append_assoc]at this
   exact this
def dg (o:bn) (a b:bl):eT×bl×bl×Bool:=
 (((dX (fW o) a 0 o.2.2.1.length).2.1,bb (kB o) 0 o.2.2.1.length,(dX (kA o) b 0 o.2.2.2.1.length).2.1,bb (jI o) 0 o.2.2.2.1.length),
  (dX (fW o) a 0 o.2.2.1.length).1,(dX (kA o) b 0 o.2.2.2.1.length).1,(dX (fW o) a 0 o.2.2.1.length).2.2&&(dX (kA o) b 0 o.2.2.2.1.length).2.2)
theorem Ea (o:bn) (hz:UnitSz o) (a b:bl) (ha:cb a) (hb:cb b):((dg o a b).2.2.2=true→pK a b o=some (dg o a b))∧((dg o a b).2.2.2=false→∃r,pK a b o=some r∧r.2.2.2=false):=by
 rw[Jx]
 obtain⟨f1,f2⟩:=xe o hz b ([],[],[],[]) (0,0,0) (0,0,0) [] [] o.2.2.1.length 0 a [] [] (by omega) ha rfl rfl
 obtain⟨d1,d2⟩:=xf o hz (dX (fW o) a 0 o.2.2.1.length).1 ([],[],[],[]) (0,0,0) (0,0,0) (dX (fW o) a 0 o.2.2.1.length).2.1 (bb (kB o) 0 o.2.2.1.length) o.2.2.2.1.length 0 b [] [] (by omega) hb rfl rfl
 simp only[List.nil_append]at f1 d1
 unfold dg
 simp only
 cases h1:(dX (fW o) a 0 o.2.2.1.length).2.2 with
 |false=>exact⟨fun h=>(by cases h),fun _=>f2 h1⟩
 |true=>
  rw[Bool.true_and]
  refine⟨fun h=> ?_,fun h=> ?_⟩
  ·rw[h]
   exact(f1 h1).trans (d1 h)
  ·obtain⟨r,h3,h4⟩:=d2 h
   exact⟨r,(f1 h1).trans h3,h4⟩
theorem Eb (o:bn) (hz:UnitSz o) (a b:bl) (ha:cb a) (hb:cb b) (x8:eT) (x9 x10:bl) (t:List da) (f:Int):
  dV.a a b o x8 x9 x10 (([],[],[],[]),t,o) f o.2.2.1 (o.2.2.1.length:Int) 0=
   dV.c (dg o a b).2.1 (dg o a b).2.2.1 o x8 x9 x10 ((dg o a b).1,t,o) (after f (dg o a b).2.2.2) o.2.2.2.2.1 (o.2.2.2.2.1.length:Int) 0:=by
 have h1:=yA o hz b x8 x9 x10 (t,o) [] [] o.2.2.1.length 0 a [] [] f (by omega) ha rfl rfl
 have h2:=yB o hz (dX (fW o) a 0 o.2.2.1.length).1 x8 x9 x10 (t,o) (dX (fW o) a 0 o.2.2.1.length).2.1 (bb (kB o) 0 o.2.2.1.length) o.2.2.2.1.length 0 b [] [] (after f (dX (fW o) a 0 o.2.2.1.length).2.2) (by omega) hb rfl rfl
 simp only[List.nil_append]at h1 h2
 rw[jJ]at h2
 exact h1.trans h2
def H3 (x:Int):Prop:=0≤x∧x≤1048575∧x%8=0
theorem As {a:bl} (h:cb a) (n:Nat) (hn:1≤n):H3 (aB a n).2.1:=by
 obtain⟨⟨h1,h2,h3⟩,⟨h4,h5,h6⟩,h7,h8,h9⟩:=h
 unfold aB
 split
 ·exact⟨by simp,by simp,by simp⟩
 ·have:8≤qr n:=by unfold qr;omega
  refine⟨?_, ?_, ?_⟩<;>simp only<;>omega
theorem xg (sz:Nat→Nat):∀k i a,cb a→(∀j,i≤j→j<i+k→1≤sz j)→∀x∈(dX sz a i k).2.1,H3 x
 |0,_,_,_,_,x,hx=>by cases hx
 |k+1,i,a,h,hs,x,hx=>by
  rw[dX]at hx
  rcases List.mem_cons.1 hx with rfl|hx
  ·exact As h _ (hs i (Nat.le_refl _) (by omega))
  ·exact xg sz k (i+1) _ (c9 h _) (fun j h1 h2=>hs j (by omega) (by omega)) x hx
structure ew (o:bn) (l:eT):Prop where
 a:l.1.length=o.2.2.1.length
 c:l.2.1.length=o.2.2.1.length
 d:l.2.2.1.length=o.2.2.2.1.length
 b:l.2.2.2.length=o.2.2.2.1.length
 cs:∀i:Nat,i<o.2.2.1.length→(rd (τ:= .str) l.2.1 (i:Int)).size=fW o i
 bs:∀i:Nat,i<o.2.2.2.1.length→(rd (τ:= .str) l.2.2.2 (i:Int)).size=kA o i
 fa:∀i:Nat,i<o.2.2.1.length→H3 (rd (τ:= .int .i64) l.1 (i:Int))
 ds:∀i:Nat,i<o.2.2.2.1.length→H3 (rd (τ:= .int .i64) l.2.2.1 (i:Int))
theorem sX {τ:Ty} (f:Nat→τ.den) (k j:Nat) (h:j<k):rd (τ:=τ) (bb f 0 k) (j:Int)=f j:=by
 rw[aS _ _ (by rw[az];exact h),fU,Nat.zero_add]
theorem dT.fsz_pos {o:bn} (h:dT o) (i:Nat) (hi:i<o.2.2.1.length):20≤fW o i∧fW o i≤256∧fW o i%4=0:=by
 have:=(jY (h.fun_ i hi)).2.2.2
 unfold bf at this
 unfold fW
 cases h1:cj (rd (τ:=aA) o.2.2.1 (i:Int)).2.2.2.size with
 |false=>rw[h1]at this;cases this
 |true=>
  rw[h1,cond_true,decide_eq_true_eq]at this
  have h2:=fb h1
  exact⟨by omega,h2.2,h2.1⟩
theorem dT.dsz_pos {o:bn} (h:dT o) (i:Nat) (hi:i<o.2.2.2.1.length):8≤kA o i∧kA o i≤64∧kA o i%8=0:=nu (ij (h.dat i hi)).2.2
theorem u3 (o:bn) (h:dT o) (a b:bl) (ha:cb a) (hb:cb b):ew o (dg o a b).1∧cb (dg o a b).2.1∧cb (dg o a b).2.2.1:=by
 refine⟨⟨dM _ _ _ _,az _ _ _,dM _ _ _ _,az _ _ _,fun i hi=> ?_,fun i hi=> ?_,fun i hi=> ?_,fun i hi=> ?_⟩,qg _ _ _ _ ha,qg _ _ _ _ hb⟩
 ·show(rd (τ:= .str) (bb (kB o) 0 o.2.2.1.length) (i:Int)).size=_
  rw[sX (τ:= .str) (kB o) _ _ hi];rfl
 ·show(rd (τ:= .str) (bb (jI o) 0 o.2.2.2.1.length) (i:Int)).size=_
  rw[sX (τ:= .str) (jI o) _ _ hi];rfl
 ·have hl:=dM (fW o) o.2.2.1.length 0 a
  show H3 (rd (τ:= .int .i64) (dX (fW o) a 0 o.2.2.1.length).2.1 (i:Int))
  rw[aS (τ:= .int .i64) _ i (by rw[hl];exact hi)]
  exact xg _ _ _ _ ha (fun j _ h2=>by have:=h.fsz_pos j (by omega);omega) _ (List.getElem_mem _)
 ·have hl:=dM (kA o) o.2.2.2.1.length 0 b
  show H3 (rd (τ:= .int .i64) (dX (kA o) b 0 o.2.2.2.1.length).2.1 (i:Int))
  rw[aS (τ:= .int .i64) _ i (by rw[hl];exact hi)]
  exact xg _ _ _ _ hb (fun j _ h2=>by have:=h.dsz_pos j (by omega);omega) _ (List.getElem_mem _)
theorem GU (v:Int) (i:Nat) (hi:i<8):(v%18446744073709551616)/2^(8*i)%256=v/2^(8*i)%256:=by
 match i,hi with
 |0,_=>omega
 |1,_=>omega
 |2,_=>omega
 |3,_=>omega
 |4,_=>omega
 |5,_=>omega
 |6,_=>omega
 |7,_=>omega
theorem N2 (n:Nat) (h:n≤4096):av n 1=true:=by simp[av];omega
theorem mA (v:Int) (n:Nat) (hn:n≤8):∀(k i:Nat) (xs:List Int),i+k=n→xs.length=i→wq.a v (n:Int) xs (i:Int)=some (aI (xs++pZ (v/2^(8*i)) k)):=by
 intro k
 induction k with
 |zero=>
  intro i xs h hx
  have:i=n:=by omega
  subst this
  rw[wq.a_eq,ab,decide_eq_false (Nat.lt_irrefl _),cond_false,pZ,List.append_nil]
 |succ k ih=>
  intro i xs h hx
  rw[wq.a_eq,ab,decide_eq_true (show i<n by omega),aF (n:=8*(i:Int)) (by omega) (by omega),Fp (n:=8*(i:Int)) (by omega) (by omega),decide_eq_false (show¬8*(i:Int)<0 by omega),ah i n (by omega) (by omega),lS,rX (by omega) (by omega),zr,N2 _ (by simp;omega),ih (i+1) _ (by omega) (by simp;omega),pZ,List.append_assoc]
  have e1:(8*(i:Int)).toNat=8*i:=by omega
  rw[e1,GU v i (by omega)]
  have e2:v/2^(8*i)/256=v/2^(8*(i+1)):=by
   rw[Int.ediv_ediv_of_nonneg (Int.pow_nonneg (by decide))]
   congr 1
   rw[show 8*(i+1)=8*i+8 by omega,Int.pow_add];rfl
  rw[e2];rfl
theorem jq (v:Int) (n:Nat) (hn:n≤8):wq v (n:Int)=some (aI (pZ v n)):=by
 rw[Jz]
 have:=mA v n hn n 0 [] (by omega) rfl
 simpa using this
theorem At {β:Type} (L:Int→Option β) (p:Nat→Bool) (g:Nat→Option β) (n:Nat) (hstep:∀i:Nat,i<n→L (i:Int)=bif p i then g i else L ((i+1:Nat):Int)):
  ∀k i:Nat,i+k=n→L (i:Int)=if dR p i k<0 then L (n:Int)else g (dR p i k).toNat:=by
 intro k
 induction k with
 |zero=>
   intro i h;have:i=n:=by omega
   subst this;rfl
 |succ k ih=>
  intro i h
  rw[hstep i (by omega),ih (i+1) (by omega),dR]
  cases p i with
  |false=>rfl
  |true=>rw[cond_true,cond_true,if_neg (by omega)];rfl
theorem iD {β:Type} {L:Int→Option β} (p:Nat→Bool) (g:Nat→Option β) (n:Nat) (hstep:∀i:Nat,i<n→L (i:Int)=bif p i then g i else L ((i+1:Nat):Int)):L 0=if dR p 0 n<0 then L (n:Int)else g (dR p 0 n).toNat:=
 At L p g n hstep n 0 (by omega)
theorem u4 (p:Nat→Bool) (n:Nat) (h:¬dR p 0 n<0):(dR p 0 n).toNat<n:=by
 rcases cr p n 0 with⟨h1,_⟩|⟨j,h1,h2,h3,_⟩
 ·omega
 ·omega
def u6 (o:bn) (name:ByteArray):Int:=dR (fun i=>decide ((rd (τ:=aA) o.2.2.1 (i:Int)).1=name)&& !(rd (τ:=aA) o.2.2.1 (i:Int)).2.1) 0 o.2.2.1.length
def u7 (o:bn) (name:ByteArray):Int:=dR (fun i=>decide ((rd (τ:=bc) o.2.2.2.1 (i:Int)).1=name)) 0 o.2.2.2.1.length
def u9 (t:List da) (o:bn) (l:eT) (name:ByteArray):Int×Bool:=
 if u6 o name<0 then if u7 o name<0 then if ci t name<0 then(0,false)else((rd (τ:=aT) t (ci t name)).2.2.1,true)
  else(rd (τ:= .int .i64) l.2.2.1 ((u7 o name).toNat:Int),true)
 else(rd (τ:= .int .i64) l.1 ((u6 o name).toNat:Int),true)
theorem Ec (t:List da) (o:bn) (l:eT) (name:ByteArray) (ht:t.length≤64) (hz:ObjSz o) (hl:ew o l):qp (l,t,o) name=some (u9 t o l name):=by
 have h1:=hz.f
 have h2:=hz.d
 rw[Lx]
 show qp.a (l,t,o) name o.2.2.1 (o.2.2.1.length:Int) 0=_
 rw[iD (L:=qp.a (l,t,o) name o.2.2.1 (o.2.2.1.length:Int)) (fun i=>decide ((rd (τ:=aA) o.2.2.1 (i:Int)).1=name)&& !(rd (τ:=aA) o.2.2.1 (i:Int)).2.1) (fun i=>some (rd (τ:= .int .i64) l.1 (i:Int),true)) o.2.2.1.length fun i hi=> ?_]
 ·unfold u9
  show(if u6 o name<0 then _ else _)=some (if u6 o name<0 then _ else _)
  by_cases hf:u6 o name<0
  ·rw[if_pos hf,if_pos hf,qp.a_eq,ab,decide_eq_false (Nat.lt_irrefl _),cond_false]
   show qp.b (l,t,o) name o.2.2.2.1 (o.2.2.2.1.length:Int) 0=_
   rw[iD (L:=qp.b (l,t,o) name o.2.2.2.1 (o.2.2.2.1.length:Int)) (fun i=>decide ((rd (τ:=bc) o.2.2.2.1 (i:Int)).1=name)) (fun i=>some (rd (τ:= .int .i64) l.2.2.1 (i:Int),true)) o.2.2.2.1.length fun i hi=> ?_]
   ·show(if u7 o name<0 then _ else _)=some (if u7 o name<0 then _ else _)
    by_cases hd:u7 o name<0
    ·rw[if_pos hd,if_pos hd,qp.b_eq,ab,decide_eq_false (Nat.lt_irrefl _),cond_false,(dE t _ (by omega)).1]
     simp only[Option.bind_some]
     have hr:=dL t name
     by_cases he:ci t name<0
     ·rw[if_pos he,decide_eq_true he];rfl
     ·rw[if_neg he,decide_eq_false he,inL_true (by omega) (by omega)];rfl
    ·rw[if_neg hd,if_neg hd];rfl
   ·rw[qp.b_eq,ab,ae,decide_eq_true hi,ah i _ hi (by omega),aM,ae,show decide (i<l.2.2.1.length)=true from decide_eq_true (by rw[hl.d];exact hi)]
    simp only[cond_true]
  ·rw[if_neg hf,if_neg hf];rfl
 ·rw[qp.a_eq,ab,ae,decide_eq_true hi,ah i _ hi (by omega),aM,ae,show decide (i<l.1.length)=true from decide_eq_true (by rw[hl.a];exact hi)]
  simp only[cond_true]
  cases decide ((rd (τ:=aA) o.2.2.1 (i:Int)).1=name)<;>cases (rd (τ:=aA) o.2.2.1 (i:Int)).2.1<;>rfl
theorem Ed (t:List da) (o:bn) (l:eT) (name:ByteArray) (ht:t.length≤64) (hz:ObjSz o) (hl:ew o l):rV t o l name=some (u9 t o l name):=by
 have h1:=hz.f
 have h2:=hz.d
 rw[Jy]
 rw[iD (L:=rV.a t name o l) (fun i=>decide ((rd (τ:=aA) o.2.2.1 (i:Int)).1=name)&& !(rd (τ:=aA) o.2.2.1 (i:Int)).2.1) (fun i=>some (rd (τ:= .int .i64) l.1 (i:Int),true)) o.2.2.1.length fun i hi=> ?_]
 ·unfold u9
  show(if u6 o name<0 then _ else _)=some (if u6 o name<0 then _ else _)
  by_cases hf:u6 o name<0
  ·rw[if_pos hf,if_pos hf,rV.a_eq,ab,decide_eq_false (Nat.lt_irrefl _),cond_false]
   rw[iD (L:=rV.b t name o l) (fun i=>decide ((rd (τ:=bc) o.2.2.2.1 (i:Int)).1=name)) (fun i=>some (rd (τ:= .int .i64) l.2.2.1 (i:Int),true)) o.2.2.2.1.length fun i hi=> ?_]
   ·show(if u7 o name<0 then _ else _)=some (if u7 o name<0 then _ else _)
    by_cases hd:u7 o name<0
    ·rw[if_pos hd,if_pos hd,rV.b_eq,ab,decide_eq_false (Nat.lt_irrefl _),cond_false,(dE t _ (by omega)).2]
     simp only[Option.bind_some]
     have hr:=dL t name
     by_cases he:ci t name<0
     ·rw[if_pos he,decide_eq_true he];rfl
     ·rw[if_neg he,decide_eq_false he,inL_true (by omega) (by omega)];rfl
    ·rw[if_neg hd,if_neg hd];rfl
   ·rw[rV.b_eq,ab,ae,decide_eq_true hi,ah i _ hi (by omega),aM,ae,show decide (i<l.2.2.1.length)=true from decide_eq_true (by rw[hl.d];exact hi)]
    simp only[cond_true]
  ·rw[if_neg hf,if_neg hf];rfl
 ·rw[rV.a_eq,ab,ae,decide_eq_true hi,ah i _ hi (by omega),aM,ae,show decide (i<l.1.length)=true from decide_eq_true (by rw[hl.a];exact hi)]
  simp only[cond_true]
  cases decide ((rd (τ:=aA) o.2.2.1 (i:Int)).1=name)<;>cases (rd (τ:=aA) o.2.2.1 (i:Int)).2.1<;>rfl
def Au (t:List da):Prop:=t.length≤64∧∀i:Nat,i<t.length→dn (rd (τ:=aT) t (i:Int))=true
theorem Ee {e:da} (h:dn e=true):0≤e.2.2.1∧e.2.2.1≤1048575:=by
 unfold dn at h
 cases h1:cf e.1 with
 |false=>rw[h1]at h;cases h
 |true=>
  cases h2:bT e.2.2.1 with
  |false=>rw[h1,h2]at h;cases h
  |true=>exact kx h2
theorem xh (t:List da) (o:bn) (l:eT) (name:ByteArray) (ht:Au t) (hl:ew o l):0≤(u9 t o l name).1∧(u9 t o l name).1≤1048575:=by
 unfold u9
 split
 ·split
  ·split
   ·simp
   ·rename_i h1 h2 h3
    have hr:=dL t name
    have:=ht.2 (ci t name).toNat (by omega)
    rw[show(((ci t name).toNat:Nat):Int)=ci t name by omega]at this
    exact Ee this
  ·rename_i h1 h2
   have:=hl.ds _ (u4 _ _ h2)
   exact⟨this.1,this.2.1⟩
 ·rename_i h1
  have:=hl.fa _ (u4 _ _ h1)
  exact⟨this.1,this.2.1⟩
def gk (t:ByteArray) (i:Nat) (b:ByteArray):ByteArray:=t.extract 0 i++b++t.extract (i+b.size) t.size
theorem lC (t:ByteArray) (i:Nat) (b:ByteArray) (h:i+b.size≤t.size):(gk t i b).size=t.size:=by
 unfold gk
 simp only[ByteArray.size_append,ByteArray.size_extract]
 omega
theorem nd (t:ByteArray) (i:Nat) (b:ByteArray) (h:i+b.size≤t.size) (ht:t.size≤4096):PB t (i:Int) b=some (gk t i b):=by
 rw[Ly,aF (n:=(i:Int)+(b.size:Int)) (by omega) (by omega)]
 unfold gk
 rw[show(decide (0≤0)&&decide (0≤(i:Int))&&decide ((i:Int)≤(t.size:Int)))=true by simp;omega,show(decide (0≤(i:Int)+(b.size:Int))&&decide ((i:Int)+(b.size:Int)≤(t.size:Int))&&decide ((t.size:Int)≤(t.size:Int)))=true by simp;omega]
 rw[show(Int.toNat 0)=0 from rfl,Int.toNat_natCast,show((i:Int)+(b.size:Int)).toNat=i+b.size by omega,Int.toNat_natCast]
 rw[decide_eq_true (show(t.extract 0 i).size+b.size≤9223372036854775807 by simp only[ByteArray.size_extract];omega),decide_eq_true (show(t.extract 0 i++b).size+(t.extract (i+b.size) t.size).size≤9223372036854775807 by simp only[ByteArray.size_append,ByteArray.size_extract];omega)]
 rfl
theorem Ef {τ:Ty} (l:List τ.den) (k:Nat) (x:τ.den) (hk:k<l.length) (i:Nat) (hi:i<l.length):rd (τ:=τ) (l.set k x) (i:Int)=if i=k then x else rd (τ:=τ) l (i:Int):=by
 rw[aS _ _ (by rw[List.length_set];exact hi),aS _ _ hi,List.getElem_set]
 by_cases h:i=k
 ·rw[if_pos h,if_pos h.symm]
 ·rw[if_neg h,if_neg (fun e=>h e.symm)]
theorem ew.setB {o:bn} {l:eT} (h:ew o l) (k:Nat) (hk:k<o.2.2.2.1.length) (x:ByteArray) (hx:x.size=kA o k):ew o (l.1,l.2.1,l.2.2.1,l.2.2.2.set k x):=by
 refine⟨h.a,h.c,h.d,by simp only[List.length_set];exact h.b,h.cs,fun i hi=> ?_,h.fa,h.ds⟩
 simp only
 rw[Ef (τ:= .str) l.2.2.2 k x (by rw[h.b];exact hk) i (by rw[h.b];exact hi)]
 split
 ·rename_i e;rw[e];exact hx
 ·exact h.bs i hi
theorem ew.setC {o:bn} {l:eT} (h:ew o l) (k:Nat) (hk:k<o.2.2.1.length) (x:ByteArray) (hx:x.size=fW o k):ew o (l.1,l.2.1.set k x,l.2.2.1,l.2.2.2):=by
 refine⟨h.a,by simp only[List.length_set];exact h.c,h.d,h.b,fun i hi=> ?_,h.bs,h.fa,h.ds⟩
 simp only
 rw[Ef (τ:= .str) l.2.1 k x (by rw[h.c];exact hk) i (by rw[h.c];exact hi)]
 split
 ·rename_i e;rw[e];exact hx
 ·exact h.cs i hi
structure Av (o:bn) (r:Ic):Prop where
 at_:ii o r=true
 kind:1≤r.2.2.1∧r.2.2.1≤9
 word:r.2.2.1=9↔(o.2.2.1.length:Int)≤r.1
 add: -2147483648≤r.2.2.2.2∧r.2.2.2.2≤2147483647
theorem Aw {o:bn} {k:Nat} (h:k8 o k=0):Av o (rd (τ:=bU) o.2.2.2.2.1 (k:Int)):=by
 unfold k8 at h
 generalize rd (τ:=bU) o.2.2.2.2.1 (k:Int)=r at*
 split at h
 ·cases h
 split at h
 ·cases h
 split at h
 ·cases h
 split at h
 ·cases h
 rename_i h1 h2 h3 h4
 have h2:(cP r.2.2.1 1 9&&(decide (r.2.2.1=9)==decide (r.1≥(o.2.2.1.length:Int))))=true:=by
  cases h5:(cP r.2.2.1 1 9&&(decide (r.2.2.1=9)==decide (r.1≥(o.2.2.1.length:Int))));exact absurd h5 h2;rfl
 rw[Bool.and_eq_true,bj]at h2
 refine⟨?_,h2.1, ?_, ?_⟩
 ·cases h5:ii o r;exact absurd h5 h1;rfl
 ·have:=h2.2
  rw[beq_iff_eq,decide_eq_decide]at this
  exact this
 ·rw[←bj]
  cases h5:cP r.2.2.2.2 (-2147483648) 2147483647;exact absurd h5 h4;rfl
theorem Av.data {o:bn} {r:Ic} (ho:dT o) (h:Av o r) (hu:(o.2.2.1.length:Int)≤r.1):∃k j:Nat,r.1-(o.2.2.1.length:Int)=(k:Int)∧k<o.2.2.2.1.length∧r.2.1=(j:Int)∧8*j+8≤kA o k:=by
 have h1:=h.at_
 unfold ii at h1
 rw[Bool.and_eq_true,bj,bj]at h1
 refine⟨(r.1-(o.2.2.1.length:Int)).toNat,r.2.1.toNat,by omega,by omega,by omega, ?_⟩
 have hv:ej o r.1=((kA o (r.1-(o.2.2.1.length:Int)).toNat:Nat):Int)/8:=by
  unfold ej
  rw[if_neg (by omega),if_pos ⟨hu,by omega⟩,Int.tdiv_eq_ediv_of_nonneg (by omega)]
  unfold kA
  rw[show(((r.1-(o.2.2.1.length:Int)).toNat:Nat):Int)=r.1-(o.2.2.1.length:Int) by omega]
 have:=ho.dsz_pos (r.1-(o.2.2.1.length:Int)).toNat (by omega)
 omega
theorem Av.code {o:bn} {r:Ic} (ho:dT o) (h:Av o r) (hu:¬(o.2.2.1.length:Int)≤r.1):∃k j:Nat,r.1=(k:Int)∧k<o.2.2.1.length∧r.2.1=(j:Int)∧4*j+4≤fW o k:=by
 have h1:=h.at_
 unfold ii at h1
 rw[Bool.and_eq_true,bj,bj]at h1
 refine⟨r.1.toNat,r.2.1.toNat,by omega,by omega,by omega, ?_⟩
 have hv:ej o r.1=((fW o r.1.toNat:Nat):Int)/4:=by
  unfold ej
  rw[if_pos ⟨by omega,by omega⟩,Int.tdiv_eq_ediv_of_nonneg (by omega)]
  unfold fW
  rw[show((r.1.toNat:Nat):Int)=r.1 by omega]
 have:=ho.fsz_pos r.1.toNat (by omega)
 omega
theorem yY (n:Nat) (h:n≤4096):av (0+n) 16=true:=jC _ (by omega)
theorem xi (t:List da) (o:bn) (l:eT) (r:Ic) (ht:Au t) (ho:dT o) (hl:ew o l) (hr:Av o r):
  ∃l' c,QT (l,t,o) r=some (c,l',t,o)∧QB t o l r=some (l',c)∧ew o l'∧l'.1=l.1:=by
 have h1:=ho.f
 have h2:=ho.d
 have hs:=xh t o l r.2.2.2.1 ht hl
 have hadd:=hr.add
 rw[LG,JF,Ec t o l _ ht.1 ho.toObjSz hl,Ed t o l _ ht.1 ho.toObjSz hl]
 simp only[Option.bind_some]
 generalize u9 t o l r.2.2.2.1=s at*
 cases hs2:s.2 with
 |false=>exact⟨l,23,rfl,rfl,hl,rfl⟩
 |true=>
  have hat:=hr.at_
  unfold ii at hat
  rw[Bool.and_eq_true,bj,bj]at hat
  rw[aF (n:=r.1-(o.2.2.1.length:Int)) (by omega) (by omega),aF (n:=s.1+r.2.2.2.2) (by omega) (by omega)]
  simp only[Bool.not_true,cond_false]
  by_cases hu:(o.2.2.1.length:Int)≤r.1
  ·obtain⟨k,j,e1,hk,e2,hj⟩:=hr.data ho hu
   have hd:=ho.dsz_pos k hk
   have hsz:=hl.bs k hk
   rw[decide_eq_true (show r.1-(o.2.2.1.length:Int)≥0 by omega),decide_eq_true (show r.1≥(o.2.2.1.length:Int) from hu),e1,e2,ae,decide_eq_true (show k<l.2.2.2.length by rw[hl.b];exact hk),aF (n:=8*(j:Int)) (by omega) (by omega),aF (n:=8*(j:Int)+8) (by omega) (by omega),yY l.2.2.2.length (by rw[hl.b];omega),
    show(8:Int)*(j:Int)=((8*j:Nat):Int) by omega,show ws (s.1+r.2.2.2.2) 8=some (aI (pZ (s.1+r.2.2.2.2) 8)) from k6 _ 8 (by omega)]
   rw[show wq (s.1+r.2.2.2.2) 8=some (aI (pZ (s.1+r.2.2.2.2) 8)) from jq _ 8 (by omega)]
   simp only[Option.bind_some,cond_true,letB]
   have hb:(aI (pZ (s.1+r.2.2.2.2) 8)).size=8:=by rw[cF,kZ]
   generalize aI (pZ (s.1+r.2.2.2.2) 8)=b at*
   rw[nd _ _ _ (by rw[hsz,hb];omega) (by rw[hsz];omega)]
   simp only[Option.bind_some]
   generalize rd (τ:= .str) l.2.2.2 (k:Int)=d at*
   refine⟨_,0,rfl, ?_,hl.setB k hk (gk d (8*j) b) (by rw[lC _ _ _ (by rw[hsz,hb];omega),hsz]),rfl⟩
   rw[show(decide (0≤0)&&decide (0≤((8*j:Nat):Int))&&decide (((8*j:Nat):Int)≤(d.size:Int)))=true by simp;omega,show(decide (0≤((8*j:Nat):Int)+8)&&decide (((8*j:Nat):Int)+8≤(d.size:Int))&&decide ((d.size:Int)≤(d.size:Int)))=true by simp;omega]
   rw[show(Int.toNat 0)=0 from rfl,Int.toNat_natCast,show(((8*j:Nat):Int)+8).toNat=8*j+8 by omega,Int.toNat_natCast,Int.toNat_natCast]
   rw[decide_eq_true (show(d.extract 0 (8*j)).size+b.size≤9223372036854775807 by simp only[ByteArray.size_extract];omega),decide_eq_true (show(d.extract 0 (8*j)++b).size+(d.extract (8*j+8) d.size).size≤9223372036854775807 by simp only[ByteArray.size_append,ByteArray.size_extract];omega)]
   unfold gk
   rw[hb]
   rfl
  ·obtain⟨k,j,e1,hk,e2,hj⟩:=hr.code ho hu
   have hd:=ho.fsz_pos k hk
   have hsz:=hl.cs k hk
   have hk8:1≤r.2.2.1∧r.2.2.1≤8:=by
    have:=hr.kind
    have h9:r.2.2.1≠9:=fun e=>hu (hr.word.1 e)
    omega
   have hat2:=hl.fa k hk
   rw[decide_eq_false (show¬r.1-(o.2.2.1.length:Int)≥0 by omega),decide_eq_false (show¬r.1≥(o.2.2.1.length:Int) from hu),e1,e2,ae,ae,decide_eq_true (show k<l.2.1.length by rw[hl.c];exact hk),decide_eq_true (show k<l.1.length by rw[hl.a];exact hk),aF (n:=4*(j:Int)) (by omega) (by omega),aF (n:=4*(j:Int)+4) (by omega) (by omega),yY l.2.1.length (by rw[hl.c];omega),
    show(4:Int)*(j:Int)=((4*j:Nat):Int) by omega]
   simp only[cond_false,cond_true,letB]
   generalize rd (τ:= .str) l.2.1 (k:Int)=d at*
   obtain⟨a,ha⟩:∃x:Int,rd (τ:= .int .i64) l.1 (k:Int)=x:=⟨_,rfl⟩
   rw[ha]at hat2
   simp only[ha]
   have hat3:0≤a∧a≤1048575:=⟨hat2.1,hat2.2.1⟩
   rw[show(decide (0≤((4*j:Nat):Int))&&decide (((4*j:Nat):Int)≤((4*j:Nat):Int)+4)&&decide (((4*j:Nat):Int)+4≤(d.size:Int)))=true by simp;omega,show(decide (0≤0)&&decide (0≤((4*j:Nat):Int))&&decide (((4*j:Nat):Int)≤(d.size:Int)))=true by simp;omega,show(decide (0≤((4*j:Nat):Int)+4)&&decide (((4*j:Nat):Int)+4≤(d.size:Int))&&decide ((d.size:Int)≤(d.size:Int)))=true by simp;omega]
   rw[show(Int.toNat 0)=0 from rfl,Int.toNat_natCast,show(((4*j:Nat):Int)+4).toNat=4*j+4 by omega,Int.toNat_natCast,Int.toNat_natCast]
   have hx:(d.extract (4*j) (4*j+4)).size=4:=by simp only[ByteArray.size_extract];omega
   rw[gF _ (by omega),hx,nq d (4*j) (4*j+4) (by omega) 4 0 (by omega),Nat.add_zero]
   rw[show wj d ((4*j:Nat):Int) 4=some (IntKind.wrap .i64 (ke d (4*j) 4)) from gG d (4*j) 4 (by omega) (by omega)]
   have h4:=Ri d (4*j)
   rw[aF (n:=(ke d (4*j) 4:Int)) (by omega) (by omega),aF (n:=a+((4*j:Nat):Int)) (by omega) (by omega)]
   simp only[Option.bind_some,cond_true]
   obtain⟨q,q1,q2⟩:=qZ (ke d (4*j) 4:Int) r.2.2.1 (s.1+r.2.2.2.2) (a+((4*j:Nat):Int)) h4 hk8 ⟨by omega,by omega⟩ ⟨by omega,by omega⟩
   rw[q1,q2]
   simp only[Option.bind_some]
   by_cases hq:q.2=0
   ·rw[decide_eq_true hq,show ws q.1 4=some (aI (pZ q.1 4)) from k6 _ 4 (by omega),show wq q.1 4=some (aI (pZ q.1 4)) from jq _ 4 (by omega)]
    have hb:(aI (pZ q.1 4)).size=4:=by rw[cF,kZ]
    simp only[Option.bind_some,cond_true,Bool.not_true,cond_false]
    generalize aI (pZ q.1 4)=b at*
    rw[nd _ _ _ (by omega) (by omega)]
    simp only[Option.bind_some]
    refine⟨_,q.2,rfl, ?_,hl.setC k hk (gk d (4*j) b) (by rw[lC _ _ _ (by omega),hsz]),rfl⟩
    rw[decide_eq_true (show(d.extract 0 (4*j)).size+b.size≤9223372036854775807 by simp only[ByteArray.size_extract];omega),decide_eq_true (show(d.extract 0 (4*j)++b).size+(d.extract (4*j+4) d.size).size≤9223372036854775807 by simp only[ByteArray.size_append,ByteArray.size_extract];omega),hq]
    unfold gk
    rw[hb]
    rfl
   ·rw[decide_eq_false hq]
    exact⟨l,q.2,rfl,rfl,hl,rfl⟩
def cY {α:Type} (p:Nat→Bool) (f:Nat→α):Nat→Nat→List α
 |_,0=>[]
 |i,k+1=>bif p i then f i::cY p f (i+1) k else cY p f (i+1) k
theorem bS {α:Type} (p:Nat→Bool) (f:Nat→α):∀k i,(cY p f i k).length≤k
 |0,_=>Nat.le_refl _
 |k+1,i=>by
  have:=bS p f k (i+1)
  rw[cY]
  cases p i
  ·rw[cond_false];omega
  ·rw[cond_true,List.length_cons];omega
theorem Ax {α β:Type} (L:List α→Int→Option β) (p:Nat→Bool) (f:Nat→α) (n A:Nat) (hstep:∀acc (i:Nat),i<n→acc.length≤A+i→L acc (i:Int)=bif p i then L (acc++[f i]) ((i+1:Nat):Int)else L acc ((i+1:Nat):Int)):
  ∀(k i:Nat) (acc:List α),i+k=n→acc.length≤A+i→L acc (i:Int)=L (acc++cY p f i k) (n:Int):=by
 intro k
 induction k with
 |zero=>
   intro i acc h _;have:i=n:=by omega
   subst this;rw[cY,List.append_nil]
 |succ k ih=>
  intro i acc h ha
  rw[hstep acc i (by omega) ha,cY]
  cases p i with
  |false=>rw[cond_false,cond_false,ih (i+1) _ (by omega) (by omega)]
  |true=>rw[cond_true,cond_true,ih (i+1) _ (by omega) (by simp;omega),List.append_assoc];rfl
theorem cZ {α β:Type} {L:List α→Int→Option β} (p:Nat→Bool) (f:Nat→α) (n:Nat) (acc:List α) (hstep:∀acc' (i:Nat),i<n→acc'.length≤acc.length+i→L acc' (i:Int)=bif p i then L (acc'++[f i]) ((i+1:Nat):Int)else L acc' ((i+1:Nat):Int)):L acc 0=L (acc++cY p f 0 n) (n:Int):=
 Ax L p f n acc.length hstep n 0 acc (by omega) (by omega)
def mB (t:List da) (o:bn) (l:eT):List Int:=
 cY (fun i=>decide ((rd (τ:=aT) t (i:Int)).2.1=1)) (fun i=>(rd (τ:=aT) t (i:Int)).2.2.1) 0 t.length++
  cY (fun i=> !(rd (τ:=aA) o.2.2.1 (i:Int)).2.1) (fun i=>rd (τ:= .int .i64) l.1 (i:Int)) 0 o.2.2.1.length
theorem qG (t:List da) (o:bn) (l:eT) (ht:t.length≤64) (hz:ObjSz o):(mB t o l).length≤68:=by
 have:=hz.f
 unfold mB
 have h1:=bS (fun i=>decide ((rd (τ:=aT) t (i:Int)).2.1=1)) (fun i=>(rd (τ:=aT) t (i:Int)).2.2.1) t.length 0
 have h2:=bS (fun i=> !(rd (τ:=aA) o.2.2.1 (i:Int)).2.1) (fun i=>rd (τ:= .int .i64) l.1 (i:Int)) o.2.2.1.length 0
 rw[List.length_append];omega
theorem xj (t:List da) (o:bn) (l:eT) (ht:t.length≤64) (hz:ObjSz o) (hl:ew o l):nk (l,t,o)=some (mB t o l):=by
 have h1:=hz.f
 rw[LH]
 show nk.a (l,t,o) [] t (t.length:Int) 0=_
 rw[cZ (L:=fun acc i=>nk.a (l,t,o) acc t (t.length:Int) i) (fun i=>decide ((rd (τ:=aT) t (i:Int)).2.1=1)) (fun i=>(rd (τ:=aT) t (i:Int)).2.2.1) t.length [] fun acc i hi ha=> ?_]
 ·rw[nk.a_eq,ab,decide_eq_false (Nat.lt_irrefl _),cond_false,List.nil_append]
  have hf:=bS (fun i=>decide ((rd (τ:=aT) t (i:Int)).2.1=1)) (fun i=>(rd (τ:=aT) t (i:Int)).2.2.1) t.length 0
  show nk.b (l,t,o) _ o.2.2.1 (o.2.2.1.length:Int) 0=_
  rw[cZ (L:=fun acc i=>nk.b (l,t,o) acc o.2.2.1 (o.2.2.1.length:Int) i) (fun i=> !(rd (τ:=aA) o.2.2.1 (i:Int)).2.1) (fun i=>rd (τ:= .int .i64) l.1 (i:Int)) o.2.2.1.length (cY (fun i=>decide ((rd (τ:=aT) t (i:Int)).2.1=1)) (fun i=>(rd (τ:=aT) t (i:Int)).2.2.1) 0 t.length) fun acc i hi ha=> ?_]
  ·show nk.b (l,t,o) _ o.2.2.1 (o.2.2.1.length:Int) (o.2.2.1.length:Int)=_
   rw[nk.b_eq,ab,decide_eq_false (Nat.lt_irrefl _),cond_false];rfl
  ·show nk.b (l,t,o) acc o.2.2.1 (o.2.2.1.length:Int) (i:Int)=_
   rw[nk.b_eq,ab,ae,decide_eq_true hi,ah i _ hi (by omega),ae,show decide (i<l.1.length)=true from decide_eq_true (by rw[hl.a];exact hi),jD _ (by simp;omega)]
   cases (rd (τ:=aA) o.2.2.1 (i:Int)).2.1<;>rfl
 ·show nk.a (l,t,o) acc t (t.length:Int) (i:Int)=_
  rw[nk.a_eq,ab,ae,decide_eq_true hi,ah i _ hi (by omega),jD _ (by simp at ha⊢;omega)]
  cases decide ((rd (τ:=aT) t (i:Int)).2.1=1)<;>rfl
theorem xk (t:List da) (o:bn) (l:eT) (ht:t.length≤64) (hz:ObjSz o) (hl:ew o l) (x8:eT) (x9 x10 a b:bl):fX.b t o x8 x9 x10 l a b [] 0=fX.d o x8 x9 x10 l a b (mB t o l) 0:=by
 have h1:=hz.f
 rw[cZ (L:=fun acc i=>fX.b t o x8 x9 x10 l a b acc i) (fun i=>decide ((rd (τ:=aT) t (i:Int)).2.1=1)) (fun i=>(rd (τ:=aT) t (i:Int)).2.2.1) t.length [] fun acc i hi ha=> ?_]
 ·rw[fX.b_eq,ab,decide_eq_false (Nat.lt_irrefl _),cond_false,List.nil_append]
  have hf:=bS (fun i=>decide ((rd (τ:=aT) t (i:Int)).2.1=1)) (fun i=>(rd (τ:=aT) t (i:Int)).2.2.1) t.length 0
  rw[cZ (L:=fun acc i=>fX.c o x8 x9 x10 l a b acc i) (fun i=> !(rd (τ:=aA) o.2.2.1 (i:Int)).2.1) (fun i=>rd (τ:= .int .i64) l.1 (i:Int)) o.2.2.1.length (cY (fun i=>decide ((rd (τ:=aT) t (i:Int)).2.1=1)) (fun i=>(rd (τ:=aT) t (i:Int)).2.2.1) 0 t.length) fun acc i hi ha=> ?_]
  ·rw[fX.c_eq,ab,decide_eq_false (Nat.lt_irrefl _),cond_false];rfl
  ·show fX.c o x8 x9 x10 l a b acc (i:Int)=_
   rw[fX.c_eq,ab,ae,decide_eq_true hi,ah i _ hi (by omega),ae,show decide (i<l.1.length)=true from decide_eq_true (by rw[hl.a];exact hi),jD _ (by simp;omega)]
   cases (rd (τ:=aA) o.2.2.1 (i:Int)).2.1<;>rfl
 ·show fX.b t o x8 x9 x10 l a b acc (i:Int)=_
  rw[fX.b_eq,ab,ae,decide_eq_true hi,ah i _ hi (by omega),jD _ (by simp at ha⊢;omega)]
  cases decide ((rd (τ:=aT) t (i:Int)).2.1=1)<;>rfl
theorem gC (o:bn) (hz:ObjSz o) (x5 x6:bl) (x8:eT) (x9 x10:bl) (s:Rk) (c:Int) (hc:c≠0):∀k i:Nat,i+k=o.2.2.2.2.1.length→
  dV.c x5 x6 o x8 x9 x10 s c o.2.2.2.2.1 (o.2.2.2.2.1.length:Int) (i:Int)=dV.d x5 x6 x8 x9 x10 s c o.2.2.1 (o.2.2.1.length:Int) 0:=by
 have h1:=hz.r
 intro k
 induction k with
 |zero=>
   intro i h;have:i=o.2.2.2.2.1.length:=by omega
   subst this;rw[dV.c_eq,ab,decide_eq_false (Nat.lt_irrefl _),cond_false]
 |succ k ih=>
  intro i h
  have hi:i<o.2.2.2.2.1.length:=by omega
  rw[dV.c_eq,ab,ae,decide_eq_true hi,ah i _ hi (by omega),decide_eq_false hc,ih (i+1) (by omega)];rfl
abbrev ZL:eT:=([],[],[],[])
abbrev ZA:bl:=(0,0,0)
theorem Ay (t:List da) (o:bn) (ht:Au t) (ho:dT o) (x5 x6:bl) (x8:eT) (x9 x10:bl) (a b:bl):∀(k i:Nat) (l:eT),i+k=o.2.2.2.2.1.length→ew o l→
  ∃l' c,dV.c x5 x6 o x8 x9 x10 (l,t,o) 0 o.2.2.2.2.1 (o.2.2.2.2.1.length:Int) (i:Int)=dV.d x5 x6 x8 x9 x10 (l',t,o) c o.2.2.1 (o.2.2.1.length:Int) 0∧
   (c=0→ew o l'∧l'.1=l.1∧fX.a t o ZL ZA ZA l a b (i:Int)=fX.b t o ZL ZA ZA l' a b [] 0)∧(c≠0→fX.a t o ZL ZA ZA l a b (i:Int)=some (ZL,ZA,ZA,c)):=by
 have h1:=ho.r
 intro k
 induction k with
 |zero=>
  intro i l h hl
  have:i=o.2.2.2.2.1.length:=by omega
  subst this
  rw[dV.c_eq,ab,decide_eq_false (Nat.lt_irrefl _),cond_false,fX.a_eq,ab,decide_eq_false (Nat.lt_irrefl _),cond_false]
  exact⟨l,0,rfl,fun _=>⟨hl,rfl,rfl⟩,fun h=>absurd rfl h⟩
 |succ k ih=>
  intro i l h hl
  have hi:i<o.2.2.2.2.1.length:=by omega
  obtain⟨l1,c,e1,e2,hl1,hl2⟩:=xi t o l (rd (τ:=bU) o.2.2.2.2.1 (i:Int)) ht ho hl (Aw (ho.rel i hi))
  rw[dV.c_eq,ab,ae,decide_eq_true hi,ah i _ hi (by omega),fX.a_eq,ab,ae,decide_eq_true hi,ah i _ hi (by omega),e1,e2]
  simp only[cond_true,decide_true,Option.bind_some]
  by_cases hc:c=0
  ·subst hc
   obtain⟨l',c',g1,g2,g3⟩:=ih (i+1) l1 (by omega) hl1
   exact⟨l',c',g1,fun h=>⟨(g2 h).1,(g2 h).2.1.trans hl2,(g2 h).2.2⟩,g3⟩
  ·rw[gC o ho.toObjSz x5 x6 x8 x9 x10 (l1,t,o) c hc k (i+1) (by omega),decide_eq_false hc]
   exact⟨l1,c,rfl,fun h=>absurd h hc,fun _=>rfl⟩
theorem d7 (o:bn) (hz:ObjSz o) (x5 x6:bl) (x8:eT) (x9 x10:bl) (s:Rk) (c:Int) (hc:c≠0):∀k i:Nat,i+k=o.2.2.1.length→
  dV.d x5 x6 x8 x9 x10 s c o.2.2.1 (o.2.2.1.length:Int) (i:Int)=some (ZL,ZA,ZA,c):=by
 have h1:=hz.f
 intro k
 induction k with
 |zero=>
   intro i h;have:i=o.2.2.1.length:=by omega
   subst this;rw[dV.d_eq,ab,decide_eq_false (Nat.lt_irrefl _),cond_false,decide_eq_false hc];rfl
 |succ k ih=>
  intro i h
  have hi:i<o.2.2.1.length:=by omega
  rw[dV.d_eq,ab,ae,decide_eq_true hi,ah i _ hi (by omega),decide_eq_false hc,ih (i+1) (by omega)];rfl
theorem xl (t:List da) (o:bn) (ht:Au t) (ho:dT o) (x8:eT) (x9 x10:bl) (a b:bl) (l:eT) (hl:ew o l):∀(k i:Nat),i+k=o.2.2.1.length→
  ∃v,dV.d a b x8 x9 x10 (l,t,o) 0 o.2.2.1 (o.2.2.1.length:Int) (i:Int)=some v∧fX.d o ZL ZA ZA l a b (mB t o l) (i:Int)=some v∧(v.2.2.2=0→v=(l,a,b,0)):=by
 have h1:=ho.f
 intro k
 induction k with
 |zero=>
  intro i h
  have:i=o.2.2.1.length:=by omega
  subst this
  rw[dV.d_eq,ab,decide_eq_false (Nat.lt_irrefl _),cond_false,fX.d_eq,ab,decide_eq_false (Nat.lt_irrefl _),cond_false]
  exact⟨(l,a,b,0),rfl,rfl,fun _=>rfl⟩
 |succ k ih=>
  intro i h
  have hi:i<o.2.2.1.length:=by omega
  have hsz:=hl.cs i hi
  have hfs:=ho.fsz_pos i hi
  have hcl:=qG t o l ht.1 ho.toObjSz
  obtain⟨v,e1,e2⟩:=sf (rd (τ:= .str) l.2.1 (i:Int)) (rd (τ:= .int .i64) l.1 (i:Int)) (rd (τ:=aA) o.2.2.1 (i:Int)).2.2.1 (mB t o l) (by omega) (by omega)
  rw[dV.d_eq,ab,ae,decide_eq_true hi,ah i _ hi (by omega),fX.d_eq,ab,ae,decide_eq_true hi,ah i _ hi (by omega),xj t o l ht.1 ho.toObjSz hl]
  rw[ae,ae,show decide (i<l.2.1.length)=true from decide_eq_true (by rw[hl.c];exact hi),show decide (i<l.1.length)=true from decide_eq_true (by rw[hl.a];exact hi),decide_eq_true hi]
  simp only[cond_true,decide_true,Option.bind_some]
  rw[e1,e2]
  simp only[Option.bind_some]
  by_cases hv:v.2=0
  ·rw[hv]
   exact ih (i+1) (by omega)
  ·rw[d7 o ho.toObjSz a b x8 x9 x10 (l,t,o) v.2 hv k (i+1) (by omega),decide_eq_false hv]
   exact⟨(ZL,ZA,ZA,v.2),rfl,rfl,fun h=>absurd h hv⟩
structure Eg (t:List da) (a b:bl) (o:bn) (v:eT×bl×bl×Int):Prop where
 lnk:ew o v.1
 ea:v.2.1=(dg o a b).2.1
 eb:v.2.2.1=(dg o a b).2.2.1
 ok:(dg o a b).2.2.2=true
 ats:v.1.1=(dg o a b).1.1
 names:fV t o=0
theorem vb (f:Int) (hf:f≠0) (ok:Bool):after f ok=f:=by unfold after;rw[if_neg (fun h=>hf h.1)]
theorem Az (t:List da) (a b:bl) (o:bn) (ht:Au t) (ha:cb a) (hb:cb b) (ho:dT o) (x8:eT) (x9 x10:bl):
  ∃v,dV.a a b o x8 x9 x10 (([],[],[],[]),t,o) (fV t o) o.2.2.1 (o.2.2.1.length:Int) 0=some v∧fX t a b o=some v∧(v.2.2.2=0→Eg t a b o v):=by
 rw[Eb o ho.toUnitSz a b ha hb,JG,yz t o ht.1 ho.toObjSz]
 simp only[Option.bind_some]
 obtain⟨hl,hA,hB⟩:=u3 o ho a b ha hb
 by_cases hn:fV t o=0
 ·rw[hn]
  obtain⟨s1,s2⟩:=Ea o ho.toUnitSz a b ha hb
  cases hok:(dg o a b).2.2.2 with
  |false=>
   obtain⟨r,e1,e2⟩:=s2 hok
   rw[e1]
   simp only[Option.bind_some]
   rw[e2,show after 0 false=7 from rfl]
   refine⟨(ZL,ZA,ZA,7), ?_,rfl,fun h=>by cases h⟩
   rw[show(0:Int)=((0:Nat):Int) from rfl,gC o ho.toObjSz _ _ x8 x9 x10 ((dg o a b).1,t,o) 7 (by decide) o.2.2.2.2.1.length 0 (by omega)]
   exact d7 o ho.toObjSz _ _ x8 x9 x10 ((dg o a b).1,t,o) 7 (by decide) o.2.2.1.length 0 (by omega)
  |true=>
   rw[s1 hok]
   simp only[Option.bind_some]
   rw[hok,show after 0 true=0 from rfl]
   obtain⟨l',c,g1,g2,g3⟩:=Ay t o ht ho (dg o a b).2.1 (dg o a b).2.2.1 x8 x9 x10 (dg o a b).2.1 (dg o a b).2.2.1 o.2.2.2.2.1.length 0 (dg o a b).1 (by omega) hl
   have g1':dV.c (dg o a b).2.1 (dg o a b).2.2.1 o x8 x9 x10 ((dg o a b).1,t,o) 0 o.2.2.2.2.1 (o.2.2.2.2.1.length:Int) 0=_:=g1
   rw[g1']
   simp only[decide_true,Bool.not_true,cond_false]
   by_cases hc:c=0
   ·subst hc
    obtain⟨hl',hl2,g4⟩:=g2 rfl
    obtain⟨v,e1,e2,e3⟩:=xl t o ht ho x8 x9 x10 (dg o a b).2.1 (dg o a b).2.2.1 l' hl' o.2.2.1.length 0 (by omega)
    have g4':=xk t o l' ht.1 ho.toObjSz hl' ZL ZA ZA (dg o a b).2.1 (dg o a b).2.2.1
    refine⟨v,e1,g4.trans (g4'.trans e2),fun h=> ?_⟩
    rw[e3 h]
    exact⟨hl',rfl,rfl,hok,hl2,hn⟩
   ·refine⟨(ZL,ZA,ZA,c), ?_,g3 hc,fun h=>absurd h hc⟩
    exact d7 o ho.toObjSz _ _ x8 x9 x10 (l',t,o) c hc o.2.2.1.length 0 (by omega)
 ·rw[decide_eq_false hn,vb _ hn]
  refine⟨(ZL,ZA,ZA,fV t o), ?_,rfl,fun h=>absurd h hn⟩
  rw[show(0:Int)=((0:Nat):Int) from rfl,gC o ho.toObjSz _ _ x8 x9 x10 ((dg o a b).1,t,o) _ hn o.2.2.2.2.1.length 0 (by omega)]
  exact d7 o ho.toObjSz _ _ x8 x9 x10 ((dg o a b).1,t,o) _ hn o.2.2.1.length 0 (by omega)
theorem GV {t:List da} (h:nI t=true):Au t:=by
 unfold nI at h
 rw[Bool.and_eq_true,decide_eq_true_eq,fT]at h
 refine⟨h.1,fun i hi=> ?_⟩
 have:=h.2 i (Nat.zero_le _) (by omega)
 unfold vW at this
 cases h1:dn (rd (τ:=aT) t (i:Int))with
 |true=>rfl
 |false=>rw[h1]at this;cases this
theorem AA (t:List da) (a b:bl) (o:bn) (hr:so o) (ht:nI t=true) (ha:cb a) (hb:cb b) (ho:qf o=true):
  ∃v,dV t a b o=some v∧fX t a b o=some v∧(v.2.2.2=0→Eg t a b o v):=by
 have hT:=GV ht
 have hO:=lZ ho
 have:=hT.1
 obtain⟨v,e1,e2,e3⟩:=Az t a b o hT ha hb hO ([],[],[],[]) (0,0,0) (0,0,0)
 refine⟨v, ?_,e2,e3⟩
 rw[LI,decide_eq_false (show¬(t.length:Int)>4096 by omega),(ig t).1,ht,sk a,su.2 ha,sk b,su.2 hb,(iP o hr).1,ho]
 simp only[Option.bind_some,ax,Bool.not_true,cond_false]
 rw[yy _ _ _ hT.1 hO.toObjSz]
 exact e1
def updF (F:Int→Int) (a:Int) (t:ByteArray) (x:Int):Int:=if a≤x∧x<a+(t.size:Int)then bt t (x-a)else F x
def FR (F:Int→Int):Prop:=∀x,0≤F x∧F x≤255
theorem dH {F:Int→Int} (h:FR F) (a:Int) (t:ByteArray):FR (updF F a t):=by
 intro x
 unfold updF
 split
 ·exact vB _ _
 ·exact h x
def pg (F:Int→Int) (b:Int):ByteArray:=aI (bb (fun i=>F (b+(i:Int))) 0 128)
def b9 (F:Int→Int) (q:Int×Int):fq:=(q.1,q.2,pg F q.1)
def aw (F:Int→Int) (L:List (Int×Int)):List fq:=L.map (b9 F)
theorem fo (F:Int→Int) (b:Int):(pg F b).size=128:=by unfold pg;rw[cF,az]
theorem vd {α:Type} (f:Nat→α) (P:α→Prop) (k i:Nat) (h:∀j,P (f j)):∀x∈bb f i k,P x:=by
 intro x hx
 obtain⟨j,_,_,rfl⟩:=(cy f x k i).1 hx
 exact h j
theorem ve {F:Int→Int} (hF:FR F) (b i:Int) (h:0≤i) (h':i<128):bt (pg F b) i=F (b+i):=by
 obtain⟨n,rfl⟩:∃n:Nat,i=(n:Int):=⟨i.toNat,by omega⟩
 rw[fR]
 unfold pg
 rw[tF _ n (vd _ _ _ _ fun j=>hF _) (by rw[az];omega),fU,Nat.zero_add]
theorem pj (xs:List Int) (h:∀x∈xs,0≤x∧x≤255):eV (aI xs)=xs:=by
 unfold eV aI
 simp only[List.map_map]
 rw[List.map_congr_left (g:=id) fun x hx=> ?_,List.map_id]
 have:=h x hx
 simp only[Function.comp,id]
 rw[UInt8.toNat_ofNat']
 omega
theorem Eh {α:Type} (f:Nat→α) (n i:Nat) (x:α):(bb f 0 n).set i x=bb (fun j=>if j=i then x else f j) 0 n:=by
 apply List.ext_getElem
 ·rw[List.length_set,az,az]
 ·intro j h1 h2
  rw[List.getElem_set,fU,fU,Nat.zero_add]
  by_cases h:j=i
  ·rw[if_pos h.symm,if_pos h]
  ·rw[if_neg (fun e=>h e.symm),if_neg h]
theorem dI {α:Type} {f g:Nat→α}:∀(k i:Nat),(∀j,i≤j→j<i+k→f j=g j)→bb f i k=bb g i k
 |0,_,_=>rfl
 |k+1,i,h=>by rw[bb,bb,h i (Nat.le_refl _) (by omega),dI k (i+1) fun j h1 h2=>h j (by omega) (by omega)]
def lD (F:Int→Int) (a:Int) (t:ByteArray) (b:Int) (i:Nat):List Int:=bb (fun j=>if j<i then updF F a t (b+(j:Int))else F (b+(j:Int))) 0 128
structure ez (L:List (Int×Int)):Prop where
 len:L.length≤64
 base:∀q∈L,0≤q.1∧q.1≤1048575
def Ei (a:Int) (t:ByteArray):Prop:= -1099511627776≤a∧a≤1099511627776∧t.size≤1048576
theorem sY {F:Int→Int} (hF:FR F) (a:Int) (t:ByteArray) (hA:Ei a t) (x6 m:List fq) (k:Nat) (p:fq) (hp:0≤p.1∧p.1≤1048575) (x17 x18:Int) (hk:k<m.length):∀(d i:Nat),i+d=128→
  nE.b a t x6 m (k:Int) p (lD F a t p.1 i) x17 x18 128 (i:Int)=nE.a a t x6 (m.set k ((rd (τ:=aO) m (k:Int)).1,(rd (τ:=aO) m (k:Int)).2.1,aI (lD F a t p.1 128))) x17 (IntKind.wrap .i64 (x18+1)):=by
 obtain⟨a1,a2,a3⟩:=hA
 intro d
 induction d with
 |zero=>
  intro i h
  have:i=128:=by omega
  subst this
  rw[nE.b_eq,show decide (((128:Nat):Int)<128)=false by decide,cond_false,ae,decide_eq_true hk,Int.toNat_natCast];rfl
 |succ d ih=>
  intro i h
  have hi:i<128:=by omega
  have hs:lD F a t p.1 (i+1)=if a≤p.1+(i:Int)∧p.1+(i:Int)<a+(t.size:Int)then(lD F a t p.1 i).set i (bt t (p.1+(i:Int)-a))else lD F a t p.1 i:=by
   unfold lD
   split
   ·rename_i hc
    rw[Eh]
    apply dI
    intro j _ _
    by_cases hj:j=i
    ·subst hj
     rw[if_pos (by omega),if_pos rfl]
     unfold updF
     rw[if_pos hc]
    ·rw[if_neg hj]
     by_cases hj2:j<i
     ·rw[if_pos (by omega),if_pos hj2]
     ·rw[if_neg (by omega),if_neg hj2]
   ·rename_i hc
    apply dI
    intro j _ _
    by_cases hj:j=i
    ·subst hj
     rw[if_pos (by omega),if_neg (by omega)]
     unfold updF
     rw[if_neg hc]
    ·by_cases hj2:j<i
     ·rw[if_pos (by omega),if_pos hj2]
     ·rw[if_neg (by omega),if_neg hj2]
  have hl:(lD F a t p.1 i).length=128:=by unfold lD;rw[az]
  have ih':=ih (i+1) (by omega)
  rw[hs]at ih'
  rw[nE.b_eq,decide_eq_true (show(i:Int)<128 by omega),aF (n:=p.1+(i:Int)) (by omega) (by omega),aF (n:=p.1+(i:Int)-a) (by omega) (by omega),aF (n:=(t.size:Int)-1) (by omega) (by omega),aF (n:=(i:Int)+1) (by omega) (by omega),show(i:Int)+1=((i+1:Nat):Int) by omega,HL]
  simp only[cond_true,Option.bind_some]
  by_cases hc:a≤p.1+(i:Int)∧p.1+(i:Int)<a+(t.size:Int)
  ·rw[bj.2 (show 0≤p.1+(i:Int)-a∧p.1+(i:Int)-a≤(t.size:Int)-1 by omega),inL_true (i:=p.1+(i:Int)-a) (n:=t.size) (by omega) (by omega),ae,hl,decide_eq_true hi]
   rw[if_pos hc]at ih'
   simp only[cond_true,letB,Int.toNat_natCast]
   exact ih'
  ·rw[show cP (p.1+(i:Int)-a) 0 ((t.size:Int)-1)=false by cases h5:cP (p.1+(i:Int)-a) 0 ((t.size:Int)-1);rfl;rw[bj]at h5;omega]
   rw[if_neg hc]at ih'
   simp only[cond_false]
   exact ih'
theorem qH {F:Int→Int} (hF:FR F) (a:Int) (t:ByteArray) (hA:Ei a t) (L:List (Int×Int)) (hL:ez L) (x6:List fq):∀(d k:Nat),k+d=L.length→
  nE.a a t x6 (aw (updF F a t) (L.take k)++aw F (L.drop k)) (L.length:Int) (k:Int)=some (aw (updF F a t) L):=by
 have hn:=hL.len
 intro d
 induction d with
 |zero=>
  intro k h
  have:k=L.length:=by omega
  subst this
  rw[nE.a_eq,ab,decide_eq_false (Nat.lt_irrefl _),cond_false,List.take_length,List.drop_length]
  simp[aw]
 |succ d ih=>
  intro k h
  have hk:k<L.length:=by omega
  have hml:(aw (updF F a t) (L.take k)++aw F (L.drop k)).length=L.length:=by simp[aw];omega
  have hrd:rd (τ:=aO) (aw (updF F a t) (L.take k)++aw F (L.drop k)) (k:Int)=b9 F L[k]:=by
   rw[aS (τ:=aO) _ k (by rw[hml];exact hk),List.getElem_append_right (by simp[aw];omega)]
   simp[aw,List.getElem_drop]
   congr 2
   omega
  have hset:(aw (updF F a t) (L.take k)++aw F (L.drop k)).set k (b9 (updF F a t) L[k])=aw (updF F a t) (L.take (k+1))++aw F (L.drop (k+1)):=by
   rw[List.set_append_right _ _ (by simp[aw];omega)]
   have e:k-(aw (updF F a t) (L.take k)).length=0:=by simp[aw];omega
   rw[e]
   unfold aw
   rw[List.drop_eq_getElem_cons hk,List.map_cons,List.set_cons_zero,List.take_succ_eq_append_getElem hk,List.map_append,List.append_assoc]
   rfl
  have hq:=hL.base L[k] (List.getElem_mem hk)
  rw[nE.a_eq,ab,ae,hml,decide_eq_true hk,hrd]
  have hint:eV (pg F (L[k]).1)=lD F a t (L[k]).1 0:=by
   unfold pg
   rw[pj _ (vd _ _ _ _ fun j=>hF _)]
   unfold lD
   apply dI
   intro j _ _
   rw[if_neg (by omega)]
  show(bif true then bif true then bif decide ((pg F (L[k]).1).size≤9223372036854775807)then nE.b a t x6 _ (k:Int) (b9 F L[k]) (eV (pg F (L[k]).1)) (L.length:Int) (k:Int) ((eV (pg F (L[k]).1)).length:Int) 0 else none else none else _)=_
  rw[fo,hint,show(lD F a t (L[k]).1 0).length=128 by unfold lD;rw[az]]
  have hrow:=sY hF a t hA x6 (aw (updF F a t) (L.take k)++aw F (L.drop k)) k (b9 F L[k]) hq (L.length:Int) (k:Int) (by rw[hml];exact hk) 128 0 (by omega)
  rw[hrd]at hrow
  have hfin:aI (lD F a t (b9 F L[k]).1 128)=pg (updF F a t) (L[k]).1:=by
   unfold lD pg
   rw[dI (f:=fun j=>if j<128 then updF F a t ((b9 F L[k]).1+(j:Int))else F ((b9 F L[k]).1+(j:Int))) (g:=fun j=>updF F a t ((L[k]).1+(j:Int))) 128 0 fun j _ hj=>if_pos (by omega)]
  rw[hfin,ah k L.length hk (by omega)]at hrow
  have hset':(aw (updF F a t) (L.take k)++aw F (L.drop k)).set k ((b9 F L[k]).1,(b9 F L[k]).2.1,pg (updF F a t) (L[k]).1)=aw (updF F a t) (L.take (k+1))++aw F (L.drop (k+1)):=hset
  rw[hset']at hrow
  exact hrow.trans (ih (k+1) (by omega))
theorem pk (m:List fq) (h:m.length≤64):Z3 m=some m:=by
 rw[N8,show av m.length 32=true by simp[av];omega];rfl
theorem vf {F:Int→Int} (hF:FR F) (a:Int) (t:ByteArray) (hA:Ei a t) (L:List (Int×Int)) (hL:ez L):nE (aw F L) a t=some (aw (updF F a t) L):=by
 have hml:(aw F L).length=L.length:=by simp[aw]
 have hn:=hL.len
 rw[KY,KX,pk _ (by omega)]
 simp only[Option.bind_some]
 rw[hml]
 exact qH hF a t hA L hL [] L.length 0 (by omega)
theorem mC (a b:ByteArray) (i:Nat):bt (a++b) (i:Int)=if i<a.size then bt a (i:Int)else bt b ((i-a.size:Nat):Int):=by
 rw[fR,fR,fR]
 have hs:a.size=a.data.size:=rfl
 rw[ByteArray.data_append,Array.getD_eq_getD_getElem?,Array.getD_eq_getD_getElem?,Array.getD_eq_getD_getElem?,Array.getElem?_append,hs]
 split<;>rfl
theorem iE (t:ByteArray) (s e i:Nat) (h:s+i<e) (he:e≤t.size):bt (t.extract s e) (i:Int)=bt t ((s+i:Nat):Int):=by
 rw[fR,fR]
 have hs:t.size=t.data.size:=rfl
 rw[ByteArray.data_extract,Array.getD_eq_getD_getElem?,Array.getD_eq_getD_getElem?,Array.getElem?_extract,if_pos (by omega)]
theorem Ix {a b:ByteArray} (hs:a.size=b.size) (h:∀i:Nat,i<a.size→bt a (i:Int)=bt b (i:Int)):a=b:=by
 apply FQ hs
 intro i hi
 have:=h i hi
 rw[fR,fR]at this
 exact UInt8.toNat_inj.1 (by omega)
abbrev fJ:Ty:= .pair (.int .i64) (.int .i64)
def dJ (b a:Int):Bool:=decide (b≤a)&&decide (a≤b+127)
def dl (L:List (Int×Int)) (a:Int):Int:=dR (fun i=>dJ (rd (τ:=fJ) L (i:Int)).1 a) 0 L.length
theorem jr (F:Int→Int) (L:List (Int×Int)) (i:Nat) (h:i<L.length):rd (τ:=aO) (aw F L) (i:Int)=b9 F (rd (τ:=fJ) L (i:Int)):=by
 rw[aS (τ:=aO) (aw F L) i (by simp[aw];exact h),aS (τ:=fJ) L i h]
 simp[aw]
theorem jS {L:List (Int×Int)} (hL:ez L) (i:Nat) (h:i<L.length) {q:Int×Int} (hq:rd (τ:=fJ) L (i:Int)=q):0≤q.1∧q.1≤1048575:=by
 rw[aS (τ:=fJ) L i h]at hq;rw[←hq];exact hL.base _ (List.getElem_mem h)
def Iy (a:Int):Prop:= -1099511627776≤a∧a≤1099511627776
theorem AB (F:Int→Int) (L:List (Int×Int)) (hL:ez L) (a:Int) (ha:Iy a):QV (aw F L) a=some (dl L a):=by
 have hn:=hL.len
 obtain⟨a1,a2⟩:=ha
 have hml:(aw F L).length=L.length:=by simp[aw]
 rw[Mg,Mf,hml]
 rw[c6 (L:=Gu.a a (aw F L) (L.length:Int)) (fun i=>dJ (rd (τ:=fJ) L (i:Int)).1 a) L.length ?_ fun i hi=> ?_]
 ·rfl
 ·rw[Gu.a_eq,ab];simp
 ·rw[Gu.a_eq,ab,ae,hml,decide_eq_true hi,ah i _ hi (by omega),jr F L i hi,Me]
  obtain⟨q,hq⟩:∃q:Int×Int,rd (τ:=fJ) L (i:Int)=q:=⟨_,rfl⟩
  have hb:=jS hL i hi hq
  rw[hq]
  obtain⟨b,hbe⟩:∃b:Int,q.1=b:=⟨_,rfl⟩
  rw[hbe]at hb⊢
  show(bif true then bif true then(Option.bind (Option.bind (fY a (b9 F q).1 (IntKind.wrap .i64 (IntKind.wrap .i64 ((b9 F q).1+128)-1))) fun r1=>some r1) _)else none else _)=_
  rw[show(b9 F q).1=b from hbe,aF (n:=b+128) (by omega) (by omega),aF (n:=b+128-1) (by omega) (by omega),HL,show cP a b (b+128-1)=dJ b a by unfold cP dJ;rw[show b+128-1=b+127 by omega]]
  rfl
theorem mD (F:Int→Int) (L:List (Int×Int)) (hL:ez L) (a:Int) (ha:Iy a):zd (aw F L) a=some (dl L a):=by
 have hn:=hL.len
 obtain⟨a1,a2⟩:=ha
 have hml:(aw F L).length=L.length:=by simp[aw]
 rw[Jd]
 refine c6 (L:=zd.a a (aw F L)) (fun i=>dJ (rd (τ:=fJ) L (i:Int)).1 a) L.length ?_ fun i hi=> ?_
 ·rw[zd.a_eq,hml,ab];simp
 ·rw[zd.a_eq,hml,ab,ae,decide_eq_true hi,ah i _ hi (by omega),jr F L i hi]
  obtain⟨q,hq⟩:∃q:Int×Int,rd (τ:=fJ) L (i:Int)=q:=⟨_,rfl⟩
  have hb:=jS hL i hi hq
  rw[hq]
  obtain⟨b,hbe⟩:∃b:Int,q.1=b:=⟨_,rfl⟩
  rw[hbe]at hb⊢
  rw[show(b9 F q).1=b from hbe,aF (n:=a-b) (by omega) (by omega)]
  unfold dJ
  by_cases h1:b≤a
  ·rw[decide_eq_true h1,show decide (a-b<128)=decide (a≤b+127) by congr 1;apply propext;omega]
   cases decide (a≤b+127)<;>rfl
  ·rw[decide_eq_false h1];rfl
def xm (L:List (Int×Int)):Prop:=∀(i j:Nat) (a:Int),i<L.length→j<L.length→dJ (rd (τ:=fJ) L (i:Int)).1 a=true→dJ (rd (τ:=fJ) L (j:Int)).1 a=true→i=j
theorem js {L:List (Int×Int)} {a:Int} (h:0≤dl L a):∃(k:Nat) (q:Int×Int),dl L a=(k:Int)∧k<L.length∧rd (τ:=fJ) L (k:Int)=q∧q.1≤a∧a≤q.1+127:=by
 unfold dl at h⊢
 rcases cr (fun i=>dJ (rd (τ:=fJ) L (i:Int)).1 a) L.length 0 with⟨h1,_⟩|⟨j,h1,h2,h3,h4,_⟩
 ·omega
 ·unfold dJ at h4
  rw[Bool.and_eq_true,decide_eq_true_eq,decide_eq_true_eq]at h4
  exact⟨j,_,h1,by omega,rfl,h4.1,h4.2⟩
theorem GW (m:List fq) (h:m.length≤64):Qr m=some m:=by
 rw[Je,show av (0+m.length) 32=true by simp[av];omega];rfl
theorem sZ {F:Int→Int} (hF:FR F) (L:List (Int×Int)) (hL:ez L) (hN:xm L) (a:Int) (ha:Iy a) (t:ByteArray) (k:Nat) (hk:dl L a=(k:Int)) (hkl:k<L.length) {q:Int×Int} (hq:rd (τ:=fJ) L (k:Int)=q) (h1:q.1≤a) (h2:a+(t.size:Int)≤q.1+128):
  Qs (aw F L) a t=some (aw (updF F a t) L):=by
 have hn:=hL.len
 have hml:(aw F L).length=L.length:=by simp[aw]
 have hb:=jS hL k hkl hq
 rw[Jf,GW _ (by omega),mD F L hL a ha,hk]
 simp only[Option.bind_some]
 rw[ae,hml,decide_eq_true hkl,jr F L k hkl]
 rw[hq]
 obtain⟨j,hj⟩:∃j:Nat,a-q.1=(j:Int):=⟨(a-q.1).toNat,by omega⟩
 show(bif true then bif true then(bif decide (0≤0)&&decide (0≤IntKind.wrap .i64 (a-q.1))&&decide (IntKind.wrap .i64 (a-q.1)≤((pg F q.1).size:Int))then _ else none)else none else none)=_
 simp only[show(b9 F q).1=q.1 from rfl,show(b9 F q).2.1=q.2 from rfl,show(b9 F q).2.2=pg F q.1 from rfl]
 rw[aF (n:=a-q.1) (by omega) (by omega),hj,fo,aF (n:=(j:Int)+(t.size:Int)) (by omega) (by omega)]
 rw[show(decide (0≤0)&&decide (0≤(j:Int))&&decide ((j:Int)≤((128:Nat):Int)))=true by simp;omega,show(decide (0≤(j:Int)+(t.size:Int))&&decide ((j:Int)+(t.size:Int)≤((128:Nat):Int))&&decide (((128:Nat):Int)≤((128:Nat):Int)))=true by simp;omega]
 rw[show(Int.toNat 0)=0 from rfl,Int.toNat_natCast,show((j:Int)+(t.size:Int)).toNat=j+t.size by omega,Int.toNat_natCast,Int.toNat_natCast]
 have hz1:((pg F q.1).extract 0 j).size=j:=by rw[ByteArray.size_extract,fo];omega
 have hz2:((pg F q.1).extract (j+t.size) 128).size=128-(j+t.size):=by rw[ByteArray.size_extract,fo];omega
 rw[decide_eq_true (show((pg F q.1).extract 0 j).size+t.size≤9223372036854775807 by rw[hz1];omega),decide_eq_true (show((pg F q.1).extract 0 j++t).size+((pg F q.1).extract (j+t.size) 128).size≤9223372036854775807 by rw[ByteArray.size_append,hz1,hz2];omega)]
 have hpage:(pg F q.1).extract 0 j++t++(pg F q.1).extract (j+t.size) 128=pg (updF F a t) q.1:=by
  apply Ix
  ·rw[ByteArray.size_append,ByteArray.size_append,hz1,hz2,fo];omega
  ·intro i hi
   rw[ByteArray.size_append,ByteArray.size_append,hz1,hz2]at hi
   rw[ve (dH hF a t) _ _ (by omega) (by omega),mC,ByteArray.size_append,hz1,mC,hz1]
   unfold updF
   by_cases c1:i<j
   ·rw[if_pos (by omega),if_pos c1,if_neg (by omega),iE _ _ _ _ (by omega) (by rw[fo];omega),ve hF _ _ (by omega) (by omega),Nat.zero_add]
   ·by_cases c2:i<j+t.size
    ·rw[if_pos c2,if_neg c1,if_pos (by omega),show q.1+(i:Int)-a=((i-j:Nat):Int) by omega]
    ·rw[if_neg c2,if_neg (by omega),iE _ _ _ _ (by omega) (by rw[fo];omega),ve hF _ _ (by omega) (by omega)]
     congr 1;omega
 rw[hpage]
 show some ((aw F L).set k (b9 (updF F a t) q))=_
 congr 1
 apply List.ext_getElem
 ·simp[aw]
 ·intro i g1 g2
  have hi:i<L.length:=by simpa[aw]using g2
  rw[List.getElem_set]
  have e1:(aw (updF F a t) L)[i]=b9 (updF F a t) L[i]:=by simp[aw]
  have e2:(aw F L)[i]'(by simp[aw];exact hi)=b9 F L[i]:=by simp[aw]
  rw[e1,e2]
  have hqk:L[k]=q:=by rw[←hq,aS (τ:=fJ) L k hkl]
  by_cases c:k=i
  ·subst c
   rw[if_pos rfl,hqk]
  ·rw[if_neg c]
   unfold b9
   congr 2
   have hpg:∀x:Nat,x<128→F ((L[i]).1+(x:Int))=updF F a t ((L[i]).1+(x:Int)):=by
    intro x hx
    unfold updF
    rw[if_neg]
    intro hc
    refine c (hN k i ((L[i]).1+(x:Int)) hkl hi ?_ ?_)
    ·rw[hq];unfold dJ
     rw[Bool.and_eq_true,decide_eq_true_eq,decide_eq_true_eq];omega
    ·rw[aS (τ:=fJ) L i hi];unfold dJ
     rw[Bool.and_eq_true,decide_eq_true_eq,decide_eq_true_eq];omega
   unfold pg
   rw[dI 128 0 fun x _ hx=>hpg x (by omega)]
theorem xn (F:Int→Int) (a:Int) (t:ByteArray) (n:Nat) (hn:n≤t.size):updF (updF F a (t.extract 0 n)) (a+(n:Int)) (t.extract n t.size)=updF F a t:=by
 funext x
 have hz1:(t.extract 0 n).size=n:=by rw[ByteArray.size_extract];omega
 have hz2:(t.extract n t.size).size=t.size-n:=by rw[ByteArray.size_extract];omega
 unfold updF
 rw[hz1,hz2]
 by_cases c1:a+(n:Int)≤x∧x<a+(n:Int)+((t.size-n:Nat):Int)
 ·rw[if_pos c1,if_pos (by omega)]
  obtain⟨i,hi⟩:∃i:Nat,x-(a+(n:Int))=(i:Int):=⟨(x-(a+(n:Int))).toNat,by omega⟩
  rw[hi,iE _ _ _ _ (by omega) (Nat.le_refl _)]
  congr 1;omega
 ·rw[if_neg c1]
  by_cases c2:a≤x∧x<a+(n:Int)
  ·rw[if_pos c2,if_pos (by omega)]
   obtain⟨i,hi⟩:∃i:Nat,x-a=(i:Int):=⟨(x-a).toNat,by omega⟩
   rw[hi,iE _ _ _ _ (by omega) hn]
   congr 1;omega
  ·rw[if_neg c2,if_neg (by omega)]
theorem pm (F:Int→Int) (a:Int) (t:ByteArray) (h:t.size=0):updF F a t=F:=by
 funext x
 unfold updF
 rw[if_neg (by omega)]
theorem Ej (L:List (Int×Int)) (hL:ez L) (hN:xm L) (x6:List fq):∀(n:Nat) (F:Int→Int) (a:Int) (t:ByteArray),FR F→t.size≤n→ -1000000000≤a→a+(t.size:Int)≤1000000000→(∀x,a≤x→x<a+(t.size:Int)→0≤dl L x)→
  wo.a a t (aw F L) x6=some (aw (updF F a t) L):=by
 have hml:∀F,(aw F L).length=L.length:=by intro F;simp[aw]
 intro n
 induction n with
 |zero=>
  intro F a t hF ht h1 h2 hx
  have h0:t.size=0:=by omega
  rw[wo.a_eq,decide_eq_false (show¬(t.size:Int)>0 by omega),cond_false,pm F a t h0]
 |succ n ih=>
  intro F a t hF ht h1 h2 hx
  by_cases h0:t.size=0
  ·rw[wo.a_eq,decide_eq_false (show¬(t.size:Int)>0 by omega),cond_false,pm F a t h0]
  ·obtain⟨k,q,hk,hkl,hq,hb1,hb2⟩:=js (hx a (Int.le_refl _) (by omega))
   have hb:=jS hL k hkl hq
   rw[wo.a_eq,decide_eq_true (show(t.size:Int)>0 by omega),mD F L hL a ⟨by omega,by omega⟩,hk]
   simp only[cond_true,Option.bind_some]
   rw[ae,hml,decide_eq_true hkl,jr F L k hkl]
   rw[hq]
   simp only[show(b9 F q).1=q.1 from rfl,cond_true]
   rw[aF (n:=q.1+128) (by omega) (by omega),aF (n:=q.1+128-a) (by omega) (by omega)]
   obtain⟨m,hm⟩:∃m:Nat,(if q.1+128-a< (t.size:Int)then q.1+128-a else(t.size:Int))=(m:Int):=⟨(if q.1+128-a< (t.size:Int)then q.1+128-a else(t.size:Int)).toNat,by split<;>omega⟩
   have hm1:1≤m∧m≤t.size∧a+(m:Int)≤q.1+128:=by split at hm<;>omega
   rw[hm,aF (n:=a+(m:Int)) (by omega) (by omega)]
   rw[show(decide (0≤0)&&decide (0≤(m:Int))&&decide ((m:Int)≤(t.size:Int)))=true by simp;omega,show(decide (0≤(m:Int))&&decide ((m:Int)≤(t.size:Int))&&decide ((t.size:Int)≤(t.size:Int)))=true by simp;omega]
   rw[show(Int.toNat 0)=0 from rfl,Int.toNat_natCast,Int.toNat_natCast]
   have hz1:(t.extract 0 m).size=m:=by rw[ByteArray.size_extract];omega
   have hz2:(t.extract m t.size).size=t.size-m:=by rw[ByteArray.size_extract];omega
   rw[sZ hF L hL hN a ⟨by omega,by omega⟩ (t.extract 0 m) k hk hkl hq hb1 (by rw[hz1];exact hm1.2.2)]
   simp only[cond_true,Option.bind_some]
   rw[ih _ _ _ (dH hF _ _) (by omega) (by omega) (by omega) fun x g1 g2=>hx x (by omega) (by omega),xn F a t m hm1.2.1]
def s7 (F:Int→Int) (a:Int) (n:Nat):ByteArray:=aI (bb (fun i=>F (a+(i:Int))) 0 n)
theorem AC (F:Int→Int) (a:Int) (n:Nat):(s7 F a n).size=n:=by unfold s7;rw[cF,az]
theorem Ek (n:Nat) (h:n≤8192):av n 1=true:=by simp[av];omega
theorem xp {F:Int→Int} (hF:FR F) (L:List (Int×Int)) (hL:ez L) (a:Int) (n:Nat) (hn:n≤1024) (h1: -1000000000≤a) (h2:a≤1000000000) (hx:∀x,a≤x→x<a+(n:Int)→0≤dl L x):
  zA (aw F L) a (n:Int)=some (s7 F a n):=by
 have hml:(aw F L).length=L.length:=by simp[aw]
 rw[Mh]
 have key:=ck (L:=fun acc i=>zA.a a (n:Int) (aw F L) acc (a+i)) (fun i=>F (a+(i:Int))) n ([]:List Int) fun acc i hi ha=> ?_
 ·simp only[Int.add_zero,List.nil_append]at key
  rw[key,zA.a_eq,aF (n:=a+(n:Int)) (by omega) (by omega),decide_eq_false (show¬a+(n:Int)<a+(n:Int) by omega)];rfl
 ·simp only[List.length_nil,Nat.zero_add]at ha
  obtain⟨k,q,hk,hkl,hq,hb1,hb2⟩:=js (hx (a+(i:Int)) (by omega) (by omega))
  have hb:=jS hL k hkl hq
  show zA.a a (n:Int) (aw F L) acc (a+(i:Int))=zA.a a (n:Int) (aw F L) (acc++[F (a+(i:Int))]) (a+((i+1:Nat):Int))
  rw[zA.a_eq,aF (n:=a+(n:Int)) (by omega) (by omega),decide_eq_true (show a+(i:Int)<a+(n:Int) by omega),AB F L hL _ ⟨by omega,by omega⟩,hk]
  simp only[cond_true,Option.bind_some]
  rw[ae,hml,decide_eq_true hkl,jr F L k hkl,hq]
  simp only[show(b9 F q).1=q.1 from rfl,show(b9 F q).2.2=pg F q.1 from rfl,cond_true]
  rw[aF (n:=a+(i:Int)-q.1) (by omega) (by omega),aF (n:=a+(i:Int)+1) (by omega) (by omega),fo,inL_true (i:=a+(i:Int)-q.1) (n:=128) (by omega) (by omega),ve hF _ _ (by omega) (by omega),show q.1+(a+(i:Int)-q.1)=a+(i:Int) by omega,Ek _ (by simp;omega),show a+(i:Int)+1=a+((i+1:Nat):Int) by omega]
  rfl
theorem El {F:Int→Int} (hF:FR F) (L:List (Int×Int)) (hL:ez L) (a:Int) (n:Nat) (hn:n≤1024) (h1: -1000000000≤a) (h2:a≤1000000000) (hx:∀x,a≤x→x<a+(n:Int)→0≤dl L x):
  zf (aw F L) a (n:Int)=some (s7 F a n):=by
 have hml:(aw F L).length=L.length:=by simp[aw]
 rw[JL]
 rw[ck (L:=fun acc i=>zf.a a (n:Int) (aw F L) acc i) (fun i=>F (a+(i:Int))) n ([]:List Int) fun acc i hi ha=> ?_]
 ·rw[zf.a_eq,ab,decide_eq_false (Nat.lt_irrefl _),cond_false,List.nil_append];rfl
 ·simp only[List.length_nil,Nat.zero_add]at ha
  obtain⟨k,q,hk,hkl,hq,hb1,hb2⟩:=js (hx (a+(i:Int)) (by omega) (by omega))
  have hb:=jS hL k hkl hq
  show zf.a a (n:Int) (aw F L) acc (i:Int)=zf.a a (n:Int) (aw F L) (acc++[F (a+(i:Int))]) ((i+1:Nat):Int)
  rw[zf.a_eq,ab,decide_eq_true hi,aF (n:=a+(i:Int)) (by omega) (by omega),ah i n hi (by omega),mD F L hL _ ⟨by omega,by omega⟩,hk]
  simp only[cond_true,Option.bind_some]
  rw[ae,hml,decide_eq_true hkl,jr F L k hkl,hq]
  simp only[show(b9 F q).1=q.1 from rfl,show(b9 F q).2.2=pg F q.1 from rfl,cond_true]
  rw[aF (n:=a+(i:Int)-q.1) (by omega) (by omega),fo,inL_true (i:=a+(i:Int)-q.1) (n:=128) (by omega) (by omega),ve hF _ _ (by omega) (by omega),show q.1+(a+(i:Int)-q.1)=a+(i:Int) by omega,Ek _ (by simp;omega)]
  rfl
def nC (F:Int→Int) (b:Int) (n:Nat):Prop:=∀x,b≤x→x<b+(n:Int)→F x=0
theorem yZ {F:Int→Int} {b:Int} (h:nC F b 128):pg F b=aI (List.replicate 128 (0:Int)):=by
 unfold pg
 rw[dI (g:=fun _=>(0:Int)) 128 0 fun j _ hj=>h _ (by omega) (by omega)]
 rfl
theorem Em:qB (⟨#[0]⟩:ByteArray) 128=aI (List.replicate 128 (0:Int)):=by decide+kernel
theorem Eo {F:Int→Int} (L:List (Int×Int)) (hn:L.length<64) (b p:Int) (hb:∀q∈L,q.1<b) (hz:nC F b 128):Bu (aw F L) b p=some (aw F (L++[(b,p)])):=by
 have hml:(aw F L).length=L.length:=by simp[aw]
 rw[KZ]
 have loop:∀(d k:Nat),k+d=L.length→Bu.a b p (aw F L) [] (k:Int)=Bu.a b p (aw F L) [] (L.length:Int):=by
  intro d
  induction d with
  |zero=>
    intro k h;have:k=L.length:=by omega
    rw[this]
  |succ d ih=>
   intro k h
   have hk:k<L.length:=by omega
   obtain⟨q,hq⟩:∃q:Int×Int,rd (τ:=fJ) L (k:Int)=q:=⟨_,rfl⟩
   have hqb:q.1<b:=by rw[aS (τ:=fJ) L k hk]at hq;rw[←hq];exact hb _ (List.getElem_mem hk)
   rw[Bu.a_eq,hml,ab,ae,decide_eq_true hk,jr F L k hk,hq]
   simp only[ax,cond_true]
   rw[show decide ((b9 F q).1<b)=true from decide_eq_true hqb,ah k L.length hk (by omega),cond_true,ih (k+1) (by omega)]
 have h0:=loop L.length 0 (by omega)
 rw[show((0:Nat):Int)=0 from rfl]at h0
 rw[h0,Bu.a_eq,hml,ab,decide_eq_false (Nat.lt_irrefl _)]
 simp only[ax,cond_false]
 rw[pk _ (by omega),H5]
 simp only[Option.bind_some]
 rw[show(decide (0≤(128:Int))&&decide ((128:Int)≤9223372036854775807)&&decide (ByteArray.size (⟨#[0]⟩:ByteArray)*(128:Int).toNat≤140737488355328))=true by decide,cond_true,Em,←yZ hz]
 simp only[Option.bind_some]
 rw[N7,hml,show(decide ((L.length:Int)=(L.length:Int))&&av (L.length+[(b,p,pg F b)].length) 32)=true by simp[av];omega]
 simp only[cond_true,Option.bind_some]
 unfold aw
 rw[List.map_append];rfl
theorem Ep {F:Int→Int} (L:List (Int×Int)) (hn:L.length<64) (b p:Int) (hb:∀q∈L,q.1<b) (hz:nC F b 128):ze (aw F L) b p=some (aw F (L++[(b,p)])):=by
 have hml:(aw F L).length=L.length:=by simp[aw]
 rw[Jh]
 have loop:∀(d k:Nat),k+d=L.length→ze.a b p (aw F L) [] (aw F (L.take k)) false (k:Int)=ze.a b p (aw F L) [] (aw F L) false (L.length:Int):=by
  intro d
  induction d with
  |zero=>
    intro k h;have:k=L.length:=by omega
    rw[this,List.take_length]
  |succ d ih=>
   intro k h
   have hk:k<L.length:=by omega
   obtain⟨q,hq⟩:∃q:Int×Int,rd (τ:=fJ) L (k:Int)=q:=⟨_,rfl⟩
   have hqL:L[k]=q:=by rw[aS (τ:=fJ) L k hk]at hq;exact hq
   have hqb:q.1<b:=by rw[←hqL];exact hb _ (List.getElem_mem hk)
   have hlt:(aw F (L.take k)).length=k:=by simp[aw];omega
   rw[ze.a_eq,hml,ab,ae,decide_eq_true hk,jr F L k hk,hq]
   simp only[ax,cond_true,Bool.not_false]
   rw[show decide ((b9 F q).1>b)=false from decide_eq_false (by show¬q.1>b;omega),ah k L.length hk (by omega),cond_false,show av ((aw F (L.take k)).length+[b9 F q].length) 32=true by rw[hlt];simp[av];omega,cond_true]
   rw[show aw F (L.take k)++[b9 F q]=aw F (L.take (k+1)) by unfold aw;rw[List.take_succ_eq_append_getElem hk,List.map_append,hqL];rfl]
   exact ih (k+1) (by omega)
 have h0:=loop L.length 0 (by omega)
 rw[show((0:Nat):Int)=0 from rfl,show aw F (L.take 0)=[] from rfl]at h0
 rw[h0,ze.a_eq,hml,ab,decide_eq_false (Nat.lt_irrefl _)]
 simp only[cond_false,Bool.not_false,cond_true]
 rw[show(decide ((0:Nat)≤128)&&av (Int.toNat 128) 1)=true by decide,show(Int.toNat 128)=128 from rfl,←yZ hz,show av (L.length+[(b,p,pg F b)].length) 32=true by simp[av];omega]
 simp only[cond_true]
 unfold aw
 rw[List.map_append];rfl
def mE (b p:Int) (n:Nat):List (Int×Int):=bb (fun i=>(b+128*(i:Int),p)) 0 n
theorem Er (b p:Int):∀n,mE b p (n+1)=mE b p n++[(b+128*(n:Int),p)]:=by
 intro n
 unfold mE
 have:∀(k i:Nat),bb (fun i=>(b+128*(i:Int),p)) i (k+1)=bb (fun i=>(b+128*(i:Int),p)) i k++[(b+128*((i+k:Nat):Int),p)]:=by
  intro k
  induction k with
  |zero=>intro i;rfl
  |succ k ih=>intro i;rw[bb,ih (i+1),bb,show i+1+k=i+(k+1) by omega];rfl
 rw[this n 0,Nat.zero_add]
theorem pn (b p:Int) (n:Nat):(mE b p n).length=n:=az _ _ _
theorem y6 {b p:Int} {n:Nat} {q:Int×Int} (h:q∈mE b p n):b≤q.1∧q.1+128≤b+128*(n:Int):=by
 obtain⟨j,_,hj,rfl⟩:=(cy _ _ _ _).1 h
 simp only;omega
theorem vg {F:Int→Int} (A:List fq→Int→Int→Option (List fq)) (hA:∀(L:List (Int×Int)) (b p:Int),L.length<64→(∀q∈L,q.1<b)→nC F b 128→A (aw F L) b p=some (aw F (L++[(b,p)])))
  (X:List fq→Int→Option (List fq)) (L:List (Int×Int)) (b p:Int) (n:Nat) (hn:L.length+n≤64) (hb:∀q∈L,q.1<b) (hb0:0≤b∧b≤1048575) (hz:nC F b (128*n))
  (hX:∀m (i:Nat),i<n→X m (128*(i:Int))=(A m (b+128*(i:Int)) p).bind fun r=>X r (128*((i+1:Nat):Int))):
  ∀(d k:Nat),k+d=n→X (aw F (L++mE b p k)) (128*(k:Int))=X (aw F (L++mE b p n)) (128*(n:Int)):=by
 intro d
 induction d with
 |zero=>
   intro k h;have:k=n:=by omega
   rw[this]
 |succ d ih=>
  intro k h
  rw[hX _ k (by omega),hA _ _ _ (by rw[List.length_append,pn];omega) (fun q hq=> ?_) (fun x h1 h2=>hz x (by omega) (by omega))]
  ·simp only[Option.bind_some]
   rw[List.append_assoc,←Er]
   exact ih (k+1) (by omega)
  ·rcases List.mem_append.1 hq with hq|hq
   ·have:=hb q hq;omega
   ·have:=y6 hq;omega
def gD (t:ByteArray) (n:Nat):ByteArray:=t++qB (⟨#[0]⟩:ByteArray) ((n-t.size:Nat):Int)
theorem y7:∀k:Nat,(Lib.repeatL [(0:UInt8)] k)=List.replicate k 0
 |0=>rfl
 |k+1=>by rw[Lib.repeatL,y7 k];rfl
theorem rK (k:Nat):(qB (⟨#[0]⟩:ByteArray) (k:Int)).data=(List.replicate k (0:UInt8)).toArray:=by
 unfold qB
 rw[Int.toNat_natCast]
 show(Lib.repeatL [(0:UInt8)] k).toArray=_
 rw[y7]
theorem rL (k:Nat):(qB (⟨#[0]⟩:ByteArray) (k:Int)).size=k:=by
 show(qB (⟨#[0]⟩:ByteArray) (k:Int)).data.size=k
 rw[rK];simp
theorem GX (k i:Nat):bt (qB (⟨#[0]⟩:ByteArray) (k:Int)) (i:Int)=0:=by
 rw[fR,rK]
 simp only[Array.getD,List.size_toArray,List.length_replicate]
 split
 ·simp
 ·rfl
theorem eA (t:ByteArray) (n:Nat) (h:t.size≤n):(gD t n).size=n:=by
 unfold gD
 rw[ByteArray.size_append,rL];omega
theorem GY (t:ByteArray) (n i:Nat):bt (gD t n) (i:Int)=if i<t.size then bt t (i:Int)else 0:=by
 unfold gD
 rw[mC]
 split
 ·rfl
 ·exact GX _ _
theorem fK (t:ByteArray) (n:Nat) (h:t.size≤n) (hn:n≤1048576):CU t (n:Int)=some (gD t n):=by
 have hz:=eA t n h
 rw[K3,aF (n:=(n:Int)-(t.size:Int)) (by omega) (by omega),show(n:Int)-(t.size:Int)=((n-t.size:Nat):Int) by omega,H5]
 rw[show(decide (0≤((n-t.size:Nat):Int))&&decide (((n-t.size:Nat):Int)≤9223372036854775807)&&decide (ByteArray.size (⟨#[0]⟩:ByteArray)*(((n-t.size:Nat):Int)).toNat≤140737488355328))=true by
  rw[show ByteArray.size (⟨#[0]⟩:ByteArray)=1 from rfl];simp;omega]
 simp only[cond_true,Option.bind_some]
 rw[rL,decide_eq_true (show t.size+(n-t.size)≤9223372036854775807 by omega)];rfl
theorem po {F:Int→Int} (b:Int) (t:ByteArray) (n:Nat) (h:t.size≤n) (hz:nC F b n):updF F b (gD t n)=updF F b t:=by
 funext x
 unfold updF
 rw[eA t n h]
 by_cases c:b≤x∧x<b+(n:Int)
 ·rw[if_pos c]
  obtain⟨i,hi⟩:∃i:Nat,x-b=(i:Int):=⟨(x-b).toNat,by omega⟩
  rw[hi,GY]
  by_cases c2:i<t.size
  ·rw[if_pos c2,if_pos (by omega)]
  ·rw[if_neg c2,if_neg (by omega),hz x c.1 c.2]
 ·rw[if_neg c,if_neg (by omega)]
theorem hY {F:Int→Int} (hF:FR F) (L:List (Int×Int)) (hL:ez L) (b p:Int) (n:Nat) (t:ByteArray) (hn:L.length+n≤64) (hb:∀q∈L,q.1<b) (hb0:0≤b∧b+128*(n:Int)≤1048575) (hz:nC F b (128*n)) (ht:t.size=128*n):
  qm (aw F L) b p t=some (aw (updF F b t) (L++mE b p n)):=by
 rw[K0]
 have hL':ez (L++mE b p n):=⟨by rw[List.length_append,pn];omega,fun q hq=>by
  rcases List.mem_append.1 hq with hq|hq
  ·exact hL.base q hq
  ·have:=y6 hq;omega⟩
 have h:=vg (F:=F) Bu (fun L b p h1 h2 h3=>Eo L h1 b p h2 h3) (fun m i=>qm.a b p t m [] i) L b p n hn hb ⟨by omega,by omega⟩ hz (fun m i hi=>by
  show qm.a b p t m [] (128*(i:Int))=_
  rw[qm.a_eq,ht,decide_eq_true (show 128*(i:Int)< ((128*n:Nat):Int) by omega),cond_true,aF (n:=b+128*(i:Int)) (by omega) (by omega),aF (n:=128*(i:Int)+128) (by omega) (by omega),show 128*(i:Int)+128=128*((i+1:Nat):Int) by omega]) n 0 (by omega)
 have h':qm.a b p t (aw F (L++mE b p 0)) [] (128*((0:Nat):Int))=qm.a b p t (aw F (L++mE b p n)) [] (128*(n:Int)):=h
 rw[show mE b p 0=[] from rfl,List.append_nil,show 128*((0:Nat):Int)=0 from rfl]at h'
 rw[h',qm.a_eq,ht,decide_eq_false (show¬128*(n:Int)< ((128*n:Nat):Int) by omega),cond_false,vf hF b t ⟨by omega,by omega,by omega⟩ _ hL'];rfl
theorem fL {F:Int→Int} (L:List (Int×Int)) (b p:Int) (n:Nat) (hn:L.length+n≤64) (hb:∀q∈L,q.1<b) (hb0:0≤b∧b+128*(n:Int)≤1048575) (hz:nC F b (128*n)):
  pJ (aw F L) b (128*(n:Int)) p=some (aw F (L++mE b p n)):=by
 rw[Ji]
 have h:=vg (F:=F) ze (fun L b p h1 h2 h3=>Ep L h1 b p h2 h3) (fun m i=>pJ.a b (128*(n:Int)) p m [] i) L b p n hn hb ⟨by omega,by omega⟩ hz (fun m i hi=>by
  show pJ.a b (128*(n:Int)) p m [] (128*(i:Int))=_
  rw[pJ.a_eq,decide_eq_true (show 128*(i:Int)<128*(n:Int) by omega),cond_true,aF (n:=b+128*(i:Int)) (by omega) (by omega),aF (n:=128*(i:Int)+128) (by omega) (by omega),show 128*(i:Int)+128=128*((i+1:Nat):Int) by omega]) n 0 (by omega)
 have h':pJ.a b (128*(n:Int)) p (aw F (L++mE b p 0)) [] (128*((0:Nat):Int))=pJ.a b (128*(n:Int)) p (aw F (L++mE b p n)) [] (128*(n:Int)):=h
 rw[show mE b p 0=[] from rfl,List.append_nil,show 128*((0:Nat):Int)=0 from rfl]at h'
 rw[h',pJ.a_eq,decide_eq_false (show¬128*(n:Int)<128*(n:Int) by omega),cond_false]
def L1:List (Int×Int):=mE 4096 4 8
def L2:List (Int×Int):=L1++mE 8192 4 8
def L3:List (Int×Int):=L2++mE 16384 3 2
def L4:List (Int×Int):=L3++mE 20480 3 2
def L5:List (Int×Int):=L4++mE 32768 11 4
def L6:List (Int×Int):=L5++mE 33792 11 4
def L7:List (Int×Int):=L6++mE 34816 11 4
def BL:List (Int×Int):=L7++mE 35840 11 4
def Co (L:List (Int×Int)) (m:Int):Bool:=decide (L.length≤64)&&L.all fun q=>decide (0≤q.1)&&decide (q.1≤1048575)&&decide (q.1<m)
theorem cI {L:List (Int×Int)} {m:Int} (h:Co L m=true):ez L∧∀q∈L,q.1<m:=by
 unfold Co at h
 rw[Bool.and_eq_true,decide_eq_true_eq,List.all_eq_true]at h
 refine⟨⟨h.1,fun q hq=> ?_⟩,fun q hq=> ?_⟩
 ·have:=h.2 q hq;simp only[Bool.and_eq_true,decide_eq_true_eq]at this;exact this.1
 ·have:=h.2 q hq;simp only[Bool.and_eq_true,decide_eq_true_eq]at this;exact this.2
theorem b1:Co L1 8192=true:=by decide
theorem b2:Co L2 16384=true:=by decide
theorem b3:Co L3 20480=true:=by decide
theorem b4:Co L4 32768=true:=by decide
theorem b5:Co L5 33792=true:=by decide
theorem b6:Co L6 34816=true:=by decide
theorem b7:Co L7 35840=true:=by decide
theorem b8:Co BL 40000=true:=by decide
def zF:Int→Int:=fun _=>0
def lE (im:gH):Int→Int:=updF zF 4096 im.1
def F0 (im:gH):Int→Int:=updF (lE im) 16384 im.2.1
theorem pp:FR zF:=fun _=>⟨Int.le_refl 0,show(0:Int)≤255 by omega⟩
theorem gm (im:gH):FR (lE im):=dH pp _ _
theorem pq (im:gH):FR (F0 im):=dH (gm im) _ _
theorem fM {im:gH} (h:im.1.size≤1024) (b:Int) (n:Nat) (hb:5120≤b):nC (lE im) b n:=by
 intro x h1 h2
 unfold lE updF
 rw[if_neg (by omega)];rfl
theorem nW {im:gH} (h:im.1.size≤1024) (h':im.2.1.size≤256) (b:Int) (n:Nat) (hb:16640≤b):nC (F0 im) b n:=by
 intro x h1 h2
 unfold F0 updF
 rw[if_neg (by omega)]
 exact fM h b n (by omega) x h1 h2
theorem iF (b:Int) (n:Nat):nC zF b n:=fun _ _ _=>rfl
theorem s8 {F:Int→Int} (b:Int) (n:Nat) (hz:nC F b n):updF F b (gD ⟨#[]⟩ n)=F:=by
 rw[po b _ n (by show(0:Nat)≤n;omega) hz,pm _ _ _ rfl]
theorem iG (im:gH) (hc:im.1.size≤1024) (hd:im.2.1.size≤256) (L:List (Int×Int)) (i:Nat) (hi:i<4) (m:Int) (hL:Co L m=true) (hm:m=32768+1024*(i:Int)) (hn:L.length+4≤64):
  CV.a [] (aw (F0 im) L) (i:Int)=CV.a [] (aw (F0 im) (L++mE m 11 4)) ((i+1:Nat):Int):=by
 obtain⟨h1,h2⟩:=cI hL
 rw[CV.a_eq,decide_eq_true (show(i:Int)<4 by omega),show CU (⟨#[]⟩:ByteArray) 512=some (gD ⟨#[]⟩ 512) from fK _ 512 (by show(0:Nat)≤512;omega) (by omega),aF (n:=1024*(i:Int)) (by omega) (by omega),aF (n:=32768+1024*(i:Int)) (by omega) (by omega),aF (n:=(i:Int)+1) (by omega) (by omega),←hm]
 simp only[cond_true,Option.bind_some]
 rw[hY (pq im) L h1 m 11 4 (gD ⟨#[]⟩ 512) hn h2 (by omega) (nW hc hd m 512 (by omega)) (eA _ 512 (by show(0:Nat)≤512;omega)),s8 m 512 (nW hc hd m 512 (by omega))]
 simp only[Option.bind_some]
 rw[show(i:Int)+1=((i+1:Nat):Int) by omega]
theorem vh (im:gH) (hc:im.1.size≤1024) (hd:im.2.1.size≤256):CV im=some (aw (F0 im) BL):=by
 have e0:(0:Nat)≤1024:=by omega
 rw[K4,show CU im.1 1024=some (gD im.1 1024) from fK _ 1024 hc (by omega),show CU (⟨#[]⟩:ByteArray) 1024=some (gD ⟨#[]⟩ 1024) from fK _ 1024 (by show(0:Nat)≤1024;omega) (by omega),
  show CU im.2.1 256=some (gD im.2.1 256) from fK _ 256 hd (by omega),show CU (⟨#[]⟩:ByteArray) 256=some (gD ⟨#[]⟩ 256) from fK _ 256 (by show(0:Nat)≤256;omega) (by omega)]
 simp only[Option.bind_some]
 have a1:=hY pp [] ⟨by simp,fun q hq=>by cases hq⟩ 4096 4 8 (gD im.1 1024) (by simp) (fun q hq=>by cases hq) (by omega) (iF _ _) (eA _ 1024 hc)
 rw[po 4096 im.1 1024 hc (iF _ _),List.nil_append]at a1
 rw[show qm [] 4096 4 (gD im.1 1024)=some (aw (lE im) L1) from a1]
 simp only[Option.bind_some]
 have a2:=hY (gm im) L1 (cI b1).1 8192 4 8 (gD ⟨#[]⟩ 1024) (by decide) (cI b1).2 (by omega) (fM hc _ _ (by omega)) (eA _ 1024 (by show(0:Nat)≤1024;omega))
 rw[s8 8192 1024 (fM hc _ _ (by omega))]at a2
 rw[show qm (aw (lE im) L1) 8192 4 (gD ⟨#[]⟩ 1024)=some (aw (lE im) L2) from a2]
 simp only[Option.bind_some]
 have a3:=hY (gm im) L2 (cI b2).1 16384 3 2 (gD im.2.1 256) (by decide) (cI b2).2 (by omega) (fM hc _ _ (by omega)) (eA _ 256 hd)
 rw[po 16384 im.2.1 256 hd (fM hc _ _ (by omega))]at a3
 rw[show qm (aw (lE im) L2) 16384 3 (gD im.2.1 256)=some (aw (F0 im) L3) from a3]
 simp only[Option.bind_some]
 have a4:=hY (pq im) L3 (cI b3).1 20480 3 2 (gD ⟨#[]⟩ 256) (by decide) (cI b3).2 (by omega) (nW hc hd _ _ (by omega)) (eA _ 256 (by show(0:Nat)≤256;omega))
 rw[s8 20480 256 (nW hc hd _ _ (by omega))]at a4
 rw[show qm (aw (F0 im) L3) 20480 3 (gD ⟨#[]⟩ 256)=some (aw (F0 im) L4) from a4]
 simp only[Option.bind_some]
 have s0:=iG im hc hd L4 0 (by omega) 32768 b4 (by omega) (by decide)
 have s1:=iG im hc hd L5 1 (by omega) 33792 b5 (by omega) (by decide)
 have s2:=iG im hc hd L6 2 (by omega) 34816 b6 (by omega) (by decide)
 have s3:=iG im hc hd L7 3 (by omega) 35840 b7 (by omega) (by decide)
 refine s0.trans (s1.trans (s2.trans (s3.trans ?_)))
 rw[CV.a_eq,show decide (((3+1:Nat):Int)<4)=false by decide,cond_false];rfl
theorem iH (L:List (Int×Int)) (i:Nat) (hi:i<4) (m:Int) (hL:Co L m=true) (hm:m=32768+1024*(i:Int)) (hn:L.length+4≤64):
  Cw.a [] (aw zF L) (i:Int)=Cw.a [] (aw zF (L++mE m 11 4)) ((i+1:Nat):Int):=by
 obtain⟨h1,h2⟩:=cI hL
 rw[Cw.a_eq,decide_eq_true (show(i:Int)<4 by omega),aF (n:=1024*(i:Int)) (by omega) (by omega),aF (n:=32768+1024*(i:Int)) (by omega) (by omega),aF (n:=(i:Int)+1) (by omega) (by omega),←hm]
 rw[show pJ (aw zF L) m 512 11=some (aw zF (L++mE m 11 4)) from fL L m 11 4 hn h2 (by omega) (iF _ _)]
 simp only[Option.bind_some,cond_true]
 rw[show(i:Int)+1=((i+1:Nat):Int) by omega]
theorem xq:Cw=some (aw zF BL):=by
 rw[Jj]
 rw[show pJ [] 4096 1024 4=some (aw zF L1) from fL (F:=zF) [] 4096 4 8 (by simp) (fun q hq=>by cases hq) (by omega) (iF _ _)]
 simp only[Option.bind_some]
 rw[show pJ (aw zF L1) 8192 1024 4=some (aw zF L2) from fL L1 8192 4 8 (by decide) (cI b1).2 (by omega) (iF _ _)]
 simp only[Option.bind_some]
 rw[show pJ (aw zF L2) 16384 256 3=some (aw zF L3) from fL L2 16384 3 2 (by decide) (cI b2).2 (by omega) (iF _ _)]
 simp only[Option.bind_some]
 rw[show pJ (aw zF L3) 20480 256 3=some (aw zF L4) from fL L3 20480 3 2 (by decide) (cI b3).2 (by omega) (iF _ _)]
 simp only[Option.bind_some]
 have s0:=iH L4 0 (by omega) 32768 b4 (by omega) (by decide)
 have s1:=iH L5 1 (by omega) 33792 b5 (by omega) (by decide)
 have s2:=iH L6 2 (by omega) 34816 b6 (by omega) (by decide)
 have s3:=iH L7 3 (by omega) 35840 b7 (by omega) (by decide)
 refine s0.trans (s1.trans (s2.trans (s3.trans ?_)))
 rw[Cw.a_eq,show decide (((3+1:Nat):Int)<4)=false by decide,cond_false];rfl
theorem GZ:ez BL:=(cI b8).1
theorem Es:BL.length=36:=by decide
def G4 (i:Nat):Int:=(BL.getD i (0,0)).1
theorem H4 (i:Nat):(rd (τ:=fJ) BL (i:Int)).1=G4 i:=by
 unfold rd G4
 rw[Int.toNat_natCast];rfl
theorem Et:∀i j:Fin 36,i<j→G4 i+128≤G4 j:=by decide+kernel
theorem G5:xm BL:=by
 intro i j a hi hj h1 h2
 rw[Es]at hi hj
 rw[H4]at h1 h2
 unfold dJ at h1 h2
 rw[Bool.and_eq_true,decide_eq_true_eq,decide_eq_true_eq]at h1 h2
 rcases Nat.lt_trichotomy i j with h|h|h
 ·have:=Et ⟨i,hi⟩ ⟨j,hj⟩ h
  simp only at this;omega
 ·exact h
 ·have:=Et ⟨j,hj⟩ ⟨i,hi⟩ h
  simp only at this;omega
theorem s9 (i:Nat) (hi:i<36) (x:Int) (h1:G4 i≤x) (h2:x≤G4 i+127):0≤dl BL x:=by
 unfold dl
 rcases cr (fun i=>dJ (rd (τ:=fJ) BL (i:Int)).1 x) BL.length 0 with⟨g1,g2⟩|⟨j,g1,_⟩
 ·have:=g2 i (Nat.zero_le _) (by rw[Es];omega)
  rw[H4]at this
  unfold dJ at this
  rw[decide_eq_true h1,decide_eq_true h2]at this
  cases this
 ·rw[g1];omega
theorem G6:∀i:Fin 8,G4 i=4096+128*((i:Nat):Int):=by decide+kernel
theorem Eu:∀i:Fin 8,G4 (8+i)=8192+128*((i:Nat):Int):=by decide+kernel
theorem G7:∀i:Fin 2,G4 (16+i)=16384+128*((i:Nat):Int):=by decide+kernel
theorem rM {x:Int} (h1:4096≤x) (h2:x<5120):0≤dl BL x:=by
 have:=G6 ⟨((x-4096)/128).toNat,by omega⟩
 simp only at this
 exact s9 ((x-4096)/128).toNat (by omega) x (by omega) (by omega)
theorem xr {x:Int} (h1:8192≤x) (h2:x<9216):0≤dl BL x:=by
 have:=Eu ⟨((x-8192)/128).toNat,by omega⟩
 simp only at this
 exact s9 (8+((x-8192)/128).toNat) (by omega) x (by omega) (by omega)
theorem AD {x:Int} (h1:16384≤x) (h2:x<16640):0≤dl BL x:=by
 have:=G7 ⟨((x-16384)/128).toNat,by omega⟩
 simp only at this
 exact s9 (16+((x-16384)/128).toNat) (by omega) x (by omega) (by omega)
theorem mF {F:Int→Int} (hF:FR F) (a:Int) (t:ByteArray) (h1: -1000000000≤a) (h2:a+(t.size:Int)≤1000000000) (hx:∀x,a≤x→x<a+(t.size:Int)→0≤dl BL x):wo (aw F BL) a t=some (aw (updF F a t) BL):=by
 rw[Jg];exact Ej BL GZ G5 [] t.size F a t hF (Nat.le_refl _) h1 h2 hx
theorem AE (im:gH) (hc:im.1.size≤1024) (hd:im.2.1.size≤256):Qt im=some (aw (F0 im) BL):=by
 rw[Jk,xq]
 simp only[Option.bind_some]
 rw[mF pp 4096 im.1 (by omega) (by omega) fun x h1 h2=>rM h1 (by omega)]
 simp only[Option.bind_some]
 rw[show updF zF 4096 im.1=lE im from rfl,mF (gm im) 16384 im.2.1 (by omega) (by omega) fun x h1 h2=>AD h1 (by omega)]
 rfl
theorem an {τ:Ty} (l:List τ.den) (i:Nat) (h:i<l.length):rd (τ:=τ) l (i:Int)∈l:=by rw[aS l i h];exact List.getElem_mem h
theorem tb {τ:Ty} {l:List τ.den} {x:τ.den} (h:x∈l):∃i:Nat,i<l.length∧rd (τ:=τ) l (i:Int)=x:=by
 obtain⟨i,hi,e⟩:=List.mem_iff_getElem.1 h
 exact⟨i,hi,by rw[aS l i hi];exact e⟩
theorem lF {t:List da} {n:ByteArray}:ci t n<0↔∀e∈t,e.1≠n:=by
 unfold ci
 rcases cr (fun i=>decide ((rd (τ:=aT) t (i:Int)).1=n)) t.length 0 with⟨h1,h2⟩|⟨j,h1,h2,h3,h4,_⟩
 ·refine⟨fun _ e he hn=> ?_,fun _=>by rw[h1];decide⟩
  obtain⟨i,hi,hr⟩:=tb (τ:=aT) he
  have:=h2 i (Nat.zero_le _) (by omega)
  rw[decide_eq_false_iff_not,hr]at this
  exact this hn
 ·refine⟨fun h=>by rw[h1]at h;omega,fun h=> ?_⟩
  rw[decide_eq_true_eq]at h4
  exact absurd h4 (h _ (an (τ:=aT) t j (by omega)))
structure y8 (t:List da):Prop where
 len:t.length≤64
 ent:∀e∈t,dn e=true
 dis:t.Pairwise fun a b=>a.1≠b.1
theorem vj {t:List da}:nI t=true↔y8 t:=by
 unfold nI
 rw[Bool.and_eq_true,decide_eq_true_eq,fT]
 have key:∀i:Nat,i<t.length→(vW t i=true↔dn (rd (τ:=aT) t (i:Int))=true∧∀e∈t.take i,e.1≠(rd (τ:=aT) t (i:Int)).1):=by
  intro i hi
  unfold vW
  rw[←lF]
  cases dn (rd (τ:=aT) t (i:Int))<;>simp
 constructor
 ·rintro⟨h1,h2⟩
  refine⟨h1,fun e he=> ?_, ?_⟩
  ·obtain⟨i,hi,hr⟩:=tb (τ:=aT) he
   rw[←hr];exact((key i hi).1 (h2 i (Nat.zero_le _) (by omega))).1
  ·rw[List.pairwise_iff_getElem]
   intro i j hi hj hij
   have:=((key j hj).1 (h2 j (Nat.zero_le _) (by omega))).2 t[i] (by rw[List.mem_take_iff_getElem];exact⟨i,by omega,rfl⟩)
   rw[aS (τ:=aT) t j hj]at this
   exact this
 ·rintro⟨h1,h2,h3⟩
  refine⟨h1,fun i _ hi=>(key i (by omega)).2 ⟨h2 _ (an (τ:=aT) t i (by omega)),fun e he=> ?_⟩⟩
  obtain⟨j,hj,rfl⟩:=List.mem_take_iff_getElem.1 he
  rw[aS (τ:=aT) t i (by omega)]
  exact(List.pairwise_iff_getElem.1 h3) j i (by omega) (by omega) (by omega)
def nD (o:bn) (l:eT) (owner:Int) (i:Nat):da:=((rd (τ:=aA) o.2.2.1 (i:Int)).1,1,rd (τ:= .int .i64) l.1 (i:Int),(fW o i:Int),(rd (τ:=aA) o.2.2.1 (i:Int)).2.2.1,owner)
def AF (o:bn) (l:eT) (owner:Int) (i:Nat):da:=((rd (τ:=bc) o.2.2.2.1 (i:Int)).1,2,rd (τ:= .int .i64) l.2.2.1 (i:Int),(kA o i:Int),0,owner)
def iV (t:List da) (o:bn) (l:eT) (owner:Int):List da:=
 (t++cY (fun i=> !(rd (τ:=aA) o.2.2.1 (i:Int)).2.1) (nD o l owner) 0 o.2.2.1.length)++bb (AF o l owner) 0 o.2.2.2.1.length
theorem jt (n:Nat) (h:n≤4096):av n 56=true:=by simp[av];omega
theorem pr (n:Nat) (h:n≤4096):av n 40=true:=by simp[av];omega
theorem kT (t:List da) (o:bn) (l:eT) (owner:Int) (ht:t.length≤64) (hz:ObjSz o) (hl:ew o l):oe t o l owner=some (iV t o l owner):=by
 have h1:=hz.f
 have h2:=hz.d
 have hf:=bS (fun i=> !(rd (τ:=aA) o.2.2.1 (i:Int)).2.1) (nD o l owner) o.2.2.1.length 0
 rw[Mc,N6,jt _ (by omega)]
 simp only[cond_true,Option.bind_some]
 rw[cZ (L:=fun acc i=>oe.a owner o l acc o.2.2.1 (o.2.2.1.length:Int) i) (fun i=> !(rd (τ:=aA) o.2.2.1 (i:Int)).2.1) (nD o l owner) o.2.2.1.length t fun acc i hi ha=> ?_]
 ·show oe.a owner o l _ o.2.2.1 (o.2.2.1.length:Int) (o.2.2.1.length:Int)=_
  rw[oe.a_eq,ab,decide_eq_false (Nat.lt_irrefl _),cond_false]
  rw[ck (L:=fun acc i=>oe.b owner l acc o.2.2.2.1 (o.2.2.2.1.length:Int) i) (AF o l owner) o.2.2.2.1.length (t++cY (fun i=> !(rd (τ:=aA) o.2.2.1 (i:Int)).2.1) (nD o l owner) 0 o.2.2.1.length) fun acc i hi ha=> ?_]
  ·show oe.b owner l _ o.2.2.2.1 (o.2.2.2.1.length:Int) (o.2.2.2.1.length:Int)=_
   rw[oe.b_eq,ab,decide_eq_false (Nat.lt_irrefl _),cond_false];rfl
  ·show oe.b owner l acc o.2.2.2.1 (o.2.2.2.1.length:Int) (i:Int)=_
   rw[List.length_append]at ha
   rw[oe.b_eq,ab,ae,decide_eq_true hi,ah i _ hi (by omega),ae,show decide (i<l.2.2.1.length)=true from decide_eq_true (by rw[hl.d];exact hi),jt _ (by simp;omega)];rfl
 ·show oe.a owner o l acc o.2.2.1 (o.2.2.1.length:Int) (i:Int)=_
  rw[oe.a_eq,ab,ae,decide_eq_true hi,ah i _ hi (by omega),ae,show decide (i<l.1.length)=true from decide_eq_true (by rw[hl.a];exact hi),jt _ (by simp;omega)]
  cases (rd (τ:=aA) o.2.2.1 (i:Int)).2.1<;>rfl
theorem qI (t:List da) (o:bn) (l:eT) (owner:Int) (ht:t.length≤64) (hz:ObjSz o) (hl:ew o l):qk t o l owner=some (iV t o l owner):=by
 have h1:=hz.f
 have h2:=hz.d
 have hf:=bS (fun i=> !(rd (τ:=aA) o.2.2.1 (i:Int)).2.1) (nD o l owner) o.2.2.1.length 0
 rw[JK,jt _ (by omega)]
 simp only[cond_true]
 rw[cZ (L:=fun acc i=>qk.a owner o l acc i) (fun i=> !(rd (τ:=aA) o.2.2.1 (i:Int)).2.1) (nD o l owner) o.2.2.1.length t fun acc i hi ha=> ?_]
 ·rw[qk.a_eq,ab,decide_eq_false (Nat.lt_irrefl _),cond_false]
  rw[ck (L:=fun acc i=>qk.b owner o l acc i) (AF o l owner) o.2.2.2.1.length (t++cY (fun i=> !(rd (τ:=aA) o.2.2.1 (i:Int)).2.1) (nD o l owner) 0 o.2.2.1.length) fun acc i hi ha=> ?_]
  ·rw[qk.b_eq,ab,decide_eq_false (Nat.lt_irrefl _),cond_false];rfl
  ·show qk.b owner o l acc (i:Int)=_
   rw[List.length_append]at ha
   rw[qk.b_eq,ab,ae,decide_eq_true hi,ah i _ hi (by omega),ae,ae,show decide (i<l.2.2.1.length)=true from decide_eq_true (by rw[hl.d];exact hi),show decide (i<l.2.2.2.length)=true from decide_eq_true (by rw[hl.b];exact hi),jt _ (by simp;omega),hl.bs i hi];rfl
 ·show qk.a owner o l acc (i:Int)=_
  rw[qk.a_eq,ab,ae,decide_eq_true hi,ah i _ hi (by omega),ae,ae,show decide (i<l.1.length)=true from decide_eq_true (by rw[hl.a];exact hi),show decide (i<l.2.1.length)=true from decide_eq_true (by rw[hl.c];exact hi),jt _ (by simp;omega),hl.cs i hi]
  cases (rd (τ:=aA) o.2.2.1 (i:Int)).2.1<;>rfl
theorem qJ (o:bn) (l:eT) (hz:ObjSz o) (hl:ew o l):tx l o=some true:=by
 have h1:=hz.f
 have h2:=hz.d
 rw[LJ,hl.a,hl.c,hl.d,hl.b]
 simp only[decide_true,Bool.not_true,cond_false]
 rw[cO (L:=tx.a l o o.2.2.1 (o.2.2.1.length:Int)) (fun _=>true) o.2.2.1.length ?_ fun i hi=> ?_]
 ·rw[(fT _ _ _).2 fun _ _ _=>rfl]
 ·rw[tx.a_eq,ab,decide_eq_false (Nat.lt_irrefl _),cond_false]
  rw[cO (L:=tx.b l o.2.2.2.1 (o.2.2.2.1.length:Int)) (fun _=>true) o.2.2.2.1.length ?_ fun i hi=> ?_]
  ·rw[(fT _ _ _).2 fun _ _ _=>rfl]
  ·rw[tx.b_eq,ab,decide_eq_false (Nat.lt_irrefl _),cond_false]
  ·rw[tx.b_eq,ab,ae,decide_eq_true hi,ah i _ hi (by omega),ae,show decide (i<l.2.2.2.length)=true from decide_eq_true (by rw[hl.b];exact hi),hl.bs i hi,show decide ((kA o i:Int)=((rd (τ:=bc) o.2.2.2.1 (i:Int)).2.size:Int))=true from decide_eq_true rfl];rfl
 ·rw[tx.a_eq,ab,ae,decide_eq_true hi,ah i _ hi (by omega),ae,show decide (i<l.2.1.length)=true from decide_eq_true (by rw[hl.c];exact hi),hl.cs i hi,show decide ((fW o i:Int)=((rd (τ:=aA) o.2.2.1 (i:Int)).2.2.2.size:Int))=true from decide_eq_true rfl];rfl
theorem dQ {α:Type} (p:Nat→Bool) (f:Nat→α) (x:α):∀k i,x∈cY p f i k→∃j,i≤j∧j<i+k∧p j=true∧f j=x
 |0,i,h=>by cases h
 |k+1,i,h=>by
  rw[cY]at h
  cases hp:p i with
  |false=>
   rw[hp,cond_false]at h
   obtain⟨j,h1,h2,h3⟩:=dQ p f x k (i+1) h
   exact⟨j,by omega,by omega,h3⟩
  |true=>
   rw[hp,cond_true]at h
   rcases List.mem_cons.1 h with rfl|h
   ·exact⟨i,Nat.le_refl _,by omega,hp,rfl⟩
   ·obtain⟨j,h1,h2,h3⟩:=dQ p f x k (i+1) h
    exact⟨j,by omega,by omega,h3⟩
theorem pt {α:Type} (p:Nat→Bool) (f:Nat→α) (R:α→α→Prop):∀k i,(∀a b,i≤a→a<b→b<i+k→R (f a) (f b))→(cY p f i k).Pairwise R
 |0,_,_=>List.Pairwise.nil
 |k+1,i,h=>by
  have ih:=pt p f R k (i+1) fun a b h1 h2 h3=>h a b (by omega) h2 (by omega)
  rw[cY]
  cases p i with
  |false=>exact ih
  |true=>
   rw[cond_true]
   refine List.Pairwise.cons (fun x hx=> ?_) ih
   obtain⟨j,h1,h2,_,rfl⟩:=dQ p f x k (i+1) hx
   exact h i j (Nat.le_refl _) (by omega) (by omega)
theorem mG {α:Type} (f:Nat→α) (R:α→α→Prop):∀k i,(∀a b,i≤a→a<b→b<i+k→R (f a) (f b))→(bb f i k).Pairwise R
 |0,_,_=>List.Pairwise.nil
 |k+1,i,h=>by
  have ih:=mG f R k (i+1) fun a b h1 h2 h3=>h a b (by omega) h2 (by omega)
  rw[bb]
  refine List.Pairwise.cons (fun x hx=> ?_) ih
  obtain⟨j,h1,h2,rfl⟩:=(cy f x k (i+1)).1 hx
  exact h i j (Nat.le_refl _) (by omega) (by omega)
theorem dT.dis_ff {o:bn} (h:dT o) (a b:Nat) (hab:a<b) (hb:b<o.2.2.1.length):(rd (τ:=aA) o.2.2.1 (a:Int)).1≠(rd (τ:=aA) o.2.2.1 (b:Int)).1:=by
 have:=(jY (h.fun_ b hb)).2.1
 rw[lU o b (by omega)]at this
 intro e
 have:gJ (bb (fun i=>(rd (τ:=aA) o.2.2.1 (i:Int)).1) 0 b) (rd (τ:=aA) o.2.2.1 (b:Int)).1=true:=jE.2 ((cy _ _ _ _).2 ⟨a,Nat.zero_le _,by omega,e⟩)
 simp_all
theorem dT.dis_fd {o:bn} (h:dT o) (a b:Nat) (ha:a<o.2.2.1.length) (hb:b<o.2.2.2.1.length):(rd (τ:=aA) o.2.2.1 (a:Int)).1≠(rd (τ:=bc) o.2.2.2.1 (b:Int)).1:=by
 have:=(ij (h.dat b hb)).2.1
 rw[iO o b (by omega),qc,Bool.or_eq_false_iff]at this
 intro e
 have h2:gJ (bb (fun i=>(rd (τ:=aA) o.2.2.1 (i:Int)).1) 0 o.2.2.1.length) (rd (τ:=bc) o.2.2.2.1 (b:Int)).1=true:=jE.2 ((cy _ _ _ _).2 ⟨a,Nat.zero_le _,by omega,e⟩)
 rw[h2]at this
 exact absurd this.1 (by decide)
theorem dT.dis_dd {o:bn} (h:dT o) (a b:Nat) (hab:a<b) (hb:b<o.2.2.2.1.length):(rd (τ:=bc) o.2.2.2.1 (a:Int)).1≠(rd (τ:=bc) o.2.2.2.1 (b:Int)).1:=by
 have:=(ij (h.dat b hb)).2.1
 rw[iO o b (by omega),qc,Bool.or_eq_false_iff]at this
 intro e
 have h2:gJ (bb (fun i=>(rd (τ:=bc) o.2.2.2.1 (i:Int)).1) 0 b) (rd (τ:=bc) o.2.2.2.1 (b:Int)).1=true:=jE.2 ((cy _ _ _ _).2 ⟨a,Nat.zero_le _,by omega,e⟩)
 rw[h2]at this
 exact absurd this.2 (by decide)
theorem ne {t:List da} {o:bn} (h:fV t o=0):(∀i,i<o.2.2.1.length→CW t o i=0)∧(∀i,i<o.2.2.2.1.length→Ie t o i=0):=by
 unfold fV at h
 by_cases h1:(aZ (CW t o) 0 o.2.2.1.length).2=0
 ·rw[if_pos h1]at h
  exact⟨fun i hi=>(c8 _ _ _).1 h1 i (Nat.zero_le _) (by omega),fun i hi=>(c8 _ _ _).1 h i (Nat.zero_le _) (by omega)⟩
 ·rw[if_neg h1]at h;exact absurd h h1
theorem G8 {t:List da} {o:bn} {i:Nat} (h:CW t o i=0) (hr:(rd (τ:=aA) o.2.2.1 (i:Int)).2.1=false):ci t (rd (τ:=aA) o.2.2.1 (i:Int)).1<0:=by
 unfold CW at h
 rw[hr]at h
 simp only[Bool.false_eq_true,if_false]at h
 split at h
 ·cases h
 ·omega
theorem G9 {t:List da} {o:bn} {i:Nat} (h:CW t o i=0) (hr:(rd (τ:=aA) o.2.2.1 (i:Int)).2.1=true):0≤ci t (rd (τ:=aA) o.2.2.1 (i:Int)).1∧(rd (τ:=aT) t (ci t (rd (τ:=aA) o.2.2.1 (i:Int)).1)).2.1=1:=by
 unfold CW at h
 rw[hr]at h
 simp only[if_true]at h
 split at h
 ·cases h
 ·split at h
  ·rename_i h1 h2;exact⟨by omega,h2⟩
  ·cases h
theorem Ha {t:List da} {o:bn} {i:Nat} (h:Ie t o i=0):ci t (rd (τ:=bc) o.2.2.2.1 (i:Int)).1<0:=by
 unfold Ie at h
 split at h
 ·cases h
 ·omega
theorem rN {x:Int} (h:H3 x):bT x=true:=by
 unfold bT
 obtain⟨h1,h2,h3⟩:=h
 rw[show(decide (0≤x)&&decide (x≤1048575))=true by simp;omega,cond_true,decide_eq_true_eq,Int.tmod_eq_emod_of_nonneg h1];omega
theorem nf (t:List da) (o:bn) (l:eT) (owner:Int) (hz:ObjSz o):(iV t o l owner).length≤t.length+8:=by
 have h1:=hz.f
 have h2:=hz.d
 have hf:=bS (fun i=> !(rd (τ:=aA) o.2.2.1 (i:Int)).2.1) (nD o l owner) o.2.2.1.length 0
 unfold iV
 rw[List.length_append,List.length_append,az];omega
theorem Hb {t:List da} {o:bn} {l:eT} {owner:Int} (ht:y8 t) (ho:dT o) (hl:ew o l) (hn:fV t o=0) (how:1≤owner∧owner≤6) (hlen:t.length≤56):y8 (iV t o l owner):=by
 obtain⟨n1,n2⟩:=ne hn
 refine⟨by have:=nf t o l owner ho.toObjSz;omega,fun e he=> ?_, ?_⟩
 ·unfold iV at he
  rcases List.mem_append.1 he with he|he
  ·rcases List.mem_append.1 he with he|he
   ·exact ht.ent e he
   ·obtain⟨j,_,hj,_,rfl⟩:=dQ _ _ _ _ _ he
    have hf:=jY (ho.fun_ j (by omega))
    have hs:=ho.fsz_pos j (by omega)
    have ha:=hl.fa j (by omega)
    unfold dn nD
    simp only
    rw[hf.1,rN ha,bj.2 (show(1:Int)≤(fW o j:Int)∧(fW o j:Int)≤1024 by omega),bj.2 (show 0≤owner∧owner≤6 by omega)]
    unfold vV
    rw[hf.2.2.1];rfl
  ·obtain⟨j,_,hj,rfl⟩:=(cy _ _ _ _).1 he
   have hf:=ij (ho.dat j (by omega))
   have hs:=ho.dsz_pos j (by omega)
   have ha:=hl.ds j (by omega)
   unfold dn AF
   simp only
   rw[hf.1,rN ha,bj.2 (show(1:Int)≤(kA o j:Int)∧(kA o j:Int)≤1024 by omega),bj.2 (show 0≤owner∧owner≤6 by omega)]
   rfl
 ·unfold iV
  rw[List.pairwise_append,List.pairwise_append]
  refine⟨⟨ht.dis,pt _ _ _ _ _ fun a b _ h2 h3=>ho.dis_ff a b h2 (by omega),fun a ha b hb=> ?_⟩,mG _ _ _ _ fun a b _ h2 h3=>ho.dis_dd a b h2 (by omega),fun a ha b hb=> ?_⟩
  ·obtain⟨j,_,hj,hp,rfl⟩:=dQ _ _ _ _ _ hb
   have:=G8 (n1 j (by omega)) (by simpa using hp)
   exact lF.1 this a ha
  ·obtain⟨k,_,hk,rfl⟩:=(cy _ _ _ _).1 hb
   rcases List.mem_append.1 ha with ha|ha
   ·exact lF.1 (Ha (n2 k (by omega))) a ha
   ·obtain⟨j,_,hj,hp,rfl⟩:=dQ _ _ _ _ _ ha
    exact ho.dis_fd j k (by omega) (by omega)
theorem ng (a:bl) (n:Nat):(aB a n).1.1=a.1∧(aB a n).1.2.1=a.2.1:=by
 unfold aB;split<;>exact⟨rfl,rfl⟩
theorem pw (sz:Nat→Nat):∀k i a,(dX sz a i k).1.1=a.1∧(dX sz a i k).1.2.1=a.2.1
 |0,_,_=>⟨rfl,rfl⟩
 |k+1,i,a=>by
  have h:=pw sz k (i+1) (aB a (sz i)).1
  have h2:=ng a (sz i)
  rw[dX];exact⟨h.1.trans h2.1,h.2.trans h2.2⟩
theorem AG {a:bl} (h:cb a) (n:Nat) (ok:(aB a n).2.2=true):a.1≤(aB a n).2.1∧(aB a n).2.1+(n:Int)≤a.1+a.2.1:=by
 obtain⟨⟨h1,h2,h3⟩,⟨h4,h5,h6⟩,h7,h8,h9⟩:=h
 unfold aB at ok⊢
 split at ok
 ·cases ok
 ·rename_i hc
  rw[if_neg hc]
  have:n≤qr n:=by unfold qr;omega
  exact⟨h7,by simp only;omega⟩
theorem Ev (sz:Nat→Nat):∀k i a,cb a→(dX sz a i k).2.2=true→∀j (hj:j< (dX sz a i k).2.1.length),a.1≤(dX sz a i k).2.1[j]∧(dX sz a i k).2.1[j]+(sz (i+j):Int)≤a.1+a.2.1
 |0,_,_,_,_,j,hj=>by simp[dX]at hj
 |k+1,i,a,h,ok,j,hj=>by
  have e:dX sz a i (k+1)=((dX sz (aB a (sz i)).1 (i+1) k).1,(aB a (sz i)).2.1::(dX sz (aB a (sz i)).1 (i+1) k).2.1,(aB a (sz i)).2.2&&(dX sz (aB a (sz i)).1 (i+1) k).2.2):=rfl
  rw[e,Bool.and_eq_true]at ok
  have hb:=ng a (sz i)
  cases j with
  |zero=>exact AG h _ ok.1
  |succ j=>
   have:=Ev sz k (i+1) _ (c9 h (sz i)) ok.2 j (by rw[dM]at hj⊢;omega)
   rw[hb.1,hb.2]at this
   rw[show i+(j+1)=i+1+j by omega]
   exact this
def nX (o:bn) (l:eT):Prop:=∀i:Nat,i<o.2.2.1.length→∃x:Int,rd (τ:= .int .i64) l.1 (i:Int)=x∧8192≤x∧x+(fW o i:Int)≤9216∧x%8=0
theorem xt {t:List da} {a b:bl} {o:bn} {v:eT×bl×bl×Int} (h:Eg t a b o v) (ha:cb a) (h1:a.1=8192) (h2:a.2.1=1024):nX o v.1:=by
 intro i hi
 rw[h.ats]
 have hl:=dM (fW o) o.2.2.1.length 0 a
 have hok:=h.ok
 unfold dg at hok
 simp only[Bool.and_eq_true]at hok
 have:=Ev (fW o) o.2.2.1.length 0 a ha hok.1 i (by rw[hl];exact hi)
 have h8:=h.lnk.fa i hi
 rw[h.ats]at h8
 have e:(rd (τ:= .int .i64) (dg o a b).1.1 (i:Int):Int)=(dX (fW o) a 0 o.2.2.1.length).2.1[i]'(by rw[hl];exact hi):=aS (τ:= .int .i64) _ i (by show i< (dX (fW o) a 0 o.2.2.1.length).2.1.length;rw[hl];exact hi)
 have h8':H3 ((dX (fW o) a 0 o.2.2.1.length).2.1[i]'(by rw[hl];exact hi)):=by rw[←e];exact h8
 rw[Nat.zero_add,h1,h2]at this
 exact⟨_,e,this.1,this.2,h8'.2.2⟩
def mH (x:Int) (n:Int):Prop:=(4096≤x∧x+n≤5120)∨(8192≤x∧x+n≤9216)
theorem mH.page {x n:Int} (h:mH x n):∀y,x≤y→y<x+n→0≤dl BL y:=by
 intro y h1 h2
 rcases h with h|h
 ·exact rM (by omega) (by omega)
 ·exact xr (by omega) (by omega)
theorem mH.range {x n:Int} (h:mH x n):4096≤x∧x+n≤9216:=by
 rcases h with h|h<;>omega
theorem vk {F:Int→Int} (hF:FR F) (a:Int) (t:ByteArray) (h:mH a (t.size:Int)):nE (aw F BL) a t=some (aw (updF F a t) BL)∧wo (aw F BL) a t=some (aw (updF F a t) BL):=by
 have hr:=h.range
 exact⟨vf hF a t ⟨by omega,by omega,by omega⟩ BL GZ,mF hF a t (by omega) (by omega) h.page⟩
def px (F:Int→Int) (l:eT):Nat→Nat→(Int→Int)
 |_,0=>F
 |i,k+1=>px (updF F (rd (τ:= .int .i64) l.1 (i:Int)) (rd (τ:= .str) l.2.1 (i:Int))) l (i+1) k
theorem lG (l:eT):∀k i F,FR F→FR (px F l i k)
 |0,_,_,h=>h
 |k+1,i,F,h=>lG l k (i+1) _ (dH h _ _)
theorem xu (o:bn) (l:eT) (t:List da) (hz:ObjSz o) (hl:ew o l) (hp:nX o l) (x8:List (Int×Int)):∀(k i:Nat) (F:Int→Int),FR F→i+k=o.2.2.1.length→
  qt.a t (aw F BL) o l [] x8 (o.2.2.1.length:Int) (i:Int)=qt.b t (aw (px F l i k) BL) l [] x8 o.2.2.1 (o.2.2.1.length:Int) 0∧
  ql.a t (aw F BL) o l [] (i:Int)=ql.b t (aw (px F l i k) BL) o l [] [] 0:=by
 have h1:=hz.f
 intro k
 induction k with
 |zero=>
  intro i F hF h
  have:i=o.2.2.1.length:=by omega
  subst this
  rw[qt.a_eq,ab,decide_eq_false (Nat.lt_irrefl _),cond_false,ql.a_eq,ab,decide_eq_false (Nat.lt_irrefl _),cond_false]
  exact⟨rfl,rfl⟩
 |succ k ih=>
  intro i F hF h
  have hi:i<o.2.2.1.length:=by omega
  obtain⟨x,hx,hpi⟩:=hp i hi
  have hsz:=hl.cs i hi
  obtain⟨p1,p2⟩:=vk hF x (rd (τ:= .str) l.2.1 (i:Int)) (.inr ⟨hpi.1,by rw[hsz];exact hpi.2.1⟩)
  rw[←hx]at p1 p2
  rw[qt.a_eq,ab,ae,ae,decide_eq_true hi,ah i _ hi (by omega),show decide (i<l.1.length)=true from decide_eq_true (by rw[hl.a];exact hi),show decide (i<l.2.1.length)=true from decide_eq_true (by rw[hl.c];exact hi),p1,
   ql.a_eq,ab,ae,ae,decide_eq_true hi,ah i _ hi (by omega),show decide (i<l.1.length)=true from decide_eq_true (by rw[hl.a];exact hi),show decide (i<l.2.1.length)=true from decide_eq_true (by rw[hl.c];exact hi),p2]
  simp only[cond_true,Option.bind_some]
  exact ih (i+1) _ (dH hF _ _) (by omega)
def y9 (t:List da):Prop:=∀i:Nat,i<t.length→(rd (τ:=aT) t (i:Int)).2.1=1→mH (rd (τ:=aT) t (i:Int)).2.2.1 4
theorem Ew (d:Int) (h: -2147483648≤d∧d≤2147483647):∃w,wr (3,0,0,0,d)=some w∧gM (3,0,0,0,d)=some w:=by
 have hR:kW (3,0,0,0,d):=⟨⟨by simp,by simp⟩,⟨by simp,by simp⟩,⟨by simp,by simp⟩,⟨by simp only;omega,by simp only;omega⟩⟩
 exact⟨_,eX (3,0,0,0,d) (by simp) (by simp) hR,eY (3,0,0,0,d) (by simp) (by simp) hR fun h=>by have h':(cS 3).1=1:=h;exact absurd h' (by decide)⟩
theorem xw (o:bn) (l:eT) (t:List da) (ht:t.length≤64) (hz:ObjSz o) (hl:ew o l) (hp:nX o l) (hf:y9 t) (hn:∀i:Nat,i<o.2.2.1.length→(rd (τ:=aA) o.2.2.1 (i:Int)).2.1=true→0≤ci t (rd (τ:=aA) o.2.2.1 (i:Int)).1∧(rd (τ:=aT) t (ci t (rd (τ:=aA) o.2.2.1 (i:Int)).1)).2.1=1):
  ∀(k i:Nat) (F:Int→Int) (sv:List (Int×Int)),FR F→i+k=o.2.2.1.length→sv.length≤i→∃F' sv',FR F'∧sv'.length≤o.2.2.1.length∧
  qt.b t (aw F BL) l [] sv o.2.2.1 (o.2.2.1.length:Int) (i:Int)=some (aw F' BL,sv')∧ql.b t (aw F BL) o l [] sv (i:Int)=some (aw F' BL,sv'):=by
 have h1:=hz.f
 intro k
 induction k with
 |zero=>
  intro i F sv hF h hs
  have:i=o.2.2.1.length:=by omega
  subst this
  rw[qt.b_eq,ab,decide_eq_false (Nat.lt_irrefl _),cond_false,ql.b_eq,ab,decide_eq_false (Nat.lt_irrefl _),cond_false]
  exact⟨F,sv,hF,hs,rfl,rfl⟩
 |succ k ih=>
  intro i F sv hF h hs
  have hi:i<o.2.2.1.length:=by omega
  rw[qt.b_eq,ab,ae,decide_eq_true hi,ah i _ hi (by omega),ql.b_eq,ab,decide_eq_true hi,ah i _ hi (by omega)]
  simp only[ae,decide_eq_true hi,cond_true]
  cases hr:(rd (τ:=aA) o.2.2.1 (i:Int)).2.1 with
  |false=>exact ih (i+1) F sv hF (by omega) (by omega)
  |true=>
   obtain⟨e1,e2⟩:=hn i hi hr
   have er:=dL t (rd (τ:=aA) o.2.2.1 (i:Int)).1
   rw[(dE t _ (by omega)).1,(dE t _ (by omega)).2]
   simp only[Bool.not_true,cond_false,Option.bind_some]
   obtain⟨q,hq⟩:∃q:Nat,ci t (rd (τ:=aA) o.2.2.1 (i:Int)).1=(q:Int):=⟨(ci t (rd (τ:=aA) o.2.2.1 (i:Int)).1).toNat,by omega⟩
   rw[hq]at e2 er⊢
   have hqt:q<t.length:=by omega
   have hat:=hf q hqt e2
   obtain⟨at_,hA⟩:∃x:Int,(rd (τ:=aT) t (q:Int)).2.2.1=x:=⟨_,rfl⟩
   rw[hA]at hat⊢
   have hr4:=hat.range
   have hg:=hat.page
   obtain⟨to,hT,hpi⟩:=hp i hi
   simp only[hT]
   rw[ae,decide_eq_true hqt,show decide (i<l.1.length)=true from decide_eq_true (by rw[hl.a];exact hi)]
   rw[show zA (aw F BL) at_ 4=some (s7 F at_ 4) from xp hF BL GZ at_ 4 (by omega) (by omega) (by omega) hg,show zf (aw F BL) at_ 4=some (s7 F at_ 4) from El hF BL GZ at_ 4 (by omega) (by omega) (by omega) hg]
   have hgz:=AC F at_ 4
   simp only[cond_true,Option.bind_some]
   rw[gF _ (by omega),hgz,show wj (s7 F at_ 4) 0 4=some (IntKind.wrap .i64 (ke (s7 F at_ 4) 0 4)) from gG (s7 F at_ 4) 0 4 (by omega) (by omega)]
   simp only[Option.bind_some]
   rw[jC _ (by simp;omega),JM,aF (n:=to-at_) (by omega) (by omega)]
   obtain⟨w,w1,w2⟩:=Ew (to-at_) ⟨by omega,by omega⟩
   simp only[cond_true,Option.bind_some]
   rw[w1,w2]
   simp only[Option.bind_some]
   rw[show ws w 4=some (aI (pZ w 4)) from k6 w 4 (by omega),show wq w 4=some (aI (pZ w 4)) from jq w 4 (by omega)]
   have hb:(aI (pZ w 4)).size=4:=by rw[cF,kZ]
   obtain⟨p1,p2⟩:=vk hF at_ (aI (pZ w 4)) (by rw[hb];exact hat)
   simp only[Option.bind_some]
   rw[p1,p2]
   simp only[Option.bind_some]
   exact ih (i+1) _ _ (dH hF _ _) (by omega) (by simp;omega)
abbrev Pc:Type:=Int×Int×Int×Int×Int
def Cp (s:nG):Int:=bif decide (s.2.1=1)then IntKind.wrap .i64 (4096+s.2.2.1)else IntKind.wrap .i64 (16384+s.2.2.1)
theorem nY (s:nG):Kt s=some (Cp s)∧Zz s=some (Cp s):=by
 rw[xS,H6]
 unfold Cp
 cases decide (s.2.1=1)<;>exact⟨rfl,rfl⟩
def xx (im:gH) (i:Nat):da:=((rd (τ:=bO) im.2.2 (i:Int)).1,(rd (τ:=bO) im.2.2 (i:Int)).2.1,Cp (rd (τ:=bO) im.2.2 (i:Int)),(rd (τ:=bO) im.2.2 (i:Int)).2.2.2.1,(rd (τ:=bO) im.2.2 (i:Int)).2.2.2.2,0)
def mI (im:gH):List da:=bb (xx im) 0 im.2.2.length
def vm (im:gH):List Pc:=cY (fun i=>decide ((rd (τ:=bO) im.2.2 (i:Int)).2.1=1)) (fun i=>((i:Int),0,Cp (rd (τ:=bO) im.2.2 (i:Int)),(rd (τ:=bO) im.2.2 (i:Int)).2.2.2)) 0 im.2.2.length
theorem AH (im:gH) (hn:im.2.2.length≤16):CT im=some (mI im):=by
 rw[KV,ck (L:=fun acc i=>CT.a acc im.2.2 (im.2.2.length:Int) i) (xx im) im.2.2.length [] fun acc i hi ha=> ?_]
 ·rw[CT.a_eq,ab,decide_eq_false (Nat.lt_irrefl _),cond_false,List.nil_append];rfl
 ·show CT.a acc im.2.2 (im.2.2.length:Int) (i:Int)=_
  rw[CT.a_eq,ab,ae,decide_eq_true hi,ah i _ hi (by omega),(nY _).1]
  simp only[cond_true,Option.bind_some]
  rw[jt _ (by simp at ha⊢;omega)];rfl
theorem AI (im:gH) (hn:im.2.2.length≤16):Cv im=some (mI im):=by
 rw[Jb,ck (L:=fun acc i=>Cv.a im acc i) (xx im) im.2.2.length [] fun acc i hi ha=> ?_]
 ·rw[Cv.a_eq,ab,decide_eq_false (Nat.lt_irrefl _),cond_false,List.nil_append];rfl
 ·show Cv.a im acc (i:Int)=_
  rw[Cv.a_eq,ab,ae,decide_eq_true hi,ah i _ hi (by omega),(nY _).2]
  simp only[cond_true,Option.bind_some]
  rw[jt _ (by simp at ha⊢;omega)];rfl
theorem AJ (im:gH) (hn:im.2.2.length≤16):Bt im=some (vm im):=by
 rw[KW,cZ (L:=fun acc i=>Bt.a acc im.2.2 (im.2.2.length:Int) i) (fun i=>decide ((rd (τ:=bO) im.2.2 (i:Int)).2.1=1)) (fun i=>(((i:Int),0,Cp (rd (τ:=bO) im.2.2 (i:Int)),(rd (τ:=bO) im.2.2 (i:Int)).2.2.2):Pc)) im.2.2.length [] fun acc i hi ha=> ?_]
 ·rw[Bt.a_eq,ab,decide_eq_false (Nat.lt_irrefl _),cond_false,List.nil_append];rfl
 ·show Bt.a acc im.2.2 (im.2.2.length:Int) (i:Int)=_
  rw[Bt.a_eq,ab,ae,decide_eq_true hi,ah i _ hi (by omega),(nY _).1]
  simp only[cond_true,Option.bind_some]
  rw[pr _ (by simp at ha⊢;omega)]
  cases decide ((rd (τ:=bO) im.2.2 (i:Int)).2.1=1)<;>rfl
theorem AK (im:gH) (hn:im.2.2.length≤16):Bo im=some (vm im):=by
 rw[Jc,cZ (L:=fun acc i=>Bo.a im acc i) (fun i=>decide ((rd (τ:=bO) im.2.2 (i:Int)).2.1=1)) (fun i=>(((i:Int),0,Cp (rd (τ:=bO) im.2.2 (i:Int)),(rd (τ:=bO) im.2.2 (i:Int)).2.2.2):Pc)) im.2.2.length [] fun acc i hi ha=> ?_]
 ·rw[Bo.a_eq,ab,decide_eq_false (Nat.lt_irrefl _),cond_false,List.nil_append];rfl
 ·show Bo.a im acc (i:Int)=_
  rw[Bo.a_eq,ab,ae,decide_eq_true hi,ah i _ hi (by omega),(nY _).2]
  simp only[cond_true,Option.bind_some]
  rw[pr _ (by simp at ha⊢;omega)]
  cases decide ((rd (τ:=bO) im.2.2 (i:Int)).2.1=1)<;>rfl
abbrev Iz:Type:=List da×List Pc×List fq×bl×bl
abbrev Ex:Type:=List da×bl×bl×List Pc×List fq
theorem Hc (im:gH) (hz:ky im):QK im=some ((mI im,vm im,aw (F0 im) BL,(8192,1024,8192),(20480,256,20480)):Iz)∧Qu im=some ((mI im,(8192,1024,8192),(20480,256,20480),vm im,aw (F0 im) BL):Ex):=by
 rw[K5,Jl,AH im hz.n,AI im hz.n,AJ im hz.n,AK im hz.n,vh im hz.c hz.d,AE im hz.c hz.d]
 exact⟨rfl,rfl⟩
structure vp (n:Nat) (t:List da) (P:List Pc) (F:Int→Int) (a b:bl):Prop where
 tab:y8 t
 len:t.length≤16+8*n
 fin:y9 t
 pl:P.length≤16+4*n
 fr:FR F
 aR:cb a
 a1:a.1=8192
 a2:a.2.1=1024
 bR:cb b
 pcs:∀p∈P,0≤p.1∧p.1< (t.length:Int)∧0≤p.2.2.1∧p.2.2.1≤1048575∧1≤p.2.2.2.1∧p.2.2.2.1≤1024∧0≤p.2.1∧p.2.1≤6
theorem Hd {n:Nat} (h:bf n=true):20≤n:=by
 unfold bf at h
 cases h1:cj n with
 |false=>rw[h1]at h;cases h
 |true=>rw[h1,cond_true,decide_eq_true_eq]at h;omega
theorem vS.sym {im:gH} (h:vS im) (i:Nat) (hi:i<im.2.2.length):pY im (rd (τ:=bO) im.2.2 (i:Int))∧FP (rd (τ:=bO) im.2.2 (i:Int)):=by
 obtain⟨E,hE,_⟩:=h.chain
 rw[aS (τ:=bO) im.2.2 i hi]
 exact⟨(mN hE i hi).1,h.funs i hi⟩
theorem tc {im:gH} {s:nG} (hz:ky im) (h:pY im s) (hk:s.2.1=1):Cp s=4096+s.2.2.1:=by
 have:=h.func hk;have:=h.at0;have:=h.size;have:=hz.c
 unfold Cp
 rw[decide_eq_true hk,cond_true,aF (by omega) (by omega)]
theorem He {im:gH} {s:nG} (hz:ky im) (h:pY im s) (hk:s.2.1=2):Cp s=16384+s.2.2.1:=by
 have:=h.data hk;have:=h.at0;have:=h.size;have:=hz.d
 unfold Cp
 rw[decide_eq_false (by omega),cond_false,aF (by omega) (by omega)]
theorem Hf {im:gH} (h:vS im):vp 0 (mI im) (vm im) (F0 im) (8192,1024,8192) (20480,256,20480):=by
 have hz:=h.sz
 have hn:=hz.n
 have hc:=hz.c
 have hd:=hz.d
 refine⟨⟨by unfold mI;rw[az];omega,fun e he=> ?_, ?_⟩,by unfold mI;rw[az];omega,fun i hi hk=> ?_, ?_,pq im,⟨⟨by decide,by decide,by decide⟩,⟨by decide,by decide,by decide⟩,by decide,by decide,by decide⟩,rfl,rfl,⟨⟨by decide,by decide,by decide⟩,⟨by decide,by decide,by decide⟩,by decide,by decide,by decide⟩,fun p hp=> ?_⟩
 ·unfold mI at he
  obtain⟨i,_,hi,rfl⟩:=(cy _ _ _ _).1 he
  obtain⟨hS,hG⟩:=h.sym i (by omega)
  unfold xx
  obtain⟨s,hs⟩:∃s:nG,rd (τ:=bO) im.2.2 (i:Int)=s:=⟨_,rfl⟩
  rw[hs]at hS hG⊢
  have h0:=hS.at0
  have h1:=hS.size
  unfold dn
  simp only
  rw[hS.name]
  rcases hS.kind with hk|hk
  ·obtain⟨g1,g2,g3⟩:=hG hk
   have hf:=hS.func hk
   rw[tc hz hS hk,g1,bj.2 (show 1≤s.2.2.2.1∧s.2.2.2.1≤1024 by omega)]
   unfold vV
   rw[decide_eq_true hk,g2];rfl
  ·have hf:=hS.data hk
   rw[He hz hS hk,bj.2 (show 1≤s.2.2.2.1∧s.2.2.2.1≤1024 by omega)]
   have hcode:bT (16384+s.2.2.1)=true:=by
    unfold bT
    rw[show(decide (0≤16384+s.2.2.1)&&decide (16384+s.2.2.1≤1048575))=true by simp;omega,cond_true,decide_eq_true_eq,Int.tmod_eq_emod_of_nonneg (by omega)];omega
   rw[hcode]
   unfold vV
   rw[decide_eq_true hk,decide_eq_true hf.2.2.2,decide_eq_false (show¬s.2.1=1 by omega)];rfl
 ·unfold mI
  refine mG _ _ _ _ fun a b _ hab hb=> ?_
  obtain⟨E,hE,_⟩:=h.chain
  have:=(mN hE b (by omega)).2
  intro e
  unfold xx at e
  simp only at e
  rw[aS (τ:=bO) im.2.2 a (by omega),aS (τ:=bO) im.2.2 b (by omega)]at e
  unfold kY at this
  have h2:(im.2.2.take b).any (fun y=>decide (y.1=(im.2.2[b]'(by omega)).1))=true:=List.any_eq_true.2 ⟨im.2.2[a]'(by omega),List.mem_take_iff_getElem.2 ⟨a,by omega,rfl⟩,decide_eq_true e⟩
  rw[h2]at this
  cases this
 ·unfold mI at hi hk⊢
  rw[az]at hi
  rw[sX (τ:=aT) (xx im) _ _ hi]at hk⊢
  obtain⟨hS,hG⟩:=h.sym i hi
  unfold xx at hk⊢
  simp only at hk⊢
  obtain⟨s,hs⟩:∃s:nG,rd (τ:=bO) im.2.2 (i:Int)=s:=⟨_,rfl⟩
  rw[hs]at hS hG hk⊢
  have h0:=hS.at0
  have h1:=hS.size
  have hf:=hS.func hk
  have h20:=Hd (hG hk).2.2
  rw[tc hz hS hk]
  exact .inl ⟨by omega,by omega⟩
 ·unfold vm
  have:=bS (fun i=>decide ((rd (τ:=bO) im.2.2 (i:Int)).2.1=1)) (fun i=>(((i:Int),0,Cp (rd (τ:=bO) im.2.2 (i:Int)),(rd (τ:=bO) im.2.2 (i:Int)).2.2.2):Pc)) im.2.2.length 0
  omega
 ·unfold vm at hp
  obtain⟨j,_,hj,hk,rfl⟩:=dQ _ _ _ _ _ hp
  have hj':j<im.2.2.length:=by omega
  obtain⟨hS,hG⟩:=h.sym j hj'
  have hk':=of_decide_eq_true hk
  obtain⟨s,hs⟩:∃s:nG,rd (τ:=bO) im.2.2 (j:Int)=s:=⟨_,rfl⟩
  simp only[hs]at hS hG hk'⊢
  have h0:=hS.at0
  have h1:=hS.size
  have hf:=hS.func hk'
  rw[tc hz hS hk']
  have hl:(mI im).length=im.2.2.length:=by unfold mI;rw[az]
  rw[hl]
  refine⟨by omega,by omega,by omega,by omega,h1,by omega⟩
theorem vq {α:Type} (p:Nat→Bool) (f:Nat→α):∀(k i j:Nat),i≤j→j<i+k→p j=true→f j∈cY p f i k
 |0,i,j,h1,h2,_=>by omega
 |k+1,i,j,h1,h2,hp=>by
  rw[cY]
  by_cases e:j=i
  ·subst e;rw[hp,cond_true];exact List.mem_cons_self ..
  ·have:=vq p f k (i+1) j (by omega) (by omega) hp
   cases p i
   ·exact this
   ·exact List.mem_cons_of_mem _ this
def NK (t:List da) (o:bn) (l:eT) (owner:Int) (i:Nat):Pc:=(ci t (rd (τ:=aA) o.2.2.1 (i:Int)).1,owner,rd (τ:= .int .i64) l.1 (i:Int),(fW o i:Int),(rd (τ:=aA) o.2.2.1 (i:Int)).2.2.1)
theorem Ey {t u:List da} {n:ByteArray} (h:0≤ci t n):ci (t++u) n=ci t n∧rd (τ:=aT) (t++u) (ci t n)=rd (τ:=aT) t (ci t n):=by
 have hrd:∀i:Nat,i<t.length→rd (τ:=aT) (t++u) (i:Int)=rd (τ:=aT) t (i:Int):=fun i hi=>by
  rw[aS (τ:=aT) (t++u) i (by rw[List.length_append];omega),aS (τ:=aT) t i hi,List.getElem_append_left hi]
 unfold ci at h⊢
 rcases cr (fun i=>decide ((rd (τ:=aT) t (i:Int)).1=n)) t.length 0 with⟨h1,h2⟩|⟨j,h1,h2,h3,h4,h5⟩
 ·rw[h1]at h;exact absurd h (by decide)
 ·rw[h1]
  rcases cr (fun i=>decide ((rd (τ:=aT) (t++u) (i:Int)).1=n)) (t++u).length 0 with⟨g1,g2⟩|⟨k,g1,g2,g3,g4,g5⟩
  ·have:=g2 j (Nat.zero_le _) (by rw[List.length_append];omega)
   rw[hrd j (by omega),h4]at this;cases this
  ·have:k=j:=by
    rcases Nat.lt_trichotomy k j with c|c|c
    ·have:=h5 k (Nat.zero_le _) c
     rw[hrd k (by omega)]at g4
     rw[this]at g4;cases g4
    ·exact c
    ·have:=g5 j (Nat.zero_le _) c
     rw[hrd j (by omega),h4]at this;cases this
   rw[g1,this]
   exact⟨rfl,hrd j (by omega)⟩
theorem Ez {t:List da} {o:bn} {l:eT} {owner:Int} (hf:y9 t) (ho:dT o) (hp:nX o l):y9 (iV t o l owner):=by
 intro i hi hk
 have hm:=an (τ:=aT) (iV t o l owner) i hi
 generalize rd (τ:=aT) (iV t o l owner) (i:Int)=e at*
 unfold iV at hm
 rcases List.mem_append.1 hm with hm|hm
 ·rcases List.mem_append.1 hm with hm|hm
  ·obtain⟨j,hj,rfl⟩:=tb (τ:=aT) hm
   exact hf j hj hk
  ·obtain⟨j,_,hj,_,rfl⟩:=dQ _ _ _ _ _ hm
   obtain⟨x,hx,h1,h2,h3⟩:=hp j (by omega)
   have:=ho.fsz_pos j (by omega)
   unfold nD
   simp only[hx]
   exact .inr ⟨h1,by omega⟩
 ·obtain⟨j,_,hj,rfl⟩:=(cy _ _ _ _).1 hm
  unfold AF at hk
  exact absurd hk (show¬((2:Int)=1) by decide)
theorem EA (t:List da) (o:bn) (l:eT) (owner:Int) (ht:t.length≤64) (hz:ObjSz o) (hl:ew o l) (P:List Pc) (hP:P.length≤100) (r:List fq×bl×bl) (x6:eT):
  zB.a (t,P,r) owner o x6 l o.2.2.1 (o.2.2.1.length:Int) 0=(qt r.1 t o l).bind fun r3=>some (l,r3.2,0,t,P++bb (NK t o l owner) 0 o.2.2.1.length,r3.1,r.2):=by
 have h1:=hz.f
 rw[ck (L:=fun acc i=>zB.a (t,acc,r) owner o x6 l o.2.2.1 (o.2.2.1.length:Int) i) (NK t o l owner) o.2.2.1.length P fun acc i hi ha=> ?_]
 ·rw[zB.a_eq,ab,decide_eq_false (Nat.lt_irrefl _),cond_false]
 ·show zB.a (t,acc,r) owner o x6 l o.2.2.1 (o.2.2.1.length:Int) (i:Int)=_
  rw[zB.a_eq,ab,ae,decide_eq_true hi,ah i _ hi (by omega),(dE t _ (by omega)).1]
  simp only[cond_true,Option.bind_some]
  rw[ae,show decide (i<l.1.length)=true from decide_eq_true (by rw[hl.a];exact hi),pr _ (by simp;omega)];rfl
theorem EB (t:List da) (o:bn) (l:eT) (owner:Int) (ht:t.length≤64) (hz:ObjSz o) (hl:ew o l) (P:List Pc) (hP:P.length≤100) (y:Ex) (a b:bl) (x12:Ex):
  Bp.a owner y o l a b x12 t P 0=(ql y.2.2.2.2 t o l).bind fun r2=>some ((t,a,b,P++bb (NK t o l owner) 0 o.2.2.1.length,r2.1),r2.2):=by
 have h1:=hz.f
 rw[ck (L:=fun acc i=>Bp.a owner y o l a b x12 t acc i) (NK t o l owner) o.2.2.1.length P fun acc i hi ha=> ?_]
 ·rw[Bp.a_eq,ab,decide_eq_false (Nat.lt_irrefl _),cond_false]
 ·show Bp.a owner y o l a b x12 t acc (i:Int)=_
  rw[Bp.a_eq,ab,ae,decide_eq_true hi,ah i _ hi (by omega),(dE t _ (by omega)).2]
  simp only[cond_true,Option.bind_some]
  rw[ae,ae,show decide (i<l.1.length)=true from decide_eq_true (by rw[hl.a];exact hi),show decide (i<l.2.1.length)=true from decide_eq_true (by rw[hl.c];exact hi),hl.cs i hi,pr _ (by simp;omega)];rfl
theorem EC (n:Nat) (hn:n≤5) (t:List da) (P:List Pc) (F:Int→Int) (a b:bl) (hL:vp n t P F a b) (o:bn) (hr:so o) (ho:qf o=true):
  ∃v,fX t a b o=some v∧(v.2.2.2≠0→∃x,zB (t,P,aw F BL,a,b) o ((n+1:Nat):Int)=some (x,[],v.2.2.2,(t,P,aw F BL,a,b)))∧
   (v.2.2.2=0→∃(t':List da) (P':List Pc) (F':Int→Int) (sv:List (Int×Int)),sv.length≤4∧vp (n+1) t' P' F' v.2.1 v.2.2.1∧ew o v.1∧
    zB (t,P,aw F BL,a,b) o ((n+1:Nat):Int)=some (v.1,sv,0,(t',P',aw F' BL,v.2.1,v.2.2.1))∧
    Bp (t,a,b,P,aw F BL) o v.1 v.2.1 v.2.2.1 ((n+1:Nat):Int)=some ((t',v.2.1,v.2.2.1,P',aw F' BL),sv)):=by
 have hO:=lZ ho
 have hlen:=hL.len
 have hpl:=hL.pl
 have htab:=vj.2 hL.tab
 obtain⟨v,e1,e2,e3⟩:=AA t a b o hr htab hL.aR hL.bR ho
 refine⟨v,e2,fun hv=> ?_,fun hv=> ?_⟩
 ·rw[F9]
  simp only
  rw[e1]
  simp only[Option.bind_some]
  rw[decide_eq_false hv]
  exact⟨_,rfl⟩
 ·have hR:=e3 hv
  have hl:=hR.lnk
  have hp:=xt hR hL.aR hL.a1 hL.a2
  obtain⟨n1,n2⟩:=ne hR.names
  have hT:=Hb (owner:=((n+1:Nat):Int)) hL.tab hO hl hR.names (by omega) (by omega)
  have hTf:=Ez (owner:=((n+1:Nat):Int)) hL.fin hO hp
  have hTl:=nf t o v.1 ((n+1:Nat):Int) hO.toObjSz
  have hTr:∀i:Nat,i<o.2.2.1.length→(rd (τ:=aA) o.2.2.1 (i:Int)).2.1=true→0≤ci (iV t o v.1 ((n+1:Nat):Int)) (rd (τ:=aA) o.2.2.1 (i:Int)).1∧(rd (τ:=aT) (iV t o v.1 ((n+1:Nat):Int)) (ci (iV t o v.1 ((n+1:Nat):Int)) (rd (τ:=aA) o.2.2.1 (i:Int)).1)).2.1=1:=by
   intro i hi hrr
   obtain⟨g1,g2⟩:=G9 (n1 i hi) hrr
   unfold iV
   rw[List.append_assoc]
   obtain⟨f1,f2⟩:=Ey (u:=cY (fun i=> !(rd (τ:=aA) o.2.2.1 (i:Int)).2.1) (nD o v.1 ((n+1:Nat):Int)) 0 o.2.2.1.length++bb (AF o v.1 ((n+1:Nat):Int)) 0 o.2.2.2.1.length) g1
   rw[f1,f2];exact⟨g1,g2⟩
  generalize hTn:iV t o v.1 ((n+1:Nat):Int)=T at*
  obtain⟨c1,c2⟩:=xu o v.1 T hO.toObjSz hl hp [] o.2.2.1.length 0 F hL.fr (by omega)
  obtain⟨F',sv,hF',hsv,j1,j2⟩:=xw o v.1 T hT.len hO.toObjSz hl hp hTf hTr o.2.2.1.length 0 (px F v.1 0 o.2.2.1.length) [] (lG v.1 _ _ F hL.fr) (by omega) (by simp)
  have hi:qt (aw F BL) T o v.1=some (aw F' BL,sv):=by rw[Mi];exact c1.trans j1
  have hs:ql (aw F BL) T o v.1=some (aw F' BL,sv):=by rw[JN];exact c2.trans j2
  have hf4:=hO.f
  obtain⟨_,hA,hB⟩:=u3 o hO a b hL.aR hL.bR
  refine⟨T,P++bb (NK T o v.1 ((n+1:Nat):Int)) 0 o.2.2.1.length,F',sv,by omega,⟨hT,by omega,hTf,by rw[List.length_append,az];omega,hF',by rw[hR.ea];exact hA, ?_, ?_,by rw[hR.eb];exact hB,fun p hp=> ?_⟩,hl, ?_, ?_⟩
  ·rw[hR.ea];exact(pw _ _ _ _).1.trans hL.a1
  ·rw[hR.ea];exact(pw _ _ _ _).2.trans hL.a2
  ·have hTlen:t.length≤T.length:=by rw[←hTn];unfold iV;simp only[List.length_append];omega
   rcases List.mem_append.1 hp with hp|hp
   ·have:=hL.pcs p hp
    omega
   ·obtain⟨j,_,hj,rfl⟩:=(cy _ _ _ _).1 hp
    have hj':j<o.2.2.1.length:=by omega
    have hfs:=hO.fsz_pos j hj'
    have hat:=hl.fa j hj'
    have her:=dL T (rd (τ:=aA) o.2.2.1 (j:Int)).1
    have hnn:¬ci T (rd (τ:=aA) o.2.2.1 (j:Int)).1<0:=by
     cases hrep:(rd (τ:=aA) o.2.2.1 (j:Int)).2.1 with
     |true=>have:=(hTr j hj' hrep).1;omega
     |false=>
      rw[lF]
      intro hall
      refine hall (nD o v.1 ((n+1:Nat):Int) j) ?_ rfl
      rw[←hTn];unfold iV
      exact List.mem_append_left _ (List.mem_append_right _ (vq _ _ _ _ j (Nat.zero_le _) (by omega) (by rw[hrep];rfl)))
    unfold NK
    simp only
    exact⟨by omega,by omega,hat.1,hat.2.1,by omega,by omega,by omega,by omega⟩
  ·rw[F9]
   simp only
   rw[e1]
   simp only[Option.bind_some]
   rw[hv,Md,decide_eq_false (show¬(t.length:Int)>4096 by omega),(ig t).1,htab,(iP o hr).1,ho,qJ o v.1 hO.toObjSz hl,(bm _ _ _).1,bj.2 (show 1≤((n+1:Nat):Int)∧((n+1:Nat):Int)≤6 by omega),kT t o v.1 _ (by omega) hO.toObjSz hl,hTn]
   simp only[decide_true,Bool.not_true,cond_false,Option.bind_some,ax]
   rw[(ig T).1,vj.2 hT]
   simp only[decide_true,Bool.not_true,cond_false,Option.bind_some]
   rw[EA T o v.1 _ hT.len hO.toObjSz hl P (by omega)]
   simp only
   rw[hi];rfl
  ·rw[JO]
   simp only
   rw[qI t o v.1 _ (by omega) hO.toObjSz hl,hTn]
   simp only[Option.bind_some]
   rw[pr _ (by omega),cond_true,EB T o v.1 _ hT.len hO.toObjSz hl P (by omega)]
   simp only
   rw[hs];rfl
theorem cM {L:Int→Option Bool} {n m:Nat} (p:Nat→Bool) (hend:n=m→L (n:Int)=some true) (hstep:n=m→∀i:Nat,i<n→L (i:Int)=bif p i then L ((i+1:Nat):Int)else some false):
  (bif (!decide ((n:Int)=(m:Int)))then some false else L 0)=some (decide (n=m)&&gI p 0 n):=by
 by_cases h:n=m
 ·rw[decide_eq_true (show(n:Int)=(m:Int) by omega),decide_eq_true h,cO p n (hend h) (hstep h)];rfl
 ·rw[decide_eq_false (show¬(n:Int)=(m:Int) by omega),decide_eq_false h];rfl
def NL (a b:List Int):Bool:=decide (a.length=b.length)&&gI (fun i=>decide ((rd (τ:= .int .i64) a (i:Int):Int)=rd (τ:= .int .i64) b (i:Int))) 0 a.length
def N3 (a b:List ByteArray):Bool:=decide (a.length=b.length)&&gI (fun i=>decide ((rd (τ:= .str) a (i:Int):ByteArray)=rd (τ:= .str) b (i:Int))) 0 a.length
theorem nZ (a b:List Int) (h:a.length≤1048576):CX a b=some (NL a b)∧CB a b=some (NL a b):=by
 rw[Mj,JH]
 constructor
 ·refine cM (L:=CX.a a b (a.length:Int)) _ (fun _=> ?_) fun hl i hi=> ?_
  ·rw[CX.a_eq,ab,decide_eq_false (Nat.lt_irrefl _),cond_false]
  ·rw[CX.a_eq,ab,ae,ae,decide_eq_true hi,decide_eq_true (show i<b.length by omega),ah i _ hi (by omega)]
   simp only[cond_true]
   cases decide ((rd (τ:= .int .i64) a (i:Int):Int)=rd (τ:= .int .i64) b (i:Int))<;>rfl
 ·refine cM (L:=CB.a a b) _ (fun _=> ?_) fun hl i hi=> ?_
  ·rw[CB.a_eq,ab,decide_eq_false (Nat.lt_irrefl _),cond_false]
  ·rw[CB.a_eq,ab,ae,ae,decide_eq_true hi,decide_eq_true (show i<b.length by omega),ah i _ hi (by omega)]
   simp only[cond_true]
   cases decide ((rd (τ:= .int .i64) a (i:Int):Int)=rd (τ:= .int .i64) b (i:Int))<;>rfl
theorem n4 (a b:List ByteArray) (h:a.length≤1048576):CY a b=some (N3 a b)∧CC a b=some (N3 a b):=by
 rw[Mk,JI]
 constructor
 ·refine cM (L:=CY.a a b (a.length:Int)) _ (fun _=> ?_) fun hl i hi=> ?_
  ·rw[CY.a_eq,ab,decide_eq_false (Nat.lt_irrefl _),cond_false]
  ·rw[CY.a_eq,ab,ae,ae,decide_eq_true hi,decide_eq_true (show i<b.length by omega),ah i _ hi (by omega),aM]
   simp only[cond_true]
   cases decide ((rd (τ:= .str) a (i:Int):ByteArray)=rd (τ:= .str) b (i:Int))<;>rfl
 ·refine cM (L:=CC.a a b) _ (fun _=> ?_) fun hl i hi=> ?_
  ·rw[CC.a_eq,ab,decide_eq_false (Nat.lt_irrefl _),cond_false]
  ·rw[CC.a_eq,ab,ae,ae,decide_eq_true hi,decide_eq_true (show i<b.length by omega),ah i _ hi (by omega),aM]
   simp only[cond_true]
   cases decide ((rd (τ:= .str) a (i:Int):ByteArray)=rd (τ:= .str) b (i:Int))<;>rfl
def lH (a b:eT):Bool:=NL a.1 b.1&&(N3 a.2.1 b.2.1&&(NL a.2.2.1 b.2.2.1&&N3 a.2.2.2 b.2.2.2))
theorem xy (a b:eT) (h1:a.1.length≤1048576) (h2:a.2.1.length≤1048576) (h3:a.2.2.1.length≤1048576) (h4:a.2.2.2.length≤1048576):PF a b=some (lH a b)∧QC a b=some (lH a b):=by
 rw[Ml,JJ,(nZ _ _ h1).1,(nZ _ _ h1).2,(n4 _ _ h2).1,(n4 _ _ h2).2,(nZ _ _ h3).1,(nZ _ _ h3).2,(n4 _ _ h4).1,(n4 _ _ h4).2]
 unfold lH
 simp only[Option.bind_some]
 cases NL a.1 b.1<;>cases N3 a.2.1 b.2.1<;>cases NL a.2.2.1 b.2.2.1<;>exact⟨rfl,rfl⟩
abbrev Sv:Type:=Int×Int
def ED (a b:List Sv):Bool:=decide (a.length=b.length)&&gI (fun i=>jQ fJ (rd (τ:=fJ) a (i:Int)) (rd (τ:=fJ) b (i:Int))) 0 a.length
theorem py (a b:List Sv) (h:a.length≤1048576):CZ a b=some (ED a b)∧Fa a b=some (ED a b):=by
 rw[Mm,JP]
 constructor
 ·refine cM (L:=CZ.a a b (a.length:Int)) _ (fun _=> ?_) fun hl i hi=> ?_
  ·rw[CZ.a_eq,ab,decide_eq_false (Nat.lt_irrefl _),cond_false]
  ·rw[CZ.a_eq,ab,ae,ae,decide_eq_true hi,decide_eq_true (show i<b.length by omega),ah i _ hi (by omega)]
   simp only[cond_true]
   cases jQ fJ (rd (τ:=fJ) a (i:Int)) (rd (τ:=fJ) b (i:Int))<;>rfl
 ·refine cM (L:=Fa.a a b) _ (fun _=> ?_) fun hl i hi=> ?_
  ·rw[Fa.a_eq,ab,decide_eq_false (Nat.lt_irrefl _),cond_false]
  ·rw[Fa.a_eq,ab,ae,ae,decide_eq_true hi,decide_eq_true (show i<b.length by omega),ah i _ hi (by omega)]
   simp only[cond_true]
   cases jQ fJ (rd (τ:=fJ) a (i:Int)) (rd (τ:=fJ) b (i:Int))<;>rfl
def Qc (a b:List da):Bool:=decide (a.length=b.length)&&gI (fun i=>jQ aT (rd (τ:=aT) a (i:Int)) (rd (τ:=aT) b (i:Int))) 0 a.length
theorem za (a b:List da) (h:a.length≤1048576):Gg a b=some (Qc a b)∧Fb a b=some (Qc a b):=by
 rw[Mz,JR]
 constructor
 ·refine cM (L:=Gg.a a b (a.length:Int)) _ (fun _=> ?_) fun hl i hi=> ?_
  ·rw[Gg.a_eq,ab,decide_eq_false (Nat.lt_irrefl _),cond_false]
  ·rw[Gg.a_eq,ab,ae,ae,decide_eq_true hi,decide_eq_true (show i<b.length by omega),ah i _ hi (by omega)]
   simp only[cond_true]
   cases jQ aT (rd (τ:=aT) a (i:Int)) (rd (τ:=aT) b (i:Int))<;>rfl
 ·refine cM (L:=Fb.a a b) _ (fun _=> ?_) fun hl i hi=> ?_
  ·rw[Fb.a_eq,ab,decide_eq_false (Nat.lt_irrefl _),cond_false]
  ·rw[Fb.a_eq,ab,ae,ae,decide_eq_true hi,decide_eq_true (show i<b.length by omega),ah i _ hi (by omega)]
   simp only[cond_true]
   cases jQ aT (rd (τ:=aT) a (i:Int)) (rd (τ:=aT) b (i:Int))<;>rfl
def zb (a b:fq):Bool:=decide (a.1=b.1)&&(decide (a.2.1=b.2.1)&&(!decide (a.2.1=4)||decide (a.2.2=b.2.2)))
def EE (a b:List fq):Bool:=decide (a.length=b.length)&&gI (fun i=>zb (rd (τ:=aO) a (i:Int)) (rd (τ:=aO) b (i:Int))) 0 a.length
theorem vr (a b:List fq) (h:a.length≤1048576):Q2 a b=some (EE a b)∧CD a b=some (EE a b):=by
 rw[MC,MB,JS]
 constructor
 ·rw[cM (L:=Gx.a b a (a.length:Int)) (fun i=>zb (rd (τ:=aO) a (i:Int)) (rd (τ:=aO) b (i:Int))) (fun _=> ?_) fun hl i hi=> ?_]
  ·rfl
  ·rw[Gx.a_eq,ab,decide_eq_false (Nat.lt_irrefl _),cond_false]
  ·rw[Gx.a_eq,ab,ae,ae,decide_eq_true hi,decide_eq_true (show i<b.length by omega),ah i _ hi (by omega),MA,aM]
   unfold zb
   simp only[cond_true]
   generalize rd (τ:=aO) a (i:Int)=x
   generalize rd (τ:=aO) b (i:Int)=y
   cases decide (x.1=y.1)<;>cases decide (x.2.1=y.2.1)<;>cases decide (x.2.1=4)<;>cases decide (x.2.2=y.2.2)<;>rfl
 ·refine cM (L:=CD.a a b) _ (fun _=> ?_) fun hl i hi=> ?_
  ·rw[CD.a_eq,ab,decide_eq_false (Nat.lt_irrefl _),cond_false]
  ·rw[CD.a_eq,ab,ae,ae,decide_eq_true hi,decide_eq_true (show i<b.length by omega),ah i _ hi (by omega),aM]
   unfold zb
   simp only[cond_true]
   generalize rd (τ:=aO) a (i:Int)=x
   generalize rd (τ:=aO) b (i:Int)=y
   cases decide (x.1=y.1)<;>cases decide (x.2.1=y.2.1)<;>cases decide (x.2.1=4)<;>cases decide (x.2.2=y.2.2)<;>rfl
def rO (o:bn) (id:Int):Bool:=ft (fun k=>decide ((rd (τ:=dj) o.2.2.2.2.2 (k:Int)).1=id)) 0 o.2.2.2.2.2.length
def pz (q o:bn):Bool:=ft (fun i=>rO o (rd (τ:=dj) q.2.2.2.2.2 (i:Int)).1) 0 q.2.2.2.2.2.length
theorem EF (o:bn) (hz:ObjSz o) (id:Int):QN o id=some (rO o id):=by
 have h:=hz.s
 rw[Li,Lh,Lg]
 rw[c6 (L:=Gr.a id o.2.2.2.2.2 (o.2.2.2.2.2.length:Int)) (fun k=>decide ((rd (τ:=dj) o.2.2.2.2.2 (k:Int)).1=id)) o.2.2.2.2.2.length ?_ fun i hi=> ?_]
 ·simp only[Option.bind_some];rw[qb];rfl
 ·rw[Gr.a_eq,ab];simp
 ·rw[Gr.a_eq,ab,ae,decide_eq_true hi,ah i _ hi (by omega),Lf];rfl
theorem AL (q o:bn) (hq:ObjSz q) (ho:ObjSz o):QO q o=some (pz q o):=by
 have h:=hq.s
 rw[Lm,Ll,Lk]
 rw[c6 (L:=Gs.a o q.2.2.2.2.2 (q.2.2.2.2.2.length:Int)) (fun i=>rO o (rd (τ:=dj) q.2.2.2.2.2 (i:Int)).1) q.2.2.2.2.2.length ?_ fun i hi=> ?_]
 ·simp only[Option.bind_some];rw[qb];rfl
 ·rw[Gs.a_eq,ab];simp
 ·rw[Gs.a_eq,ab,ae,decide_eq_true hi,ah i _ hi (by omega),Lj,EF o ho];rfl
abbrev Hg:Ty:= .pair .str (.pair (.int .i64) (.pair (.list aA) (.pair (.list bc) (.pair (.list bU) (.list dj)))))
abbrev Hh:Ty:= .pair (.list (.int .i64)) (.pair (.list .str) (.pair (.list (.int .i64)) (.list .str)))
abbrev cd:Ty:= .pair Hg (.pair Hh (.list fJ))
abbrev Gn:Type:=bn×eT×List Sv
def lI (ps:List Gn) (o:bn):Bool:=ft (fun j=>decide ((rd (τ:=cd) ps (j:Int)).1.1=o.1)) 0 ps.length
def ju (ps:List Gn) (o:bn):Bool:=ft (fun j=>pz (rd (τ:=cd) ps (j:Int)).1 o) 0 ps.length
theorem EG (o:bn) (id:Int):ft (fun k=>decide (id=(rd (τ:=dj) o.2.2.2.2.2 (k:Int)).1)) 0 o.2.2.2.2.2.length=rO o id:=by
 unfold rO
 have e:(fun k:Nat=>decide (id=(rd (τ:=dj) o.2.2.2.2.2 (k:Int)).1))=fun k:Nat=>decide ((rd (τ:=dj) o.2.2.2.2.2 (k:Int)).1=id):=by
  funext k
  congr 1
  exact propext ⟨Eq.symm,Eq.symm⟩
 rw[e]
theorem xz (ps:List Gn) (o:bn) (hp:ps.length≤6) (hz:∀j:Nat,j<ps.length→ObjSz (rd (τ:=cd) ps (j:Int)).1) (ho:ObjSz o):iX.b ps o 0=bif ju ps o then some 30 else some 0:=by
 have hs:=ho.s
 rw[dS (L:=iX.b ps o) (fun j=>pz (rd (τ:=cd) ps (j:Int)).1 o) ps.length (some 30) fun j hj=> ?_]
 ·rw[iX.b_eq,ab,decide_eq_false (Nat.lt_irrefl _),cond_false];rfl
 ·obtain⟨q,hq⟩:∃q:bn,(rd (τ:=cd) ps (j:Int)).1=q:=⟨_,rfl⟩
  have hqz:=hz j hj
  rw[hq]at hqz⊢
  have hqs:=hqz.s
  rw[iX.b_eq,ab,ae,decide_eq_true hj,cond_true,cond_true,hq]
  rw[dS (L:=iX.c ps o (j:Int) q.2.2.2.2.2) (fun k=>rO o (rd (τ:=dj) q.2.2.2.2.2 (k:Int)).1) q.2.2.2.2.2.length (some 30) fun k hk=> ?_]
  ·rw[iX.c_eq,ab,decide_eq_false (Nat.lt_irrefl _),cond_false,ah j _ hj (by omega)];rfl
  ·rw[iX.c_eq,ab,decide_eq_true hk,cond_true]
   rw[dS (L:=iX.d ps o (j:Int) q.2.2.2.2.2 (k:Int)) (fun n=>decide ((rd (τ:=dj) q.2.2.2.2.2 (k:Int)).1=(rd (τ:=dj) o.2.2.2.2.2 (n:Int)).1)) o.2.2.2.2.2.length (some 30) fun n hn=> ?_]
   ·rw[iX.d_eq,ab,decide_eq_false (Nat.lt_irrefl _),cond_false,ah k _ hk (by omega),EG]
   ·rw[iX.d_eq,ab,ae,ae,decide_eq_true hn,decide_eq_true hk,ah n _ hn (by omega)]
    simp only[cond_true]
theorem td (ps:List Gn) (o:bn) (hp:ps.length≤6) (hz:∀j:Nat,j<ps.length→ObjSz (rd (τ:=cd) ps (j:Int)).1) (ho:ObjSz o):iX ps o=some (bif lI ps o then 24 else bif ju ps o then 30 else 0):=by
 rw[Ju,dS (L:=iX.a ps o) (fun j=>decide ((rd (τ:=cd) ps (j:Int)).1.1=o.1)) ps.length (some 24) fun j hj=> ?_]
 ·rw[iX.a_eq,ab,decide_eq_false (Nat.lt_irrefl _),cond_false,xz ps o hp hz ho]
  show(bif lI ps o then _ else _)=_
  cases lI ps o<;>cases ju ps o<;>rfl
 ·rw[iX.a_eq,ab,ae,decide_eq_true hj,ah j _ hj (by omega),aM]
  simp only[cond_true]
theorem zc (p q:Nat→Bool):∀k i,ft (fun j=>p j||q j) i k=(ft p i k||ft q i k)
 |0,_=>rfl
 |k+1,i=>by
  rw[ft,ft,ft,zc p q k (i+1)]
  cases p i<;>cases q i<;>simp
abbrev O0:Type:=gH×PD×List Gn
def vt (ps:List Gn):Prop:=∀j:Nat,j<ps.length→so (rd (τ:=cd) ps (j:Int)).1
abbrev ZI:Iz:=([],[],[],(0,0,0),0,0,0)
theorem Hi {τ:Ty} (l:List τ.den) (n j:Nat) (hj:j<n) (hn:n≤l.length):rd (τ:=τ) (l.take n) (j:Int)=rd (τ:=τ) l (j:Int):=by
 rw[aS _ _ (by rw[List.length_take];omega),aS _ _ (by omega),List.getElem_take]
theorem EH (ps:List Gn) (hp:ps.length≤6) (hW:vt ps) (saved:Bool) (x6:Iz) (x6':Ex):∀(k i:Nat) (t:List da) (P:List Pc) (F:Int→Int) (a b:bl),i+k=ps.length→vp i t P F a b→(∀j:Nat,j<i→qf (rd (τ:=cd) ps (j:Int)).1=true)→
  ∃rI rS,sw.a ps saved ZI (t,P,aw F BL,a,b) ps (ps.length:Int) (i:Int)=some rI∧zg.a ps saved x6' (t,a,b,P,aw F BL) (i:Int)=some rS∧rI.2=rS.2∧
   (rI.2=true→(ps.length≤6∧∀j:Nat,j<ps.length→qf (rd (τ:=cd) ps (j:Int)).1=true)∧∃t' P' F' a' b',rI.1=(t',P',aw F' BL,a',b')∧rS.1=(t',a',b',P',aw F' BL)∧vp ps.length t' P' F' a' b'):=by
 intro k
 induction k with
 |zero=>
  intro i t P F a b h hL hO
  have:i=ps.length:=by omega
  subst this
  rw[sw.a_eq,ab,decide_eq_false (Nat.lt_irrefl _),cond_false,zg.a_eq,ab,decide_eq_false (Nat.lt_irrefl _),cond_false]
  exact⟨_,_,rfl,rfl,rfl,fun _=>⟨⟨hp,hO⟩,t,P,F,a,b,rfl,rfl,hL⟩⟩
 |succ k ih=>
  intro i t P F a b h hL hO
  have hi:i<ps.length:=by omega
  have hr:=hW i hi
  rw[sw.a_eq,ab,ae,decide_eq_true hi,zg.a_eq,ab,decide_eq_true hi]
  simp only[ae,decide_eq_true hi,cond_true,ax]
  obtain⟨p,hpe⟩:∃p:Gn,rd (τ:=cd) ps (i:Int)=p:=⟨_,rfl⟩
  rw[hpe]at hr⊢
  rw[(iP p.1 hr).1,(iP p.1 hr).2]
  simp only[Option.bind_some]
  cases hob:qf p.1 with
  |false=>exact⟨_,_,rfl,rfl,rfl,fun h=>by cases h⟩
  |true=>
   simp only[Bool.not_true,cond_false]
   by_cases hdep:p.1.2.1=(i:Int)
   ·rw[decide_eq_true hdep,iN i _ (by omega),iM]
    simp only[Bool.not_true,cond_false,cond_true]
    have hpo:=lZ hob
    have hlt:(ps.take i).length=i:=by rw[List.length_take];omega
    have hsz:∀j:Nat,j< (ps.take i).length→ObjSz (rd (τ:=cd) (ps.take i) (j:Int)).1:=fun j hj=>by
     rw[hlt]at hj
     rw[Hi (τ:=cd) ps i j hj (by omega)]
     exact(lZ (hO j hj)).toObjSz
    rw[td (ps.take i) p.1 (by omega) hsz hpo.toObjSz]
    simp only[Option.bind_some]
    rw[dS (L:=sw.b ps saved ZI (t,P,aw F BL,a,b) (i:Int) p ps (ps.length:Int) (i:Int) (ps.take i) ((ps.take i).length:Int)) (fun j=>decide ((rd (τ:=cd) (ps.take i) (j:Int)).1.1=p.1.1)||pz (rd (τ:=cd) (ps.take i) (j:Int)).1 p.1) (ps.take i).length (some (ZI,false)) fun j hj=> ?_]
    ·rw[zc]
     show∃rI rS,(bif (lI (ps.take i) p.1||ju (ps.take i) p.1)then _ else _)=some rI∧_
     cases hna:lI (ps.take i) p.1 with
     |true=>exact⟨_,_,rfl,rfl,rfl,fun h=>by cases h⟩
     |false=>
      cases hsa:ju (ps.take i) p.1 with
      |true=>exact⟨_,_,rfl,rfl,rfl,fun h=>by cases h⟩
      |false=>
       simp only[Bool.or_self,cond_false,decide_true,Bool.not_true]
       rw[sw.b_eq,ab,decide_eq_false (Nat.lt_irrefl _),cond_false,ah i ps.length hi (by omega)]
       obtain⟨v,e1,e2,e3⟩:=EC i (by omega) t P F a b hL p.1 hr hob
       rw[e1]
       simp only[Option.bind_some,ax]
       by_cases hv:v.2.2.2=0
       ·obtain⟨t',P',F',sv,hsv,hL',hl',g1,g2⟩:=e3 hv
        rw[g1,hv]
        simp only[Option.bind_some,decide_true,Bool.not_true,cond_false]
        have hof:=hpo.f
        have hod:=hpo.d
        obtain⟨q1,q2⟩:=xy v.1 p.2.1 (by rw[hl'.a];omega) (by rw[hl'.c];omega) (by rw[hl'.d];omega) (by rw[hl'.b];omega)
        rw[q1,q2]
        simp only[Option.bind_some]
        have hnext:=ih (i+1) t' P' F' v.2.1 v.2.2.1 (by omega) hL' fun j hj=>by
         by_cases e:j=i
         ·rw[e,hpe];exact hob
         ·exact hO j (by omega)
        cases lH v.1 p.2.1 with
        |false=>cases saved<;>exact⟨_,_,rfl,rfl,rfl,fun h=>by cases h⟩
        |true=>
         simp only[Bool.not_true,cond_false]
         rw[g2]
         simp only[Option.bind_some]
         cases saved with
         |true=>
          simp only[Bool.not_true,cond_false,cond_true]
          rw[(py sv p.2.2 (by omega)).1,(py sv p.2.2 (by omega)).2]
          simp only[Option.bind_some]
          cases ED sv p.2.2 with
          |false=>exact⟨_,_,rfl,rfl,rfl,fun h=>by cases h⟩
          |true=>exact hnext
         |false=>
          simp only[Bool.not_false,cond_true,cond_false]
          rw[(py [] p.2.2 (by simp)).1]
          simp only[Option.bind_some]
          have e:ED [] p.2.2= !decide ((p.2.2.length:Int)>0):=by
           unfold ED
           rw[show gI (fun i=>jQ fJ (rd (τ:=fJ) ([]:List Sv) (i:Int)) (rd (τ:=fJ) p.2.2 (i:Int))) 0 ([]:List Sv).length=true from rfl,Bool.and_true,←decide_not]
           congr 1
           apply propext
           simp only[List.length_nil]
           omega
          rw[e]
          cases decide ((p.2.2.length:Int)>0)with
          |true=>exact⟨_,_,rfl,rfl,rfl,fun h=>by cases h⟩
          |false=>exact hnext
       ·obtain⟨x,g1⟩:=e2 hv
        rw[g1]
        simp only[Option.bind_some]
        rw[decide_eq_false hv]
        cases saved<;>exact⟨_,_,rfl,rfl,rfl,fun h=>by cases h⟩
    ·have hj2:=hj
     rw[hlt]at hj2
     rw[sw.b_eq,ab,ae,decide_eq_true hj,ah j _ hj (by omega),AL _ _ (hsz j hj) hpo.toObjSz,aM]
     simp only[cond_true,Option.bind_some]
     cases decide ((rd (τ:=cd) (ps.take i) (j:Int)).1.1=p.1.1)<;>cases pz (rd (τ:=cd) (ps.take i) (j:Int)).1 p.1<;>rfl
   ·rw[decide_eq_false hdep]
    exact⟨_,_,rfl,rfl,rfl,fun h=>by cases h⟩
theorem te (im:gH) (him:BS im=true) (ps:List Gn) (hW:vt ps) (saved:Bool):
  ∃rI rS,sw im ps saved=some rI∧zg im ps saved=some rS∧rI.2=rS.2∧
   (rI.2=true→(ps.length≤6∧∀j:Nat,j<ps.length→qf (rd (τ:=cd) ps (j:Int)).1=true)∧∃t' P' F' a' b',rI.1=(t',P',aw F' BL,a',b')∧rS.1=(t',a',b',P',aw F' BL)∧vp ps.length t' P' F' a' b'):=by
 obtain⟨i1,i2,i3⟩:=ns im
 have hI:=i3 him
 obtain⟨n1,n2⟩:=Hc im hI.sz
 rw[Ga,JQ,i1,him,n2]
 simp only[Option.bind_some,ax,Bool.not_true,cond_false]
 rcases Nat.lt_or_ge 6 ps.length with h|h
 ·rw[decide_eq_true (show(ps.length:Int)>6 by omega)]
  exact⟨_,_,rfl,rfl,rfl,fun h=>by cases h⟩
 ·rw[decide_eq_false (show¬(ps.length:Int)>6 by omega),n1]
  simp only[Option.bind_some,cond_false]
  exact EH ps h hW saved ZI ([],(0,0,0),(0,0,0),[],[]) ps.length 0 (mI im) (vm im) (F0 im) _ _ (by omega) (Hf hI) fun j hj=>by omega
theorem EI {m:PD} (h:ym m=true):m.1.length≤64∧m.2.2.1.length≤64:=by
 unfold ym at h
 rw[Bool.and_eq_true,Bool.and_eq_true]at h
 have h1:=h.1
 have h2:=h.2.1
 unfold p9 at h1
 unfold nI at h2
 rw[Bool.and_eq_true,decide_eq_true_eq]at h1 h2
 exact⟨h1.1,h2.1⟩
theorem tf (s:O0) (hW:vt s.2.2):∃rI rS,OV s=some rI∧OJ s=some rS∧rI.2=rS.2∧
  (rI.2=true→(s.2.2.length≤6∧ym s.2.1=true∧∀j:Nat,j<s.2.2.length→qf (rd (τ:=cd) s.2.2 (j:Int)).1=true)∧∃t' P' F' a' b',rI.1=(t',P',aw F' BL,a',b')∧rS.1=(t',a',b',P',aw F' BL)∧vp s.2.2.length t' P' F' a' b'):=by
 obtain⟨i1,i2,i3⟩:=ns s.1
 obtain⟨m1,m2⟩:=vZ s.2.1
 rw[MD,JT,i2,m1,m2]
 simp only[Option.bind_some,ax]
 cases him:BS s.1 with
 |false=>
  rw[Ga,i1,him]
  simp only[Option.bind_some,ax,Bool.not_false,cond_true]
  exact⟨_,_,rfl,rfl,rfl,fun h=>by cases h⟩
 |true=>
  obtain⟨rI,rS,e1,e2,e3,e4⟩:=te s.1 him s.2.2 hW true
  rw[e1]
  simp only[Option.bind_some,Bool.not_true,cond_false]
  cases hm:ym s.2.1 with
  |false=>
   cases h:rI.2 with
   |false=>exact⟨_,_,rfl,rfl,rfl,fun h=>by cases h⟩
   |true=>exact⟨_,_,rfl,rfl,rfl,fun h=>by cases h⟩
  |true=>
   obtain⟨l1,l2⟩:=EI hm
   simp only[Bool.not_true,cond_false]
   rw[e2]
   simp only[Option.bind_some]
   rw[←e3]
   cases h:rI.2 with
   |false=>exact⟨_,_,rfl,rfl,rfl,fun h=>by cases h⟩
   |true=>
    obtain⟨f0,t',P',F',a',b',f1,f2,f3⟩:=e4 h
    rw[f1,f2]
    simp only[Bool.not_true,cond_false,cond_true]
    rw[(za _ _ (by omega)).1,(za _ _ (by omega)).2]
    simp only[Option.bind_some]
    cases Qc s.2.1.2.2.1 t' with
    |false=>exact⟨_,_,rfl,rfl,rfl,fun h=>by cases h⟩
    |true=>
     simp only[Bool.not_true,cond_false,cond_true]
     rw[(vr _ _ (by omega)).1,(vr _ _ (by omega)).2]
     simp only[Option.bind_some]
     cases EE s.2.1.1 (aw F' BL)with
     |false=>exact⟨_,_,rfl,rfl,rfl,fun h=>by cases h⟩
     |true=>exact⟨_,_,rfl,rfl,rfl,fun _=>⟨⟨f0.1,trivial,f0.2⟩,t',P',F',a',b',rfl,rfl,f3⟩⟩
theorem nh (s:O0) (hW:vt s.2.2):∃rI rS,OV s=some rI∧OJ s=some rS∧rI.2=rS.2∧
  (rI.2=true→∃t' P' F' a' b',rI.1=(t',P',aw F' BL,a',b')∧rS.1=(t',a',b',P',aw F' BL)∧vp s.2.2.length t' P' F' a' b'):=by
 obtain⟨rI,rS,e1,e2,e3,e4⟩:=tf s hW
 exact⟨rI,rS,e1,e2,e3,fun h=>(e4 h).2⟩
def wi:(τ:Ty)→τ.den→Prop
 | .list e,l=>List.length l≤1048576∧∀x∈l,wi e x
 | .pair a b,x=>wi a x.1∧wi b x.2
 |_,_=>True
def SP (B:Prop) (left:Int) (v:Option Int):Prop:=∃r,v=some r∧r≤left∧(0≤r→B)
def ni (left:Int):Prop:=0≤left∧left≤1048576
theorem SP.fin {B:Prop} {left:Int} (h:B):SP B left (some left):=⟨left,rfl,Int.le_refl _,fun _=>h⟩
theorem SP.str {B:Prop} {left:Int} (n:Nat) (hn:n≤9223372036854775807) (hl:ni left) (K:Int→Option Int) (hK:∀l',ni l'→l'≤left→n≤1048576→SP B l' (K l')):SP B left (bif decide (IntKind.wrap .i64 (left-(n:Int))<0)then some (-1)else K (IntKind.wrap .i64 (left-(n:Int)))):=by
 obtain⟨h1,h2⟩:=hl
 rw[aF (n:=left-(n:Int)) (by omega) (by omega)]
 by_cases h:left-(n:Int)<0
 ·rw[decide_eq_true h];exact⟨-1,rfl,by omega,fun h=>absurd h (by decide)⟩
 ·rw[decide_eq_false h,cond_false]
  obtain⟨r,e1,e2,e3⟩:=hK (left-(n:Int)) ⟨by omega,by omega⟩ (by omega) (by omega)
  exact⟨r,e1,by omega,e3⟩
theorem SP.call {B B1:Prop} {left:Int} {v:Option Int} (hf:SP B1 left v) (hl:ni left) (K:Int→Option Int) (hK:B1→∀r,ni r→SP B r (K r)):SP B left (v.bind fun r=>bif decide (r<0)then some (-1)else K r):=by
 obtain⟨r,e1,e2,e3⟩:=hf
 rw[e1,Option.bind_some]
 have:=hl.2
 by_cases h:r<0
 ·rw[decide_eq_true h];exact⟨-1,rfl,by have:=hl.1;omega,fun h=>absurd h (by decide)⟩
 ·rw[decide_eq_false h,cond_false]
  obtain⟨r',e4,e5,e6⟩:=hK (e3 (by omega)) r ⟨by omega,by omega⟩
  exact⟨r',e4,by omega,e6⟩
def lJ (τ:Ty) (f:τ.den→Int→Option Int):Prop:=∀x,pc τ x→∀left,ni left→SP (wi τ x) left (f x left)
theorem Hj {τ:Ty} (l:List τ.den) (g:τ.den→Int→Option Int) (hg:lJ τ g) (hw:∀x∈l,pc τ x) (L:Int→Int→Option Int)
  (hstep:∀left (i:Nat),i<l.length→L left (i:Int)=(g (rd (τ:=τ) l (i:Int)) left).bind fun r1=>bif decide (r1<0)then some (-1)else L r1 ((i+1:Nat):Int)) (hend:∀left,L left (l.length:Int)=some left):
  ∀(k i:Nat),i+k=l.length→∀left,ni left→SP (∀j:Nat,i≤j→j<l.length→wi τ (rd (τ:=τ) l (j:Int))) left (L left (i:Int)):=by
 intro k
 induction k with
 |zero=>
  intro i h left hl
  have:i=l.length:=by omega
  subst this
  rw[hend]
  exact SP.fin fun j h1 h2=>by omega
 |succ k ih=>
  intro i h left hl
  rw[hstep left i (by omega)]
  refine SP.call (hg _ (hw _ (an l i (by omega))) left hl) hl _ fun b r hr=> ?_
  obtain⟨r',e1,e2,e3⟩:=ih (i+1) (by omega) r hr
  exact⟨r',e1,e2,fun h0 j h1 h2=>by
   by_cases e:j=i
   ·rw[e];exact b
   ·exact e3 h0 j (by omega) h2⟩
theorem fp {τ:Ty} (l:List τ.den) (hw:pc (.list τ) l) (g:τ.den→Int→Option Int) (hg:lJ τ g) (L:Int→Int→Option Int)
  (hstep:l.length≤1048576→∀left (i:Nat),i<l.length→L left (i:Int)=(g (rd (τ:=τ) l (i:Int)) left).bind fun r1=>bif decide (r1<0)then some (-1)else L r1 ((i+1:Nat):Int)) (hend:∀left,L left (l.length:Int)=some left) (left:Int) (hl:ni left):
  SP (wi (.list τ) l) left (bif decide (IntKind.wrap .i64 (left-(l.length:Int))<0)then some (-1)else L (IntKind.wrap .i64 (left-(l.length:Int))) 0):=by
 have hw':List.length l≤9223372036854775807∧∀x∈l,pc τ x:=hw
 refine SP.str l.length hw'.1 hl (fun r=>L r 0) fun l' h1 h2 h3=> ?_
 obtain⟨r,e1,e2,e3⟩:=Hj l g hg hw'.2 L (hstep h3) hend l.length 0 (by omega) l' h1
 refine⟨r,e1,e2,fun h0=> ?_⟩
 show List.length l≤1048576∧∀x∈l,wi τ x
 refine⟨h3,fun x hx=> ?_⟩
 obtain⟨i,hi,hr⟩:=tb hx
 rw[←hr];exact e3 h0 i (Nat.zero_le _) hi
theorem n5 {τ:Ty} (l:List τ.den) (hw:pc (.list τ) l) (hb:∀x,wi τ x) (left:Int) (hl:ni left):
  SP (wi (.list τ) l) left (bif decide (IntKind.wrap .i64 (left-(l.length:Int))<0)then some (-1)else some (IntKind.wrap .i64 (left-(l.length:Int)))):=by
 have hw':List.length l≤9223372036854775807∧∀x∈l,pc τ x:=hw
 exact SP.str l.length hw'.1 hl some fun l' h1 h2 h3=>SP.fin ⟨h3,fun x _=>hb x⟩
def kv (τ:Ty) (f:τ.den→Option τ.den):Prop:=∀x,pc τ x→wi τ x→f x=some x
theorem vu {τ:Ty} (l:List τ.den) (L:List τ.den→Int→Option (List τ.den))
  (hstep:∀acc (i:Nat),i<l.length→acc.length=l.length→L acc (i:Int)=L (acc.set i (rd (τ:=τ) l (i:Int))) ((i+1:Nat):Int)) (hend:∀acc,L acc (l.length:Int)=some acc):
  ∀(k i:Nat) (u:List τ.den),i+k=l.length→u.length=k→L (l.take i++u) (i:Int)=some l:=by
 intro k
 induction k with
 |zero=>
  intro i u h hu
  have:i=l.length:=by omega
  subst this
  rw[hend,List.take_length,List.eq_nil_of_length_eq_zero hu,List.append_nil]
 |succ k ih=>
  intro i u h hu
  have hi:i<l.length:=by omega
  rw[hstep _ i hi (by rw[List.length_append,List.length_take];omega)]
  cases u with
  |nil=>simp at hu
  |cons y u=>
   have e:(l.take i++y::u).set i (rd (τ:=τ) l (i:Int))=l.take (i+1)++u:=by
    rw[List.set_append_right _ _ (by rw[List.length_take];omega),List.length_take,show i-min i l.length=0 by omega,List.set_cons_zero,List.take_succ_eq_append_getElem hi,List.append_assoc,aS l i hi];rfl
   rw[e]
   exact ih (i+1) u (by omega) (by simpa using hu)
theorem dh {τ:Ty} (l:List τ.den) (b:Nat) (hbt:b≤4096) (hb:l.length≤1048576) (z:τ.den) (L:List τ.den→Int→Option (List τ.den))
  (hstep:∀acc (i:Nat),i<l.length→acc.length=l.length→L acc (i:Int)=L (acc.set i (rd (τ:=τ) l (i:Int))) ((i+1:Nat):Int)) (hend:∀acc,L acc (l.length:Int)=some acc):
  (bif decide (0≤(l.length:Int))&&av (Int.toNat (l.length:Int)) b then L (List.replicate (Int.toNat (l.length:Int)) z) 0 else none)=some l:=by
 have hm:l.length*b≤1048576*4096:=Nat.mul_le_mul hb hbt
 rw[Int.toNat_natCast,show(decide (0≤(l.length:Int))&&av l.length b)=true by simp[av];omega,cond_true]
 have:=vu l L hstep hend l.length 0 (List.replicate l.length z) (by omega) (by simp)
 simpa using this
def kw (τ:Ty) (f:τ.den→τ.den→Option Bool):Prop:=∀x,pc τ x→wi τ x→f x x=some true
theorem ct (L:Int→Option Bool) (n:Nat) (hstep:∀i:Nat,i<n→L (i:Int)=L ((i+1:Nat):Int)) (hend:L (n:Int)=some true):L 0=some true:=by
 have:∀k i:Nat,i+k=n→L (i:Int)=some true:=by
  intro k
  induction k with
  |zero=>
    intro i h;have:i=n:=by omega
    rw[this];exact hend
  |succ k ih=>intro i h;rw[hstep i (by omega)];exact ih (i+1) (by omega)
 exact this n 0 (by omega)
abbrev EJ:Ty:= .pair .str (.pair .str (.list bO))
abbrev EK:Ty:= .pair (.list aO) (.pair (.list eF) (.pair (.list aT) (.list od)))
abbrev TSys:Ty:= .pair EJ (.pair EK (.list cd))
theorem AM:lJ bO Z4:=by
 intro x hw left hl
 show SP _ left (Z4 x left)
 rw[N9]
 refine SP.str (ByteArray.size x.1) hw.1 hl (fun r=>some r) fun l0 h0 _ _=> ?_
 exact SP.fin ⟨trivial,⟨trivial,⟨trivial,⟨trivial,trivial⟩⟩⟩⟩
theorem xA:lJ (.list bO) Z5:=by
 intro x hw left hl
 show SP _ left (Z5 x left)
 rw[Oa]
 exact fp x hw Z4 AM (Z5.a x) (fun hb left i hi=>by
  rw[Z5.a_eq,ab,ae,decide_eq_true hi,ah i _ hi (by omega)];rfl) (fun left=>by
  rw[Z5.a_eq,ab,decide_eq_false (Nat.lt_irrefl _),cond_false]) left hl
theorem EL:lJ aT Zd:=by
 intro x hw left hl
 show SP _ left (Zd x left)
 rw[Oi]
 refine SP.str (ByteArray.size x.1) hw.1 hl (fun r=>some r) fun l0 h0 _ _=> ?_
 exact SP.fin ⟨trivial,⟨trivial,⟨trivial,⟨trivial,⟨trivial,trivial⟩⟩⟩⟩⟩
theorem AN:lJ (.list aT) Ze:=by
 intro x hw left hl
 show SP _ left (Ze x left)
 rw[Oj]
 exact fp x hw Zd EL (Ze.a x) (fun hb left i hi=>by
  rw[Ze.a_eq,ab,ae,decide_eq_true hi,ah i _ hi (by omega)];rfl) (fun left=>by
  rw[Ze.a_eq,ab,decide_eq_false (Nat.lt_irrefl _),cond_false]) left hl
theorem Hk:lJ aO Z7:=by
 intro x hw left hl
 show SP _ left (Z7 x left)
 rw[Oc]
 refine SP.str (ByteArray.size x.2.2) hw.2.2 hl (fun r=>some r) fun l0 h0 _ _=> ?_
 exact SP.fin ⟨trivial,⟨trivial,trivial⟩⟩
theorem EM:lJ (.list aO) Z8:=by
 intro x hw left hl
 show SP _ left (Z8 x left)
 rw[Od]
 exact fp x hw Z7 Hk (Z8.a x) (fun hb left i hi=>by
  rw[Z8.a_eq,ab,ae,decide_eq_true hi,ah i _ hi (by omega)];rfl) (fun left=>by
  rw[Z8.a_eq,ab,decide_eq_false (Nat.lt_irrefl _),cond_false]) left hl
theorem tg:lJ aA Zh:=by
 intro x hw left hl
 show SP _ left (Zh x left)
 rw[Om]
 refine SP.str (ByteArray.size x.1) hw.1 hl (fun r=>bif decide ((IntKind.wrap .i64 (r-(ByteArray.size x.2.2.2:Int)))<0)then some (-1)else(some (IntKind.wrap .i64 (r-(ByteArray.size x.2.2.2:Int))))) fun l0 h0 _ _=> ?_
 refine SP.str (ByteArray.size x.2.2.2) hw.2.2.2 h0 (fun r=>some r) fun l1 h1 _ _=> ?_
 exact SP.fin ⟨trivial,⟨trivial,⟨trivial,trivial⟩⟩⟩
theorem qK:lJ (.list aA) Zi:=by
 intro x hw left hl
 show SP _ left (Zi x left)
 rw[On]
 exact fp x hw Zh tg (Zi.a x) (fun hb left i hi=>by
  rw[Zi.a_eq,ab,ae,decide_eq_true hi,ah i _ hi (by omega)];rfl) (fun left=>by
  rw[Zi.a_eq,ab,decide_eq_false (Nat.lt_irrefl _),cond_false]) left hl
theorem th:lJ bc Zj:=by
 intro x hw left hl
 show SP _ left (Zj x left)
 rw[Oo]
 refine SP.str (ByteArray.size x.1) hw.1 hl (fun r=>bif decide ((IntKind.wrap .i64 (r-(ByteArray.size x.2:Int)))<0)then some (-1)else(some (IntKind.wrap .i64 (r-(ByteArray.size x.2:Int))))) fun l0 h0 _ _=> ?_
 refine SP.str (ByteArray.size x.2) hw.2 h0 (fun r=>some r) fun l1 h1 _ _=> ?_
 exact SP.fin ⟨trivial,trivial⟩
theorem qL:lJ (.list bc) Zk:=by
 intro x hw left hl
 show SP _ left (Zk x left)
 rw[Oq]
 exact fp x hw Zj th (Zk.a x) (fun hb left i hi=>by
  rw[Zk.a_eq,ab,ae,decide_eq_true hi,ah i _ hi (by omega)];rfl) (fun left=>by
  rw[Zk.a_eq,ab,decide_eq_false (Nat.lt_irrefl _),cond_false]) left hl
theorem EN:lJ bU Zl:=by
 intro x hw left hl
 show SP _ left (Zl x left)
 rw[Ot]
 refine SP.str (ByteArray.size x.2.2.2.1) hw.2.2.2.1 hl (fun r=>some r) fun l0 h0 _ _=> ?_
 exact SP.fin ⟨trivial,⟨trivial,⟨trivial,⟨trivial,trivial⟩⟩⟩⟩
theorem AO:lJ (.list bU) Zm:=by
 intro x hw left hl
 show SP _ left (Zm x left)
 rw[Ou]
 exact fp x hw Zl EN (Zm.a x) (fun hb left i hi=>by
  rw[Zm.a_eq,ab,ae,decide_eq_true hi,ah i _ hi (by omega)];rfl) (fun left=>by
  rw[Zm.a_eq,ab,decide_eq_false (Nat.lt_irrefl _),cond_false]) left hl
theorem tj:lJ (.list (.int .i64)) Za:=by
 intro x hw left hl
 show SP _ left (Za x left)
 rw[Of]
 exact n5 x hw (fun _=>trivial) left hl
theorem EO:lJ (.list fJ) Zr:=by
 intro x hw left hl
 show SP _ left (Zr x left)
 rw[Oz]
 exact n5 x hw (fun _=>⟨trivial,trivial⟩) left hl
theorem pA:lJ (.list dj) Zn:=by
 intro x hw left hl
 show SP _ left (Zn x left)
 rw[Ov]
 exact n5 x hw (fun _=>⟨trivial,trivial⟩) left hl
theorem xB:lJ (.list od) Zf:=by
 intro x hw left hl
 show SP _ left (Zf x left)
 rw[Ok]
 exact n5 x hw (fun _=>⟨trivial,⟨trivial,trivial⟩⟩) left hl
theorem pB:lJ (.list .str) Zp:=by
 intro x hw left hl
 show SP _ left (Zp x left)
 rw[Ox]
 exact fp x hw (fun s left=>bif decide (IntKind.wrap .i64 (left-(ByteArray.size s:Int))<0)then some (-1)else some (IntKind.wrap .i64 (left-(ByteArray.size s:Int)))) (fun s hs left hl=>SP.str (ByteArray.size s) hs hl some fun l' _ _ _=>SP.fin trivial) (Zp.a x) (fun hb left i hi=>by
  rw[Zp.a_eq,ab,ae,decide_eq_true hi,ah i _ hi (by omega)]
  simp only[cond_true]
  cases hc:decide (IntKind.wrap .i64 (left-(ByteArray.size (rd (τ:= .str) x (i:Int)):Int))<0)with
  |true=>rfl
  |false=>rw[cond_false,cond_false,Option.bind_some,hc];rfl) (fun left=>by
  rw[Zp.a_eq,ab,decide_eq_false (Nat.lt_irrefl _),cond_false]) left hl
theorem AP:lJ eF Zb:=by
 intro x hw left hl
 show SP _ left (Zb x left)
 rw[Og]
 refine SP.call (tj x.2.2.1 hw.2.2.1 left hl) hl _ fun b0 l0 h0=> ?_
 exact SP.fin ⟨trivial,⟨⟨trivial,trivial⟩,⟨b0,trivial⟩⟩⟩
theorem xC:lJ (.list eF) Zc:=by
 intro x hw left hl
 show SP _ left (Zc x left)
 rw[Oh]
 exact fp x hw Zb AP (Zc.a x) (fun hb left i hi=>by
  rw[Zc.a_eq,ab,ae,decide_eq_true hi,ah i _ hi (by omega)];rfl) (fun left=>by
  rw[Zc.a_eq,ab,decide_eq_false (Nat.lt_irrefl _),cond_false]) left hl
theorem EP:lJ EJ Z6:=by
 intro x hw left hl
 show SP _ left (Z6 x left)
 rw[Ob]
 refine SP.str (ByteArray.size x.1) hw.1 hl (fun r=>bif decide ((IntKind.wrap .i64 (r-(ByteArray.size x.2.1:Int)))<0)then some (-1)else((Z5 x.2.2 (IntKind.wrap .i64 (r-(ByteArray.size x.2.1:Int)))).bind fun q1=>bif decide (q1<0)then some (-1)else(some q1))) fun l0 h0 _ _=> ?_
 refine SP.str (ByteArray.size x.2.1) hw.2.1 h0 (fun r=>(Z5 x.2.2 r).bind fun q2=>bif decide (q2<0)then some (-1)else(some q2)) fun l1 h1 _ _=> ?_
 refine SP.call (xA x.2.2 hw.2.2 l1 h1) h1 _ fun b2 l2 h2=> ?_
 exact SP.fin ⟨trivial,⟨trivial,b2⟩⟩
theorem AQ:lJ (.list aO) Z9:=by
 intro x hw left hl
 show SP _ left (Z9 x left)
 rw[Oe]
 exact SP.call (EM x hw left hl) hl _ fun b l h=>SP.fin b
theorem xD:lJ EK Zg:=by
 intro x hw left hl
 show SP _ left (Zg x left)
 rw[Ol]
 refine SP.call (AQ x.1 hw.1 left hl) hl _ fun b0 l0 h0=> ?_
 refine SP.call (xC x.2.1 hw.2.1 l0 h0) h0 _ fun b1 l1 h1=> ?_
 refine SP.call (AN x.2.2.1 hw.2.2.1 l1 h1) h1 _ fun b2 l2 h2=> ?_
 refine SP.call (xB x.2.2.2 hw.2.2.2 l2 h2) h2 _ fun b3 l3 h3=> ?_
 exact SP.fin ⟨b0,⟨b1,⟨b2,b3⟩⟩⟩
theorem AR:lJ Hh Zq:=by
 intro x hw left hl
 show SP _ left (Zq x left)
 rw[Oy]
 refine SP.call (tj x.1 hw.1 left hl) hl _ fun b0 l0 h0=> ?_
 refine SP.call (pB x.2.1 hw.2.1 l0 h0) h0 _ fun b1 l1 h1=> ?_
 refine SP.call (tj x.2.2.1 hw.2.2.1 l1 h1) h1 _ fun b2 l2 h2=> ?_
 refine SP.call (pB x.2.2.2 hw.2.2.2 l2 h2) h2 _ fun b3 l3 h3=> ?_
 exact SP.fin ⟨b0,⟨b1,⟨b2,b3⟩⟩⟩
theorem AS:lJ Hg Zo:=by
 intro x hw left hl
 show SP _ left (Zo x left)
 rw[Ow]
 refine SP.str (ByteArray.size x.1) hw.1 hl (fun r=>(Zi x.2.2.1 r).bind fun q3=>bif decide (q3<0)then some (-1)else((Zk x.2.2.2.1 q3).bind fun q4=>bif decide (q4<0)then some (-1)else((Zm x.2.2.2.2.1 q4).bind fun q5=>bif decide (q5<0)then some (-1)else((Zn x.2.2.2.2.2 q5).bind fun q6=>bif decide (q6<0)then some (-1)else(some q6))))) fun l0 h0 _ _=> ?_
 refine SP.call (qK x.2.2.1 hw.2.2.1 l0 h0) h0 _ fun b1 l1 h1=> ?_
 refine SP.call (qL x.2.2.2.1 hw.2.2.2.1 l1 h1) h1 _ fun b2 l2 h2=> ?_
 refine SP.call (AO x.2.2.2.2.1 hw.2.2.2.2.1 l2 h2) h2 _ fun b3 l3 h3=> ?_
 refine SP.call (pA x.2.2.2.2.2 hw.2.2.2.2.2 l3 h3) h3 _ fun b4 l4 h4=> ?_
 exact SP.fin ⟨trivial,⟨trivial,⟨b1,⟨b2,⟨b3,b4⟩⟩⟩⟩⟩
theorem EQ:lJ cd Zs:=by
 intro x hw left hl
 show SP _ left (Zs x left)
 rw[OA]
 refine SP.call (AS x.1 hw.1 left hl) hl _ fun b0 l0 h0=> ?_
 refine SP.call (AR x.2.1 hw.2.1 l0 h0) h0 _ fun b1 l1 h1=> ?_
 refine SP.call (EO x.2.2 hw.2.2 l1 h1) h1 _ fun b2 l2 h2=> ?_
 exact SP.fin ⟨b0,⟨b1,b2⟩⟩
theorem AT:lJ (.list cd) Zt:=by
 intro x hw left hl
 show SP _ left (Zt x left)
 rw[OB]
 exact fp x hw Zs EQ (Zt.a x) (fun hb left i hi=>by
  rw[Zt.a_eq,ab,ae,decide_eq_true hi,ah i _ hi (by omega)];rfl) (fun left=>by
  rw[Zt.a_eq,ab,decide_eq_false (Nat.lt_irrefl _),cond_false]) left hl
theorem rP:lJ TSys Zu:=by
 intro x hw left hl
 show SP _ left (Zu x left)
 rw[OC]
 refine SP.call (EP x.1 hw.1 left hl) hl _ fun b0 l0 h0=> ?_
 refine SP.call (xD x.2.1 hw.2.1 l0 h0) h0 _ fun b1 l1 h1=> ?_
 refine SP.call (AT x.2.2 hw.2.2 l1 h1) h1 _ fun b2 l2 h2=> ?_
 exact SP.fin ⟨b0,⟨b1,b2⟩⟩
theorem AU:kv bO O5:=by
 intro x _ _
 show O5 x=_
 rw[JW]
theorem xE:kv (.list bO) CG:=by
 intro x hw hb
 show CG x=_
 rw[JX]
 exact dh (τ:=bO) x 48 (by omega) hb.1 _ (CG.a x) (fun acc i hi ha=>by
  rw[CG.a_eq,ab,ae,decide_eq_true hi,ah i _ hi (by have:=hb.1;omega),AU _ (hw.2 _ (an (τ:=bO) x i hi)) (hb.2 _ (an (τ:=bO) x i hi))]
  simp only[cond_true,Option.bind_some]
  rw[ae,show decide (i<acc.length)=true from decide_eq_true (by rw[ha];exact hi),Int.toNat_natCast];rfl) (fun acc=>by
  rw[CG.a_eq,ab,decide_eq_false (Nat.lt_irrefl _),cond_false])
theorem ER:kv aT Pb:=by
 intro x _ _
 show Pb x=_
 rw[J7]
theorem AV:kv (.list aT) CJ:=by
 intro x hw hb
 show CJ x=_
 rw[J8]
 exact dh (τ:=aT) x 56 (by omega) hb.1 _ (CJ.a x) (fun acc i hi ha=>by
  rw[CJ.a_eq,ab,ae,decide_eq_true hi,ah i _ hi (by have:=hb.1;omega),ER _ (hw.2 _ (an (τ:=aT) x i hi)) (hb.2 _ (an (τ:=aT) x i hi))]
  simp only[cond_true,Option.bind_some]
  rw[ae,show decide (i<acc.length)=true from decide_eq_true (by rw[ha];exact hi),Int.toNat_natCast];rfl) (fun acc=>by
  rw[CJ.a_eq,ab,decide_eq_false (Nat.lt_irrefl _),cond_false])
theorem Hl:kv aO O7:=by
 intro x _ _
 show O7 x=_
 rw[JZ]
theorem ES:kv (.list aO) CH:=by
 intro x hw hb
 show CH x=_
 rw[J0]
 exact dh (τ:=aO) x 32 (by omega) hb.1 _ (CH.a x) (fun acc i hi ha=>by
  rw[CH.a_eq,ab,ae,decide_eq_true hi,ah i _ hi (by have:=hb.1;omega),Hl _ (hw.2 _ (an (τ:=aO) x i hi)) (hb.2 _ (an (τ:=aO) x i hi))]
  simp only[cond_true,Option.bind_some]
  rw[ae,show decide (i<acc.length)=true from decide_eq_true (by rw[ha];exact hi),Int.toNat_natCast];rfl) (fun acc=>by
  rw[CH.a_eq,ab,decide_eq_false (Nat.lt_irrefl _),cond_false])
theorem AW:kv od Pd:=by
 intro x _ _
 show Pd x=_
 rw[J9]
theorem xF:kv (.list od) CK:=by
 intro x hw hb
 show CK x=_
 rw[Ka]
 exact dh (τ:=od) x 24 (by omega) hb.1 _ (CK.a x) (fun acc i hi ha=>by
  rw[CK.a_eq,ab,ae,decide_eq_true hi,ah i _ hi (by have:=hb.1;omega),AW _ (hw.2 _ (an (τ:=od) x i hi)) (hb.2 _ (an (τ:=od) x i hi))]
  simp only[cond_true,Option.bind_some]
  rw[ae,show decide (i<acc.length)=true from decide_eq_true (by rw[ha];exact hi),Int.toNat_natCast];rfl) (fun acc=>by
  rw[CK.a_eq,ab,decide_eq_false (Nat.lt_irrefl _),cond_false])
theorem tk:kv aA Pf:=by
 intro x _ _
 show Pf x=_
 rw[Kc]
theorem qM:kv (.list aA) CL:=by
 intro x hw hb
 show CL x=_
 rw[Kd]
 exact dh (τ:=aA) x 48 (by omega) hb.1 _ (CL.a x) (fun acc i hi ha=>by
  rw[CL.a_eq,ab,ae,decide_eq_true hi,ah i _ hi (by have:=hb.1;omega),tk _ (hw.2 _ (an (τ:=aA) x i hi)) (hb.2 _ (an (τ:=aA) x i hi))]
  simp only[cond_true,Option.bind_some]
  rw[ae,show decide (i<acc.length)=true from decide_eq_true (by rw[ha];exact hi),Int.toNat_natCast];rfl) (fun acc=>by
  rw[CL.a_eq,ab,decide_eq_false (Nat.lt_irrefl _),cond_false])
theorem tl:kv bc Pg:=by
 intro x _ _
 show Pg x=_
 rw[Ke]
theorem qN:kv (.list bc) CM:=by
 intro x hw hb
 show CM x=_
 rw[Kf]
 exact dh (τ:=bc) x 32 (by omega) hb.1 _ (CM.a x) (fun acc i hi ha=>by
  rw[CM.a_eq,ab,ae,decide_eq_true hi,ah i _ hi (by have:=hb.1;omega),tl _ (hw.2 _ (an (τ:=bc) x i hi)) (hb.2 _ (an (τ:=bc) x i hi))]
  simp only[cond_true,Option.bind_some]
  rw[ae,show decide (i<acc.length)=true from decide_eq_true (by rw[ha];exact hi),Int.toNat_natCast];rfl) (fun acc=>by
  rw[CM.a_eq,ab,decide_eq_false (Nat.lt_irrefl _),cond_false])
theorem ET:kv bU Ph:=by
 intro x _ _
 show Ph x=_
 rw[Kg]
theorem AX:kv (.list bU) CN:=by
 intro x hw hb
 show CN x=_
 rw[Kh]
 exact dh (τ:=bU) x 48 (by omega) hb.1 _ (CN.a x) (fun acc i hi ha=>by
  rw[CN.a_eq,ab,ae,decide_eq_true hi,ah i _ hi (by have:=hb.1;omega),ET _ (hw.2 _ (an (τ:=bU) x i hi)) (hb.2 _ (an (τ:=bU) x i hi))]
  simp only[cond_true,Option.bind_some]
  rw[ae,show decide (i<acc.length)=true from decide_eq_true (by rw[ha];exact hi),Int.toNat_natCast];rfl) (fun acc=>by
  rw[CN.a_eq,ab,decide_eq_false (Nat.lt_irrefl _),cond_false])
theorem qO:kv dj Pi:=by
 intro x _ _
 show Pi x=_
 rw[Ki]
theorem pC:kv (.list dj) CO:=by
 intro x hw hb
 show CO x=_
 rw[Kj]
 exact dh (τ:=dj) x 16 (by omega) hb.1 _ (CO.a x) (fun acc i hi ha=>by
  rw[CO.a_eq,ab,ae,decide_eq_true hi,ah i _ hi (by have:=hb.1;omega),qO _ (hw.2 _ (an (τ:=dj) x i hi)) (hb.2 _ (an (τ:=dj) x i hi))]
  simp only[cond_true,Option.bind_some]
  rw[ae,show decide (i<acc.length)=true from decide_eq_true (by rw[ha];exact hi),Int.toNat_natCast];rfl) (fun acc=>by
  rw[CO.a_eq,ab,decide_eq_false (Nat.lt_irrefl _),cond_false])
theorem Hm:kv fJ Pm:=by
 intro x _ _
 show Pm x=_
 rw[Kn]
theorem EU:kv (.list fJ) CP:=by
 intro x hw hb
 show CP x=_
 rw[Ko]
 exact dh (τ:=fJ) x 16 (by omega) hb.1 _ (CP.a x) (fun acc i hi ha=>by
  rw[CP.a_eq,ab,ae,decide_eq_true hi,ah i _ hi (by have:=hb.1;omega),Hm _ (hw.2 _ (an (τ:=fJ) x i hi)) (hb.2 _ (an (τ:=fJ) x i hi))]
  simp only[cond_true,Option.bind_some]
  rw[ae,show decide (i<acc.length)=true from decide_eq_true (by rw[ha];exact hi),Int.toNat_natCast];rfl) (fun acc=>by
  rw[CP.a_eq,ab,decide_eq_false (Nat.lt_irrefl _),cond_false])
theorem tn:kv (.list (.int .i64)) zi:=by
 intro x hw hb
 show zi x=_
 rw[J4]
 exact dh (τ:=(.int .i64)) x 8 (by omega) hb.1 _ (zi.a x) (fun acc i hi ha=>by
  rw[zi.a_eq,ab,ae,decide_eq_true hi,ah i _ hi (by have:=hb.1;omega)]
  rw[ae,show decide (i<acc.length)=true from decide_eq_true (by rw[ha];exact hi),Int.toNat_natCast];rfl) (fun acc=>by
  rw[zi.a_eq,ab,decide_eq_false (Nat.lt_irrefl _),cond_false])
theorem pD:kv (.list .str) Br:=by
 intro x hw hb
 show Br x=_
 rw[Kl]
 exact dh (τ:= .str) x 16 (by omega) hb.1 _ (Br.a x) (fun acc i hi ha=>by
  rw[Br.a_eq,ab,ae,decide_eq_true hi,ah i _ hi (by have:=hb.1;omega)]
  rw[ae,show decide (i<acc.length)=true from decide_eq_true (by rw[ha];exact hi),Int.toNat_natCast];rfl) (fun acc=>by
  rw[Br.a_eq,ab,decide_eq_false (Nat.lt_irrefl _),cond_false])
theorem AY:kv (.arr (.int .i64) 32) zh:=by
 intro x hw hb
 show zh x=_
 have hl:List.length x=32:=hw.1
 rw[J2]
 have h:=vu (τ:= .int .i64) x (fun acc i=>zh.a x [0,0,0,0,0,0,0,0,0,0,0,0,0,0,0,0,0,0,0,0,0,0,0,0,0,0,0,0,0,0,0,0] acc i) (fun acc i hi ha=>by
  show zh.a x _ acc (i:Int)=_
  rw[zh.a_eq,decide_eq_true (show(i:Int)<32 by omega),ae,decide_eq_true (show i<32 by omega),ah i 32 (by omega) (by omega),Int.toNat_natCast];rfl) (fun acc=>by
  show zh.a x _ acc (List.length x:Int)=_
  rw[zh.a_eq,hl];rfl) 32 0 (List.replicate 32 (0:Int)) (by rw[hl]) (by simp)
 exact h
theorem Hn:kv FY O9:=by
 intro x hw hb
 show O9 x=_
 rw[J3,AY x.1 hw.1 hb.1]
 rfl
theorem AZ:kv eF Pa:=by
 intro x hw hb
 show Pa x=_
 rw[J5,Hn x.2.1 hw.2.1 hb.2.1,tn x.2.2.1 hw.2.2.1 hb.2.2.1]
 rfl
theorem xG:kv (.list eF) CI:=by
 intro x hw hb
 show CI x=_
 rw[J6]
 exact dh (τ:=eF) x 304 (by omega) hb.1 _ (CI.a x) (fun acc i hi ha=>by
  rw[CI.a_eq,ab,ae,decide_eq_true hi,ah i _ hi (by have:=hb.1;omega),AZ _ (hw.2 _ (an (τ:=eF) x i hi)) (hb.2 _ (an (τ:=eF) x i hi))]
  simp only[cond_true,Option.bind_some]
  rw[ae,show decide (i<acc.length)=true from decide_eq_true (by rw[ha];exact hi),Int.toNat_natCast];rfl) (fun acc=>by
  rw[CI.a_eq,ab,decide_eq_false (Nat.lt_irrefl _),cond_false])
theorem EV:kv EJ O6:=by
 intro x hw hb
 show O6 x=_
 rw[JY,xE x.2.2 hw.2.2 hb.2.2]
 rfl
theorem A0:kv (.list aO) O8:=by
 intro x hw hb
 show O8 x=_
 rw[J1,ES x hw hb]
 rfl
theorem xH:kv EK Pe:=by
 intro x hw hb
 show Pe x=_
 rw[Kb,A0 x.1 hw.1 hb.1,xG x.2.1 hw.2.1 hb.2.1,AV x.2.2.1 hw.2.2.1 hb.2.2.1,xF x.2.2.2 hw.2.2.2 hb.2.2.2]
 rfl
theorem A3:kv Hh Pk:=by
 intro x hw hb
 show Pk x=_
 rw[Km,tn x.1 hw.1 hb.1,pD x.2.1 hw.2.1 hb.2.1,tn x.2.2.1 hw.2.2.1 hb.2.2.1,pD x.2.2.2 hw.2.2.2 hb.2.2.2]
 rfl
theorem A4:kv Hg Pj:=by
 intro x hw hb
 show Pj x=_
 rw[Kk,qM x.2.2.1 hw.2.2.1 hb.2.2.1,qN x.2.2.2.1 hw.2.2.2.1 hb.2.2.2.1,AX x.2.2.2.2.1 hw.2.2.2.2.1 hb.2.2.2.2.1,pC x.2.2.2.2.2 hw.2.2.2.2.2 hb.2.2.2.2.2]
 rfl
theorem EW:kv cd Pn:=by
 intro x hw hb
 show Pn x=_
 rw[Kp,A4 x.1 hw.1 hb.1,A3 x.2.1 hw.2.1 hb.2.1,EU x.2.2 hw.2.2 hb.2.2]
 rfl
theorem A5:kv (.list cd) CQ:=by
 intro x hw hb
 show CQ x=_
 rw[Kq]
 exact dh (τ:=cd) x 240 (by omega) hb.1 _ (CQ.a x) (fun acc i hi ha=>by
  rw[CQ.a_eq,ab,ae,decide_eq_true hi,ah i _ hi (by have:=hb.1;omega),EW _ (hw.2 _ (an (τ:=cd) x i hi)) (hb.2 _ (an (τ:=cd) x i hi))]
  simp only[cond_true,Option.bind_some]
  rw[ae,show decide (i<acc.length)=true from decide_eq_true (by rw[ha];exact hi),Int.toNat_natCast];rfl) (fun acc=>by
  rw[CQ.a_eq,ab,decide_eq_false (Nat.lt_irrefl _),cond_false])
theorem rQ:kv TSys Fc:=by
 intro x hw hb
 show Fc x=_
 rw[Kr,EV x.1 hw.1 hb.1,xH x.2.1 hw.2.1 hb.2.1,A5 x.2.2 hw.2.2 hb.2.2]
 rfl
theorem A6:kw bO PL:=by
 intro x _ _
 show PL x x=_
 rw[MH]
 simp[aM]
theorem xI:kw (.list bO) C4:=by
 intro x hw hb
 show C4 x x=_
 have h1:List.length x≤1048576:=hb.1
 rw[MI,decide_eq_true (rfl:(List.length x:Int)=(List.length x:Int)),Bool.not_true,cond_false]
 refine ct (C4.a x x) (List.length x) (fun i hi=> ?_) ?_
 ·rw[C4.a_eq,ab,ae,decide_eq_true hi,ah i _ hi (by omega),A6 _ (hw.2 _ (an (τ:=bO) x i hi)) (hb.2 _ (an (τ:=bO) x i hi))];rfl
 ·rw[C4.a_eq,ab,decide_eq_false (Nat.lt_irrefl _),cond_false]
theorem EX:kw aT PR:=by
 intro x _ _
 show PR x x=_
 rw[MS]
 simp[aM]
theorem A7:kw (.list aT) C8:=by
 intro x hw hb
 show C8 x x=_
 have h1:List.length x≤1048576:=hb.1
 rw[MT,decide_eq_true (rfl:(List.length x:Int)=(List.length x:Int)),Bool.not_true,cond_false]
 refine ct (C8.a x x) (List.length x) (fun i hi=> ?_) ?_
 ·rw[C8.a_eq,ab,ae,decide_eq_true hi,ah i _ hi (by omega),EX _ (hw.2 _ (an (τ:=aT) x i hi)) (hb.2 _ (an (τ:=aT) x i hi))];rfl
 ·rw[C8.a_eq,ab,decide_eq_false (Nat.lt_irrefl _),cond_false]
theorem Ho:kw aO PN:=by
 intro x _ _
 show PN x x=_
 rw[ML]
 simp[aM]
theorem EY:kw (.list aO) C5:=by
 intro x hw hb
 show C5 x x=_
 have h1:List.length x≤1048576:=hb.1
 rw[MM,decide_eq_true (rfl:(List.length x:Int)=(List.length x:Int)),Bool.not_true,cond_false]
 refine ct (C5.a x x) (List.length x) (fun i hi=> ?_) ?_
 ·rw[C5.a_eq,ab,ae,decide_eq_true hi,ah i _ hi (by omega),Ho _ (hw.2 _ (an (τ:=aO) x i hi)) (hb.2 _ (an (τ:=aO) x i hi))];rfl
 ·rw[C5.a_eq,ab,decide_eq_false (Nat.lt_irrefl _),cond_false]
theorem A8:kw od PS:=by
 intro x _ _
 show PS x x=_
 rw[MU]
 simp[]
theorem xJ:kw (.list od) C9:=by
 intro x hw hb
 show C9 x x=_
 have h1:List.length x≤1048576:=hb.1
 rw[MV,decide_eq_true (rfl:(List.length x:Int)=(List.length x:Int)),Bool.not_true,cond_false]
 refine ct (C9.a x x) (List.length x) (fun i hi=> ?_) ?_
 ·rw[C9.a_eq,ab,ae,decide_eq_true hi,ah i _ hi (by omega),A8 _ (hw.2 _ (an (τ:=od) x i hi)) (hb.2 _ (an (τ:=od) x i hi))];rfl
 ·rw[C9.a_eq,ab,decide_eq_false (Nat.lt_irrefl _),cond_false]
theorem tp:kw aA PU:=by
 intro x _ _
 show PU x x=_
 rw[MX]
 simp[aM]
theorem qP:kw (.list aA) Da:=by
 intro x hw hb
 show Da x x=_
 have h1:List.length x≤1048576:=hb.1
 rw[MY,decide_eq_true (rfl:(List.length x:Int)=(List.length x:Int)),Bool.not_true,cond_false]
 refine ct (Da.a x x) (List.length x) (fun i hi=> ?_) ?_
 ·rw[Da.a_eq,ab,ae,decide_eq_true hi,ah i _ hi (by omega),tp _ (hw.2 _ (an (τ:=aA) x i hi)) (hb.2 _ (an (τ:=aA) x i hi))];rfl
 ·rw[Da.a_eq,ab,decide_eq_false (Nat.lt_irrefl _),cond_false]
theorem tq:kw bc PW:=by
 intro x _ _
 show PW x x=_
 rw[MZ]
 simp[aM]
theorem qQ:kw (.list bc) Db:=by
 intro x hw hb
 show Db x x=_
 have h1:List.length x≤1048576:=hb.1
 rw[M0,decide_eq_true (rfl:(List.length x:Int)=(List.length x:Int)),Bool.not_true,cond_false]
 refine ct (Db.a x x) (List.length x) (fun i hi=> ?_) ?_
 ·rw[Db.a_eq,ab,ae,decide_eq_true hi,ah i _ hi (by omega),tq _ (hw.2 _ (an (τ:=bc) x i hi)) (hb.2 _ (an (τ:=bc) x i hi))];rfl
 ·rw[Db.a_eq,ab,decide_eq_false (Nat.lt_irrefl _),cond_false]
theorem EZ:kw bU PX:=by
 intro x _ _
 show PX x x=_
 rw[M1]
 simp[aM]
theorem A9:kw (.list bU) Dc:=by
 intro x hw hb
 show Dc x x=_
 have h1:List.length x≤1048576:=hb.1
 rw[M2,decide_eq_true (rfl:(List.length x:Int)=(List.length x:Int)),Bool.not_true,cond_false]
 refine ct (Dc.a x x) (List.length x) (fun i hi=> ?_) ?_
 ·rw[Dc.a_eq,ab,ae,decide_eq_true hi,ah i _ hi (by omega),EZ _ (hw.2 _ (an (τ:=bU) x i hi)) (hb.2 _ (an (τ:=bU) x i hi))];rfl
 ·rw[Dc.a_eq,ab,decide_eq_false (Nat.lt_irrefl _),cond_false]
theorem qR:kw dj PY:=by
 intro x _ _
 show PY x x=_
 rw[M3]
 simp[]
theorem pE:kw (.list dj) Dd:=by
 intro x hw hb
 show Dd x x=_
 have h1:List.length x≤1048576:=hb.1
 rw[M4,decide_eq_true (rfl:(List.length x:Int)=(List.length x:Int)),Bool.not_true,cond_false]
 refine ct (Dd.a x x) (List.length x) (fun i hi=> ?_) ?_
 ·rw[Dd.a_eq,ab,ae,decide_eq_true hi,ah i _ hi (by omega),qR _ (hw.2 _ (an (τ:=dj) x i hi)) (hb.2 _ (an (τ:=dj) x i hi))];rfl
 ·rw[Dd.a_eq,ab,decide_eq_false (Nat.lt_irrefl _),cond_false]
theorem Hp:kw fJ P2:=by
 intro x _ _
 show P2 x x=_
 rw[M8]
 simp[]
theorem E0:kw (.list fJ) De:=by
 intro x hw hb
 show De x x=_
 have h1:List.length x≤1048576:=hb.1
 rw[M9,decide_eq_true (rfl:(List.length x:Int)=(List.length x:Int)),Bool.not_true,cond_false]
 refine ct (De.a x x) (List.length x) (fun i hi=> ?_) ?_
 ·rw[De.a_eq,ab,ae,decide_eq_true hi,ah i _ hi (by omega),Hp _ (hw.2 _ (an (τ:=fJ) x i hi)) (hb.2 _ (an (τ:=fJ) x i hi))];rfl
 ·rw[De.a_eq,ab,decide_eq_false (Nat.lt_irrefl _),cond_false]
theorem tr:kw (.list (.int .i64)) q7:=by
 intro x hw hb
 show q7 x x=_
 have h1:List.length x≤1048576:=hb.1
 rw[Gj,decide_eq_true (rfl:(List.length x:Int)=(List.length x:Int)),Bool.not_true,cond_false]
 refine ct (q7.a x x) (List.length x) (fun i hi=> ?_) ?_
 ·rw[q7.a_eq,ab,ae,decide_eq_true hi,ah i _ hi (by omega),decide_eq_true (rfl:rd (τ:= .int .i64) x (i:Int)=rd (τ:= .int .i64) x (i:Int))];rfl
 ·rw[q7.a_eq,ab,decide_eq_false (Nat.lt_irrefl _),cond_false]
theorem pF:kw (.list .str) Ci:=by
 intro x hw hb
 show Ci x x=_
 have h1:List.length x≤1048576:=hb.1
 rw[M6,decide_eq_true (rfl:(List.length x:Int)=(List.length x:Int)),Bool.not_true,cond_false]
 refine ct (Ci.a x x) (List.length x) (fun i hi=> ?_) ?_
 ·rw[Ci.a_eq,ab,ae,decide_eq_true hi,ah i _ hi (by omega),aM,decide_eq_true (rfl:rd (τ:= .str) x (i:Int)=rd (τ:= .str) x (i:Int))];rfl
 ·rw[Ci.a_eq,ab,decide_eq_false (Nat.lt_irrefl _),cond_false]
theorem Ba:kw (.arr (.int .i64) 32) C6:=by
 intro x hw hb
 show C6 x x=_
 rw[MO]
 refine ct (C6.a x x) 32 (fun i hi=> ?_) ?_
 ·rw[C6.a_eq,decide_eq_true (show(i:Int)<32 by omega),ae,decide_eq_true hi,ah i 32 hi (by omega),decide_eq_true (rfl:rd (τ:= .int .i64) x (i:Int)=rd (τ:= .int .i64) x (i:Int))];rfl
 ·rw[C6.a_eq];rfl
theorem Hq:kw FY PP:=by
 intro x hw hb
 show PP x x=_
 rw[MP,Ba x.1 hw.1 hb.1]
 simp[]
theorem Bb:kw eF PQ:=by
 intro x hw hb
 show PQ x x=_
 rw[MQ,Hq x.2.1 hw.2.1 hb.2.1,tr x.2.2.1 hw.2.2.1 hb.2.2.1]
 simp[]
theorem xK:kw (.list eF) C7:=by
 intro x hw hb
 show C7 x x=_
 have h1:List.length x≤1048576:=hb.1
 rw[MR,decide_eq_true (rfl:(List.length x:Int)=(List.length x:Int)),Bool.not_true,cond_false]
 refine ct (C7.a x x) (List.length x) (fun i hi=> ?_) ?_
 ·rw[C7.a_eq,ab,ae,decide_eq_true hi,ah i _ hi (by omega),Bb _ (hw.2 _ (an (τ:=eF) x i hi)) (hb.2 _ (an (τ:=eF) x i hi))];rfl
 ·rw[C7.a_eq,ab,decide_eq_false (Nat.lt_irrefl _),cond_false]
theorem E1:kw EJ PM:=by
 intro x hw hb
 show PM x x=_
 rw[MJ,xI x.2.2 hw.2.2 hb.2.2]
 simp[aM]
theorem Bc:kw (.list aO) PO:=by
 intro x hw hb
 show PO x x=_
 rw[MN,EY x hw hb]
 rfl
theorem xL:kw EK PT:=by
 intro x hw hb
 show PT x x=_
 rw[MW,Bc x.1 hw.1 hb.1,xK x.2.1 hw.2.1 hb.2.1,A7 x.2.2.1 hw.2.2.1 hb.2.2.1,xJ x.2.2.2 hw.2.2.2 hb.2.2.2]
 simp[]
theorem Bd:kw Hh P0:=by
 intro x hw hb
 show P0 x x=_
 rw[M7,tr x.1 hw.1 hb.1,pF x.2.1 hw.2.1 hb.2.1,tr x.2.2.1 hw.2.2.1 hb.2.2.1,pF x.2.2.2 hw.2.2.2 hb.2.2.2]
 simp[]
theorem Be:kw Hg PZ:=by
 intro x hw hb
 show PZ x x=_
 rw[M5,qP x.2.2.1 hw.2.2.1 hb.2.2.1,qQ x.2.2.2.1 hw.2.2.2.1 hb.2.2.2.1,A9 x.2.2.2.2.1 hw.2.2.2.2.1 hb.2.2.2.2.1,pE x.2.2.2.2.2 hw.2.2.2.2.2 hb.2.2.2.2.2]
 simp[aM]
theorem E2:kw cd P3:=by
 intro x hw hb
 show P3 x x=_
 rw[Na,Be x.1 hw.1 hb.1,Bd x.2.1 hw.2.1 hb.2.1,E0 x.2.2 hw.2.2 hb.2.2]
 simp[]
theorem Bf:kw (.list cd) Df:=by
 intro x hw hb
 show Df x x=_
 have h1:List.length x≤1048576:=hb.1
 rw[Nb,decide_eq_true (rfl:(List.length x:Int)=(List.length x:Int)),Bool.not_true,cond_false]
 refine ct (Df.a x x) (List.length x) (fun i hi=> ?_) ?_
 ·rw[Df.a_eq,ab,ae,decide_eq_true hi,ah i _ hi (by omega),E2 _ (hw.2 _ (an (τ:=cd) x i hi)) (hb.2 _ (an (τ:=cd) x i hi))];rfl
 ·rw[Df.a_eq,ab,decide_eq_false (Nat.lt_irrefl _),cond_false]
theorem rR:kw TSys OW:=by
 intro x hw hb
 show OW x x=_
 rw[Nc,E1 x.1 hw.1 hb.1,xL x.2.1 hw.2.1 hb.2.1,Bf x.2.2 hw.2.2 hb.2.2]
 simp[]
theorem vv {ps:List Gn} (h:pc (.list cd) ps):vt ps:=by
 intro j hj k hk
 have hp:=h.2 _ (an (τ:=cd) ps j hj)
 generalize rd (τ:=cd) ps (j:Int)=p at*
 have hr:=hp.1.2.2.2.2.1.2 _ (an (τ:=bU) p.1.2.2.2.2.1 k hk)
 exact hr.1
theorem m2 (a:Int):0≤a%2∧a%2<2:=by omega
theorem N4 {n:Int} (h:(31≤n∧n≤40)∨(50≤n∧n≤62)):(cS n).1=8:=by
 obtain⟨k,rfl⟩:=pM (n:=n) (by omega) (by omega)
 revert k
 decide
theorem vw {n d a b i:Int} (f:Int) (hf:(cS n).1=f) (hn:1≤n∧n≤64) (hd:0≤d∧d≤31) (ha:0≤a∧a≤31) (hb:0≤b∧b≤31) (g1:(aV f).1=true∨d=0) (g2:(aV f).2.1=true∨a=0) (g3:(aV f).2.2=true∨b=0) (hi:lR f i=true):eD (n,d,a,b,i)=true:=by
 simp only[eD,Bool.and_eq_true,Bool.or_eq_true,decide_eq_true_eq,hf]
 exact⟨⟨⟨⟨⟨⟨⟨⟨⟨⟨⟨hn.1,hn.2⟩,hd.1⟩,hd.2⟩,ha.1⟩,ha.2⟩,hb.1⟩,hb.2⟩,g1⟩,g2⟩,g3⟩,hi⟩
theorem Qd {i:Int} (h: -2147483648≤i∧i≤2147479552∧i%4096=0):lR 1 i=true:=by simp[lR];omega
theorem r1 {a i:Int} (ha:0≤a∧a≤31) (h: -2147483648≤i∧i≤2147479552∧i%4096=0):eD (1,a,0,0,i)=true:=vw 1 rfl (by decide) ha (by decide) (by decide) (.inl rfl) (.inr rfl) (.inr rfl) (Qd h)
theorem r8 {n a b c:Int} (h:(31≤n∧n≤40)∨(50≤n∧n≤62)) (ha:0≤a∧a≤31) (hb:0≤b∧b≤31) (hc:0≤c∧c≤31):eD (n,a,b,c,0)=true:=vw 8 (N4 h) (by omega) ha hb hc (.inl rfl) (.inl rfl) (.inl rfl) rfl
def MK {α:Type} (m:Int) (C:Nat) (v:Option (Int×α)):Prop:=∃r,v=some r∧m≤r.1∧r.1≤m+C
def tL {α:Type} (τ:Ty) (f:τ.den→Int→Option (Int×α)) (C:Nat):Prop:=∀x,wi τ x→∀m:Int,1≤m→m+C≤4611686018427387904→MK m C (f x m)
theorem MK.bind {α β:Type} {m:Int} {C D E:Nat} {v:Option (Int×α)} (h:MK m C v) (k:Int×α→Option (Int×β)) (hk:∀r,m≤r.1→r.1≤m+C→MK r.1 D (k r)) (hE:C+D≤E):MK m E (v.bind k):=by
 obtain⟨r,e,h1,h2⟩:=h
 obtain⟨q,e',h3,h4⟩:=hk r h1 h2
 rw[e,Option.bind_some]
 exact⟨q,e',by omega,by omega⟩
theorem tt {τ:Ty} (xs:List τ.den) (i j:Nat) (v:τ.den) (h:i≠j):rd (τ:=τ) (xs.set i v) (j:Int)=rd (τ:=τ) xs (j:Int):=by
 unfold rd;rw[Int.toNat_natCast,List.getD_eq_getElem?_getD,List.getElem?_set_ne h,←List.getD_eq_getElem?_getD]
theorem Hr {τ:Ty} (L:List τ.den→Int→Int→Option (Int×List τ.den)) (c n:Nat) (hn:n≤1048576)
  (step:∀(y:List τ.den) (m:Int) (i:Nat),y.length=n→i<y.length→wi τ (rd (τ:=τ) y (i:Int))→1≤m→m+c≤4611686018427387904→∃z m',L y m (i:Int)=L (y.set i z) m' ((i+1:Nat):Int)∧m≤m'∧m'≤m+c)
  (last:∀(y:List τ.den) (m:Int),y.length=n→L y m (n:Int)=some (m,y)):
  ∀(k i:Nat) (y:List τ.den),i+k=n→y.length=n→(∀j:Nat,i≤j→j<n→wi τ (rd (τ:=τ) y (j:Int)))→∀m:Int,1≤m→m+(c*k:Nat)≤4611686018427387904→MK m (c*k) (L y m (i:Int)):=by
 intro k
 induction k with
 |zero=>
  intro i y h hy hb m h1 h2
  have:i=n:=by omega
  subst this
  rw[last y m hy]
  exact⟨_,rfl,Int.le_refl _,by simp⟩
 |succ k ih=>
  intro i y h hy hb m h1 h2
  rw[Nat.mul_succ]at h2⊢
  obtain⟨z,m',e,a,b⟩:=step y m i hy (by omega) (hb i (Nat.le_refl _) (by omega)) h1 (by omega)
  rw[e]
  obtain⟨r,e',a',b'⟩:=ih (i+1) (y.set i z) (by omega) (by rw[List.length_set];exact hy) (fun j h1 h2=>by rw[tt _ _ _ _ (by omega)];exact hb j (by omega) h2) m' (by omega) (by omega)
  exact⟨r,e',by omega,by omega⟩
theorem di {τ:Ty} (f:List τ.den→Int→Option (Int×List τ.den)) (L:List τ.den→Int→Int→Option (Int×List τ.den)) (c:Nat) (hf:∀x m,f x m=L x m 0)
  (step:∀(y:List τ.den) (m:Int) (i:Nat),y.length≤1048576→i<y.length→wi τ (rd (τ:=τ) y (i:Int))→1≤m→m+c≤4611686018427387904→∃z m',L y m (i:Int)=L (y.set i z) m' ((i+1:Nat):Int)∧m≤m'∧m'≤m+c)
  (last:∀(y:List τ.den) (m:Int),L y m (y.length:Int)=some (m,y)):tL (.list τ) f (c*1048576):=by
 intro x hb m h1 h2
 have hx:List.length x≤1048576:=hb.1
 have hc:=Nat.mul_le_mul_left c hx
 obtain⟨r,e,a,b⟩:=Hr L c x.length hx (fun y m i h=>step y m i (by omega)) (fun y m h=>by rw[←h];exact last y m) x.length 0 x (by omega) rfl (fun j _ h=>hb.2 _ (an (τ:=τ) x j h)) m h1 (by omega)
 exact⟨r,by rw[hf];exact e,a,by omega⟩
theorem xM:tL (.list bO) Dg (5*1048576):=by
 refine di (τ:=bO) Dg Dg.a 5 (fun x m=>by rw[Nf]) (fun y m i hy hi _ h1 h2=> ?_) fun y m=> ?_
 ·rw[Dg.a_eq,ab,decide_eq_true hi,ae]
  simp only[cond_true,letB,List.length_set,ae,decide_eq_true hi,Int.toNat_natCast]
  rw[aF (n:=m+1) (by omega) (by omega),aF (n:=m+1+1) (by omega) (by omega),aF (n:=m+1+1+1) (by omega) (by omega),aF (n:=m+1+1+1+1) (by omega) (by omega),aF (n:=m+1+1+1+1+1) (by omega) (by omega),ah i _ hi (by omega)]
  simp only[cN (m) (by omega) (by omega),Option.bind_some,List.set_set]
  exact⟨_,_,rfl,by omega,by omega⟩
 ·rw[Dg.a_eq,ab,decide_eq_false (Nat.lt_irrefl _),cond_false]
theorem Bg:tL (.list aT) Di (6*1048576):=by
 refine di (τ:=aT) Di Di.a 6 (fun x m=>by rw[Nk]) (fun y m i hy hi _ h1 h2=> ?_) fun y m=> ?_
 ·rw[Di.a_eq,ab,decide_eq_true hi,ae]
  simp only[cond_true,letB,List.length_set,ae,decide_eq_true hi,Int.toNat_natCast]
  rw[aF (n:=m+1) (by omega) (by omega),aF (n:=m+1+1) (by omega) (by omega),aF (n:=m+1+1+1) (by omega) (by omega),aF (n:=m+1+1+1+1) (by omega) (by omega),aF (n:=m+1+1+1+1+1) (by omega) (by omega),aF (n:=m+1+1+1+1+1+1) (by omega) (by omega),ah i _ hi (by omega)]
  simp only[cN (m) (by omega) (by omega),Option.bind_some,List.set_set]
  exact⟨_,_,rfl,by omega,by omega⟩
 ·rw[Di.a_eq,ab,decide_eq_false (Nat.lt_irrefl _),cond_false]
theorem E3:tL (.list aO) Dh (3*1048576):=by
 refine di (τ:=aO) Dh Dh.a 3 (fun x m=>by rw[Nh]) (fun y m i hy hi _ h1 h2=> ?_) fun y m=> ?_
 ·rw[Dh.a_eq,ab,decide_eq_true hi,ae]
  simp only[cond_true,letB,List.length_set,ae,decide_eq_true hi,Int.toNat_natCast]
  rw[aF (n:=m+1) (by omega) (by omega),aF (n:=m+1+1) (by omega) (by omega),aF (n:=m+1+1+1) (by omega) (by omega),ah i _ hi (by omega)]
  simp only[cN (m+1+1) (by omega) (by omega),Option.bind_some,List.set_set]
  exact⟨_,_,rfl,by omega,by omega⟩
 ·rw[Dh.a_eq,ab,decide_eq_false (Nat.lt_irrefl _),cond_false]
theorem xN:tL (.list od) Dj (3*1048576):=by
 refine di (τ:=od) Dj Dj.a 3 (fun x m=>by rw[Nl]) (fun y m i hy hi _ h1 h2=> ?_) fun y m=> ?_
 ·rw[Dj.a_eq,ab,decide_eq_true hi,ae]
  simp only[cond_true,letB,List.length_set,ae,decide_eq_true hi,Int.toNat_natCast]
  rw[aF (n:=m+1) (by omega) (by omega),aF (n:=m+1+1) (by omega) (by omega),aF (n:=m+1+1+1) (by omega) (by omega),ah i _ hi (by omega)]
  simp only[List.set_set]
  exact⟨_,_,rfl,by omega,by omega⟩
 ·rw[Dj.a_eq,ab,decide_eq_false (Nat.lt_irrefl _),cond_false]
theorem qS:tL (.list aA) Dk (4*1048576):=by
 refine di (τ:=aA) Dk Dk.a 4 (fun x m=>by rw[Nn]) (fun y m i hy hi _ h1 h2=> ?_) fun y m=> ?_
 ·rw[Dk.a_eq,ab,decide_eq_true hi,ae]
  simp only[cond_true,letB,List.length_set,ae,decide_eq_true hi,Int.toNat_natCast]
  rw[aF (n:=m+1) (by omega) (by omega),aF (n:=m+1+1) (by omega) (by omega),aF (n:=m+1+1+1) (by omega) (by omega),aF (n:=m+1+1+1+1) (by omega) (by omega),ah i _ hi (by omega)]
  simp only[cN (m) (by omega) (by omega),cN (m+1+1+1) (by omega) (by omega),Option.bind_some,List.set_set]
  exact⟨_,_,rfl,by omega,by omega⟩
 ·rw[Dk.a_eq,ab,decide_eq_false (Nat.lt_irrefl _),cond_false]
theorem qT:tL (.list bc) Dl (2*1048576):=by
 refine di (τ:=bc) Dl Dl.a 2 (fun x m=>by rw[No]) (fun y m i hy hi _ h1 h2=> ?_) fun y m=> ?_
 ·rw[Dl.a_eq,ab,decide_eq_true hi,ae]
  simp only[cond_true,letB,List.length_set,ae,decide_eq_true hi,Int.toNat_natCast]
  rw[aF (n:=m+1) (by omega) (by omega),aF (n:=m+1+1) (by omega) (by omega),ah i _ hi (by omega)]
  simp only[cN (m) (by omega) (by omega),cN (m+1) (by omega) (by omega),Option.bind_some,List.set_set]
  exact⟨_,_,rfl,by omega,by omega⟩
 ·rw[Dl.a_eq,ab,decide_eq_false (Nat.lt_irrefl _),cond_false]
theorem Bh:tL (.list bU) Dm (5*1048576):=by
 refine di (τ:=bU) Dm Dm.a 5 (fun x m=>by rw[Np]) (fun y m i hy hi _ h1 h2=> ?_) fun y m=> ?_
 ·rw[Dm.a_eq,ab,decide_eq_true hi,ae]
  simp only[cond_true,letB,List.length_set,ae,decide_eq_true hi,Int.toNat_natCast]
  rw[aF (n:=m+1) (by omega) (by omega),aF (n:=m+1+1) (by omega) (by omega),aF (n:=m+1+1+1) (by omega) (by omega),aF (n:=m+1+1+1+1) (by omega) (by omega),aF (n:=m+1+1+1+1+1) (by omega) (by omega),ah i _ hi (by omega)]
  simp only[cN (m+1+1+1) (by omega) (by omega),Option.bind_some,List.set_set]
  exact⟨_,_,rfl,by omega,by omega⟩
 ·rw[Dm.a_eq,ab,decide_eq_false (Nat.lt_irrefl _),cond_false]
theorem pG:tL (.list dj) Dn (2*1048576):=by
 refine di (τ:=dj) Dn Dn.a 2 (fun x m=>by rw[Nq]) (fun y m i hy hi _ h1 h2=> ?_) fun y m=> ?_
 ·rw[Dn.a_eq,ab,decide_eq_true hi,ae]
  simp only[cond_true,letB,List.length_set,ae,decide_eq_true hi,Int.toNat_natCast]
  rw[aF (n:=m+1) (by omega) (by omega),aF (n:=m+1+1) (by omega) (by omega),ah i _ hi (by omega)]
  simp only[List.set_set]
  exact⟨_,_,rfl,by omega,by omega⟩
 ·rw[Dn.a_eq,ab,decide_eq_false (Nat.lt_irrefl _),cond_false]
theorem E4:tL (.list fJ) Do (2*1048576):=by
 refine di (τ:=fJ) Do Do.a 2 (fun x m=>by rw[Ns]) (fun y m i hy hi _ h1 h2=> ?_) fun y m=> ?_
 ·rw[Do.a_eq,ab,decide_eq_true hi,ae]
  simp only[cond_true,letB,List.length_set,ae,decide_eq_true hi,Int.toNat_natCast]
  rw[aF (n:=m+1) (by omega) (by omega),aF (n:=m+1+1) (by omega) (by omega),ah i _ hi (by omega)]
  simp only[List.set_set]
  exact⟨_,_,rfl,by omega,by omega⟩
 ·rw[Do.a_eq,ab,decide_eq_false (Nat.lt_irrefl _),cond_false]
theorem tu:tL (.list (.int .i64)) tH (1*1048576):=by
 refine di (τ:=(.int .i64)) tH tH.a 1 (fun x m=>by rw[Gk]) (fun y m i hy hi _ h1 h2=> ?_) fun y m=> ?_
 ·rw[tH.a_eq,ab,decide_eq_true hi,ae]
  simp only[cond_true,decide_eq_true hi,Int.toNat_natCast]
  rw[aF (n:=m+1) (by omega) (by omega),ah i _ hi (by omega)]
  skip
  exact⟨_,_,rfl,by omega,by omega⟩
 ·rw[tH.a_eq,ab,decide_eq_false (Nat.lt_irrefl _),cond_false]
theorem pH:tL (.list .str) Cj (1*1048576):=by
 refine di (τ:= .str) Cj Cj.a 1 (fun x m=>by rw[Nr]) (fun y m i hy hi _ h1 h2=> ?_) fun y m=> ?_
 ·rw[Cj.a_eq,ab,decide_eq_true hi,ae]
  simp only[cond_true,decide_eq_true hi,Int.toNat_natCast]
  rw[aF (n:=m+1) (by omega) (by omega),ah i _ hi (by omega)]
  simp only[cN (m) (by omega) (by omega),Option.bind_some]
  exact⟨_,_,rfl,by omega,by omega⟩
 ·rw[Cj.a_eq,ab,decide_eq_false (Nat.lt_irrefl _),cond_false]
theorem Hs (y0:List Ma) (i:Nat) (hn:y0.length≤1048576) (hi:i<y0.length):∀(k j:Nat),j+k=32→∀(y:List Ma) (m:Int),y.length=y0.length→(∃z,y=y0.set i z)→wi (.list (.int .i64)) (rd (τ:=eF) y (i:Int)).2.2.1→1≤m→m+(k+2+1048576:Nat)≤4611686018427387904→
  ∃z m',q8.b y m (i:Int) (j:Int)=q8.a (y0.set i z) m' ((i+1:Nat):Int)∧m≤m'∧m'≤m+(k+2+1048576:Nat):=by
 intro k
 induction k with
 |zero=>
  intro j hj y m hy hz hb h1 h2
  obtain⟨z,rfl⟩:=hz
  rw[List.length_set]at hy
  have:j=32:=by omega
  subst this
  rw[bB (τ:=eF) _ _ _ hi]at hb
  obtain⟨r,e,a,b⟩:=tu z.2.2.1 hb (m+1) (by omega) (by omega)
  rw[q8.b_eq,show decide (((32:Nat):Int)<32)=false from rfl]
  simp only[cond_false,cond_true,letB,List.length_set,ae,decide_eq_true hi,Int.toNat_natCast,List.set_set,aF (n:=m+1) (by omega) (by omega)]
  rw[bB (τ:=eF) _ _ _ hi,bB (τ:=eF) _ _ _ hi,e]
  simp only[Option.bind_some,decide_true,cond_true,aF (n:=r.1+1) (by omega) (by omega),ah i _ hi (by omega)]
  exact⟨_,_,rfl,by omega,by omega⟩
 |succ k ih=>
  intro j hj y m hy hz hb h1 h2
  obtain⟨z,rfl⟩:=hz
  rw[List.length_set]at hy
  rw[bB (τ:=eF) _ _ _ hi]at hb
  rw[q8.b_eq,decide_eq_true (show(j:Int)<32 by omega),show ao (j:Int) 32=true by rw[ae];exact decide_eq_true (by omega)]
  simp only[cond_true,letB,List.length_set,ae,decide_eq_true hi,Int.toNat_natCast,List.set_set,aF (n:=m+1) (by omega) (by omega),ah j 32 (by omega) (by omega)]
  rw[bB (τ:=eF) _ _ _ hi]
  obtain⟨z',m',e,a,b⟩:=ih (j+1) (by omega) (y0.set i (z.1,(z.2.1.1.set j m,z.2.1.2),z.2.2)) (m+1) (by rw[List.length_set]) ⟨_,rfl⟩ (by rw[bB (τ:=eF) _ _ _ hi];exact hb) (by omega) (by omega)
  exact⟨z',m',e,by omega,by omega⟩
theorem xO:tL (.list eF) q8 (1048700*1048576):=by
 refine di (τ:=eF) q8 q8.a 1048700 (fun x m=>by rw[Nj]) (fun y m i hy hi hb h1 h2=> ?_) fun y m=> ?_
 ·rw[q8.a_eq,ab,decide_eq_true hi,ae,decide_eq_true hi,aF (n:=m+1) (by omega) (by omega),Int.toNat_natCast]
  simp only[cond_true]
  obtain⟨z,m',e,a,b⟩:=Hs y i hy hi 32 0 rfl (y.set i (m,(rd (τ:=eF) y (i:Int)).2)) (m+1) (by rw[List.length_set]) ⟨_,rfl⟩ (by rw[bB (τ:=eF) _ _ _ hi];exact hb.2.2.1) (by omega) (by omega)
  exact⟨z,m',e,by omega,by omega⟩
 ·rw[q8.a_eq,ab,decide_eq_false (Nat.lt_irrefl _),cond_false]
theorem E5:tL EJ P4 (5*1048576):=by
 intro x hb m h1 h2
 show MK m _ (P4 x m)
 rw[Ng]
 exact(xM x.2.2 hb.2.2 m h1 (by omega)).bind (D:=0) _ (fun r a b=>⟨_,rfl,Int.le_refl _,by simp⟩) (by omega)
theorem Bi:tL (.list aO) P5 (3*1048576):=by
 intro x hb m h1 h2
 show MK m _ (P5 x m)
 rw[Ni]
 exact(E3 x hb m h1 (by omega)).bind (D:=0) _ (fun r a b=>⟨_,rfl,Int.le_refl _,by simp⟩) (by omega)
theorem xP:tL EK P6 (1048800*1048576):=by
 intro x hb m h1 h2
 show MK m _ (P6 x m)
 rw[Nm]
 refine(Bi x.1 hb.1 m h1 (by omega)).bind (D:=1048797*1048576) _ (fun r a b=> ?_) (by omega)
 refine(xO x.2.1 hb.2.1 r.1 (by omega) (by omega)).bind (D:=97*1048576) _ (fun r a b=> ?_) (by omega)
 refine(Bg x.2.2.1 hb.2.2.1 r.1 (by omega) (by omega)).bind (D:=91*1048576) _ (fun r a b=> ?_) (by omega)
 exact(xN x.2.2.2 hb.2.2.2 r.1 (by omega) (by omega)).bind (D:=0) _ (fun r a b=>⟨_,rfl,Int.le_refl _,by simp⟩) (by omega)
theorem Bj:tL (.list cd) Dp (19922946*1048576):=by
 refine di (τ:=cd) Dp Dp.a 19922946 (fun x m=>by rw[Nt]) (fun y m i hy hi hb h1 h2=> ?_) fun y m=> ?_
 ·rw[Dp.a_eq,ab,decide_eq_true hi,ae,cN m (by omega) (by omega),aF (n:=m+1) (by omega) (by omega),aF (n:=m+1+1) (by omega) (by omega),ah i _ hi (by omega)]
  simp only[cond_true,Option.bind_some,letB,List.length_set,ae,decide_eq_true hi,Int.toNat_natCast,List.set_set,bB (τ:=cd) _ _ _ hi,decide_true]
  obtain⟨r0,e0,a0,b0⟩:=qS (rd (τ:=cd) y (i:Int)).1.2.2.1 hb.1.2.2.1 (m+1+1) (by omega) (by omega)
  rw[e0]
  simp only[Option.bind_some]
  obtain⟨r1,e1,a1,b1⟩:=qT (rd (τ:=cd) y (i:Int)).1.2.2.2.1 hb.1.2.2.2.1 r0.1 (by omega) (by omega)
  rw[e1]
  simp only[Option.bind_some]
  obtain⟨r2,e2,a2,b2⟩:=Bh (rd (τ:=cd) y (i:Int)).1.2.2.2.2.1 hb.1.2.2.2.2.1 r1.1 (by omega) (by omega)
  rw[e2]
  simp only[Option.bind_some]
  obtain⟨r3,e3,a3,b3⟩:=pG (rd (τ:=cd) y (i:Int)).1.2.2.2.2.2 hb.1.2.2.2.2.2 r2.1 (by omega) (by omega)
  rw[e3]
  simp only[Option.bind_some]
  obtain⟨r4,e4,a4,b4⟩:=tu (rd (τ:=cd) y (i:Int)).2.1.1 hb.2.1.1 r3.1 (by omega) (by omega)
  rw[e4]
  simp only[Option.bind_some]
  obtain⟨r5,e5,a5,b5⟩:=pH (rd (τ:=cd) y (i:Int)).2.1.2.1 hb.2.1.2.1 r4.1 (by omega) (by omega)
  rw[e5]
  simp only[Option.bind_some]
  obtain⟨r6,e6,a6,b6⟩:=tu (rd (τ:=cd) y (i:Int)).2.1.2.2.1 hb.2.1.2.2.1 r5.1 (by omega) (by omega)
  rw[e6]
  simp only[Option.bind_some]
  obtain⟨r7,e7,a7,b7⟩:=pH (rd (τ:=cd) y (i:Int)).2.1.2.2.2 hb.2.1.2.2.2 r6.1 (by omega) (by omega)
  rw[e7]
  simp only[Option.bind_some]
  obtain⟨r8,e8,a8,b8⟩:=E4 (rd (τ:=cd) y (i:Int)).2.2 hb.2.2 r7.1 (by omega) (by omega)
  rw[e8]
  simp only[Option.bind_some]
  exact⟨_,_,rfl,by omega,by omega⟩
 ·rw[Dp.a_eq,ab,decide_eq_false (Nat.lt_irrefl _),cond_false]
theorem rT:tL TSys OX (20971751*1048576):=by
 intro x hb m h1 h2
 show MK m _ (OX x m)
 rw[Nu]
 refine(E5 x.1 hb.1 m h1 (by omega)).bind (D:=20971746*1048576) _ (fun r a b=> ?_) (by omega)
 refine(xP x.2.1 hb.2.1 r.1 (by omega) (by omega)).bind (D:=19922946*1048576) _ (fun r a b=> ?_) (by omega)
 exact(Bj x.2.2 hb.2.2 r.1 (by omega) (by omega)).bind (D:=0) _ (fun r a b=>⟨_,rfl,Int.le_refl _,by simp⟩) (by omega)
abbrev NM:Ty:= .pair (.int .i64) (.pair (.int .i64) (.pair (.int .i64) (.pair (.int .i64) (.int .i64))))
theorem tv (k:Int) (y:Ex) (P:List Pc) (hy:y.2.2.2.1=P) (hl:P.length≤9000000):∀(n i:Nat) (x:Int),i+n=P.length→∃v,C3.a k x P (P.length:Int) (i:Int)=some v∧CE.a k y x (i:Int)=some v:=by
 intro n
 induction n with
 |zero=>
  intro i x h
  have:i=P.length:=by omega
  subst this
  rw[C3.a_eq,CE.a_eq,hy,ab,decide_eq_false (Nat.lt_irrefl _)]
  exact⟨_,rfl,rfl⟩
 |succ n ih=>
  intro i x h
  have hi:i<P.length:=by omega
  rw[C3.a_eq,CE.a_eq,hy,ab,ae,decide_eq_true hi,ah i _ hi (by omega)]
  simp only[cond_true]
  cases decide ((rd (τ:=NM) P (i:Int)).1=k)with
  |true=>exact ih (i+1) _ (by omega)
  |false=>exact ih (i+1) _ (by omega)
theorem qU (t:List da) (P:List Pc) (m:List fq) (a b:bl) (ht:t.length≤64) (hl:P.length≤9000000):∃V,Gi (t,P,m,a,b)=some V∧CF.a (t,a,b,P,m) [] 0=some (V,0)∧V.length=t.length:=by
 have key:∀(n i:Nat) (x:List Int),i+n=t.length→x.length=i→∃V,Gi.a (t,P,m,a,b) x (t.length:Int) (i:Int)=some V∧CF.a (t,a,b,P,m) x (i:Int)=some (V,0)∧V.length=t.length:=by
  intro n
  induction n with
  |zero=>
   intro i x h hx
   have:i=t.length:=by omega
   subst this
   rw[Gi.a_eq,CF.a_eq,ab,decide_eq_false (Nat.lt_irrefl _)]
   exact⟨_,rfl,rfl,hx⟩
  |succ n ih=>
   intro i x h hx
   have hi:i<t.length:=by omega
   obtain⟨v,e1,e2⟩:=tv (i:Int) (t,a,b,P,m) P rfl hl P.length 0 (rd (τ:=aT) t (i:Int)).2.2.2.2.2 (by omega)
   have e3:C3 (t,P,m,a,b) (i:Int)=some v:=by rw[ME,ae,decide_eq_true hi];exact e1
   have e4:CE (t,a,b,P,m) (i:Int)=some v:=by rw[JU,ae,decide_eq_true hi];exact e2
   rw[Gi.a_eq,CF.a_eq,ab,decide_eq_true hi,e3,e4,ah i _ hi (by omega)]
   simp only[cond_true,Option.bind_some]
   rw[jD _ (by simp;omega)]
   exact ih (i+1) (x++[v]) (by omega) (by simp[hx])
 rw[MF]
 exact key t.length 0 [] (by omega) rfl
theorem Ht (x:List Int) (h1:x.length≤1048576):q7 x x=some true:=by
 rw[Gj,decide_eq_true (rfl:(List.length x:Int)=(List.length x:Int)),Bool.not_true,cond_false]
 refine ct (q7.a x x) (List.length x) (fun i hi=> ?_) ?_
 ·rw[q7.a_eq,ab,ae,decide_eq_true hi,ah i _ hi (by omega),decide_eq_true (rfl:rd (τ:= .int .i64) x (i:Int)=rd (τ:= .int .i64) x (i:Int))];rfl
 ·rw[q7.a_eq,ab,decide_eq_false (Nat.lt_irrefl _),cond_false]
theorem Bl (l:List Int) (hl:l.length≤1048576):tH l 1=some (1+1*(l.length:Int),fe (fun m=>m) 1 1 l.length)∧Dq (fe (fun m=>m) 1 1 l.length) 1=some (1+1*(l.length:Int)):=by
 constructor
 ·rw[Gk]
  refine vT tH.a (fun m=>m) 1 l.length 1 9000000 (by decide) (by omega) ?_ ?_ l rfl
  ·intro x m i hx hi hm hM
   have hi':i<x.length:=by omega
   rw[tH.a_eq,ab,ae,decide_eq_true hi',aF (n:=m+1) (by omega) (by omega),ah i x.length hi' (by omega),Int.toNat_natCast]
   rfl
  ·intro x m hx
   rw[tH.a_eq,ab,decide_eq_false (by omega)];rfl
 ·rw[Nv]
  refine vU Dq.a (fun m=>m) 1 l.length 1 9000000 (by decide) (by omega) ?_ ?_
  ·intro x m i hx hi hm hM he
   have hi':i<x.length:=by omega
   rw[Dq.a_eq,ab,ae,decide_eq_true hi',aF (n:=m+1) (by omega) (by omega),ah i x.length hi' (by omega),zt (τ:= .int .i64) x i _ he,decide_eq_true (rfl:m=m)]
   rfl
  ·intro x m hx
   rw[Dq.a_eq,ab,decide_eq_false (by omega)];rfl
theorem jT {n:Int} (h:0≤n):decide (n<0)=false:=decide_eq_false (by omega)
theorem pI (s:O0) (hw:pc TSys s):Rq s=some true:=by
 rw[Nw]
 obtain⟨r,e1,e2,e3⟩:=rP s hw 1048576 ⟨by decide,by decide⟩
 rw[e1]
 simp only[Option.bind_some]
 by_cases h:r<0
 ·rw[decide_eq_true h];rfl
 ·have hb:=e3 (by omega)
  have hn:List.length s.2.2≤1048576:=hb.2.2.1
  have hV:∃(V:List Int) (c:Int),PJ s=some (V,c)∧CF s=some (V,c)∧V.length≤64:=by
   obtain⟨rI,rS,f1,f2,f3,f4⟩:=nh s (vv hw.2.2)
   rw[MG,JV,f1,f2]
   simp only[Option.bind_some]
   rw[←f3]
   cases hr:rI.2 with
   |false=>exact⟨_,_,rfl,rfl,by simp⟩
   |true=>
    obtain⟨t',P',F',a',b',g1,g2,g3⟩:=f4 hr
    have:=g3.pl
    obtain⟨V,v1,v2,v3⟩:=qU t' P' (aw F' BL) a' b' g3.tab.len (by omega)
    rw[g1,g2]
    simp only[Bool.not_true,cond_false]
    rw[v1,v2]
    exact⟨V,0,rfl,rfl,by rw[v3];exact g3.tab.len⟩
  obtain⟨V,c,v1,v2,v3⟩:=hV
  obtain⟨k,m1,m2,m3⟩:=rT s hb 1 (by decide) (by decide)
  obtain⟨i1,i2⟩:=Bl V (by omega)
  rw[decide_eq_false h,rQ s hw hb]
  simp only[Option.bind_some,cond_false,ax]
  rw[v1,v2]
  simp only[Option.bind_some,Ht V (by omega),decide_true,Bool.not_true,cond_false,rR s hw hb,m1,jT (show 0≤k.1 by omega),i1,i2,jT (show 0≤1+1*(V.length:Int) by omega)]
theorem Bm (x:List Pc) (h1:x.length≤9000000):Ck x x=some true:=by
 rw[NA,decide_eq_true (rfl:(List.length x:Int)=(List.length x:Int)),Bool.not_true,cond_false]
 refine ct (Ck.a x x) (List.length x) (fun i hi=> ?_) ?_
 ·rw[Ck.a_eq,ab,ae,decide_eq_true hi,ah i _ hi (by omega),Nz]
  simp only[decide_true,Bool.not_true,cond_false,cond_true,Option.bind_some]
 ·rw[Ck.a_eq,ab,decide_eq_false (Nat.lt_irrefl _),cond_false]
def N5 (m:Int):Pc:=(m,m+1,m+1+1,m+1+1+1,m+1+1+1+1)
theorem vz (l:List Pc) (hl:l.length≤9000000):Gl l 1=some (1+5*(l.length:Int),fe N5 5 1 l.length)∧Dr (fe N5 5 1 l.length) 1=some (1+5*(l.length:Int)):=by
 constructor
 ·rw[NB]
  refine vT Gl.a N5 5 l.length 1 90000000 (by decide) (by omega) ?_ ?_ l rfl
  ·intro x m i hx hi hm hM
   have hi':i<x.length:=by omega
   rw[Gl.a_eq,ab,decide_eq_true hi',aF (n:=m+1) (by omega) (by omega),aF (n:=m+1+1) (by omega) (by omega),aF (n:=m+1+1+1) (by omega) (by omega),aF (n:=m+1+1+1+1) (by omega) (by omega),aF (n:=m+1+1+1+1+1) (by omega) (by omega),ah i x.length hi' (by omega),Int.toNat_natCast]
   simp only[cond_true,letB,ae,List.length_set,decide_eq_true hi']
   rw[bB (τ:=NM) _ _ _ hi',bB (τ:=NM) _ _ _ (by simpa using hi'),bB (τ:=NM) _ _ _ (by simpa using hi'),bB (τ:=NM) _ _ _ (by simpa using hi')]
   simp only[List.set_set]
   rw[show m+1+1+1+1+1=m+((5:Nat):Int) by omega]
   rfl
  ·intro x m hx
   rw[Gl.a_eq,ab,decide_eq_false (by omega)];rfl
 ·rw[NC]
  refine vU Dr.a N5 5 l.length 1 90000000 (by decide) (by omega) ?_ ?_
  ·intro x m i hx hi hm hM he
   have hi':i<x.length:=by omega
   rw[Dr.a_eq,ab,ae,decide_eq_true hi',aF (n:=m+1) (by omega) (by omega),aF (n:=m+1+1) (by omega) (by omega),aF (n:=m+1+1+1) (by omega) (by omega),aF (n:=m+1+1+1+1) (by omega) (by omega),aF (n:=m+1+1+1+1+1) (by omega) (by omega),ah i x.length hi' (by omega),zt (τ:=NM) x i _ he]
   unfold N5
   simp only[cond_true,decide_true,Bool.not_true,cond_false]
   rw[show m+1+1+1+1+1=m+((5:Nat):Int) by omega]
  ·intro x m hx
   rw[Dr.a_eq,ab,decide_eq_false (by omega)];rfl
theorem Hu (s:O0) (hw:pc TSys s):Rs s=some true:=by
 rw[ND]
 obtain⟨r,e1,e2,e3⟩:=rP s hw 1048576 ⟨by decide,by decide⟩
 rw[e1]
 simp only[Option.bind_some]
 by_cases h:r<0
 ·rw[decide_eq_true h];rfl
 ·have hb:=e3 (by omega)
  have hn:List.length s.2.2≤1048576:=hb.2.2.1
  have hV:∃(V:List Pc) (c:Int),P7 s=some (V,c)∧Q3 s=some (V,c)∧V.length≤9000000:=by
   obtain⟨rI,rS,f1,f2,f3,f4⟩:=nh s (vv hw.2.2)
   rw[Ny,Nx,f1,f2]
   simp only[Option.bind_some]
   rw[←f3]
   cases hr:rI.2 with
   |false=>exact⟨_,_,rfl,rfl,by simp⟩
   |true=>
    obtain⟨t',P',F',a',b',g1,g2,g3⟩:=f4 hr
    have:=g3.pl
    rw[g1,g2]
    exact⟨P',0,rfl,rfl,by omega⟩
  obtain⟨V,c,v1,v2,v3⟩:=hV
  obtain⟨k,m1,m2,m3⟩:=rT s hb 1 (by decide) (by decide)
  obtain⟨i1,i2⟩:=vz V (by omega)
  rw[decide_eq_false h,rQ s hw hb]
  simp only[Option.bind_some,cond_false,ax]
  rw[v1,v2]
  simp only[Option.bind_some,Bm V (by omega),decide_true,Bool.not_true,cond_false,rR s hw hb,m1,jT (show 0≤k.1 by omega),i1,i2,jT (show 0≤1+5*(V.length:Int) by omega)]
end Go.Proofs.YtegcfpicnjpihaaGreat.S
