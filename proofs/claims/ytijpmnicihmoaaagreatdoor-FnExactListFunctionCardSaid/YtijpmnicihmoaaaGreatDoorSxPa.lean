import Derived.Test.YtijpmnicihmoaaaGreatDoorSxP
namespace Go.Proofs.YtijpmnicihmoaaaGreatDoor.S
open Go.Ps
set_option linter.unusedVariables false
set_option maxRecDepth 100000
theorem zR (o:bL) (hz:UnitSz o) (x6:bG) (x8:fh) (x9 x10:bG) (r:List dr×bL) (l3:List Int) (l4:List ByteArray):∀(k i:Nat) (a:bG) (ats:List Int) (codes:List ByteArray) (f:Int),i+k=o.2.2.1.length→ct a→ats.length=i→codes.length=i→
  eL.a a x6 o x8 x9 x10 ((ats,codes,l3,l4),r) f o.2.2.1 (o.2.2.1.length:Int) (i:Int)=
   eL.b (cK (dW o) a i k).1 x6 o x8 x9 x10 ((ats++(cK (dW o) a i k).2.1,codes++bn (lB o) i k,l3,l4),r) (after f (cK (dW o) a i k).2.2) o.2.2.2.1 (o.2.2.2.1.length:Int) 0:=by
 have h4:=hz.f
 intro k
 induction k with
 |zero=>
  intro i a ats codes f hk ha h1 h2
  have:i=o.2.2.1.length:=by omega
  subst this
  rw[eL.a_eq,ai,am (az _),ac,cK,bn,List.append_nil,List.append_nil]
  simp[after]
 |succ k ih=>
  intro i a ats codes f hk ha h1 h2
  have hi:i<o.2.2.1.length:=by omega
  rw[eL.a_eq,ai,aj,ab hi,an i _ hi (by omega)]
  rw[kB a ha _ (by have:=hz.fs i hi;omega)]
  simp only[ae,af,aJ]
  rw[lz _ (by simp;omega),jx _ (by simp;omega)]
  simp only[ae]
  have e:(bif decide (f=0)then bif !(aL a (rd (τ:=aP) o.2.2.1 (i:Int)).2.2.2.size).2.2 then eL.a (aL a (rd (τ:=aP) o.2.2.1 (i:Int)).2.2.2.size).1 x6 o x8 x9 x10 ((ats++[(aL a (rd (τ:=aP) o.2.2.1 (i:Int)).2.2.2.size).2.1],codes++[(rd (τ:=aP) o.2.2.1 (i:Int)).2.2.2],l3,l4),r) 7 o.2.2.1 (o.2.2.1.length:Int) ((i+1:Nat):Int)
    else eL.a (aL a (rd (τ:=aP) o.2.2.1 (i:Int)).2.2.2.size).1 x6 o x8 x9 x10 ((ats++[(aL a (rd (τ:=aP) o.2.2.1 (i:Int)).2.2.2.size).2.1],codes++[(rd (τ:=aP) o.2.2.1 (i:Int)).2.2.2],l3,l4),r) f o.2.2.1 (o.2.2.1.length:Int) ((i+1:Nat):Int)
    else bif false then eL.a (aL a (rd (τ:=aP) o.2.2.1 (i:Int)).2.2.2.size).1 x6 o x8 x9 x10 ((ats++[(aL a (rd (τ:=aP) o.2.2.1 (i:Int)).2.2.2.size).2.1],codes++[(rd (τ:=aP) o.2.2.1 (i:Int)).2.2.2],l3,l4),r) 7 o.2.2.1 (o.2.2.1.length:Int) ((i+1:Nat):Int)
    else eL.a (aL a (rd (τ:=aP) o.2.2.1 (i:Int)).2.2.2.size).1 x6 o x8 x9 x10 ((ats++[(aL a (rd (τ:=aP) o.2.2.1 (i:Int)).2.2.2.size).2.1],codes++[(rd (τ:=aP) o.2.2.1 (i:Int)).2.2.2],l3,l4),r) f o.2.2.1 (o.2.2.1.length:Int) ((i+1:Nat):Int))=
    eL.a (aL a (dW o i)).1 x6 o x8 x9 x10 ((ats++[(aL a (dW o i)).2.1],codes++[lB o i],l3,l4),r) (after f (aL a (dW o i)).2.2) o.2.2.1 (o.2.2.1.length:Int) ((i+1:Nat):Int):=by
   unfold after dW lB
   generalize aL a (rd (τ:=aP) o.2.2.1 (i:Int)).2.2.2.size=p
   by_cases h:f=0
   ·rw[ab h]
    cases hp:p.2.2<;>simp[h]
   ·rw[am h];simp[h]
  rw[e,ih (i+1) _ _ _ _ (by omega) (c9 ha _) (by simp;omega) (by simp;omega),cK,bn,kE,bl,bl]
  rfl
theorem zS (o:bL) (hz:UnitSz o) (x5:bG) (x8:fh) (x9 x10:bG) (r:List dr×bL) (l1:List Int) (l2:List ByteArray):∀(k i:Nat) (a:bG) (ats:List Int) (codes:List ByteArray) (f:Int),i+k=o.2.2.2.1.length→ct a→ats.length=i→codes.length=i→
  eL.b x5 a o x8 x9 x10 ((l1,l2,ats,codes),r) f o.2.2.2.1 (o.2.2.2.1.length:Int) (i:Int)=
   eL.c x5 (cK (lA o) a i k).1 o x8 x9 x10 ((l1,l2,ats++(cK (lA o) a i k).2.1,codes++bn (kD o) i k),r) (after f (cK (lA o) a i k).2.2) o.2.2.2.2.1 (o.2.2.2.2.1.length:Int) 0:=by
 have h4:=hz.d
 intro k
 induction k with
 |zero=>
  intro i a ats codes f hk ha h1 h2
  have:i=o.2.2.2.1.length:=by omega
  subst this
  rw[eL.b_eq,ai,am (az _),ac,cK,bn,List.append_nil,List.append_nil]
  simp[after]
 |succ k ih=>
  intro i a ats codes f hk ha h1 h2
  have hi:i<o.2.2.2.1.length:=by omega
  rw[eL.b_eq,ai,aj,ab hi,an i _ hi (by omega)]
  rw[kB a ha _ (by have:=hz.ds i hi;omega)]
  simp only[ae,af,aJ]
  rw[lz _ (by simp;omega),jx _ (by simp;omega)]
  simp only[ae]
  have e:(bif decide (f=0)then bif !(aL a (rd (τ:=bB) o.2.2.2.1 (i:Int)).2.size).2.2 then eL.b x5 (aL a (rd (τ:=bB) o.2.2.2.1 (i:Int)).2.size).1 o x8 x9 x10 ((l1,l2,ats++[(aL a (rd (τ:=bB) o.2.2.2.1 (i:Int)).2.size).2.1],codes++[(rd (τ:=bB) o.2.2.2.1 (i:Int)).2]),r) 7 o.2.2.2.1 (o.2.2.2.1.length:Int) ((i+1:Nat):Int)
    else eL.b x5 (aL a (rd (τ:=bB) o.2.2.2.1 (i:Int)).2.size).1 o x8 x9 x10 ((l1,l2,ats++[(aL a (rd (τ:=bB) o.2.2.2.1 (i:Int)).2.size).2.1],codes++[(rd (τ:=bB) o.2.2.2.1 (i:Int)).2]),r) f o.2.2.2.1 (o.2.2.2.1.length:Int) ((i+1:Nat):Int)
    else bif false then eL.b x5 (aL a (rd (τ:=bB) o.2.2.2.1 (i:Int)).2.size).1 o x8 x9 x10 ((l1,l2,ats++[(aL a (rd (τ:=bB) o.2.2.2.1 (i:Int)).2.size).2.1],codes++[(rd (τ:=bB) o.2.2.2.1 (i:Int)).2]),r) 7 o.2.2.2.1 (o.2.2.2.1.length:Int) ((i+1:Nat):Int)
    else eL.b x5 (aL a (rd (τ:=bB) o.2.2.2.1 (i:Int)).2.size).1 o x8 x9 x10 ((l1,l2,ats++[(aL a (rd (τ:=bB) o.2.2.2.1 (i:Int)).2.size).2.1],codes++[(rd (τ:=bB) o.2.2.2.1 (i:Int)).2]),r) f o.2.2.2.1 (o.2.2.2.1.length:Int) ((i+1:Nat):Int))=
    eL.b x5 (aL a (lA o i)).1 o x8 x9 x10 ((l1,l2,ats++[(aL a (lA o i)).2.1],codes++[kD o i]),r) (after f (aL a (lA o i)).2.2) o.2.2.2.1 (o.2.2.2.1.length:Int) ((i+1:Nat):Int):=by
   unfold after lA kD
   generalize aL a (rd (τ:=bB) o.2.2.2.1 (i:Int)).2.size=p
   by_cases h:f=0
   ·rw[ab h]
    cases hp:p.2.2<;>simp[h]
   ·rw[am h];simp[h]
  rw[e,ih (i+1) _ _ _ _ (by omega) (c9 ha _) (by simp;omega) (by simp;omega),cK,bn,kE,bl,bl]
  rfl
theorem zT (o:bL) (hz:UnitSz o) (x4:bG) (x6:fh) (x7 x8:bG) (l3:List Int) (l4:List ByteArray):∀(k i:Nat) (a:bG) (ats:List Int) (codes:List ByteArray),i+k=o.2.2.1.length→ct a→ats.length=i→codes.length=i→
  ((cK (dW o) a i k).2.2=true→qB.a a x4 o x6 x7 x8 (ats,codes,l3,l4) (i:Int)=qB.b (cK (dW o) a i k).1 x4 o x6 x7 x8 (ats++(cK (dW o) a i k).2.1,codes++bn (lB o) i k,l3,l4) 0)∧
  ((cK (dW o) a i k).2.2=false→∃r,qB.a a x4 o x6 x7 x8 (ats,codes,l3,l4) (i:Int)=some r∧r.2.2.2=false):=by
 have h4:=hz.f
 intro k
 induction k with
 |zero=>
  intro i a ats codes hk ha h1 h2
  have:i=o.2.2.1.length:=by omega
  subst this
  rw[qB.a_eq,ai,am (az _),ac,cK,bn,List.append_nil,List.append_nil]
  exact⟨fun _=>rfl,fun h=>by cases h⟩
 |succ k ih=>
  intro i a ats codes hk ha h1 h2
  have hi:i<o.2.2.1.length:=by omega
  rw[qB.a_eq,ai,aj,ab hi,an i _ hi (by omega)]
  rw[kC a ha _ (by have:=hz.fs i hi;omega)]
  simp only[ae,af]
  rw[lz _ (by simp;omega),jx _ (by simp;omega)]
  simp only[ae]
  obtain⟨i1,i2⟩:=ih (i+1) (aL a (dW o i)).1 (ats++[(aL a (dW o i)).2.1]) (codes++[lB o i]) (by omega) (c9 ha _) (by simp;omega) (by simp;omega)
  rw[cK,bn]
  rw[show aL a (rd (τ:=aP) o.2.2.1 (i:Int)).2.2.2.size=aL a (dW o i) from rfl]
  cases hp:(aL a (dW o i)).2.2 with
  |false=>exact⟨fun h=>by simp at h,fun _=>⟨_,rfl,rfl⟩⟩
  |true=>
   simp only[Bool.true_and,aM,ac]
   refine⟨fun h=> ?_,fun h=>i2 h⟩
   have:=i1 h
   rw[bl,bl]at this
   exact this
theorem zU (o:bL) (hz:UnitSz o) (x3:bG) (x6:fh) (x7 x8:bG) (l1:List Int) (l2:List ByteArray):∀(k i:Nat) (a:bG) (ats:List Int) (codes:List ByteArray),i+k=o.2.2.2.1.length→ct a→ats.length=i→codes.length=i→
  ((cK (lA o) a i k).2.2=true→qB.b x3 a o x6 x7 x8 (l1,l2,ats,codes) (i:Int)=some ((l1,l2,ats++(cK (lA o) a i k).2.1,codes++bn (kD o) i k),x3,(cK (lA o) a i k).1,true))∧
  ((cK (lA o) a i k).2.2=false→∃r,qB.b x3 a o x6 x7 x8 (l1,l2,ats,codes) (i:Int)=some r∧r.2.2.2=false):=by
 have h4:=hz.d
 intro k
 induction k with
 |zero=>
  intro i a ats codes hk ha h1 h2
  have:i=o.2.2.2.1.length:=by omega
  subst this
  rw[qB.b_eq,ai,am (az _),ac,cK,bn,List.append_nil,List.append_nil]
  exact⟨fun _=>rfl,fun h=>by cases h⟩
 |succ k ih=>
  intro i a ats codes hk ha h1 h2
  have hi:i<o.2.2.2.1.length:=by omega
  rw[qB.b_eq,ai,aj,ab hi,an i _ hi (by omega)]
  rw[kC a ha _ (by have:=hz.ds i hi;omega)]
  simp only[ae,af]
  rw[lz _ (by simp;omega),jx _ (by simp;omega)]
  simp only[ae]
  obtain⟨i1,i2⟩:=ih (i+1) (aL a (lA o i)).1 (ats++[(aL a (lA o i)).2.1]) (codes++[kD o i]) (by omega) (c9 ha _) (by simp;omega) (by simp;omega)
  rw[cK,bn]
  rw[show aL a (rd (τ:=bB) o.2.2.2.1 (i:Int)).2.size=aL a (lA o i) from rfl]
  cases hp:(aL a (lA o i)).2.2 with
  |false=>exact⟨fun h=>by simp at h,fun _=>⟨_,rfl,rfl⟩⟩
  |true=>
   simp only[Bool.true_and,aM,ac]
   refine⟨fun h=> ?_,fun h=>i2 h⟩
   have:=i1 h
   rw[bl,bl]at this
   exact this
def dw (o:bL) (a b:bG):fh×bG×bG×Bool:=
 (((cK (dW o) a 0 o.2.2.1.length).2.1,bn (lB o) 0 o.2.2.1.length,(cK (lA o) b 0 o.2.2.2.1.length).2.1,bn (kD o) 0 o.2.2.2.1.length),
  (cK (dW o) a 0 o.2.2.1.length).1,(cK (lA o) b 0 o.2.2.2.1.length).1,(cK (dW o) a 0 o.2.2.1.length).2.2&&(cK (lA o) b 0 o.2.2.2.1.length).2.2)
theorem HC (o:bL) (hz:UnitSz o) (a b:bG) (ha:ct a) (hb:ct b):((dw o a b).2.2.2=true→qB a b o=some (dw o a b))∧((dw o a b).2.2.2=false→∃r,qB a b o=some r∧r.2.2.2=false):=by
 rw[LM]
 obtain⟨f1,f2⟩:=zT o hz b ([],[],[],[]) (0,0,0) (0,0,0) [] [] o.2.2.1.length 0 a [] [] (by omega) ha rfl rfl
 obtain⟨d1,d2⟩:=zU o hz (cK (dW o) a 0 o.2.2.1.length).1 ([],[],[],[]) (0,0,0) (0,0,0) (cK (dW o) a 0 o.2.2.1.length).2.1 (bn (lB o) 0 o.2.2.1.length) o.2.2.2.1.length 0 b [] [] (by omega) hb rfl rfl
 simp only[List.nil_append]at f1 d1
 unfold dw
 simp only
 cases h1:(cK (dW o) a 0 o.2.2.1.length).2.2 with
 |false=>exact⟨fun h=>(by cases h),fun _=>f2 h1⟩
 |true=>
  rw[Bool.true_and]
  refine⟨fun h=> ?_,fun h=> ?_⟩
  ·rw[h]
   exact(f1 h1).trans (d1 h)
  ·obtain⟨r,h3,h4⟩:=d2 h
   exact⟨r,(f1 h1).trans h3,h4⟩
theorem HD (o:bL) (hz:UnitSz o) (a b:bG) (ha:ct a) (hb:ct b) (x8:fh) (x9 x10:bG) (t:List dr) (f:Int):
  eL.a a b o x8 x9 x10 (([],[],[],[]),t,o) f o.2.2.1 (o.2.2.1.length:Int) 0=
   eL.c (dw o a b).2.1 (dw o a b).2.2.1 o x8 x9 x10 ((dw o a b).1,t,o) (after f (dw o a b).2.2.2) o.2.2.2.2.1 (o.2.2.2.2.1.length:Int) 0:=by
 have h1:=zR o hz b x8 x9 x10 (t,o) [] [] o.2.2.1.length 0 a [] [] f (by omega) ha rfl rfl
 have h2:=zS o hz (cK (dW o) a 0 o.2.2.1.length).1 x8 x9 x10 (t,o) (cK (dW o) a 0 o.2.2.1.length).2.1 (bn (lB o) 0 o.2.2.1.length) o.2.2.2.1.length 0 b [] [] (after f (cK (dW o) a 0 o.2.2.1.length).2.2) (by omega) hb rfl rfl
 simp only[List.nil_append]at h1 h2
 rw[kE]at h2
 exact h1.trans h2
def Ks (x:Int):Prop:=0≤x∧x≤1048575∧x%8=0
theorem Dn {a:bG} (h:ct a) (n:Nat) (hn:1≤n):Ks (aL a n).2.1:=by
 obtain⟨⟨h1,h2,h3⟩,⟨h4,h5,h6⟩,h7,h8,h9⟩:=h
 unfold aL
 split
 ·exact⟨by simp,by simp,by simp⟩
 ·have:8≤oN n:=by unfold oN;omega
  refine⟨?_, ?_, ?_⟩<;>simp only<;>omega
theorem zV (sz:Nat→Nat):∀k i a,ct a→(∀j,i≤j→j<i+k→1≤sz j)→∀x∈(cK sz a i k).2.1,Ks x
 |0,_,_,_,_,x,hx=>by cases hx
 |k+1,i,a,h,hs,x,hx=>by
  rw[cK]at hx
  rcases List.mem_cons.1 hx with rfl|hx
  ·exact Dn h _ (hs i (Nat.le_refl _) (by omega))
  ·exact zV sz k (i+1) _ (c9 h _) (fun j h1 h2=>hs j (by omega) (by omega)) x hx
structure ft (o:bL) (l:fh):Prop where
 a:l.1.length=o.2.2.1.length
 c:l.2.1.length=o.2.2.1.length
 d:l.2.2.1.length=o.2.2.2.1.length
 b:l.2.2.2.length=o.2.2.2.1.length
 cs:∀i:Nat,i<o.2.2.1.length→(rd (τ:= .str) l.2.1 (i:Int)).size=dW o i
 bs:∀i:Nat,i<o.2.2.2.1.length→(rd (τ:= .str) l.2.2.2 (i:Int)).size=lA o i
 fa:∀i:Nat,i<o.2.2.1.length→Ks (rd (τ:= .int .i64) l.1 (i:Int))
 ds:∀i:Nat,i<o.2.2.2.1.length→Ks (rd (τ:= .int .i64) l.2.2.1 (i:Int))
theorem pq {τ:Ty} (f:Nat→τ.den) (k j:Nat) (h:j<k):rd (τ:=τ) (bn f 0 k) (j:Int)=f j:=by
 rw[aY _ _ (by rw[aO];exact h),gK,Nat.zero_add]
theorem eg.fsz_pos {o:bL} (h:eg o) (i:Nat) (hi:i<o.2.2.1.length):20≤dW o i∧dW o i≤256∧dW o i%4=0:=by
 have:=(iZ (h.fun_ i hi)).2.2.2
 unfold br at this
 unfold dW
 cases h1:cq (rd (τ:=aP) o.2.2.1 (i:Int)).2.2.2.size with
 |false=>rw[h1]at this;cases this
 |true=>
  rw[h1,ae,aT]at this
  have h2:=dk h1
  exact⟨by omega,h2.2,h2.1⟩
theorem eg.dsz_pos {o:bL} (h:eg o) (i:Nat) (hi:i<o.2.2.2.1.length):8≤lA o i∧lA o i≤64∧lA o i%8=0:=ow (i6 (h.dat i hi)).2.2
theorem xK (o:bL) (h:eg o) (a b:bG) (ha:ct a) (hb:ct b):ft o (dw o a b).1∧ct (dw o a b).2.1∧ct (dw o a b).2.2.1:=by
 refine⟨⟨cr _ _ _ _,aO _ _ _,cr _ _ _ _,aO _ _ _,fun i hi=> ?_,fun i hi=> ?_,fun i hi=> ?_,fun i hi=> ?_⟩,rb _ _ _ _ ha,rb _ _ _ _ hb⟩
 ·show(rd (τ:= .str) (bn (lB o) 0 o.2.2.1.length) (i:Int)).size=_
  rw[pq (τ:= .str) (lB o) _ _ hi];rfl
 ·show(rd (τ:= .str) (bn (kD o) 0 o.2.2.2.1.length) (i:Int)).size=_
  rw[pq (τ:= .str) (kD o) _ _ hi];rfl
 ·have hl:=cr (dW o) o.2.2.1.length 0 a
  show Ks (rd (τ:= .int .i64) (cK (dW o) a 0 o.2.2.1.length).2.1 (i:Int))
  rw[aY (τ:= .int .i64) _ i (by rw[hl];exact hi)]
  exact zV _ _ _ _ ha (fun j _ h2=>by have:=h.fsz_pos j (by omega);omega) _ (List.getElem_mem _)
 ·have hl:=cr (lA o) o.2.2.2.1.length 0 b
  show Ks (rd (τ:= .int .i64) (cK (lA o) b 0 o.2.2.2.1.length).2.1 (i:Int))
  rw[aY (τ:= .int .i64) _ i (by rw[hl];exact hi)]
  exact zV _ _ _ _ hb (fun j _ h2=>by have:=h.dsz_pos j (by omega);omega) _ (List.getElem_mem _)
theorem Jx (v:Int) (i:Nat) (hi:i<8):(v%18446744073709551616)/2^(8*i)%256=v/2^(8*i)%256:=by
 match i,hi with
 |0,_=>omega
 |1,_=>omega
 |2,_=>omega
 |3,_=>omega
 |4,_=>omega
 |5,_=>omega
 |6,_=>omega
 |7,_=>omega
theorem Rm (n:Nat) (h:n≤4096):aH n 1=true:=by simp[aH];omega
theorem nN (v:Int) (n:Nat) (hn:n≤8):∀(k i:Nat) (xs:List Int),i+k=n→xs.length=i→yh.a v (n:Int) xs (i:Int)=some (aS (xs++lX (v/2^(8*i)) k)):=by
 intro k
 induction k with
 |zero=>
  intro i xs h hx
  have:i=n:=by omega
  subst this
  rw[yh.a_eq,ai,am (az _),ac,lX,List.append_nil]
 |succ k ih=>
  intro i xs h hx
  rw[yh.a_eq,ai,ab (show i<n by omega),aU (n:=8*(i:Int)) (by omega) (by omega),Gz (n:=8*(i:Int)) (by omega) (by omega),am (show¬8*(i:Int)<0 by omega),an i n (by omega) (by omega),mH,tG (by omega) (by omega),pn,Rm _ (by simp;omega),ih (i+1) _ (by omega) (by simp;omega),lX,bl]
  have e1:(8*(i:Int)).toNat=8*i:=by omega
  rw[e1,Jx v i (by omega)]
  have e2:v/2^(8*i)/256=v/2^(8*(i+1)):=by
   rw[Int.ediv_ediv_of_nonneg (Int.pow_nonneg (by decide))]
   congr 1
   rw[show 8*(i+1)=8*i+8 by omega,Int.pow_add];rfl
  rw[e2];rfl
theorem kF (v:Int) (n:Nat) (hn:n≤8):yh v (n:Int)=some (aS (lX v n)):=by
 rw[LO]
 have:=nN v n hn n 0 [] (by omega) rfl
 simpa using this
theorem Do {β:Type} (L:Int→Option β) (p:Nat→Bool) (g:Nat→Option β) (n:Nat) (hstep:∀i:Nat,i<n→L (i:Int)=bif p i then g i else L ((i+1:Nat):Int)):
  ∀k i:Nat,i+k=n→L (i:Int)=if ef p i k<0 then L (n:Int)else g (ef p i k).toNat:=by
 intro k
 induction k with
 |zero=>
   intro i h;have:i=n:=by omega
   subst this;rfl
 |succ k ih=>
  intro i h
  rw[hstep i (by omega),ih (i+1) (by omega),ef]
  cases p i with
  |false=>rfl
  |true=>rw[ae,ae,ap (by omega)];rfl
theorem jB {β:Type} {L:Int→Option β} (p:Nat→Bool) (g:Nat→Option β) (n:Nat) (hstep:∀i:Nat,i<n→L (i:Int)=bif p i then g i else L ((i+1:Nat):Int)):L 0=if ef p 0 n<0 then L (n:Int)else g (ef p 0 n).toNat:=
 Do L p g n hstep n 0 (by omega)
theorem xL (p:Nat→Bool) (n:Nat) (h:¬ef p 0 n<0):(ef p 0 n).toNat<n:=by
 rcases ce p n 0 with⟨h1,_⟩|⟨j,h1,h2,h3,_⟩
 ·omega
 ·omega
def xM (o:bL) (name:ByteArray):Int:=ef (fun i=>decide ((rd (τ:=aP) o.2.2.1 (i:Int)).1=name)&& !(rd (τ:=aP) o.2.2.1 (i:Int)).2.1) 0 o.2.2.1.length
def xN (o:bL) (name:ByteArray):Int:=ef (fun i=>decide ((rd (τ:=bB) o.2.2.2.1 (i:Int)).1=name)) 0 o.2.2.2.1.length
def xO (t:List dr) (o:bL) (l:fh) (name:ByteArray):Int×Bool:=
 if xM o name<0 then if xN o name<0 then if cp t name<0 then(0,false)else((rd (τ:=aW) t (cp t name)).2.2.1,true)
  else(rd (τ:= .int .i64) l.2.2.1 ((xN o name).toNat:Int),true)
 else(rd (τ:= .int .i64) l.1 ((xM o name).toNat:Int),true)
theorem HE (t:List dr) (o:bL) (l:fh) (name:ByteArray) (ht:t.length≤64) (hz:ObjSz o) (hl:ft o l):rZ (l,t,o) name=some (xO t o l name):=by
 have h1:=hz.f
 have h2:=hz.d
 rw[N0]
 show rZ.a (l,t,o) name o.2.2.1 (o.2.2.1.length:Int) 0=_
 rw[jB (L:=rZ.a (l,t,o) name o.2.2.1 (o.2.2.1.length:Int)) (fun i=>decide ((rd (τ:=aP) o.2.2.1 (i:Int)).1=name)&& !(rd (τ:=aP) o.2.2.1 (i:Int)).2.1) (fun i=>some (rd (τ:= .int .i64) l.1 (i:Int),true)) o.2.2.1.length fun i hi=> ?_]
 ·unfold xO
  show(if xM o name<0 then _ else _)=some (if xM o name<0 then _ else _)
  by_cases hf:xM o name<0
  ·rw[au hf,au hf,rZ.a_eq,ai,am (az _),ac]
   show rZ.b (l,t,o) name o.2.2.2.1 (o.2.2.2.1.length:Int) 0=_
   rw[jB (L:=rZ.b (l,t,o) name o.2.2.2.1 (o.2.2.2.1.length:Int)) (fun i=>decide ((rd (τ:=bB) o.2.2.2.1 (i:Int)).1=name)) (fun i=>some (rd (τ:= .int .i64) l.2.2.1 (i:Int),true)) o.2.2.2.1.length fun i hi=> ?_]
   ·show(if xN o name<0 then _ else _)=some (if xN o name<0 then _ else _)
    by_cases hd:xN o name<0
    ·rw[au hd,au hd,rZ.b_eq,ai,am (az _),ac,(dQ t _ (by omega)).1]
     simp only[af]
     have hr:=df t name
     by_cases he:cp t name<0
     ·rw[au he,ab he];rfl
     ·rw[ap he,am he,inL_true (by omega) (by omega)];rfl
    ·rw[ap hd,ap hd];rfl
   ·rw[rZ.b_eq,ai,aj,ab hi,an i _ hi (by omega),bf,aj,show decide (i<l.2.2.1.length)=true from ab (by rw[hl.d];exact hi)]
    simp only[ae]
  ·rw[ap hf,ap hf];rfl
 ·rw[rZ.a_eq,ai,aj,ab hi,an i _ hi (by omega),bf,aj,show decide (i<l.1.length)=true from ab (by rw[hl.a];exact hi)]
  simp only[ae]
  cases decide ((rd (τ:=aP) o.2.2.1 (i:Int)).1=name)<;>cases (rd (τ:=aP) o.2.2.1 (i:Int)).2.1<;>rfl
theorem HF (t:List dr) (o:bL) (l:fh) (name:ByteArray) (ht:t.length≤64) (hz:ObjSz o) (hl:ft o l):tE t o l name=some (xO t o l name):=by
 have h1:=hz.f
 have h2:=hz.d
 rw[LN]
 rw[jB (L:=tE.a t name o l) (fun i=>decide ((rd (τ:=aP) o.2.2.1 (i:Int)).1=name)&& !(rd (τ:=aP) o.2.2.1 (i:Int)).2.1) (fun i=>some (rd (τ:= .int .i64) l.1 (i:Int),true)) o.2.2.1.length fun i hi=> ?_]
 ·unfold xO
  show(if xM o name<0 then _ else _)=some (if xM o name<0 then _ else _)
  by_cases hf:xM o name<0
  ·rw[au hf,au hf,tE.a_eq,ai,am (az _),ac]
   rw[jB (L:=tE.b t name o l) (fun i=>decide ((rd (τ:=bB) o.2.2.2.1 (i:Int)).1=name)) (fun i=>some (rd (τ:= .int .i64) l.2.2.1 (i:Int),true)) o.2.2.2.1.length fun i hi=> ?_]
   ·show(if xN o name<0 then _ else _)=some (if xN o name<0 then _ else _)
    by_cases hd:xN o name<0
    ·rw[au hd,au hd,tE.b_eq,ai,am (az _),ac,(dQ t _ (by omega)).2]
     simp only[af]
     have hr:=df t name
     by_cases he:cp t name<0
     ·rw[au he,ab he];rfl
     ·rw[ap he,am he,inL_true (by omega) (by omega)];rfl
    ·rw[ap hd,ap hd];rfl
   ·rw[tE.b_eq,ai,aj,ab hi,an i _ hi (by omega),bf,aj,show decide (i<l.2.2.1.length)=true from ab (by rw[hl.d];exact hi)]
    simp only[ae]
  ·rw[ap hf,ap hf];rfl
 ·rw[tE.a_eq,ai,aj,ab hi,an i _ hi (by omega),bf,aj,show decide (i<l.1.length)=true from ab (by rw[hl.a];exact hi)]
  simp only[ae]
  cases decide ((rd (τ:=aP) o.2.2.1 (i:Int)).1=name)<;>cases (rd (τ:=aP) o.2.2.1 (i:Int)).2.1<;>rfl
def Dp (t:List dr):Prop:=t.length≤64∧∀i:Nat,i<t.length→de (rd (τ:=aW) t (i:Int))=true
theorem HG {e:dr} (h:de e=true):0≤e.2.2.1∧e.2.2.1≤1048575:=by
 unfold de at h
 cases h1:cz e.1 with
 |false=>rw[h1]at h;cases h
 |true=>
  cases h2:bS e.2.2.1 with
  |false=>rw[h1,h2]at h;cases h
  |true=>exact fI h2
theorem zW (t:List dr) (o:bL) (l:fh) (name:ByteArray) (ht:Dp t) (hl:ft o l):0≤(xO t o l name).1∧(xO t o l name).1≤1048575:=by
 unfold xO
 split
 ·split
  ·split
   ·simp
   ·rename_i h1 h2 h3
    have hr:=df t name
    have:=ht.2 (cp t name).toNat (by omega)
    rw[show(((cp t name).toNat:Nat):Int)=cp t name by omega]at this
    exact HG this
  ·rename_i h1 h2
   have:=hl.ds _ (xL _ _ h2)
   exact⟨this.1,this.2.1⟩
 ·rename_i h1
  have:=hl.fa _ (xL _ _ h1)
  exact⟨this.1,this.2.1⟩
def hZ (t:ByteArray) (i:Nat) (b:ByteArray):ByteArray:=t.extract 0 i++b++t.extract (i+b.size) t.size
theorem mR (t:ByteArray) (i:Nat) (b:ByteArray) (h:i+b.size≤t.size):(hZ t i b).size=t.size:=by
 unfold hZ
 simp only[ByteArray.size_append,ByteArray.size_extract]
 omega
theorem ox (t:ByteArray) (i:Nat) (b:ByteArray) (h:i+b.size≤t.size) (ht:t.size≤4096):R1 t (i:Int) b=some (hZ t i b):=by
 rw[N1,aU (n:=(i:Int)+(b.size:Int)) (by omega) (by omega)]
 unfold hZ
 rw[show(decide (0≤0)&&decide (0≤(i:Int))&&decide ((i:Int)≤(t.size:Int)))=true by simp;omega,show(decide (0≤(i:Int)+(b.size:Int))&&decide ((i:Int)+(b.size:Int)≤(t.size:Int))&&decide ((t.size:Int)≤(t.size:Int)))=true by simp;omega]
 rw[show(Int.toNat 0)=0 from rfl,aB,show((i:Int)+(b.size:Int)).toNat=i+b.size by omega,aB]
 rw[ab (show(t.extract 0 i).size+b.size≤9223372036854775807 by simp only[ByteArray.size_extract];omega),ab (show(t.extract 0 i++b).size+(t.extract (i+b.size) t.size).size≤9223372036854775807 by simp only[ByteArray.size_append,ByteArray.size_extract];omega)]
 rfl
theorem HH {τ:Ty} (l:List τ.den) (k:Nat) (x:τ.den) (hk:k<l.length) (i:Nat) (hi:i<l.length):rd (τ:=τ) (l.set k x) (i:Int)=if i=k then x else rd (τ:=τ) l (i:Int):=by
 rw[aY _ _ (by rw[List.length_set];exact hi),aY _ _ hi,List.getElem_set]
 by_cases h:i=k
 ·rw[au h,au h.symm]
 ·rw[ap h,ap (fun e=>h e.symm)]
theorem ft.setB {o:bL} {l:fh} (h:ft o l) (k:Nat) (hk:k<o.2.2.2.1.length) (x:ByteArray) (hx:x.size=lA o k):ft o (l.1,l.2.1,l.2.2.1,l.2.2.2.set k x):=by
 refine⟨h.a,h.c,h.d,by simp only[List.length_set];exact h.b,h.cs,fun i hi=> ?_,h.fa,h.ds⟩
 simp only
 rw[HH (τ:= .str) l.2.2.2 k x (by rw[h.b];exact hk) i (by rw[h.b];exact hi)]
 split
 ·rename_i e;rw[e];exact hx
 ·exact h.bs i hi
theorem ft.setC {o:bL} {l:fh} (h:ft o l) (k:Nat) (hk:k<o.2.2.1.length) (x:ByteArray) (hx:x.size=dW o k):ft o (l.1,l.2.1.set k x,l.2.2.1,l.2.2.2):=by
 refine⟨h.a,by simp only[List.length_set];exact h.c,h.d,h.b,fun i hi=> ?_,h.bs,h.fa,h.ds⟩
 simp only
 rw[HH (τ:= .str) l.2.1 k x (by rw[h.c];exact hk) i (by rw[h.c];exact hi)]
 split
 ·rename_i e;rw[e];exact hx
 ·exact h.cs i hi
structure Dq (o:bL) (r:Kp):Prop where
 at_:iY o r=true
 kind:1≤r.2.2.1∧r.2.2.1≤9
 word:r.2.2.1=9↔(o.2.2.1.length:Int)≤r.1
 add: -2147483648≤r.2.2.2.2∧r.2.2.2.2≤2147483647
theorem Dr {o:bL} {k:Nat} (h:l6 o k=0):Dq o (rd (τ:=cu) o.2.2.2.2.1 (k:Int)):=by
 unfold l6 at h
 generalize rd (τ:=cu) o.2.2.2.2.1 (k:Int)=r at*
 split at h
 ·cases h
 split at h
 ·cases h
 split at h
 ·cases h
 split at h
 ·cases h
 rename_i h1 h2 h3 h4
 have h2:(dd r.2.2.1 1 9&&(decide (r.2.2.1=9)==decide (r.1≥(o.2.2.1.length:Int))))=true:=by
  cases h5:(dd r.2.2.1 1 9&&(decide (r.2.2.1=9)==decide (r.1≥(o.2.2.1.length:Int))));exact absurd h5 h2;rfl
 rw[ay,bF]at h2
 refine⟨?_,h2.1, ?_, ?_⟩
 ·cases h5:iY o r;exact absurd h5 h1;rfl
 ·have:=h2.2
  rw[beq_iff_eq,decide_eq_decide]at this
  exact this
 ·rw[←bF]
  cases h5:dd r.2.2.2.2 (-2147483648) 2147483647;exact absurd h5 h4;rfl
theorem Dq.data {o:bL} {r:Kp} (ho:eg o) (h:Dq o r) (hu:(o.2.2.1.length:Int)≤r.1):∃k j:Nat,r.1-(o.2.2.1.length:Int)=(k:Int)∧k<o.2.2.2.1.length∧r.2.1=(j:Int)∧8*j+8≤lA o k:=by
 have h1:=h.at_
 unfold iY at h1
 rw[ay,bF,bF]at h1
 refine⟨(r.1-(o.2.2.1.length:Int)).toNat,r.2.1.toNat,by omega,by omega,by omega, ?_⟩
 have hv:fg o r.1=((lA o (r.1-(o.2.2.1.length:Int)).toNat:Nat):Int)/8:=by
  unfold fg
  rw[ap (by omega),au ⟨hu,by omega⟩,Int.tdiv_eq_ediv_of_nonneg (by omega)]
  unfold lA
  rw[show(((r.1-(o.2.2.1.length:Int)).toNat:Nat):Int)=r.1-(o.2.2.1.length:Int) by omega]
 have:=ho.dsz_pos (r.1-(o.2.2.1.length:Int)).toNat (by omega)
 omega
theorem Dq.code {o:bL} {r:Kp} (ho:eg o) (h:Dq o r) (hu:¬(o.2.2.1.length:Int)≤r.1):∃k j:Nat,r.1=(k:Int)∧k<o.2.2.1.length∧r.2.1=(j:Int)∧4*j+4≤dW o k:=by
 have h1:=h.at_
 unfold iY at h1
 rw[ay,bF,bF]at h1
 refine⟨r.1.toNat,r.2.1.toNat,by omega,by omega,by omega, ?_⟩
 have hv:fg o r.1=((dW o r.1.toNat:Nat):Int)/4:=by
  unfold fg
  rw[au ⟨by omega,by omega⟩,Int.tdiv_eq_ediv_of_nonneg (by omega)]
  unfold dW
  rw[show((r.1.toNat:Nat):Int)=r.1 by omega]
 have:=ho.fsz_pos r.1.toNat (by omega)
 omega
theorem Bw (n:Nat) (h:n≤4096):aH (0+n) 16=true:=jx _ (by omega)
theorem zX (t:List dr) (o:bL) (l:fh) (r:Kp) (ht:Dp t) (ho:eg o) (hl:ft o l) (hr:Dq o r):
  ∃l' c,Ts (l,t,o) r=some (c,l',t,o)∧S6 t o l r=some (l',c)∧ft o l'∧l'.1=l.1:=by
 have h1:=ho.f
 have h2:=ho.d
 have hs:=zW t o l r.2.2.2.1 ht hl
 have hadd:=hr.add
 rw[N8,LU,HE t o l _ ht.1 ho.toObjSz hl,HF t o l _ ht.1 ho.toObjSz hl]
 simp only[af]
 generalize xO t o l r.2.2.2.1=s at*
 cases hs2:s.2 with
 |false=>exact⟨l,23,rfl,rfl,hl,rfl⟩
 |true=>
  have hat:=hr.at_
  unfold iY at hat
  rw[ay,bF,bF]at hat
  rw[aU (n:=r.1-(o.2.2.1.length:Int)) (by omega) (by omega),aU (n:=s.1+r.2.2.2.2) (by omega) (by omega)]
  simp only[aM,ac]
  by_cases hu:(o.2.2.1.length:Int)≤r.1
  ·obtain⟨k,j,e1,hk,e2,hj⟩:=hr.data ho hu
   have hd:=ho.dsz_pos k hk
   have hsz:=hl.bs k hk
   rw[ab (show r.1-(o.2.2.1.length:Int)≥0 by omega),ab (show r.1≥(o.2.2.1.length:Int) from hu),e1,e2,aj,ab (show k<l.2.2.2.length by rw[hl.b];exact hk),aU (n:=8*(j:Int)) (by omega) (by omega),aU (n:=8*(j:Int)+8) (by omega) (by omega),Bw l.2.2.2.length (by rw[hl.b];omega),
    show(8:Int)*(j:Int)=((8*j:Nat):Int) by omega,show yj (s.1+r.2.2.2.2) 8=some (aS (lX (s.1+r.2.2.2.2) 8)) from lZ _ 8 (by omega)]
   rw[show yh (s.1+r.2.2.2.2) 8=some (aS (lX (s.1+r.2.2.2.2) 8)) from kF _ 8 (by omega)]
   simp only[af,ae,letB]
   have hb:(aS (lX (s.1+r.2.2.2.2) 8)).size=8:=by rw[cj,lY]
   generalize aS (lX (s.1+r.2.2.2.2) 8)=b at*
   rw[ox _ _ _ (by rw[hsz,hb];omega) (by rw[hsz];omega)]
   simp only[af]
   generalize rd (τ:= .str) l.2.2.2 (k:Int)=d at*
   refine⟨_,0,rfl, ?_,hl.setB k hk (hZ d (8*j) b) (by rw[mR _ _ _ (by rw[hsz,hb];omega),hsz]),rfl⟩
   rw[show(decide (0≤0)&&decide (0≤((8*j:Nat):Int))&&decide (((8*j:Nat):Int)≤(d.size:Int)))=true by simp;omega,show(decide (0≤((8*j:Nat):Int)+8)&&decide (((8*j:Nat):Int)+8≤(d.size:Int))&&decide ((d.size:Int)≤(d.size:Int)))=true by simp;omega]
   rw[show(Int.toNat 0)=0 from rfl,aB,show(((8*j:Nat):Int)+8).toNat=8*j+8 by omega,aB,aB]
   rw[ab (show(d.extract 0 (8*j)).size+b.size≤9223372036854775807 by simp only[ByteArray.size_extract];omega),ab (show(d.extract 0 (8*j)++b).size+(d.extract (8*j+8) d.size).size≤9223372036854775807 by simp only[ByteArray.size_append,ByteArray.size_extract];omega)]
   unfold hZ
   rw[hb]
   rfl
  ·obtain⟨k,j,e1,hk,e2,hj⟩:=hr.code ho hu
   have hd:=ho.fsz_pos k hk
   have hsz:=hl.cs k hk
   have hk8:1≤r.2.2.1∧r.2.2.1≤8:=by
    have:=hr.kind
    have h9:r.2.2.1≠9:=fun e=>hu (hr.word.1 e)
    omega
   have hat2:=hl.fa k hk
   rw[am (show¬r.1-(o.2.2.1.length:Int)≥0 by omega),am (show¬r.1≥(o.2.2.1.length:Int) from hu),e1,e2,aj,aj,ab (show k<l.2.1.length by rw[hl.c];exact hk),ab (show k<l.1.length by rw[hl.a];exact hk),aU (n:=4*(j:Int)) (by omega) (by omega),aU (n:=4*(j:Int)+4) (by omega) (by omega),Bw l.2.1.length (by rw[hl.c];omega),
    show(4:Int)*(j:Int)=((4*j:Nat):Int) by omega]
   simp only[ac,ae,letB]
   generalize rd (τ:= .str) l.2.1 (k:Int)=d at*
   obtain⟨a,ha⟩:∃x:Int,rd (τ:= .int .i64) l.1 (k:Int)=x:=⟨_,rfl⟩
   rw[ha]at hat2
   simp only[ha]
   have hat3:0≤a∧a≤1048575:=⟨hat2.1,hat2.2.1⟩
   rw[show(decide (0≤((4*j:Nat):Int))&&decide (((4*j:Nat):Int)≤((4*j:Nat):Int)+4)&&decide (((4*j:Nat):Int)+4≤(d.size:Int)))=true by simp;omega,show(decide (0≤0)&&decide (0≤((4*j:Nat):Int))&&decide (((4*j:Nat):Int)≤(d.size:Int)))=true by simp;omega,show(decide (0≤((4*j:Nat):Int)+4)&&decide (((4*j:Nat):Int)+4≤(d.size:Int))&&decide ((d.size:Int)≤(d.size:Int)))=true by simp;omega]
   rw[show(Int.toNat 0)=0 from rfl,aB,show(((4*j:Nat):Int)+4).toNat=4*j+4 by omega,aB,aB]
   have hx:(d.extract (4*j) (4*j+4)).size=4:=by simp only[ByteArray.size_extract];omega
   rw[d7 _ (by omega),hx,fU d (4*j) (4*j+4) (by omega) 4 0 (by omega),Nat.add_zero]
   rw[show uP d ((4*j:Nat):Int) 4=some (IntKind.wrap .i64 (eV d (4*j) 4)) from fH d (4*j) 4 (by omega) (by omega)]
   have h4:=Tw d (4*j)
   rw[aU (n:=(eV d (4*j) 4:Int)) (by omega) (by omega),aU (n:=a+((4*j:Nat):Int)) (by omega) (by omega)]
   simp only[af,ae]
   obtain⟨q,q1,q2⟩:=sC (eV d (4*j) 4:Int) r.2.2.1 (s.1+r.2.2.2.2) (a+((4*j:Nat):Int)) h4 hk8 ⟨by omega,by omega⟩ ⟨by omega,by omega⟩
   rw[q1,q2]
   simp only[af]
   by_cases hq:q.2=0
   ·rw[ab hq,show yj q.1 4=some (aS (lX q.1 4)) from lZ _ 4 (by omega),show yh q.1 4=some (aS (lX q.1 4)) from kF _ 4 (by omega)]
    have hb:(aS (lX q.1 4)).size=4:=by rw[cj,lY]
    simp only[af,ae,aM,ac]
    generalize aS (lX q.1 4)=b at*
    rw[ox _ _ _ (by omega) (by omega)]
    simp only[af]
    refine⟨_,q.2,rfl, ?_,hl.setC k hk (hZ d (4*j) b) (by rw[mR _ _ _ (by omega),hsz]),rfl⟩
    rw[ab (show(d.extract 0 (4*j)).size+b.size≤9223372036854775807 by simp only[ByteArray.size_extract];omega),ab (show(d.extract 0 (4*j)++b).size+(d.extract (4*j+4) d.size).size≤9223372036854775807 by simp only[ByteArray.size_append,ByteArray.size_extract];omega),hq]
    unfold hZ
    rw[hb]
    rfl
   ·rw[am hq]
    exact⟨l,q.2,rfl,rfl,hl,rfl⟩
def cZ {α:Type} (p:Nat→Bool) (f:Nat→α):Nat→Nat→List α
 |_,0=>[]
 |i,k+1=>bif p i then f i::cZ p f (i+1) k else cZ p f (i+1) k
theorem cv {α:Type} (p:Nat→Bool) (f:Nat→α):∀k i,(cZ p f i k).length≤k
 |0,_=>Nat.le_refl _
 |k+1,i=>by
  have:=cv p f k (i+1)
  rw[cZ]
  cases p i
  ·rw[ac];omega
  ·rw[ae,List.length_cons];omega
theorem Ds {α β:Type} (L:List α→Int→Option β) (p:Nat→Bool) (f:Nat→α) (n A:Nat) (hstep:∀acc (i:Nat),i<n→acc.length≤A+i→L acc (i:Int)=bif p i then L (acc++[f i]) ((i+1:Nat):Int)else L acc ((i+1:Nat):Int)):
  ∀(k i:Nat) (acc:List α),i+k=n→acc.length≤A+i→L acc (i:Int)=L (acc++cZ p f i k) (n:Int):=by
 intro k
 induction k with
 |zero=>
   intro i acc h _;have:i=n:=by omega
   subst this;rw[cZ,List.append_nil]
 |succ k ih=>
  intro i acc h ha
  rw[hstep acc i (by omega) ha,cZ]
  cases p i with
  |false=>rw[ac,ac,ih (i+1) _ (by omega) (by omega)]
  |true=>rw[ae,ae,ih (i+1) _ (by omega) (by simp;omega),bl];rfl
theorem dJ {α β:Type} {L:List α→Int→Option β} (p:Nat→Bool) (f:Nat→α) (n:Nat) (acc:List α) (hstep:∀acc' (i:Nat),i<n→acc'.length≤acc.length+i→L acc' (i:Int)=bif p i then L (acc'++[f i]) ((i+1:Nat):Int)else L acc' ((i+1:Nat):Int)):L acc 0=L (acc++cZ p f 0 n) (n:Int):=
 Ds L p f n acc.length hstep n 0 acc (by omega) (by omega)
def nO (t:List dr) (o:bL) (l:fh):List Int:=
 cZ (fun i=>decide ((rd (τ:=aW) t (i:Int)).2.1=1)) (fun i=>(rd (τ:=aW) t (i:Int)).2.2.1) 0 t.length++
  cZ (fun i=> !(rd (τ:=aP) o.2.2.1 (i:Int)).2.1) (fun i=>rd (τ:= .int .i64) l.1 (i:Int)) 0 o.2.2.1.length
theorem sF (t:List dr) (o:bL) (l:fh) (ht:t.length≤64) (hz:ObjSz o):(nO t o l).length≤68:=by
 have:=hz.f
 unfold nO
 have h1:=cv (fun i=>decide ((rd (τ:=aW) t (i:Int)).2.1=1)) (fun i=>(rd (τ:=aW) t (i:Int)).2.2.1) t.length 0
 have h2:=cv (fun i=> !(rd (τ:=aP) o.2.2.1 (i:Int)).2.1) (fun i=>rd (τ:= .int .i64) l.1 (i:Int)) o.2.2.1.length 0
 rw[List.length_append];omega
theorem zY (t:List dr) (o:bL) (l:fh) (ht:t.length≤64) (hz:ObjSz o) (hl:ft o l):ol (l,t,o)=some (nO t o l):=by
 have h1:=hz.f
 rw[N9]
 show ol.a (l,t,o) [] t (t.length:Int) 0=_
 rw[dJ (L:=fun acc i=>ol.a (l,t,o) acc t (t.length:Int) i) (fun i=>decide ((rd (τ:=aW) t (i:Int)).2.1=1)) (fun i=>(rd (τ:=aW) t (i:Int)).2.2.1) t.length [] fun acc i hi ha=> ?_]
 ·rw[ol.a_eq,ai,am (az _),ac,List.nil_append]
  have hf:=cv (fun i=>decide ((rd (τ:=aW) t (i:Int)).2.1=1)) (fun i=>(rd (τ:=aW) t (i:Int)).2.2.1) t.length 0
  show ol.b (l,t,o) _ o.2.2.1 (o.2.2.1.length:Int) 0=_
  rw[dJ (L:=fun acc i=>ol.b (l,t,o) acc o.2.2.1 (o.2.2.1.length:Int) i) (fun i=> !(rd (τ:=aP) o.2.2.1 (i:Int)).2.1) (fun i=>rd (τ:= .int .i64) l.1 (i:Int)) o.2.2.1.length (cZ (fun i=>decide ((rd (τ:=aW) t (i:Int)).2.1=1)) (fun i=>(rd (τ:=aW) t (i:Int)).2.2.1) 0 t.length) fun acc i hi ha=> ?_]
  ·show ol.b (l,t,o) _ o.2.2.1 (o.2.2.1.length:Int) (o.2.2.1.length:Int)=_
   rw[ol.b_eq,ai,am (az _),ac];rfl
  ·show ol.b (l,t,o) acc o.2.2.1 (o.2.2.1.length:Int) (i:Int)=_
   rw[ol.b_eq,ai,aj,ab hi,an i _ hi (by omega),aj,show decide (i<l.1.length)=true from ab (by rw[hl.a];exact hi),lz _ (by simp;omega)]
   cases (rd (τ:=aP) o.2.2.1 (i:Int)).2.1<;>rfl
 ·show ol.a (l,t,o) acc t (t.length:Int) (i:Int)=_
  rw[ol.a_eq,ai,aj,ab hi,an i _ hi (by omega),lz _ (by simp at ha⊢;omega)]
  cases decide ((rd (τ:=aW) t (i:Int)).2.1=1)<;>rfl
theorem zZ (t:List dr) (o:bL) (l:fh) (ht:t.length≤64) (hz:ObjSz o) (hl:ft o l) (x8:fh) (x9 x10 a b:bG):gR.b t o x8 x9 x10 l a b [] 0=gR.d o x8 x9 x10 l a b (nO t o l) 0:=by
 have h1:=hz.f
 rw[dJ (L:=fun acc i=>gR.b t o x8 x9 x10 l a b acc i) (fun i=>decide ((rd (τ:=aW) t (i:Int)).2.1=1)) (fun i=>(rd (τ:=aW) t (i:Int)).2.2.1) t.length [] fun acc i hi ha=> ?_]
 ·rw[gR.b_eq,ai,am (az _),ac,List.nil_append]
  have hf:=cv (fun i=>decide ((rd (τ:=aW) t (i:Int)).2.1=1)) (fun i=>(rd (τ:=aW) t (i:Int)).2.2.1) t.length 0
  rw[dJ (L:=fun acc i=>gR.c o x8 x9 x10 l a b acc i) (fun i=> !(rd (τ:=aP) o.2.2.1 (i:Int)).2.1) (fun i=>rd (τ:= .int .i64) l.1 (i:Int)) o.2.2.1.length (cZ (fun i=>decide ((rd (τ:=aW) t (i:Int)).2.1=1)) (fun i=>(rd (τ:=aW) t (i:Int)).2.2.1) 0 t.length) fun acc i hi ha=> ?_]
  ·rw[gR.c_eq,ai,am (az _),ac];rfl
  ·show gR.c o x8 x9 x10 l a b acc (i:Int)=_
   rw[gR.c_eq,ai,aj,ab hi,an i _ hi (by omega),aj,show decide (i<l.1.length)=true from ab (by rw[hl.a];exact hi),lz _ (by simp;omega)]
   cases (rd (τ:=aP) o.2.2.1 (i:Int)).2.1<;>rfl
 ·show gR.b t o x8 x9 x10 l a b acc (i:Int)=_
  rw[gR.b_eq,ai,aj,ab hi,an i _ hi (by omega),lz _ (by simp at ha⊢;omega)]
  cases decide ((rd (τ:=aW) t (i:Int)).2.1=1)<;>rfl
theorem iz (o:bL) (hz:ObjSz o) (x5 x6:bG) (x8:fh) (x9 x10:bG) (s:T6) (c:Int) (hc:c≠0):∀k i:Nat,i+k=o.2.2.2.2.1.length→
  eL.c x5 x6 o x8 x9 x10 s c o.2.2.2.2.1 (o.2.2.2.2.1.length:Int) (i:Int)=eL.d x5 x6 x8 x9 x10 s c o.2.2.1 (o.2.2.1.length:Int) 0:=by
 have h1:=hz.r
 intro k
 induction k with
 |zero=>
   intro i h;have:i=o.2.2.2.2.1.length:=by omega
   subst this;rw[eL.c_eq,ai,am (az _),ac]
 |succ k ih=>
  intro i h
  have hi:i<o.2.2.2.2.1.length:=by omega
  rw[eL.c_eq,ai,aj,ab hi,an i _ hi (by omega),am hc,ih (i+1) (by omega)];rfl
abbrev ZL:fh:=([],[],[],[])
abbrev ZA:bG:=(0,0,0)
theorem Dt (t:List dr) (o:bL) (ht:Dp t) (ho:eg o) (x5 x6:bG) (x8:fh) (x9 x10:bG) (a b:bG):∀(k i:Nat) (l:fh),i+k=o.2.2.2.2.1.length→ft o l→
  ∃l' c,eL.c x5 x6 o x8 x9 x10 (l,t,o) 0 o.2.2.2.2.1 (o.2.2.2.2.1.length:Int) (i:Int)=eL.d x5 x6 x8 x9 x10 (l',t,o) c o.2.2.1 (o.2.2.1.length:Int) 0∧
   (c=0→ft o l'∧l'.1=l.1∧gR.a t o ZL ZA ZA l a b (i:Int)=gR.b t o ZL ZA ZA l' a b [] 0)∧(c≠0→gR.a t o ZL ZA ZA l a b (i:Int)=some (ZL,ZA,ZA,c)):=by
 have h1:=ho.r
 intro k
 induction k with
 |zero=>
  intro i l h hl
  have:i=o.2.2.2.2.1.length:=by omega
  subst this
  rw[eL.c_eq,ai,am (az _),ac,gR.a_eq,ai,am (az _),ac]
  exact⟨l,0,rfl,fun _=>⟨hl,rfl,rfl⟩,fun h=>absurd rfl h⟩
 |succ k ih=>
  intro i l h hl
  have hi:i<o.2.2.2.2.1.length:=by omega
  obtain⟨l1,c,e1,e2,hl1,hl2⟩:=zX t o l (rd (τ:=cu) o.2.2.2.2.1 (i:Int)) ht ho hl (Dr (ho.rel i hi))
  rw[eL.c_eq,ai,aj,ab hi,an i _ hi (by omega),gR.a_eq,ai,aj,ab hi,an i _ hi (by omega),e1,e2]
  simp only[ae,decide_true,af]
  by_cases hc:c=0
  ·subst hc
   obtain⟨l',c',g1,g2,g3⟩:=ih (i+1) l1 (by omega) hl1
   exact⟨l',c',g1,fun h=>⟨(g2 h).1,(g2 h).2.1.trans hl2,(g2 h).2.2⟩,g3⟩
  ·rw[iz o ho.toObjSz x5 x6 x8 x9 x10 (l1,t,o) c hc k (i+1) (by omega),am hc]
   exact⟨l1,c,rfl,fun h=>absurd h hc,fun _=>rfl⟩
theorem eT (o:bL) (hz:ObjSz o) (x5 x6:bG) (x8:fh) (x9 x10:bG) (s:T6) (c:Int) (hc:c≠0):∀k i:Nat,i+k=o.2.2.1.length→
  eL.d x5 x6 x8 x9 x10 s c o.2.2.1 (o.2.2.1.length:Int) (i:Int)=some (ZL,ZA,ZA,c):=by
 have h1:=hz.f
 intro k
 induction k with
 |zero=>
   intro i h;have:i=o.2.2.1.length:=by omega
   subst this;rw[eL.d_eq,ai,am (az _),ac,am hc];rfl
 |succ k ih=>
  intro i h
  have hi:i<o.2.2.1.length:=by omega
  rw[eL.d_eq,ai,aj,ab hi,an i _ hi (by omega),am hc,ih (i+1) (by omega)];rfl
theorem z7 (t:List dr) (o:bL) (ht:Dp t) (ho:eg o) (x8:fh) (x9 x10:bG) (a b:bG) (l:fh) (hl:ft o l):∀(k i:Nat),i+k=o.2.2.1.length→
  ∃v,eL.d a b x8 x9 x10 (l,t,o) 0 o.2.2.1 (o.2.2.1.length:Int) (i:Int)=some v∧gR.d o ZL ZA ZA l a b (nO t o l) (i:Int)=some v∧(v.2.2.2=0→v=(l,a,b,0)∧∀j:Nat,i≤j→j<o.2.2.1.length→kX (rd (τ:= .str) l.2.1 (j:Int))):=by
 have h1:=ho.f
 intro k
 induction k with
 |zero=>
  intro i h
  have:i=o.2.2.1.length:=by omega
  subst this
  rw[eL.d_eq,ai,am (az _),ac,gR.d_eq,ai,am (az _),ac]
  exact⟨(l,a,b,0),rfl,rfl,fun _=>⟨rfl,fun j h1 h2=>by omega⟩⟩
 |succ k ih=>
  intro i h
  have hi:i<o.2.2.1.length:=by omega
  have hsz:=hl.cs i hi
  have hfs:=ho.fsz_pos i hi
  have hcl:=sF t o l ht.1 ho.toObjSz
  obtain⟨v,e1,e2⟩:=tO (rd (τ:= .str) l.2.1 (i:Int)) (rd (τ:= .int .i64) l.1 (i:Int)) (rd (τ:=aP) o.2.2.1 (i:Int)).2.2.1 (nO t o l) (by omega) (by omega)
  rw[eL.d_eq,ai,aj,ab hi,an i _ hi (by omega),gR.d_eq,ai,aj,ab hi,an i _ hi (by omega),zY t o l ht.1 ho.toObjSz hl]
  rw[aj,aj,show decide (i<l.2.1.length)=true from ab (by rw[hl.c];exact hi),show decide (i<l.1.length)=true from ab (by rw[hl.a];exact hi),ab hi]
  simp only[ae,decide_true,af]
  rw[e1,e2]
  simp only[af]
  by_cases hv:v.2=0
  ·have hdec:=xw e1 hv
   rw[hv]
   obtain⟨u,u1,u2,u3⟩:=ih (i+1) (by omega)
   refine⟨u,u1,u2,fun h=>⟨(u3 h).1,fun j h1 h2=> ?_⟩⟩
   rcases Nat.lt_or_ge i j with hj|hj
   ·exact(u3 h).2 j hj h2
   ·rw[show j=i by omega];exact hdec
  ·rw[eT o ho.toObjSz a b x8 x9 x10 (l,t,o) v.2 hv k (i+1) (by omega),am hv]
   exact⟨(ZL,ZA,ZA,v.2),rfl,rfl,fun h=>absurd h hv⟩
structure By (t:List dr) (a b:bG) (o:bL) (v:fh×bG×bG×Int):Prop where
 lnk:ft o v.1
 ea:v.2.1=(dw o a b).2.1
 eb:v.2.2.1=(dw o a b).2.2.1
 ok:(dw o a b).2.2.2=true
 ats:v.1.1=(dw o a b).1.1
 names:gL t o=0
 dec:∀j:Nat,j<o.2.2.1.length→kX (rd (τ:= .str) v.1.2.1 (j:Int))
theorem xP (f:Int) (hf:f≠0) (ok:Bool):after f ok=f:=by unfold after;rw[ap (fun h=>hf h.1)]
theorem Du (t:List dr) (a b:bG) (o:bL) (ht:Dp t) (ha:ct a) (hb:ct b) (ho:eg o) (x8:fh) (x9 x10:bG):
  ∃v,eL.a a b o x8 x9 x10 (([],[],[],[]),t,o) (gL t o) o.2.2.1 (o.2.2.1.length:Int) 0=some v∧gR t a b o=some v∧(v.2.2.2=0→By t a b o v):=by
 rw[HD o ho.toUnitSz a b ha hb,LV,zP t o ht.1 ho.toObjSz]
 simp only[af]
 obtain⟨hl,hA,hB⟩:=xK o ho a b ha hb
 by_cases hn:gL t o=0
 ·rw[hn]
  obtain⟨s1,s2⟩:=HC o ho.toUnitSz a b ha hb
  cases hok:(dw o a b).2.2.2 with
  |false=>
   obtain⟨r,e1,e2⟩:=s2 hok
   rw[e1]
   simp only[af]
   rw[e2,show after 0 false=7 from rfl]
   refine⟨(ZL,ZA,ZA,7), ?_,rfl,fun h=>by cases h⟩
   rw[show(0:Int)=((0:Nat):Int) from rfl,iz o ho.toObjSz _ _ x8 x9 x10 ((dw o a b).1,t,o) 7 (by decide) o.2.2.2.2.1.length 0 (by omega)]
   exact eT o ho.toObjSz _ _ x8 x9 x10 ((dw o a b).1,t,o) 7 (by decide) o.2.2.1.length 0 (by omega)
  |true=>
   rw[s1 hok]
   simp only[af]
   rw[hok,show after 0 true=0 from rfl]
   obtain⟨l',c,g1,g2,g3⟩:=Dt t o ht ho (dw o a b).2.1 (dw o a b).2.2.1 x8 x9 x10 (dw o a b).2.1 (dw o a b).2.2.1 o.2.2.2.2.1.length 0 (dw o a b).1 (by omega) hl
   have g1':eL.c (dw o a b).2.1 (dw o a b).2.2.1 o x8 x9 x10 ((dw o a b).1,t,o) 0 o.2.2.2.2.1 (o.2.2.2.2.1.length:Int) 0=_:=g1
   rw[g1']
   simp only[decide_true,aM,ac]
   by_cases hc:c=0
   ·subst hc
    obtain⟨hl',hl2,g4⟩:=g2 rfl
    obtain⟨v,e1,e2,e3⟩:=z7 t o ht ho x8 x9 x10 (dw o a b).2.1 (dw o a b).2.2.1 l' hl' o.2.2.1.length 0 (by omega)
    have g4':=zZ t o l' ht.1 ho.toObjSz hl' ZL ZA ZA (dw o a b).2.1 (dw o a b).2.2.1
    refine⟨v,e1,g4.trans (g4'.trans e2),fun h=> ?_⟩
    obtain⟨q1,q2⟩:=e3 h
    rw[q1]
    exact⟨hl',rfl,rfl,hok,hl2,hn,fun j hj=>q2 j (Nat.zero_le _) hj⟩
   ·refine⟨(ZL,ZA,ZA,c), ?_,g3 hc,fun h=>absurd h hc⟩
    exact eT o ho.toObjSz _ _ x8 x9 x10 (l',t,o) c hc o.2.2.1.length 0 (by omega)
 ·rw[am hn,xP _ hn]
  refine⟨(ZL,ZA,ZA,gL t o), ?_,rfl,fun h=>absurd h hn⟩
  rw[show(0:Int)=((0:Nat):Int) from rfl,iz o ho.toObjSz _ _ x8 x9 x10 ((dw o a b).1,t,o) _ hn o.2.2.2.2.1.length 0 (by omega)]
  exact eT o ho.toObjSz _ _ x8 x9 x10 ((dw o a b).1,t,o) _ hn o.2.2.1.length 0 (by omega)
theorem Jy {t:List dr} (h:oM t=true):Dp t:=by
 unfold oM at h
 rw[ay,aT,eS]at h
 refine⟨h.1,fun i hi=> ?_⟩
 have:=h.2 i (Nat.zero_le _) (by omega)
 unfold xx at this
 cases h1:de (rd (τ:=aW) t (i:Int))with
 |true=>rfl
 |false=>rw[h1]at this;cases this
theorem Dv (t:List dr) (a b:bG) (o:bL) (hr:tV o) (ht:oM t=true) (ha:ct a) (hb:ct b) (ho:qZ o=true):
  ∃v,eL t a b o=some v∧gR t a b o=some v∧(v.2.2.2=0→By t a b o v):=by
 have hT:=Jy ht
 have hO:=mQ ho
 have:=hT.1
 obtain⟨v,e1,e2,e3⟩:=Du t a b o hT ha hb hO ([],[],[],[]) (0,0,0) (0,0,0)
 refine⟨v, ?_,e2,e3⟩
 rw[Oa,am (show¬(t.length:Int)>4096 by omega),(iX t).1,ht,tS a,tZ.2 ha,tS b,tZ.2 hb,(jz o hr).1,ho]
 simp only[af,aJ,aM,ac]
 rw[zO _ _ _ hT.1 hO.toObjSz]
 exact e1
theorem oy {x:gJ} (h:dv x=true):(1≤x.1∧x.1≤64)∧ga x∧((bd (bE x.1).1).1=false→x.2.1=0)∧((bd (bE x.1).1).2.1=false→x.2.2.1=0)∧((bd (bE x.1).1).2.2=false→x.2.2.2.1=0)∧js (bE x.1).1 x.2.2.2.2=true:=by
 simp only[dv,ay,Bool.or_eq_true,aT]at h
 obtain⟨⟨⟨⟨⟨⟨⟨⟨⟨⟨⟨h1,h2⟩,h3⟩,h4⟩,h5⟩,h6⟩,h7⟩,h8⟩,a⟩,b⟩,c⟩,d⟩:=h
 have hf:=fT (n:=x.1) h1 h2
 refine⟨⟨h1,h2⟩,⟨⟨h3,h4⟩,⟨h5,h6⟩,⟨h7,h8⟩, ?_⟩,fun e=> ?_,fun e=> ?_,fun e=> ?_,d⟩
 ·generalize (bE x.1).1=f at d hf
  rcases fO hf with rfl|rfl|rfl|rfl|rfl|rfl|rfl|rfl|rfl<;>simp[js]at d<;>omega
 ·simpa[e]using a
 ·simpa[e]using b
 ·simpa[e]using c
theorem Ux (i:Int) (h:i%2=0):i=2*(i/2%1024+1024*(i/2048%2+2*(i/4096%256+256*(i/1048576%2+2*(i/2097152))))):=by
 have a1:i/2048=i/2/1024:=by omega
 have a2:i/4096=i/2048/2:=by omega
 have a3:i/1048576=i/4096/256:=by omega
 have a4:i/2097152=i/1048576/2:=by omega
 have b0:i=2*(i/2):=by omega
 have b1:=Int.emod_add_mul_ediv (i/2) 1024
 have b2:=Int.emod_add_mul_ediv (i/2048) 2
 have b3:=Int.emod_add_mul_ediv (i/4096) 256
 have b4:=Int.emod_add_mul_ediv (i/1048576) 2
 rw[←a1]at b1;rw[←a2]at b2;rw[←a3]at b3;rw[←a4]at b4
 rw[b4,b3,b2,b1];exact b0
theorem Uy (i:Int) (h:i%2=0):i=2*(i/2%16+16*(i/32%64+64*(i/2048%2+2*(i/4096%2+2*(i/8192))))):=by
 have a1:i/32=i/2/16:=by omega
 have a2:i/2048=i/32/64:=by omega
 have a3:i/4096=i/2048/2:=by omega
 have a4:i/8192=i/4096/2:=by omega
 have b0:i=2*(i/2):=by omega
 have b1:=Int.emod_add_mul_ediv (i/2) 16
 have b2:=Int.emod_add_mul_ediv (i/32) 64
 have b3:=Int.emod_add_mul_ediv (i/2048) 2
 have b4:=Int.emod_add_mul_ediv (i/4096) 2
 rw[←a1]at b1;rw[←a2]at b2;rw[←a3]at b3;rw[←a4]at b4
 rw[b4,b3,b2,b1];exact b0
theorem Uz (i:Int):i=i%32+32*(i/32%128+128*(i/4096)):=by
 have a1:i/4096=i/32/128:=by omega
 have b0:=Int.emod_add_mul_ediv i 32
 have b1:=Int.emod_add_mul_ediv (i/32) 128
 rw[←a1]at b1
 rw[b1,b0]
theorem m2 (a:Int):0≤a%2∧a%2<2:=by omega
theorem Uh (a:Int):0≤a%16∧a%16<16:=by omega
theorem Ui (a:Int):0≤a%32∧a%32<32:=by omega
theorem Uj (a:Int):0≤a%64∧a%64<64:=by omega
theorem Rn (a:Int):0≤a%128∧a%128<128:=by omega
theorem Ro (a:Int):0≤a%256∧a%256<256:=by omega
theorem Kt (a:Int):0≤a%1024∧a%1024<1024:=by omega
theorem un2 {c d y0 y1 y2 y3:Int} (hc:0≤c∧c<128) (hd:0≤d∧d≤31) (q0:0≤y0∧y0<256) (q1:0≤y1∧y1<2) (q2:0≤y2∧y2<1024) (q3:0≤y3∧y3<2):
  (c+d*128+y0*4096+y1*1048576+y2*2097152+y3*2147483648)/128%32=d∧(c+d*128+y0*4096+y1*1048576+y2*2097152+y3*2147483648)/4096%256=y0∧(c+d*128+y0*4096+y1*1048576+y2*2097152+y3*2147483648)/1048576%2=y1∧(c+d*128+y0*4096+y1*1048576+y2*2097152+y3*2147483648)/2097152%1024=y2∧(c+d*128+y0*4096+y1*1048576+y2*2097152+y3*2147483648)/2147483648%2=y3:=by
 refine⟨?_, ?_, ?_, ?_, ?_⟩<;>omega
theorem UA {c y0 y1 f3 a b y2 y3:Int} (hc:0≤c∧c<128) (hf:0≤f3∧f3<8) (ha:0≤a∧a≤31) (hb:0≤b∧b≤31) (q0:0≤y0∧y0<2) (q1:0≤y1∧y1<16) (q2:0≤y2∧y2<64) (q3:0≤y3∧y3<2):
  (c+y0*128+y1*256+f3*4096+a*32768+b*1048576+y2*33554432+y3*2147483648)/128%2=y0∧(c+y0*128+y1*256+f3*4096+a*32768+b*1048576+y2*33554432+y3*2147483648)/256%16=y1∧(c+y0*128+y1*256+f3*4096+a*32768+b*1048576+y2*33554432+y3*2147483648)/32768%32=a∧(c+y0*128+y1*256+f3*4096+a*32768+b*1048576+y2*33554432+y3*2147483648)/1048576%32=b∧(c+y0*128+y1*256+f3*4096+a*32768+b*1048576+y2*33554432+y3*2147483648)/33554432%64=y2∧(c+y0*128+y1*256+f3*4096+a*32768+b*1048576+y2*33554432+y3*2147483648)/2147483648%2=y3:=by
 refine⟨?_, ?_, ?_, ?_, ?_, ?_⟩<;>omega
theorem UB {c y0 f3 a b y1:Int} (hc:0≤c∧c<128) (hf:0≤f3∧f3<8) (ha:0≤a∧a≤31) (hb:0≤b∧b≤31) (q0:0≤y0∧y0<32) (q1:0≤y1∧y1<128):
  (c+y0*128+f3*4096+a*32768+b*1048576+y1*33554432)/128%32=y0∧(c+y0*128+f3*4096+a*32768+b*1048576+y1*33554432)/32768%32=a∧(c+y0*128+f3*4096+a*32768+b*1048576+y1*33554432)/1048576%32=b∧(c+y0*128+f3*4096+a*32768+b*1048576+y1*33554432)/33554432%128=y1:=by
 refine⟨?_, ?_, ?_, ?_⟩<;>omega
theorem Dw {f c f3 f7 n d a b i:Int} (hs:tI (f,c,f3,f7)=true) (hr:ga (n,d,a,b,i)) (hd:(bd f).1=false→d=0) (ha:(bd f).2.1=false→a=0) (hb:(bd f).2.2=false→b=0) (hi:js f i=true):dP n f (bK (f,c,f3,f7) (n,d,a,b,i))=(n,d,a,b,i):=by
 obtain⟨h1,h2,h3,h4,h5,h6⟩:=dp hs
 obtain⟨⟨d0,d1⟩,⟨a0,a1⟩,⟨b0,b1⟩,_⟩:=hr
 simp only at d0 d1 a0 a1 b0 b1
 clear hs
 rcases fO h1 with rfl|rfl|rfl|rfl|rfl|rfl|rfl|rfl|rfl<;>simp[js]at hi<;>simp[bd]at hd ha hb<;>simp[dP,bd,bK,nF,eI,fP,cE]
 ·omega
 ·have e:=Ux i (by omega)
  have q1:=Kt (i/2);have q2:=m2 (i/2048);have q3:=Ro (i/4096);have q4:=m2 (i/1048576)
  generalize i/2%1024=y2 at*;generalize i/2048%2=y1 at*;generalize i/4096%256=y0 at*;generalize i/1048576%2=y3 at*
  obtain⟨w1,w2,w3,w4,w5⟩:=un2 h2 ⟨d0,d1⟩ q3 q2 q1 q4
  rw[w1,w2,w3,w4,w5];omega
 ·omega
 ·have e:=Uy i (by omega)
  have q1:=Uh (i/2);have q2:=Uj (i/32);have q3:=m2 (i/2048);have q4:=m2 (i/4096)
  generalize i/2%16=y1 at*;generalize i/32%64=y2 at*;generalize i/2048%2=y0 at*;generalize i/4096%2=y3 at*
  obtain⟨w1,w2,w3,w4,w5,w6⟩:=UA h2 h3 ⟨a0,a1⟩ ⟨b0,b1⟩ q3 q1 q2 q4
  rw[w1,w2,w3,w4,w5,w6];omega
 ·have e:=Uz i
  have q1:=Ui i;have q2:=Rn (i/32)
  generalize i%32=y0 at*;generalize i/32%128=y1 at*
  obtain⟨w1,w3,w4,w5⟩:=UB h2 h3 ⟨a0,a1⟩ ⟨b0,b1⟩ q1 q2
  rw[w1,w3,w4,w5];omega
 all_goals omega
theorem kZ {f c f3 f7 n d a b i:Int} (hs:tI (f,c,f3,f7)=true) (hr:ga (n,d,a,b,i)):0≤bK (f,c,f3,f7) (n,d,a,b,i)∧bK (f,c,f3,f7) (n,d,a,b,i)<4294967296∧bK (f,c,f3,f7) (n,d,a,b,i)%128=c∧(3≤f→f≤8→bK (f,c,f3,f7) (n,d,a,b,i)/4096%8=f3)
  ∧(f=6→bK (f,c,f3,f7) (n,d,a,b,i)/67108864=f7/2)∧(f=7∨f=8→bK (f,c,f3,f7) (n,d,a,b,i)/33554432=f7)∧(f=9→bK (f,c,f3,f7) (n,d,a,b,i)/1048576=f7):=by
 obtain⟨h1,h2,h3,h4,h5,h6⟩:=dp hs
 obtain⟨⟨d0,d1⟩,⟨a0,a1⟩,⟨b0,b1⟩,_⟩:=hr
 simp only at d0 d1 a0 a1 b0 b1
 have q1:=Kt (i/2);have q2:=m2 (i/2048);have q3:=Ro (i/4096);have q4:=m2 (i/1048576)
 have q5:=Uh (i/2);have q6:=Uj (i/32);have q7:=m2 (i/4096);have q8:=Ui i;have q9:=Rn (i/32)
 clear hs
 rcases fO h1 with rfl|rfl|rfl|rfl|rfl|rfl|rfl|rfl|rfl<;>simp[bK]
 ·omega
 ·generalize i/2%1024=y2 at*;generalize i/2048%2=y1 at*;generalize i/4096%256=y0 at*;generalize i/1048576%2=y3 at*
  clear q5 q6 q7 q8 q9;omega
 ·omega
 ·generalize i/2%16=y1 at*;generalize i/32%64=y2 at*;generalize i/2048%2=y0 at*;generalize i/4096%2=y3 at*
  clear q1 q3 q4 q8 q9;omega
 ·generalize i%32=y0 at*;generalize i/32%128=y1 at*
  clear q1 q2 q3 q4 q5 q6 q7;omega
 all_goals omega
def Bz (m n:Fin 65):Bool:=
 let s:=bE (m.val:Int);let t:=bE (n.val:Int)
 decide (m.val=0)||decide (n.val=0)||decide (m=n)|| !decide (s.2.1=t.2.1)|| (decide (3≤s.1)&&decide (s.1≤8)&&decide (3≤t.1)&&decide (t.1≤8)&& !decide (s.2.2.1=t.2.2.1))|| (decide (s.1=t.1)&&decide (6≤s.1)&& !decide (s.2.2.2=t.2.2.2))
theorem HI:∀m n:Fin 65,Bz m n=true:=by decide+kernel
theorem Dx {x y:gJ} (hx:ga x) (hy:ga y) (h1:1≤x.1∧x.1≤64) (h2:1≤y.1∧y.1≤64) (e:bK (bE x.1) x=bK (bE y.1) y):x.1=y.1:=by
 obtain⟨n,d,a,b,i⟩:=x
 obtain⟨m,d',a',b',i'⟩:=y
 simp only at h1 h2 e⊢
 have o1:=ip n h1.1 h1.2
 have o2:=ip m h2.1 h2.2
 have f1:=dp (f:=(bE n).1) (c:=(bE n).2.1) (f3:=(bE n).2.2.1) (f7:=(bE n).2.2.2) o1
 have f2:=dp (f:=(bE m).1) (c:=(bE m).2.1) (f3:=(bE m).2.2.1) (f7:=(bE m).2.2.2) o2
 have r1:_∧_:=kZ (f:=(bE n).1) (c:=(bE n).2.1) (f3:=(bE n).2.2.1) (f7:=(bE n).2.2.2) o1 hx
 have r2:_∧_:=kZ (f:=(bE m).1) (c:=(bE m).2.1) (f3:=(bE m).2.2.1) (f7:=(bE m).2.2.2) o2 hy
 change 0≤bK (bE n) (n,d,a,b,i)∧bK (bE n) (n,d,a,b,i)<4294967296∧bK (bE n) (n,d,a,b,i)%128=_∧(_→_→bK (bE n) (n,d,a,b,i)/4096%8=_)∧(_→bK (bE n) (n,d,a,b,i)/67108864=_)∧(_→bK (bE n) (n,d,a,b,i)/33554432=_)∧(_→bK (bE n) (n,d,a,b,i)/1048576=_)at r1
 change 0≤bK (bE m) (m,d',a',b',i')∧bK (bE m) (m,d',a',b',i')<4294967296∧bK (bE m) (m,d',a',b',i')%128=_∧(_→_→bK (bE m) (m,d',a',b',i')/4096%8=_)∧(_→bK (bE m) (m,d',a',b',i')/67108864=_)∧(_→bK (bE m) (m,d',a',b',i')/33554432=_)∧(_→bK (bE m) (m,d',a',b',i')/1048576=_)at r2
 rw[e]at r1
 obtain⟨k,hk⟩:=mD (n:=n) (by omega) (by omega)
 obtain⟨l,hl⟩:=mD (n:=m) (by omega) (by omega)
 have ha:=HI k l
 unfold Bz at ha
 rw[←hk,←hl]at ha
 by_cases hkl:k=l
 ·omega
 exfalso
 generalize bK (bE m) (m,d',a',b',i')=w at*
 have k0:k.val≠0:=by omega
 have l0:l.val≠0:=by omega
 simp only[Bool.or_eq_true,ay,Bool.not_eq_true',aT,decide_eq_false_iff_not,k0,l0,hkl,false_or]at ha
 clear e hk hl o1 o2
 generalize bE n=s at*
 generalize bE m=t at*
 obtain⟨sf,sc,s3,s7⟩:=s
 obtain⟨tf,tc,t3,t7⟩:=t
 simp only at*
 obtain⟨_,_,u1,u2,u3,u4,u5⟩:=r1
 obtain⟨_,_,v1,v2,v3,v4,v5⟩:=r2
 obtain⟨f1a,_,_,_,f1b,_⟩:=f1
 obtain⟨f2a,_,_,_,f2b,_⟩:=f2
 rcases ha with(ha|⟨⟨⟨⟨ha,hb⟩,hc⟩,hd⟩,he⟩)|⟨⟨ha,hb⟩,hc⟩
 ·exact ha (u1.symm.trans v1)
 ·exact he ((u2 ha hb).symm.trans (v2 hc hd))
 ·subst ha
  have:sf=6∨sf=7∨sf=8∨sf=9:=by omega
  rcases this with h|h|h|h
  ·have:=(u3 h).symm.trans (v3 h);have:=f1b h;have:=f2b h;omega
  ·exact hc ((u4 (.inl h)).symm.trans (v4 (.inl h)))
  ·exact hc ((u4 (.inr h)).symm.trans (v4 (.inr h)))
  ·exact hc ((u5 h).symm.trans (v5 h))
theorem HJ (x:gJ) (h:dv x=true):jN (bK (bE x.1) x)=some (x,true):=by
 obtain⟨h1,hr,hd,ha,hb,hi⟩:=oy h
 have ho:=ip x.1 h1.1 h1.2
 have er:=kZ (f:=(bE x.1).1) (c:=(bE x.1).2.1) (f3:=(bE x.1).2.2.1) (f7:=(bE x.1).2.2.2) (n:=x.1) (d:=x.2.1) (a:=x.2.2.1) (b:=x.2.2.2.1) (i:=x.2.2.2.2) ho hr
 have ee:bK ((bE x.1).1,(bE x.1).2.1,(bE x.1).2.2.1,(bE x.1).2.2.2) (x.1,x.2.1,x.2.2.1,x.2.2.2.1,x.2.2.2.2)=bK (bE x.1) x:=rfl
 rw[ee]at er
 have hdec:dP x.1 (bE x.1).1 (bK (bE x.1) x)=x:=Dw (f:=(bE x.1).1) (c:=(bE x.1).2.1) (f3:=(bE x.1).2.2.1) (f7:=(bE x.1).2.2.2) (n:=x.1) (d:=x.2.1) (a:=x.2.2.1) (b:=x.2.2.2.1) (i:=x.2.2.2.2) ho hr hd ha hb hi
 obtain⟨os,ho',hl,hs⟩:=GN 0 (by decide) (by decide)
 rw[Gx,ho']
 simp only[af,hl]
 have hz:jN.a (bK (bE x.1) x) (0,0,0,0,0) os 65 0=jN.a (bK (bE x.1) x) (0,0,0,0,0) os 65 1:=by
  rw[jN.a_eq,hl];rfl
 have key:∀(k n:Nat),(n:Int)+k=x.1→1≤n→jN.a (bK (bE x.1) x) (0,0,0,0,0) os 65 (n:Int)=some (x,true):=by
  intro k
  induction k with
  |zero=>
   intro n hn hn1
   have hnx:(n:Int)=x.1:=by omega
   rw[iq _ er.1 er.2.1 _ os hl hs n hn1 (by omega),hnx,hdec,au ⟨er.2.2.1.symm,rfl⟩]
  |succ k ih=>
   intro n hn hn1
   rw[iq _ er.1 er.2.1 _ os hl hs n hn1 (by omega),ap,ih (n+1) (by omega) (by omega)]
   rintro⟨_,hc⟩
   have:=Dx (x:=dP (n:Int) (bE n).1 (bK (bE x.1) x)) (y:=x) (fQ (fT (n:=n) (by omega) (by omega)) er.1 er.2.1) hr (by simp only[dP];omega) h1 hc
   simp only[dP]at this
   omega
 rw[show(((65:Nat)):Int)=65 by rfl,hz]
 exact key (x.1-1).toNat 1 (by omega) (by omega)
def updF (F:Int→Int) (a:Int) (t:ByteArray) (x:Int):Int:=if a≤x∧x<a+(t.size:Int)then bt t (x-a)else F x
def FR (F:Int→Int):Prop:=∀x,0≤F x∧F x≤255
theorem eC {F:Int→Int} (h:FR F) (a:Int) (t:ByteArray):FR (updF F a t):=by
 intro x
 unfold updF
 split
 ·exact xf _ _
 ·exact h x
def pg (F:Int→Int) (b:Int):ByteArray:=aS (bn (fun i=>F (b+(i:Int))) 0 128)
def cG (F:Int→Int) (q:Int×Int):eA:=(q.1,q.2,pg F q.1)
def aG (F:Int→Int) (L:List (Int×Int)):List eA:=L.map (cG F)
theorem gp (F:Int→Int) (b:Int):(pg F b).size=128:=by unfold pg;rw[cj,aO]
theorem xQ {α:Type} (f:Nat→α) (P:α→Prop) (k i:Nat) (h:∀j,P (f j)):∀x∈bn f i k,P x:=by
 intro x hx
 obtain⟨j,_,_,rfl⟩:=(bY f x k i).1 hx
 exact h j
theorem ua {F:Int→Int} (hF:FR F) (b i:Int) (h:0≤i) (h':i<128):bt (pg F b) i=F (b+i):=by
 obtain⟨n,rfl⟩:∃n:Nat,i=(n:Int):=⟨i.toNat,by omega⟩
 rw[eQ]
 unfold pg
 rw[mK _ n (xQ _ _ _ _ fun j=>hF _) (by rw[aO];omega),gK,Nat.zero_add]
theorem re (xs:List Int) (h:∀x∈xs,0≤x∧x≤255):fY (aS xs)=xs:=by
 unfold fY aS
 simp only[List.map_map]
 rw[List.map_congr_left (g:=id) fun x hx=> ?_,List.map_id]
 have:=h x hx
 simp only[Function.comp,id]
 rw[UInt8.toNat_ofNat']
 omega
theorem HK {α:Type} (f:Nat→α) (n i:Nat) (x:α):(bn f 0 n).set i x=bn (fun j=>if j=i then x else f j) 0 n:=by
 apply List.ext_getElem
 ·rw[List.length_set,aO,aO]
 ·intro j h1 h2
  rw[List.getElem_set,gK,gK,Nat.zero_add]
  by_cases h:j=i
  ·rw[au h.symm,au h]
  ·rw[ap (fun e=>h e.symm),ap h]
theorem eD {α:Type} {f g:Nat→α}:∀(k i:Nat),(∀j,i≤j→j<i+k→f j=g j)→bn f i k=bn g i k
 |0,_,_=>rfl
 |k+1,i,h=>by rw[bn,bn,h i (Nat.le_refl _) (by omega),eD k (i+1) fun j h1 h2=>h j (by omega) (by omega)]
def mS (F:Int→Int) (a:Int) (t:ByteArray) (b:Int) (i:Nat):List Int:=bn (fun j=>if j<i then updF F a t (b+(j:Int))else F (b+(j:Int))) 0 128
structure fu (L:List (Int×Int)):Prop where
 len:L.length≤64
 base:∀q∈L,0≤q.1∧q.1≤1048575
def HL (a:Int) (t:ByteArray):Prop:= -1099511627776≤a∧a≤1099511627776∧t.size≤1048576
theorem u9 {F:Int→Int} (hF:FR F) (a:Int) (t:ByteArray) (hA:HL a t) (x6 m:List eA) (k:Nat) (p:eA) (hp:0≤p.1∧p.1≤1048575) (x17 x18:Int) (hk:k<m.length):∀(d i:Nat),i+d=128→
  oJ.b a t x6 m (k:Int) p (mS F a t p.1 i) x17 x18 128 (i:Int)=oJ.a a t x6 (m.set k ((rd (τ:=aN) m (k:Int)).1,(rd (τ:=aN) m (k:Int)).2.1,aS (mS F a t p.1 128))) x17 (IntKind.wrap .i64 (x18+1)):=by
 obtain⟨a1,a2,a3⟩:=hA
 intro d
 induction d with
 |zero=>
  intro i h
  have:i=128:=by omega
  subst this
  rw[oJ.b_eq,show decide (((128:Nat):Int)<128)=false by decide,ac,aj,ab hk,aB];rfl
 |succ d ih=>
  intro i h
  have hi:i<128:=by omega
  have hs:mS F a t p.1 (i+1)=if a≤p.1+(i:Int)∧p.1+(i:Int)<a+(t.size:Int)then(mS F a t p.1 i).set i (bt t (p.1+(i:Int)-a))else mS F a t p.1 i:=by
   unfold mS
   split
   ·rename_i hc
    rw[HK]
    apply eD
    intro j _ _
    by_cases hj:j=i
    ·subst hj
     rw[au (by omega),au rfl]
     unfold updF
     rw[au hc]
    ·rw[ap hj]
     by_cases hj2:j<i
     ·rw[au (by omega),au hj2]
     ·rw[ap (by omega),ap hj2]
   ·rename_i hc
    apply eD
    intro j _ _
    by_cases hj:j=i
    ·subst hj
     rw[au (by omega),ap (by omega)]
     unfold updF
     rw[ap hc]
    ·by_cases hj2:j<i
     ·rw[au (by omega),au hj2]
     ·rw[ap (by omega),ap hj2]
  have hl:(mS F a t p.1 i).length=128:=by unfold mS;rw[aO]
  have ih':=ih (i+1) (by omega)
  rw[hs]at ih'
  rw[oJ.b_eq,ab (show(i:Int)<128 by omega),aU (n:=p.1+(i:Int)) (by omega) (by omega),aU (n:=p.1+(i:Int)-a) (by omega) (by omega),aU (n:=(t.size:Int)-1) (by omega) (by omega),aU (n:=(i:Int)+1) (by omega) (by omega),show(i:Int)+1=((i+1:Nat):Int) by omega,G8]
  simp only[ae,af]
  by_cases hc:a≤p.1+(i:Int)∧p.1+(i:Int)<a+(t.size:Int)
  ·rw[bF.2 (show 0≤p.1+(i:Int)-a∧p.1+(i:Int)-a≤(t.size:Int)-1 by omega),inL_true (i:=p.1+(i:Int)-a) (n:=t.size) (by omega) (by omega),aj,hl,ab hi]
   rw[au hc]at ih'
   simp only[ae,letB,aB]
   exact ih'
  ·rw[show dd (p.1+(i:Int)-a) 0 ((t.size:Int)-1)=false by cases h5:dd (p.1+(i:Int)-a) 0 ((t.size:Int)-1);rfl;rw[bF]at h5;omega]
   rw[ap hc]at ih'
   simp only[ac]
   exact ih'
theorem sG {F:Int→Int} (hF:FR F) (a:Int) (t:ByteArray) (hA:HL a t) (L:List (Int×Int)) (hL:fu L) (x6:List eA):∀(d k:Nat),k+d=L.length→
  oJ.a a t x6 (aG (updF F a t) (L.take k)++aG F (L.drop k)) (L.length:Int) (k:Int)=some (aG (updF F a t) L):=by
 have hn:=hL.len
 intro d
 induction d with
 |zero=>
  intro k h
  have:k=L.length:=by omega
  subst this
  rw[oJ.a_eq,ai,am (az _),ac,List.take_length,List.drop_length]
  simp[aG]
 |succ d ih=>
  intro k h
  have hk:k<L.length:=by omega
  have hml:(aG (updF F a t) (L.take k)++aG F (L.drop k)).length=L.length:=by simp[aG];omega
  have hrd:rd (τ:=aN) (aG (updF F a t) (L.take k)++aG F (L.drop k)) (k:Int)=cG F L[k]:=by
   rw[aY (τ:=aN) _ k (by rw[hml];exact hk),List.getElem_append_right (by simp[aG];omega)]
   simp[aG,List.getElem_drop]
   congr 2
   omega
  have hset:(aG (updF F a t) (L.take k)++aG F (L.drop k)).set k (cG (updF F a t) L[k])=aG (updF F a t) (L.take (k+1))++aG F (L.drop (k+1)):=by
   rw[List.set_append_right _ _ (by simp[aG];omega)]
   have e:k-(aG (updF F a t) (L.take k)).length=0:=by simp[aG];omega
   rw[e]
   unfold aG
   rw[List.drop_eq_getElem_cons hk,List.map_cons,List.set_cons_zero,List.take_succ_eq_append_getElem hk,List.map_append,bl]
   rfl
  have hq:=hL.base L[k] (List.getElem_mem hk)
  rw[oJ.a_eq,ai,aj,hml,ab hk,hrd]
  have hint:fY (pg F (L[k]).1)=mS F a t (L[k]).1 0:=by
   unfold pg
   rw[re _ (xQ _ _ _ _ fun j=>hF _)]
   unfold mS
   apply eD
   intro j _ _
   rw[ap (by omega)]
  show(bif true then bif true then bif decide ((pg F (L[k]).1).size≤9223372036854775807)then oJ.b a t x6 _ (k:Int) (cG F L[k]) (fY (pg F (L[k]).1)) (L.length:Int) (k:Int) ((fY (pg F (L[k]).1)).length:Int) 0 else none else none else _)=_
  rw[gp,hint,show(mS F a t (L[k]).1 0).length=128 by unfold mS;rw[aO]]
  have hrow:=u9 hF a t hA x6 (aG (updF F a t) (L.take k)++aG F (L.drop k)) k (cG F L[k]) hq (L.length:Int) (k:Int) (by rw[hml];exact hk) 128 0 (by omega)
  rw[hrd]at hrow
  have hfin:aS (mS F a t (cG F L[k]).1 128)=pg (updF F a t) (L[k]).1:=by
   unfold mS pg
   rw[eD (f:=fun j=>if j<128 then updF F a t ((cG F L[k]).1+(j:Int))else F ((cG F L[k]).1+(j:Int))) (g:=fun j=>updF F a t ((L[k]).1+(j:Int))) 128 0 fun j _ hj=>au (by omega)]
  rw[hfin,an k L.length hk (by omega)]at hrow
  have hset':(aG (updF F a t) (L.take k)++aG F (L.drop k)).set k ((cG F L[k]).1,(cG F L[k]).2.1,pg (updF F a t) (L[k]).1)=aG (updF F a t) (L.take (k+1))++aG F (L.drop (k+1)):=hset
  rw[hset']at hrow
  exact hrow.trans (ih (k+1) (by omega))
theorem rf (m:List eA) (h:m.length≤64):Z4 m=some m:=by
 rw[QC,show aH m.length 32=true by simp[aH];omega];rfl
theorem xR {F:Int→Int} (hF:FR F) (a:Int) (t:ByteArray) (hA:HL a t) (L:List (Int×Int)) (hL:fu L):oJ (aG F L) a t=some (aG (updF F a t) L):=by
 have hml:(aG F L).length=L.length:=by simp[aG]
 have hn:=hL.len
 rw[Nv,Nu,rf _ (by omega)]
 simp only[af]
 rw[hml]
 exact sG hF a t hA L hL [] L.length 0 (by omega)
theorem nP (a b:ByteArray) (i:Nat):bt (a++b) (i:Int)=if i<a.size then bt a (i:Int)else bt b ((i-a.size:Nat):Int):=by
 rw[eQ,eQ,eQ]
 have hs:a.size=a.data.size:=rfl
 rw[ByteArray.data_append,Array.getD_eq_getD_getElem?,Array.getD_eq_getD_getElem?,Array.getD_eq_getD_getElem?,Array.getElem?_append,hs]
 split<;>rfl
theorem jC (t:ByteArray) (s e i:Nat) (h:s+i<e) (he:e≤t.size):bt (t.extract s e) (i:Int)=bt t ((s+i:Nat):Int):=by
 rw[eQ,eQ]
 have hs:t.size=t.data.size:=rfl
 rw[ByteArray.data_extract,Array.getD_eq_getD_getElem?,Array.getD_eq_getD_getElem?,Array.getElem?_extract,au (by omega)]
theorem P6 {a b:ByteArray} (hs:a.size=b.size) (h:∀i:Nat,i<a.size→bt a (i:Int)=bt b (i:Int)):a=b:=by
 apply G4 hs
 intro i hi
 have:=h i hi
 rw[eQ,eQ]at this
 exact UInt8.toNat_inj.1 (by omega)
abbrev gu:Ty:= .pair (.int .i64) (.int .i64)
def eE (b a:Int):Bool:=decide (b≤a)&&decide (a≤b+127)
def dV (L:List (Int×Int)) (a:Int):Int:=ef (fun i=>eE (rd (τ:=gu) L (i:Int)).1 a) 0 L.length
theorem jD (F:Int→Int) (L:List (Int×Int)) (i:Nat) (h:i<L.length):rd (τ:=aN) (aG F L) (i:Int)=cG F (rd (τ:=gu) L (i:Int)):=by
 rw[aY (τ:=aN) (aG F L) i (by simp[aG];exact h),aY (τ:=gu) L i h]
 simp[aG]
theorem k6 {L:List (Int×Int)} (hL:fu L) (i:Nat) (h:i<L.length) {q:Int×Int} (hq:rd (τ:=gu) L (i:Int)=q):0≤q.1∧q.1≤1048575:=by
 rw[aY (τ:=gu) L i h]at hq;rw[←hq];exact hL.base _ (List.getElem_mem h)
def P7 (a:Int):Prop:= -1099511627776≤a∧a≤1099511627776
theorem Dy (F:Int→Int) (L:List (Int×Int)) (hL:fu L) (a:Int) (ha:P7 a):Rk (aG F L) a=some (dV L a):=by
 have hn:=hL.len
 obtain⟨a1,a2⟩:=ha
 have hml:(aG F L).length=L.length:=by simp[aG]
 rw[Ho,Hn,hml]
 rw[cS (L:=Dl.a a (aG F L) (L.length:Int)) (fun i=>eE (rd (τ:=gu) L (i:Int)).1 a) L.length ?_ fun i hi=> ?_]
 ·rfl
 ·rw[Dl.a_eq,ai];simp
 ·rw[Dl.a_eq,ai,aj,hml,ab hi,an i _ hi (by omega),jD F L i hi,Hm]
  obtain⟨q,hq⟩:∃q:Int×Int,rd (τ:=gu) L (i:Int)=q:=⟨_,rfl⟩
  have hb:=k6 hL i hi hq
  rw[hq]
  obtain⟨b,hbe⟩:∃b:Int,q.1=b:=⟨_,rfl⟩
  rw[hbe]at hb⊢
  show(bif true then bif true then(Option.bind (Option.bind (gT a (cG F q).1 (IntKind.wrap .i64 (IntKind.wrap .i64 ((cG F q).1+128)-1))) fun r1=>some r1) _)else none else _)=_
  rw[show(cG F q).1=b from hbe,aU (n:=b+128) (by omega) (by omega),aU (n:=b+128-1) (by omega) (by omega),G8,show dd a b (b+128-1)=eE b a by unfold dd eE;rw[show b+128-1=b+127 by omega]]
  rfl
theorem nQ (F:Int→Int) (L:List (Int×Int)) (hL:fu L) (a:Int) (ha:P7 a):uQ (aG F L) a=some (dV L a):=by
 have hn:=hL.len
 obtain⟨a1,a2⟩:=ha
 have hml:(aG F L).length=L.length:=by simp[aG]
 rw[Gm]
 refine cS (L:=uQ.a a (aG F L)) (fun i=>eE (rd (τ:=gu) L (i:Int)).1 a) L.length ?_ fun i hi=> ?_
 ·rw[uQ.a_eq,hml,ai];simp
 ·rw[uQ.a_eq,hml,ai,aj,ab hi,an i _ hi (by omega),jD F L i hi]
  obtain⟨q,hq⟩:∃q:Int×Int,rd (τ:=gu) L (i:Int)=q:=⟨_,rfl⟩
  have hb:=k6 hL i hi hq
  rw[hq]
  obtain⟨b,hbe⟩:∃b:Int,q.1=b:=⟨_,rfl⟩
  rw[hbe]at hb⊢
  rw[show(cG F q).1=b from hbe,aU (n:=a-b) (by omega) (by omega)]
  unfold eE
  by_cases h1:b≤a
  ·rw[ab h1,show decide (a-b<128)=decide (a≤b+127) by congr 1;apply propext;omega]
   cases decide (a≤b+127)<;>rfl
  ·rw[am h1];rfl
def z8 (L:List (Int×Int)):Prop:=∀(i j:Nat) (a:Int),i<L.length→j<L.length→eE (rd (τ:=gu) L (i:Int)).1 a=true→eE (rd (τ:=gu) L (j:Int)).1 a=true→i=j
theorem kG {L:List (Int×Int)} {a:Int} (h:0≤dV L a):∃(k:Nat) (q:Int×Int),dV L a=(k:Int)∧k<L.length∧rd (τ:=gu) L (k:Int)=q∧q.1≤a∧a≤q.1+127:=by
 unfold dV at h⊢
 rcases ce (fun i=>eE (rd (τ:=gu) L (i:Int)).1 a) L.length 0 with⟨h1,_⟩|⟨j,h1,h2,h3,h4,_⟩
 ·omega
 ·unfold eE at h4
  rw[ay,aT,aT]at h4
  exact⟨j,_,h1,by omega,rfl,h4.1,h4.2⟩
theorem Jz (m:List eA) (h:m.length≤64):SU m=some m:=by
 rw[Lr,show aH (0+m.length) 32=true by simp[aH];omega];rfl
theorem vb {F:Int→Int} (hF:FR F) (L:List (Int×Int)) (hL:fu L) (hN:z8 L) (a:Int) (ha:P7 a) (t:ByteArray) (k:Nat) (hk:dV L a=(k:Int)) (hkl:k<L.length) {q:Int×Int} (hq:rd (τ:=gu) L (k:Int)=q) (h1:q.1≤a) (h2:a+(t.size:Int)≤q.1+128):
  SW (aG F L) a t=some (aG (updF F a t) L):=by
 have hn:=hL.len
 have hml:(aG F L).length=L.length:=by simp[aG]
 have hb:=k6 hL k hkl hq
 rw[Ls,Jz _ (by omega),nQ F L hL a ha,hk]
 simp only[af]
 rw[aj,hml,ab hkl,jD F L k hkl]
 rw[hq]
 obtain⟨j,hj⟩:∃j:Nat,a-q.1=(j:Int):=⟨(a-q.1).toNat,by omega⟩
 show(bif true then bif true then(bif decide (0≤0)&&decide (0≤IntKind.wrap .i64 (a-q.1))&&decide (IntKind.wrap .i64 (a-q.1)≤((pg F q.1).size:Int))then _ else none)else none else none)=_
 simp only[show(cG F q).1=q.1 from rfl,show(cG F q).2.1=q.2 from rfl,show(cG F q).2.2=pg F q.1 from rfl]
 rw[aU (n:=a-q.1) (by omega) (by omega),hj,gp,aU (n:=(j:Int)+(t.size:Int)) (by omega) (by omega)]
 rw[show(decide (0≤0)&&decide (0≤(j:Int))&&decide ((j:Int)≤((128:Nat):Int)))=true by simp;omega,show(decide (0≤(j:Int)+(t.size:Int))&&decide ((j:Int)+(t.size:Int)≤((128:Nat):Int))&&decide (((128:Nat):Int)≤((128:Nat):Int)))=true by simp;omega]
 rw[show(Int.toNat 0)=0 from rfl,aB,show((j:Int)+(t.size:Int)).toNat=j+t.size by omega,aB,aB]
 have hz1:((pg F q.1).extract 0 j).size=j:=by rw[ByteArray.size_extract,gp];omega
 have hz2:((pg F q.1).extract (j+t.size) 128).size=128-(j+t.size):=by rw[ByteArray.size_extract,gp];omega
 rw[ab (show((pg F q.1).extract 0 j).size+t.size≤9223372036854775807 by rw[hz1];omega),ab (show((pg F q.1).extract 0 j++t).size+((pg F q.1).extract (j+t.size) 128).size≤9223372036854775807 by rw[ByteArray.size_append,hz1,hz2];omega)]
 have hpage:(pg F q.1).extract 0 j++t++(pg F q.1).extract (j+t.size) 128=pg (updF F a t) q.1:=by
  apply P6
  ·rw[ByteArray.size_append,ByteArray.size_append,hz1,hz2,gp];omega
  ·intro i hi
   rw[ByteArray.size_append,ByteArray.size_append,hz1,hz2]at hi
   rw[ua (eC hF a t) _ _ (by omega) (by omega),nP,ByteArray.size_append,hz1,nP,hz1]
   unfold updF
   by_cases c1:i<j
   ·rw[au (by omega),au c1,ap (by omega),jC _ _ _ _ (by omega) (by rw[gp];omega),ua hF _ _ (by omega) (by omega),Nat.zero_add]
   ·by_cases c2:i<j+t.size
    ·rw[au c2,ap c1,au (by omega),show q.1+(i:Int)-a=((i-j:Nat):Int) by omega]
    ·rw[ap c2,ap (by omega),jC _ _ _ _ (by omega) (by rw[gp];omega),ua hF _ _ (by omega) (by omega)]
     congr 1;omega
 rw[hpage]
 show some ((aG F L).set k (cG (updF F a t) q))=_
 congr 1
 apply List.ext_getElem
 ·simp[aG]
 ·intro i g1 g2
  have hi:i<L.length:=by simpa[aG]using g2
  rw[List.getElem_set]
  have e1:(aG (updF F a t) L)[i]=cG (updF F a t) L[i]:=by simp[aG]
  have e2:(aG F L)[i]'(by simp[aG];exact hi)=cG F L[i]:=by simp[aG]
  rw[e1,e2]
  have hqk:L[k]=q:=by rw[←hq,aY (τ:=gu) L k hkl]
  by_cases c:k=i
  ·subst c
   rw[au rfl,hqk]
  ·rw[ap c]
   unfold cG
   congr 2
   have hpg:∀x:Nat,x<128→F ((L[i]).1+(x:Int))=updF F a t ((L[i]).1+(x:Int)):=by
    intro x hx
    unfold updF
    rw[ap]
    intro hc
    refine c (hN k i ((L[i]).1+(x:Int)) hkl hi ?_ ?_)
    ·rw[hq];unfold eE
     rw[ay,aT,aT];omega
    ·rw[aY (τ:=gu) L i hi];unfold eE
     rw[ay,aT,aT];omega
   unfold pg
   rw[eD 128 0 fun x _ hx=>hpg x (by omega)]
theorem Aa (F:Int→Int) (a:Int) (t:ByteArray) (n:Nat) (hn:n≤t.size):updF (updF F a (t.extract 0 n)) (a+(n:Int)) (t.extract n t.size)=updF F a t:=by
 funext x
 have hz1:(t.extract 0 n).size=n:=by rw[ByteArray.size_extract];omega
 have hz2:(t.extract n t.size).size=t.size-n:=by rw[ByteArray.size_extract];omega
 unfold updF
 rw[hz1,hz2]
 by_cases c1:a+(n:Int)≤x∧x<a+(n:Int)+((t.size-n:Nat):Int)
 ·rw[au c1,au (by omega)]
  obtain⟨i,hi⟩:∃i:Nat,x-(a+(n:Int))=(i:Int):=⟨(x-(a+(n:Int))).toNat,by omega⟩
  rw[hi,jC _ _ _ _ (by omega) (Nat.le_refl _)]
  congr 1;omega
 ·rw[ap c1]
  by_cases c2:a≤x∧x<a+(n:Int)
  ·rw[au c2,au (by omega)]
   obtain⟨i,hi⟩:∃i:Nat,x-a=(i:Int):=⟨(x-a).toNat,by omega⟩
   rw[hi,jC _ _ _ _ (by omega) hn]
   congr 1;omega
  ·rw[ap c2,ap (by omega)]
theorem rg (F:Int→Int) (a:Int) (t:ByteArray) (h:t.size=0):updF F a t=F:=by
 funext x
 unfold updF
 rw[ap (by omega)]
theorem HM (L:List (Int×Int)) (hL:fu L) (hN:z8 L) (x6:List eA):∀(n:Nat) (F:Int→Int) (a:Int) (t:ByteArray),FR F→t.size≤n→ -1000000000≤a→a+(t.size:Int)≤1000000000→(∀x,a≤x→x<a+(t.size:Int)→0≤dV L x)→
  yg.a a t (aG F L) x6=some (aG (updF F a t) L):=by
 have hml:∀F,(aG F L).length=L.length:=by intro F;simp[aG]
 intro n
 induction n with
 |zero=>
  intro F a t hF ht h1 h2 hx
  have h0:t.size=0:=by omega
  rw[yg.a_eq,am (show¬(t.size:Int)>0 by omega),ac,rg F a t h0]
 |succ n ih=>
  intro F a t hF ht h1 h2 hx
  by_cases h0:t.size=0
  ·rw[yg.a_eq,am (show¬(t.size:Int)>0 by omega),ac,rg F a t h0]
  ·obtain⟨k,q,hk,hkl,hq,hb1,hb2⟩:=kG (hx a (Int.le_refl _) (by omega))
   have hb:=k6 hL k hkl hq
   rw[yg.a_eq,ab (show(t.size:Int)>0 by omega),nQ F L hL a ⟨by omega,by omega⟩,hk]
   simp only[ae,af]
   rw[aj,hml,ab hkl,jD F L k hkl]
   rw[hq]
   simp only[show(cG F q).1=q.1 from rfl,ae]
   rw[aU (n:=q.1+128) (by omega) (by omega),aU (n:=q.1+128-a) (by omega) (by omega)]
   obtain⟨m,hm⟩:∃m:Nat,(if q.1+128-a< (t.size:Int)then q.1+128-a else(t.size:Int))=(m:Int):=⟨(if q.1+128-a< (t.size:Int)then q.1+128-a else(t.size:Int)).toNat,by split<;>omega⟩
   have hm1:1≤m∧m≤t.size∧a+(m:Int)≤q.1+128:=by split at hm<;>omega
   rw[hm,aU (n:=a+(m:Int)) (by omega) (by omega)]
   rw[show(decide (0≤0)&&decide (0≤(m:Int))&&decide ((m:Int)≤(t.size:Int)))=true by simp;omega,show(decide (0≤(m:Int))&&decide ((m:Int)≤(t.size:Int))&&decide ((t.size:Int)≤(t.size:Int)))=true by simp;omega]
   rw[show(Int.toNat 0)=0 from rfl,aB,aB]
   have hz1:(t.extract 0 m).size=m:=by rw[ByteArray.size_extract];omega
   have hz2:(t.extract m t.size).size=t.size-m:=by rw[ByteArray.size_extract];omega
   rw[vb hF L hL hN a ⟨by omega,by omega⟩ (t.extract 0 m) k hk hkl hq hb1 (by rw[hz1];exact hm1.2.2)]
   simp only[ae,af]
   rw[ih _ _ _ (eC hF _ _) (by omega) (by omega) (by omega) fun x g1 g2=>hx x (by omega) (by omega),Aa F a t m hm1.2.1]
def vd (F:Int→Int) (a:Int) (n:Nat):ByteArray:=aS (bn (fun i=>F (a+(i:Int))) 0 n)
theorem Dz (F:Int→Int) (a:Int) (n:Nat):(vd F a n).size=n:=by unfold vd;rw[cj,aO]
theorem HN (n:Nat) (h:n≤8192):aH n 1=true:=by simp[aH];omega
theorem Ab {F:Int→Int} (hF:FR F) (L:List (Int×Int)) (hL:fu L) (a:Int) (n:Nat) (hn:n≤1024) (h1: -1000000000≤a) (h2:a≤1000000000) (hx:∀x,a≤x→x<a+(n:Int)→0≤dV L x):
  Bs (aG F L) a (n:Int)=some (vd F a n):=by
 have hml:(aG F L).length=L.length:=by simp[aG]
 rw[OC]
 have key:=cM (L:=fun acc i=>Bs.a a (n:Int) (aG F L) acc (a+i)) (fun i=>F (a+(i:Int))) n ([]:List Int) fun acc i hi ha=> ?_
 ·simp only[Int.add_zero,List.nil_append]at key
  rw[key,Bs.a_eq,aU (n:=a+(n:Int)) (by omega) (by omega),am (show¬a+(n:Int)<a+(n:Int) by omega)];rfl
 ·simp only[List.length_nil,Nat.zero_add]at ha
  obtain⟨k,q,hk,hkl,hq,hb1,hb2⟩:=kG (hx (a+(i:Int)) (by omega) (by omega))
  have hb:=k6 hL k hkl hq
  show Bs.a a (n:Int) (aG F L) acc (a+(i:Int))=Bs.a a (n:Int) (aG F L) (acc++[F (a+(i:Int))]) (a+((i+1:Nat):Int))
  rw[Bs.a_eq,aU (n:=a+(n:Int)) (by omega) (by omega),ab (show a+(i:Int)<a+(n:Int) by omega),Dy F L hL _ ⟨by omega,by omega⟩,hk]
  simp only[ae,af]
  rw[aj,hml,ab hkl,jD F L k hkl,hq]
  simp only[show(cG F q).1=q.1 from rfl,show(cG F q).2.2=pg F q.1 from rfl,ae]
  rw[aU (n:=a+(i:Int)-q.1) (by omega) (by omega),aU (n:=a+(i:Int)+1) (by omega) (by omega),gp,inL_true (i:=a+(i:Int)-q.1) (n:=128) (by omega) (by omega),ua hF _ _ (by omega) (by omega),show q.1+(a+(i:Int)-q.1)=a+(i:Int) by omega,HN _ (by simp;omega),show a+(i:Int)+1=a+((i+1:Nat):Int) by omega]
  rfl
theorem HO {F:Int→Int} (hF:FR F) (L:List (Int×Int)) (hL:fu L) (a:Int) (n:Nat) (hn:n≤1024) (h1: -1000000000≤a) (h2:a≤1000000000) (hx:∀x,a≤x→x<a+(n:Int)→0≤dV L x):
  A9 (aG F L) a (n:Int)=some (vd F a n):=by
 have hml:(aG F L).length=L.length:=by simp[aG]
 rw[L8]
 rw[cM (L:=fun acc i=>A9.a a (n:Int) (aG F L) acc i) (fun i=>F (a+(i:Int))) n ([]:List Int) fun acc i hi ha=> ?_]
 ·rw[A9.a_eq,ai,am (az _),ac,List.nil_append];rfl
 ·simp only[List.length_nil,Nat.zero_add]at ha
  obtain⟨k,q,hk,hkl,hq,hb1,hb2⟩:=kG (hx (a+(i:Int)) (by omega) (by omega))
  have hb:=k6 hL k hkl hq
  show A9.a a (n:Int) (aG F L) acc (i:Int)=A9.a a (n:Int) (aG F L) (acc++[F (a+(i:Int))]) ((i+1:Nat):Int)
  rw[A9.a_eq,ai,ab hi,aU (n:=a+(i:Int)) (by omega) (by omega),an i n hi (by omega),nQ F L hL _ ⟨by omega,by omega⟩,hk]
  simp only[ae,af]
  rw[aj,hml,ab hkl,jD F L k hkl,hq]
  simp only[show(cG F q).1=q.1 from rfl,show(cG F q).2.2=pg F q.1 from rfl,ae]
  rw[aU (n:=a+(i:Int)-q.1) (by omega) (by omega),gp,inL_true (i:=a+(i:Int)-q.1) (n:=128) (by omega) (by omega),ua hF _ _ (by omega) (by omega),show q.1+(a+(i:Int)-q.1)=a+(i:Int) by omega,HN _ (by simp;omega)]
  rfl
def oP (F:Int→Int) (b:Int) (n:Nat):Prop:=∀x,b≤x→x<b+(n:Int)→F x=0
theorem BA {F:Int→Int} {b:Int} (h:oP F b 128):pg F b=aS (List.replicate 128 (0:Int)):=by
 unfold pg
 rw[eD (g:=fun _=>(0:Int)) 128 0 fun j _ hj=>h _ (by omega) (by omega)]
 rfl
theorem HP:so (⟨#[0]⟩:ByteArray) 128=aS (List.replicate 128 (0:Int)):=by decide+kernel
theorem HQ {F:Int→Int} (L:List (Int×Int)) (hn:L.length<64) (b p:Int) (hb:∀q∈L,q.1<b) (hz:oP F b 128):CA (aG F L) b p=some (aG F (L++[(b,p)])):=by
 have hml:(aG F L).length=L.length:=by simp[aG]
 rw[Nw]
 have loop:∀(d k:Nat),k+d=L.length→CA.a b p (aG F L) [] (k:Int)=CA.a b p (aG F L) [] (L.length:Int):=by
  intro d
  induction d with
  |zero=>
    intro k h;have:k=L.length:=by omega
    rw[this]
  |succ d ih=>
   intro k h
   have hk:k<L.length:=by omega
   obtain⟨q,hq⟩:∃q:Int×Int,rd (τ:=gu) L (k:Int)=q:=⟨_,rfl⟩
   have hqb:q.1<b:=by rw[aY (τ:=gu) L k hk]at hq;rw[←hq];exact hb _ (List.getElem_mem hk)
   rw[CA.a_eq,hml,ai,aj,ab hk,jD F L k hk,hq]
   simp only[aJ,ae]
   rw[show decide ((cG F q).1<b)=true from ab hqb,an k L.length hk (by omega),ae,ih (k+1) (by omega)]
 have h0:=loop L.length 0 (by omega)
 rw[show((0:Nat):Int)=0 from rfl]at h0
 rw[h0,CA.a_eq,hml,ai,am (az _)]
 simp only[aJ,ac]
 rw[rf _ (by omega),Ki]
 simp only[af]
 rw[show(decide (0≤(128:Int))&&decide ((128:Int)≤9223372036854775807)&&decide (ByteArray.size (⟨#[0]⟩:ByteArray)*(128:Int).toNat≤140737488355328))=true by decide,ae,HP,←BA hz]
 simp only[af]
 rw[QB,hml,show(decide ((L.length:Int)=(L.length:Int))&&aH (L.length+[(b,p,pg F b)].length) 32)=true by simp[aH];omega]
 simp only[ae,af]
 unfold aG
 rw[List.map_append];rfl
theorem HR {F:Int→Int} (L:List (Int×Int)) (hn:L.length<64) (b p:Int) (hb:∀q∈L,q.1<b) (hz:oP F b 128):A8 (aG F L) b p=some (aG F (L++[(b,p)])):=by
 have hml:(aG F L).length=L.length:=by simp[aG]
 rw[Lu]
 have loop:∀(d k:Nat),k+d=L.length→A8.a b p (aG F L) [] (aG F (L.take k)) false (k:Int)=A8.a b p (aG F L) [] (aG F L) false (L.length:Int):=by
  intro d
  induction d with
  |zero=>
    intro k h;have:k=L.length:=by omega
    rw[this,List.take_length]
  |succ d ih=>
   intro k h
   have hk:k<L.length:=by omega
   obtain⟨q,hq⟩:∃q:Int×Int,rd (τ:=gu) L (k:Int)=q:=⟨_,rfl⟩
   have hqL:L[k]=q:=by rw[aY (τ:=gu) L k hk]at hq;exact hq
   have hqb:q.1<b:=by rw[←hqL];exact hb _ (List.getElem_mem hk)
   have hlt:(aG F (L.take k)).length=k:=by simp[aG];omega
   rw[A8.a_eq,hml,ai,aj,ab hk,jD F L k hk,hq]
   simp only[aJ,ae,Bool.not_false]
   rw[show decide ((cG F q).1>b)=false from am (by show¬q.1>b;omega),an k L.length hk (by omega),ac,show aH ((aG F (L.take k)).length+[cG F q].length) 32=true by rw[hlt];simp[aH];omega,ae]
   rw[show aG F (L.take k)++[cG F q]=aG F (L.take (k+1)) by unfold aG;rw[List.take_succ_eq_append_getElem hk,List.map_append,hqL];rfl]
   exact ih (k+1) (by omega)
 have h0:=loop L.length 0 (by omega)
 rw[show((0:Nat):Int)=0 from rfl,show aG F (L.take 0)=[] from rfl]at h0
 rw[h0,A8.a_eq,hml,ai,am (az _)]
 simp only[ac,Bool.not_false,ae]
 rw[show(decide ((0:Nat)≤128)&&aH (Int.toNat 128) 1)=true by decide,show(Int.toNat 128)=128 from rfl,←BA hz,show aH (L.length+[(b,p,pg F b)].length) 32=true by simp[aH];omega]
 simp only[ae]
 unfold aG
 rw[List.map_append];rfl
def nR (b p:Int) (n:Nat):List (Int×Int):=bn (fun i=>(b+128*(i:Int),p)) 0 n
theorem HT (b p:Int):∀n,nR b p (n+1)=nR b p n++[(b+128*(n:Int),p)]:=by
 intro n
 unfold nR
 have:∀(k i:Nat),bn (fun i=>(b+128*(i:Int),p)) i (k+1)=bn (fun i=>(b+128*(i:Int),p)) i k++[(b+128*((i+k:Nat):Int),p)]:=by
  intro k
  induction k with
  |zero=>intro i;rfl
  |succ k ih=>intro i;rw[bn,ih (i+1),bn,show i+1+k=i+(k+1) by omega];rfl
 rw[this n 0,Nat.zero_add]
theorem rh (b p:Int) (n:Nat):(nR b p n).length=n:=aO _ _ _
theorem BC {b p:Int} {n:Nat} {q:Int×Int} (h:q∈nR b p n):b≤q.1∧q.1+128≤b+128*(n:Int):=by
 obtain⟨j,_,hj,rfl⟩:=(bY _ _ _ _).1 h
 simp only;omega
theorem xS {F:Int→Int} (A:List eA→Int→Int→Option (List eA)) (hA:∀(L:List (Int×Int)) (b p:Int),L.length<64→(∀q∈L,q.1<b)→oP F b 128→A (aG F L) b p=some (aG F (L++[(b,p)])))
  (X:List eA→Int→Option (List eA)) (L:List (Int×Int)) (b p:Int) (n:Nat) (hn:L.length+n≤64) (hb:∀q∈L,q.1<b) (hb0:0≤b∧b≤1048575) (hz:oP F b (128*n))
  (hX:∀m (i:Nat),i<n→X m (128*(i:Int))=(A m (b+128*(i:Int)) p).bind fun r=>X r (128*((i+1:Nat):Int))):
  ∀(d k:Nat),k+d=n→X (aG F (L++nR b p k)) (128*(k:Int))=X (aG F (L++nR b p n)) (128*(n:Int)):=by
 intro d
 induction d with
 |zero=>
   intro k h;have:k=n:=by omega
   rw[this]
 |succ d ih=>
  intro k h
  rw[hX _ k (by omega),hA _ _ _ (by rw[List.length_append,rh];omega) (fun q hq=> ?_) (fun x h1 h2=>hz x (by omega) (by omega))]
  ·simp only[af]
   rw[bl,←HT]
   exact ih (k+1) (by omega)
  ·rcases List.mem_append.1 hq with hq|hq
   ·have:=hb q hq;omega
   ·have:=BC hq;omega
def iA (t:ByteArray) (n:Nat):ByteArray:=t++so (⟨#[0]⟩:ByteArray) ((n-t.size:Nat):Int)
theorem BD:∀k:Nat,(Lib.repeatL [(0:UInt8)] k)=List.replicate k 0
 |0=>rfl
 |k+1=>by rw[Lib.repeatL,BD k];rfl
theorem ub (k:Nat):(so (⟨#[0]⟩:ByteArray) (k:Int)).data=(List.replicate k (0:UInt8)).toArray:=by
 unfold so
 rw[aB]
 show(Lib.repeatL [(0:UInt8)] k).toArray=_
 rw[BD]
theorem uc (k:Nat):(so (⟨#[0]⟩:ByteArray) (k:Int)).size=k:=by
 show(so (⟨#[0]⟩:ByteArray) (k:Int)).data.size=k
 rw[ub];simp
theorem JA (k i:Nat):bt (so (⟨#[0]⟩:ByteArray) (k:Int)) (i:Int)=0:=by
 rw[eQ,ub]
 simp only[Array.getD,List.size_toArray,List.length_replicate]
 split
 ·simp
 ·rfl
theorem fw (t:ByteArray) (n:Nat) (h:t.size≤n):(iA t n).size=n:=by
 unfold iA
 rw[ByteArray.size_append,uc];omega
theorem JB (t:ByteArray) (n i:Nat):bt (iA t n) (i:Int)=if i<t.size then bt t (i:Int)else 0:=by
 unfold iA
 rw[nP]
 split
 ·rfl
 ·exact JA _ _
theorem gM (t:ByteArray) (n:Nat) (h:t.size≤n) (hn:n≤1048576):E5 t (n:Int)=some (iA t n):=by
 have hz:=fw t n h
 rw[Ny,aU (n:=(n:Int)-(t.size:Int)) (by omega) (by omega),show(n:Int)-(t.size:Int)=((n-t.size:Nat):Int) by omega,Ki]
 rw[show(decide (0≤((n-t.size:Nat):Int))&&decide (((n-t.size:Nat):Int)≤9223372036854775807)&&decide (ByteArray.size (⟨#[0]⟩:ByteArray)*(((n-t.size:Nat):Int)).toNat≤140737488355328))=true by
  rw[show ByteArray.size (⟨#[0]⟩:ByteArray)=1 from rfl];simp;omega]
 simp only[ae,af]
 rw[uc,ab (show t.size+(n-t.size)≤9223372036854775807 by omega)];rfl
theorem rk {F:Int→Int} (b:Int) (t:ByteArray) (n:Nat) (h:t.size≤n) (hz:oP F b n):updF F b (iA t n)=updF F b t:=by
 funext x
 unfold updF
 rw[fw t n h]
 by_cases c:b≤x∧x<b+(n:Int)
 ·rw[au c]
  obtain⟨i,hi⟩:∃i:Nat,x-b=(i:Int):=⟨(x-b).toNat,by omega⟩
  rw[hi,JB]
  by_cases c2:i<t.size
  ·rw[au c2,au (by omega)]
  ·rw[ap c2,ap (by omega),hz x c.1 c.2]
 ·rw[ap c,ap (by omega)]
theorem i7 {F:Int→Int} (hF:FR F) (L:List (Int×Int)) (hL:fu L) (b p:Int) (n:Nat) (t:ByteArray) (hn:L.length+n≤64) (hb:∀q∈L,q.1<b) (hb0:0≤b∧b+128*(n:Int)≤1048575) (hz:oP F b (128*n)) (ht:t.size=128*n):
  rW (aG F L) b p t=some (aG (updF F b t) (L++nR b p n)):=by
 rw[Nx]
 have hL':fu (L++nR b p n):=⟨by rw[List.length_append,rh];omega,fun q hq=>by
  rcases List.mem_append.1 hq with hq|hq
  ·exact hL.base q hq
  ·have:=BC hq;omega⟩
 have h:=xS (F:=F) CA (fun L b p h1 h2 h3=>HQ L h1 b p h2 h3) (fun m i=>rW.a b p t m [] i) L b p n hn hb ⟨by omega,by omega⟩ hz (fun m i hi=>by
  show rW.a b p t m [] (128*(i:Int))=_
  rw[rW.a_eq,ht,ab (show 128*(i:Int)< ((128*n:Nat):Int) by omega),ae,aU (n:=b+128*(i:Int)) (by omega) (by omega),aU (n:=128*(i:Int)+128) (by omega) (by omega),show 128*(i:Int)+128=128*((i+1:Nat):Int) by omega]) n 0 (by omega)
 have h':rW.a b p t (aG F (L++nR b p 0)) [] (128*((0:Nat):Int))=rW.a b p t (aG F (L++nR b p n)) [] (128*(n:Int)):=h
 rw[show nR b p 0=[] from rfl,List.append_nil,show 128*((0:Nat):Int)=0 from rfl]at h'
 rw[h',rW.a_eq,ht,am (show¬128*(n:Int)< ((128*n:Nat):Int) by omega),ac,xR hF b t ⟨by omega,by omega,by omega⟩ _ hL'];rfl
theorem gO {F:Int→Int} (L:List (Int×Int)) (b p:Int) (n:Nat) (hn:L.length+n≤64) (hb:∀q∈L,q.1<b) (hb0:0≤b∧b+128*(n:Int)≤1048575) (hz:oP F b (128*n)):
  qA (aG F L) b (128*(n:Int)) p=some (aG F (L++nR b p n)):=by
 rw[Lv]
 have h:=xS (F:=F) A8 (fun L b p h1 h2 h3=>HR L h1 b p h2 h3) (fun m i=>qA.a b (128*(n:Int)) p m [] i) L b p n hn hb ⟨by omega,by omega⟩ hz (fun m i hi=>by
  show qA.a b (128*(n:Int)) p m [] (128*(i:Int))=_
  rw[qA.a_eq,ab (show 128*(i:Int)<128*(n:Int) by omega),ae,aU (n:=b+128*(i:Int)) (by omega) (by omega),aU (n:=128*(i:Int)+128) (by omega) (by omega),show 128*(i:Int)+128=128*((i+1:Nat):Int) by omega]) n 0 (by omega)
 have h':qA.a b (128*(n:Int)) p (aG F (L++nR b p 0)) [] (128*((0:Nat):Int))=qA.a b (128*(n:Int)) p (aG F (L++nR b p n)) [] (128*(n:Int)):=h
 rw[show nR b p 0=[] from rfl,List.append_nil,show 128*((0:Nat):Int)=0 from rfl]at h'
 rw[h',qA.a_eq,am (show¬128*(n:Int)<128*(n:Int) by omega),ac]
def L1:List (Int×Int):=nR 4096 4 8
def L2:List (Int×Int):=L1++nR 8192 4 8
def L3:List (Int×Int):=L2++nR 16384 3 2
def L4:List (Int×Int):=L3++nR 20480 3 2
def L5:List (Int×Int):=L4++nR 32768 11 4
def L6:List (Int×Int):=L5++nR 33792 11 4
def L7:List (Int×Int):=L6++nR 34816 11 4
def BL:List (Int×Int):=L7++nR 35840 11 4
def FG (L:List (Int×Int)) (m:Int):Bool:=decide (L.length≤64)&&L.all fun q=>decide (0≤q.1)&&decide (q.1≤1048575)&&decide (q.1<m)
theorem dl {L:List (Int×Int)} {m:Int} (h:FG L m=true):fu L∧∀q∈L,q.1<m:=by
 unfold FG at h
 rw[ay,aT,List.all_eq_true]at h
 refine⟨⟨h.1,fun q hq=> ?_⟩,fun q hq=> ?_⟩
 ·have:=h.2 q hq;simp only[ay,aT]at this;exact this.1
 ·have:=h.2 q hq;simp only[ay,aT]at this;exact this.2
theorem b1:FG L1 8192=true:=by decide
theorem b2:FG L2 16384=true:=by decide
theorem b3:FG L3 20480=true:=by decide
theorem b4:FG L4 32768=true:=by decide
theorem b5:FG L5 33792=true:=by decide
theorem b6:FG L6 34816=true:=by decide
theorem b7:FG L7 35840=true:=by decide
theorem b8:FG BL 40000=true:=by decide
def zF:Int→Int:=fun _=>0
def lC (im:gm):Int→Int:=updF zF 4096 im.1
def F0 (im:gm):Int→Int:=updF (lC im) 16384 im.2.1
theorem rm:FR zF:=fun _=>⟨Int.le_refl 0,show(0:Int)≤255 by omega⟩
theorem ia (im:gm):FR (lC im):=eC rm _ _
theorem rn (im:gm):FR (F0 im):=eC (ia im) _ _
theorem gP {im:gm} (h:im.1.size≤1024) (b:Int) (n:Nat) (hb:5120≤b):oP (lC im) b n:=by
 intro x h1 h2
 unfold lC updF
 rw[ap (by omega)];rfl
theorem pr {im:gm} (h:im.1.size≤1024) (h':im.2.1.size≤256) (b:Int) (n:Nat) (hb:16640≤b):oP (F0 im) b n:=by
 intro x h1 h2
 unfold F0 updF
 rw[ap (by omega)]
 exact gP h b n (by omega) x h1 h2
theorem jE (b:Int) (n:Nat):oP zF b n:=fun _ _ _=>rfl
theorem ve {F:Int→Int} (b:Int) (n:Nat) (hz:oP F b n):updF F b (iA ⟨#[]⟩ n)=F:=by
 rw[rk b _ n (by show(0:Nat)≤n;omega) hz,rg _ _ _ rfl]
theorem jF (im:gm) (hc:im.1.size≤1024) (hd:im.2.1.size≤256) (L:List (Int×Int)) (i:Nat) (hi:i<4) (m:Int) (hL:FG L m=true) (hm:m=32768+1024*(i:Int)) (hn:L.length+4≤64):
  E6.a [] (aG (F0 im) L) (i:Int)=E6.a [] (aG (F0 im) (L++nR m 11 4)) ((i+1:Nat):Int):=by
 obtain⟨h1,h2⟩:=dl hL
 rw[E6.a_eq,ab (show(i:Int)<4 by omega),show E5 (⟨#[]⟩:ByteArray) 512=some (iA ⟨#[]⟩ 512) from gM _ 512 (by show(0:Nat)≤512;omega) (by omega),aU (n:=1024*(i:Int)) (by omega) (by omega),aU (n:=32768+1024*(i:Int)) (by omega) (by omega),aU (n:=(i:Int)+1) (by omega) (by omega),←hm]
 simp only[ae,af]
 rw[i7 (rn im) L h1 m 11 4 (iA ⟨#[]⟩ 512) hn h2 (by omega) (pr hc hd m 512 (by omega)) (fw _ 512 (by show(0:Nat)≤512;omega)),ve m 512 (pr hc hd m 512 (by omega))]
 simp only[af]
 rw[show(i:Int)+1=((i+1:Nat):Int) by omega]
theorem xT (im:gm) (hc:im.1.size≤1024) (hd:im.2.1.size≤256):E6 im=some (aG (F0 im) BL):=by
 have e0:(0:Nat)≤1024:=by omega
 rw[Nz,show E5 im.1 1024=some (iA im.1 1024) from gM _ 1024 hc (by omega),show E5 (⟨#[]⟩:ByteArray) 1024=some (iA ⟨#[]⟩ 1024) from gM _ 1024 (by show(0:Nat)≤1024;omega) (by omega),
  show E5 im.2.1 256=some (iA im.2.1 256) from gM _ 256 hd (by omega),show E5 (⟨#[]⟩:ByteArray) 256=some (iA ⟨#[]⟩ 256) from gM _ 256 (by show(0:Nat)≤256;omega) (by omega)]
 simp only[af]
 have a1:=i7 rm [] ⟨by simp,fun q hq=>by cases hq⟩ 4096 4 8 (iA im.1 1024) (by simp) (fun q hq=>by cases hq) (by omega) (jE _ _) (fw _ 1024 hc)
 rw[rk 4096 im.1 1024 hc (jE _ _),List.nil_append]at a1
 rw[show rW [] 4096 4 (iA im.1 1024)=some (aG (lC im) L1) from a1]
 simp only[af]
 have a2:=i7 (ia im) L1 (dl b1).1 8192 4 8 (iA ⟨#[]⟩ 1024) (by decide) (dl b1).2 (by omega) (gP hc _ _ (by omega)) (fw _ 1024 (by show(0:Nat)≤1024;omega))
 rw[ve 8192 1024 (gP hc _ _ (by omega))]at a2
 rw[show rW (aG (lC im) L1) 8192 4 (iA ⟨#[]⟩ 1024)=some (aG (lC im) L2) from a2]
 simp only[af]
 have a3:=i7 (ia im) L2 (dl b2).1 16384 3 2 (iA im.2.1 256) (by decide) (dl b2).2 (by omega) (gP hc _ _ (by omega)) (fw _ 256 hd)
 rw[rk 16384 im.2.1 256 hd (gP hc _ _ (by omega))]at a3
 rw[show rW (aG (lC im) L2) 16384 3 (iA im.2.1 256)=some (aG (F0 im) L3) from a3]
 simp only[af]
 have a4:=i7 (rn im) L3 (dl b3).1 20480 3 2 (iA ⟨#[]⟩ 256) (by decide) (dl b3).2 (by omega) (pr hc hd _ _ (by omega)) (fw _ 256 (by show(0:Nat)≤256;omega))
 rw[ve 20480 256 (pr hc hd _ _ (by omega))]at a4
 rw[show rW (aG (F0 im) L3) 20480 3 (iA ⟨#[]⟩ 256)=some (aG (F0 im) L4) from a4]
 simp only[af]
 have s0:=jF im hc hd L4 0 (by omega) 32768 b4 (by omega) (by decide)
 have s1:=jF im hc hd L5 1 (by omega) 33792 b5 (by omega) (by decide)
 have s2:=jF im hc hd L6 2 (by omega) 34816 b6 (by omega) (by decide)
 have s3:=jF im hc hd L7 3 (by omega) 35840 b7 (by omega) (by decide)
 refine s0.trans (s1.trans (s2.trans (s3.trans ?_)))
 rw[E6.a_eq,show decide (((3+1:Nat):Int)<4)=false by decide,ac];rfl
theorem jG (L:List (Int×Int)) (i:Nat) (hi:i<4) (m:Int) (hL:FG L m=true) (hm:m=32768+1024*(i:Int)) (hn:L.length+4≤64):
  EI.a [] (aG zF L) (i:Int)=EI.a [] (aG zF (L++nR m 11 4)) ((i+1:Nat):Int):=by
 obtain⟨h1,h2⟩:=dl hL
 rw[EI.a_eq,ab (show(i:Int)<4 by omega),aU (n:=1024*(i:Int)) (by omega) (by omega),aU (n:=32768+1024*(i:Int)) (by omega) (by omega),aU (n:=(i:Int)+1) (by omega) (by omega),←hm]
 rw[show qA (aG zF L) m 512 11=some (aG zF (L++nR m 11 4)) from gO L m 11 4 hn h2 (by omega) (jE _ _)]
 simp only[af,ae]
 rw[show(i:Int)+1=((i+1:Nat):Int) by omega]
theorem Ac:EI=some (aG zF BL):=by
 rw[Lw]
 rw[show qA [] 4096 1024 4=some (aG zF L1) from gO (F:=zF) [] 4096 4 8 (by simp) (fun q hq=>by cases hq) (by omega) (jE _ _)]
 simp only[af]
 rw[show qA (aG zF L1) 8192 1024 4=some (aG zF L2) from gO L1 8192 4 8 (by decide) (dl b1).2 (by omega) (jE _ _)]
 simp only[af]
 rw[show qA (aG zF L2) 16384 256 3=some (aG zF L3) from gO L2 16384 3 2 (by decide) (dl b2).2 (by omega) (jE _ _)]
 simp only[af]
 rw[show qA (aG zF L3) 20480 256 3=some (aG zF L4) from gO L3 20480 3 2 (by decide) (dl b3).2 (by omega) (jE _ _)]
 simp only[af]
 have s0:=jG L4 0 (by omega) 32768 b4 (by omega) (by decide)
 have s1:=jG L5 1 (by omega) 33792 b5 (by omega) (by decide)
 have s2:=jG L6 2 (by omega) 34816 b6 (by omega) (by decide)
 have s3:=jG L7 3 (by omega) 35840 b7 (by omega) (by decide)
 refine s0.trans (s1.trans (s2.trans (s3.trans ?_)))
 rw[EI.a_eq,show decide (((3+1:Nat):Int)<4)=false by decide,ac];rfl
theorem JC:fu BL:=(dl b8).1
theorem vf:BL.length=36:=by decide
def oQ (i:Nat):Int:=(BL.getD i (0,0)).1
theorem Ku (i:Nat):(rd (τ:=gu) BL (i:Int)).1=oQ i:=by
 unfold rd oQ
 rw[aB];rfl
theorem Ad:∀i j:Fin 36,i<j→oQ i+128≤oQ j:=by decide+kernel
theorem JD:z8 BL:=by
 intro i j a hi hj h1 h2
 rw[vf]at hi hj
 rw[Ku]at h1 h2
 unfold eE at h1 h2
 rw[ay,aT,aT]at h1 h2
 rcases Nat.lt_trichotomy i j with h|h|h
 ·have:=Ad ⟨i,hi⟩ ⟨j,hj⟩ h
  simp only at this;omega
 ·exact h
 ·have:=Ad ⟨j,hj⟩ ⟨i,hi⟩ h
  simp only at this;omega
theorem vg (i:Nat) (hi:i<36) (x:Int) (h1:oQ i≤x) (h2:x≤oQ i+127):0≤dV BL x:=by
 unfold dV
 rcases ce (fun i=>eE (rd (τ:=gu) BL (i:Int)).1 x) BL.length 0 with⟨g1,g2⟩|⟨j,g1,_⟩
 ·have:=g2 i (Nat.zero_le _) (by rw[vf];omega)
  rw[Ku]at this
  unfold eE at this
  rw[ab h1,ab h2]at this
  cases this
 ·rw[g1];omega
theorem vh:∀i:Fin 8,oQ i=4096+128*((i:Nat):Int):=by decide+kernel
theorem rp:∀i:Fin 8,oQ (8+i)=8192+128*((i:Nat):Int):=by decide+kernel
theorem JE:∀i:Fin 2,oQ (16+i)=16384+128*((i:Nat):Int):=by decide+kernel
theorem ud {x:Int} (h1:4096≤x) (h2:x<5120):0≤dV BL x:=by
 have:=vh ⟨((x-4096)/128).toNat,by omega⟩
 simp only at this
 exact vg ((x-4096)/128).toNat (by omega) x (by omega) (by omega)
theorem Ae {x:Int} (h1:8192≤x) (h2:x<9216):0≤dV BL x:=by
 have:=rp ⟨((x-8192)/128).toNat,by omega⟩
 simp only at this
 exact vg (8+((x-8192)/128).toNat) (by omega) x (by omega) (by omega)
theorem DA {x:Int} (h1:16384≤x) (h2:x<16640):0≤dV BL x:=by
 have:=JE ⟨((x-16384)/128).toNat,by omega⟩
 simp only at this
 exact vg (16+((x-16384)/128).toNat) (by omega) x (by omega) (by omega)
theorem nS {F:Int→Int} (hF:FR F) (a:Int) (t:ByteArray) (h1: -1000000000≤a) (h2:a+(t.size:Int)≤1000000000) (hx:∀x,a≤x→x<a+(t.size:Int)→0≤dV BL x):yg (aG F BL) a t=some (aG (updF F a t) BL):=by
 rw[Lt];exact HM BL JC JD [] t.size F a t hF (Nat.le_refl _) h1 h2 hx
theorem DB (im:gm) (hc:im.1.size≤1024) (hd:im.2.1.size≤256):SX im=some (aG (F0 im) BL):=by
 rw[Lx,Ac]
 simp only[af]
 rw[nS rm 4096 im.1 (by omega) (by omega) fun x h1 h2=>ud h1 (by omega)]
 simp only[af]
 rw[show updF zF 4096 im.1=lC im from rfl,nS (ia im) 16384 im.2.1 (by omega) (by omega) fun x h1 h2=>DA h1 (by omega)]
 rfl
theorem aw {τ:Ty} (l:List τ.den) (i:Nat) (h:i<l.length):rd (τ:=τ) l (i:Int)∈l:=by rw[aY l i h];exact List.getElem_mem h
theorem rq {τ:Ty} {l:List τ.den} {x:τ.den} (h:x∈l):∃i:Nat,i<l.length∧rd (τ:=τ) l (i:Int)=x:=by
 obtain⟨i,hi,e⟩:=List.mem_iff_getElem.1 h
 exact⟨i,hi,by rw[aY l i hi];exact e⟩
theorem mT {t:List dr} {n:ByteArray}:cp t n<0↔∀e∈t,e.1≠n:=by
 unfold cp
 rcases ce (fun i=>decide ((rd (τ:=aW) t (i:Int)).1=n)) t.length 0 with⟨h1,h2⟩|⟨j,h1,h2,h3,h4,_⟩
 ·refine⟨fun _ e he hn=> ?_,fun _=>by rw[h1];decide⟩
  obtain⟨i,hi,hr⟩:=rq (τ:=aW) he
  have:=h2 i (Nat.zero_le _) (by omega)
  rw[decide_eq_false_iff_not,hr]at this
  exact this hn
 ·refine⟨fun h=>by rw[h1]at h;omega,fun h=> ?_⟩
  rw[aT]at h4
  exact absurd h4 (h _ (aw (τ:=aW) t j (by omega)))
structure rt (t:List dr):Prop where
 len:t.length≤64
 ent:∀e∈t,de e=true
 dis:t.Pairwise fun a b=>a.1≠b.1
theorem xU {t:List dr}:oM t=true↔rt t:=by
 unfold oM
 rw[ay,aT,eS]
 have key:∀i:Nat,i<t.length→(xx t i=true↔de (rd (τ:=aW) t (i:Int))=true∧∀e∈t.take i,e.1≠(rd (τ:=aW) t (i:Int)).1):=by
  intro i hi
  unfold xx
  rw[←mT]
  cases de (rd (τ:=aW) t (i:Int))<;>simp
 constructor
 ·rintro⟨h1,h2⟩
  refine⟨h1,fun e he=> ?_, ?_⟩
  ·obtain⟨i,hi,hr⟩:=rq (τ:=aW) he
   rw[←hr];exact((key i hi).1 (h2 i (Nat.zero_le _) (by omega))).1
  ·rw[List.pairwise_iff_getElem]
   intro i j hi hj hij
   have:=((key j hj).1 (h2 j (Nat.zero_le _) (by omega))).2 t[i] (by rw[List.mem_take_iff_getElem];exact⟨i,by omega,rfl⟩)
   rw[aY (τ:=aW) t j hj]at this
   exact this
 ·rintro⟨h1,h2,h3⟩
  refine⟨h1,fun i _ hi=>(key i (by omega)).2 ⟨h2 _ (aw (τ:=aW) t i (by omega)),fun e he=> ?_⟩⟩
  obtain⟨j,hj,rfl⟩:=List.mem_take_iff_getElem.1 he
  rw[aY (τ:=aW) t i (by omega)]
  exact(List.pairwise_iff_getElem.1 h3) j i (by omega) (by omega) (by omega)
def mU (o:bL) (l:fh) (owner:Int) (i:Nat):dr:=((rd (τ:=aP) o.2.2.1 (i:Int)).1,1,rd (τ:= .int .i64) l.1 (i:Int),(dW o i:Int),(rd (τ:=aP) o.2.2.1 (i:Int)).2.2.1,owner)
def vj (o:bL) (l:fh) (owner:Int) (i:Nat):dr:=((rd (τ:=bB) o.2.2.2.1 (i:Int)).1,2,rd (τ:= .int .i64) l.2.2.1 (i:Int),(lA o i:Int),0,owner)
def eY (t:List dr) (o:bL) (l:fh) (owner:Int):List dr:=
 (t++cZ (fun i=> !(rd (τ:=aP) o.2.2.1 (i:Int)).2.1) (mU o l owner) 0 o.2.2.1.length)++bn (vj o l owner) 0 o.2.2.2.1.length
theorem kH (n:Nat) (h:n≤4096):aH n 56=true:=by simp[aH];omega
theorem ru (n:Nat) (h:n≤4096):aH n 40=true:=by simp[aH];omega
theorem l7 (t:List dr) (o:bL) (l:fh) (owner:Int) (ht:t.length≤64) (hz:ObjSz o) (hl:ft o l):pp t o l owner=some (eY t o l owner):=by
 have h1:=hz.f
 have h2:=hz.d
 have hf:=cv (fun i=> !(rd (τ:=aP) o.2.2.1 (i:Int)).2.1) (mU o l owner) o.2.2.1.length 0
 rw[OA,QA,kH _ (by omega)]
 simp only[ae,af]
 rw[dJ (L:=fun acc i=>pp.a owner o l acc o.2.2.1 (o.2.2.1.length:Int) i) (fun i=> !(rd (τ:=aP) o.2.2.1 (i:Int)).2.1) (mU o l owner) o.2.2.1.length t fun acc i hi ha=> ?_]
 ·show pp.a owner o l _ o.2.2.1 (o.2.2.1.length:Int) (o.2.2.1.length:Int)=_
  rw[pp.a_eq,ai,am (az _),ac]
  rw[cM (L:=fun acc i=>pp.b owner l acc o.2.2.2.1 (o.2.2.2.1.length:Int) i) (vj o l owner) o.2.2.2.1.length (t++cZ (fun i=> !(rd (τ:=aP) o.2.2.1 (i:Int)).2.1) (mU o l owner) 0 o.2.2.1.length) fun acc i hi ha=> ?_]
  ·show pp.b owner l _ o.2.2.2.1 (o.2.2.2.1.length:Int) (o.2.2.2.1.length:Int)=_
   rw[pp.b_eq,ai,am (az _),ac];rfl
  ·show pp.b owner l acc o.2.2.2.1 (o.2.2.2.1.length:Int) (i:Int)=_
   rw[List.length_append]at ha
   rw[pp.b_eq,ai,aj,ab hi,an i _ hi (by omega),aj,show decide (i<l.2.2.1.length)=true from ab (by rw[hl.d];exact hi),kH _ (by simp;omega)];rfl
 ·show pp.a owner o l acc o.2.2.1 (o.2.2.1.length:Int) (i:Int)=_
  rw[pp.a_eq,ai,aj,ab hi,an i _ hi (by omega),aj,show decide (i<l.1.length)=true from ab (by rw[hl.a];exact hi),kH _ (by simp;omega)]
  cases (rd (τ:=aP) o.2.2.1 (i:Int)).2.1<;>rfl
theorem sH (t:List dr) (o:bL) (l:fh) (owner:Int) (ht:t.length≤64) (hz:ObjSz o) (hl:ft o l):rU t o l owner=some (eY t o l owner):=by
 have h1:=hz.f
 have h2:=hz.d
 have hf:=cv (fun i=> !(rd (τ:=aP) o.2.2.1 (i:Int)).2.1) (mU o l owner) o.2.2.1.length 0
 rw[LZ,kH _ (by omega)]
 simp only[ae]
 rw[dJ (L:=fun acc i=>rU.a owner o l acc i) (fun i=> !(rd (τ:=aP) o.2.2.1 (i:Int)).2.1) (mU o l owner) o.2.2.1.length t fun acc i hi ha=> ?_]
 ·rw[rU.a_eq,ai,am (az _),ac]
  rw[cM (L:=fun acc i=>rU.b owner o l acc i) (vj o l owner) o.2.2.2.1.length (t++cZ (fun i=> !(rd (τ:=aP) o.2.2.1 (i:Int)).2.1) (mU o l owner) 0 o.2.2.1.length) fun acc i hi ha=> ?_]
  ·rw[rU.b_eq,ai,am (az _),ac];rfl
  ·show rU.b owner o l acc (i:Int)=_
   rw[List.length_append]at ha
   rw[rU.b_eq,ai,aj,ab hi,an i _ hi (by omega),aj,aj,show decide (i<l.2.2.1.length)=true from ab (by rw[hl.d];exact hi),show decide (i<l.2.2.2.length)=true from ab (by rw[hl.b];exact hi),kH _ (by simp;omega),hl.bs i hi];rfl
 ·show rU.a owner o l acc (i:Int)=_
  rw[rU.a_eq,ai,aj,ab hi,an i _ hi (by omega),aj,aj,show decide (i<l.1.length)=true from ab (by rw[hl.a];exact hi),show decide (i<l.2.1.length)=true from ab (by rw[hl.c];exact hi),kH _ (by simp;omega),hl.cs i hi]
  cases (rd (τ:=aP) o.2.2.1 (i:Int)).2.1<;>rfl
theorem sI (o:bL) (l:fh) (hz:ObjSz o) (hl:ft o l):uT l o=some true:=by
 have h1:=hz.f
 have h2:=hz.d
 rw[Ob,hl.a,hl.c,hl.d,hl.b]
 simp only[decide_true,aM,ac]
 rw[dq (L:=uT.a l o o.2.2.1 (o.2.2.1.length:Int)) (fun _=>true) o.2.2.1.length ?_ fun i hi=> ?_]
 ·rw[(eS _ _ _).2 fun _ _ _=>rfl]
 ·rw[uT.a_eq,ai,am (az _),ac]
  rw[dq (L:=uT.b l o.2.2.2.1 (o.2.2.2.1.length:Int)) (fun _=>true) o.2.2.2.1.length ?_ fun i hi=> ?_]
  ·rw[(eS _ _ _).2 fun _ _ _=>rfl]
  ·rw[uT.b_eq,ai,am (az _),ac]
  ·rw[uT.b_eq,ai,aj,ab hi,an i _ hi (by omega),aj,show decide (i<l.2.2.2.length)=true from ab (by rw[hl.b];exact hi),hl.bs i hi,show decide ((lA o i:Int)=((rd (τ:=bB) o.2.2.2.1 (i:Int)).2.size:Int))=true from ab rfl];rfl
 ·rw[uT.a_eq,ai,aj,ab hi,an i _ hi (by omega),aj,show decide (i<l.2.1.length)=true from ab (by rw[hl.c];exact hi),hl.cs i hi,show decide ((dW o i:Int)=((rd (τ:=aP) o.2.2.1 (i:Int)).2.2.2.size:Int))=true from ab rfl];rfl
theorem cA {α:Type} (p:Nat→Bool) (f:Nat→α) (x:α):∀k i,x∈cZ p f i k→∃j,i≤j∧j<i+k∧p j=true∧f j=x
 |0,i,h=>by cases h
 |k+1,i,h=>by
  rw[cZ]at h
  cases hp:p i with
  |false=>
   rw[hp,ac]at h
   obtain⟨j,h1,h2,h3⟩:=cA p f x k (i+1) h
   exact⟨j,by omega,by omega,h3⟩
  |true=>
   rw[hp,ae]at h
   rcases List.mem_cons.1 h with rfl|h
   ·exact⟨i,Nat.le_refl _,by omega,hp,rfl⟩
   ·obtain⟨j,h1,h2,h3⟩:=cA p f x k (i+1) h
    exact⟨j,by omega,by omega,h3⟩
theorem rv {α:Type} (p:Nat→Bool) (f:Nat→α) (R:α→α→Prop):∀k i,(∀a b,i≤a→a<b→b<i+k→R (f a) (f b))→(cZ p f i k).Pairwise R
 |0,_,_=>List.Pairwise.nil
 |k+1,i,h=>by
  have ih:=rv p f R k (i+1) fun a b h1 h2 h3=>h a b (by omega) h2 (by omega)
  rw[cZ]
  cases p i with
  |false=>exact ih
  |true=>
   rw[ae]
   refine List.Pairwise.cons (fun x hx=> ?_) ih
   obtain⟨j,h1,h2,_,rfl⟩:=cA p f x k (i+1) hx
   exact h i j (Nat.le_refl _) (by omega) (by omega)
theorem k7 {α:Type} (f:Nat→α) (R:α→α→Prop):∀k i,(∀a b,i≤a→a<b→b<i+k→R (f a) (f b))→(bn f i k).Pairwise R
 |0,_,_=>List.Pairwise.nil
 |k+1,i,h=>by
  have ih:=k7 f R k (i+1) fun a b h1 h2 h3=>h a b (by omega) h2 (by omega)
  rw[bn]
  refine List.Pairwise.cons (fun x hx=> ?_) ih
  obtain⟨j,h1,h2,rfl⟩:=(bY f x k (i+1)).1 hx
  exact h i j (Nat.le_refl _) (by omega) (by omega)
theorem eg.dis_ff {o:bL} (h:eg o) (a b:Nat) (hab:a<b) (hb:b<o.2.2.1.length):(rd (τ:=aP) o.2.2.1 (a:Int)).1≠(rd (τ:=aP) o.2.2.1 (b:Int)).1:=by
 have:=(iZ (h.fun_ b hb)).2.1
 rw[mL o b (by omega)]at this
 intro e
 have:iw (bn (fun i=>(rd (τ:=aP) o.2.2.1 (i:Int)).1) 0 b) (rd (τ:=aP) o.2.2.1 (b:Int)).1=true:=kz.2 ((bY _ _ _ _).2 ⟨a,Nat.zero_le _,by omega,e⟩)
 simp_all
theorem eg.dis_fd {o:bL} (h:eg o) (a b:Nat) (ha:a<o.2.2.1.length) (hb:b<o.2.2.2.1.length):(rd (τ:=aP) o.2.2.1 (a:Int)).1≠(rd (τ:=bB) o.2.2.2.1 (b:Int)).1:=by
 have:=(i6 (h.dat b hb)).2.1
 rw[jy o b (by omega),qW,Bool.or_eq_false_iff]at this
 intro e
 have h2:iw (bn (fun i=>(rd (τ:=aP) o.2.2.1 (i:Int)).1) 0 o.2.2.1.length) (rd (τ:=bB) o.2.2.2.1 (b:Int)).1=true:=kz.2 ((bY _ _ _ _).2 ⟨a,Nat.zero_le _,by omega,e⟩)
 rw[h2]at this
 exact absurd this.1 (by decide)
theorem eg.dis_dd {o:bL} (h:eg o) (a b:Nat) (hab:a<b) (hb:b<o.2.2.2.1.length):(rd (τ:=bB) o.2.2.2.1 (a:Int)).1≠(rd (τ:=bB) o.2.2.2.1 (b:Int)).1:=by
 have:=(i6 (h.dat b hb)).2.1
 rw[jy o b (by omega),qW,Bool.or_eq_false_iff]at this
 intro e
 have h2:iw (bn (fun i=>(rd (τ:=bB) o.2.2.2.1 (i:Int)).1) 0 b) (rd (τ:=bB) o.2.2.2.1 (b:Int)).1=true:=kz.2 ((bY _ _ _ _).2 ⟨a,Nat.zero_le _,by omega,e⟩)
 rw[h2]at this
 exact absurd this.2 (by decide)
theorem oz {t:List dr} {o:bL} (h:gL t o=0):(∀i,i<o.2.2.1.length→E8 t o i=0)∧(∀i,i<o.2.2.2.1.length→Kr t o i=0):=by
 unfold gL at h
 by_cases h1:(bw (E8 t o) 0 o.2.2.1.length).2=0
 ·rw[au h1]at h
  exact⟨fun i hi=>(dI _ _ _).1 h1 i (Nat.zero_le _) (by omega),fun i hi=>(dI _ _ _).1 h i (Nat.zero_le _) (by omega)⟩
 ·rw[ap h1]at h;exact absurd h h1
theorem JF {t:List dr} {o:bL} {i:Nat} (h:E8 t o i=0) (hr:(rd (τ:=aP) o.2.2.1 (i:Int)).2.1=false):cp t (rd (τ:=aP) o.2.2.1 (i:Int)).1<0:=by
 unfold E8 at h
 rw[hr]at h
 simp only[Bool.false_eq_true,if_false]at h
 split at h
 ·cases h
 ·omega
theorem JG {t:List dr} {o:bL} {i:Nat} (h:E8 t o i=0) (hr:(rd (τ:=aP) o.2.2.1 (i:Int)).2.1=true):0≤cp t (rd (τ:=aP) o.2.2.1 (i:Int)).1∧(rd (τ:=aW) t (cp t (rd (τ:=aP) o.2.2.1 (i:Int)).1)).2.1=1:=by
 unfold E8 at h
 rw[hr]at h
 simp only[if_true]at h
 split at h
 ·cases h
 ·split at h
  ·rename_i h1 h2;exact⟨by omega,h2⟩
  ·cases h
theorem JH {t:List dr} {o:bL} {i:Nat} (h:Kr t o i=0):cp t (rd (τ:=bB) o.2.2.2.1 (i:Int)).1<0:=by
 unfold Kr at h
 split at h
 ·cases h
 ·omega
theorem nT {x:Int} (h:Ks x):bS x=true:=by
 unfold bS
 obtain⟨h1,h2,h3⟩:=h
 rw[show(decide (0≤x)&&decide (x≤1048575))=true by simp;omega,ae,aT,Int.tmod_eq_emod_of_nonneg h1];omega
theorem oA (t:List dr) (o:bL) (l:fh) (owner:Int) (hz:ObjSz o):(eY t o l owner).length≤t.length+8:=by
 have h1:=hz.f
 have h2:=hz.d
 have hf:=cv (fun i=> !(rd (τ:=aP) o.2.2.1 (i:Int)).2.1) (mU o l owner) o.2.2.1.length 0
 unfold eY
 rw[List.length_append,List.length_append,aO];omega
theorem JI {t:List dr} {o:bL} {l:fh} {owner:Int} (ht:rt t) (ho:eg o) (hl:ft o l) (hn:gL t o=0) (how:1≤owner∧owner≤6) (hlen:t.length≤56):rt (eY t o l owner):=by
 obtain⟨n1,n2⟩:=oz hn
 refine⟨by have:=oA t o l owner ho.toObjSz;omega,fun e he=> ?_, ?_⟩
 ·unfold eY at he
  rcases List.mem_append.1 he with he|he
  ·rcases List.mem_append.1 he with he|he
   ·exact ht.ent e he
   ·obtain⟨j,_,hj,_,rfl⟩:=cA _ _ _ _ _ he
    have hf:=iZ (ho.fun_ j (by omega))
    have hs:=ho.fsz_pos j (by omega)
    have ha:=hl.fa j (by omega)
    unfold de mU
    simp only
    rw[hf.1,nT ha,bF.2 (show(1:Int)≤(dW o j:Int)∧(dW o j:Int)≤1024 by omega),bF.2 (show 0≤owner∧owner≤6 by omega)]
    unfold tQ
    rw[hf.2.2.1];rfl
  ·obtain⟨j,_,hj,rfl⟩:=(bY _ _ _ _).1 he
   have hf:=i6 (ho.dat j (by omega))
   have hs:=ho.dsz_pos j (by omega)
   have ha:=hl.ds j (by omega)
   unfold de vj
   simp only
   rw[hf.1,nT ha,bF.2 (show(1:Int)≤(lA o j:Int)∧(lA o j:Int)≤1024 by omega),bF.2 (show 0≤owner∧owner≤6 by omega)]
   rfl
 ·unfold eY
  rw[List.pairwise_append,List.pairwise_append]
  refine⟨⟨ht.dis,rv _ _ _ _ _ fun a b _ h2 h3=>ho.dis_ff a b h2 (by omega),fun a ha b hb=> ?_⟩,k7 _ _ _ _ fun a b _ h2 h3=>ho.dis_dd a b h2 (by omega),fun a ha b hb=> ?_⟩
  ·obtain⟨j,_,hj,hp,rfl⟩:=cA _ _ _ _ _ hb
   have:=JF (n1 j (by omega)) (by simpa using hp)
   exact mT.1 this a ha
  ·obtain⟨k,_,hk,rfl⟩:=(bY _ _ _ _).1 hb
   rcases List.mem_append.1 ha with ha|ha
   ·exact mT.1 (JH (n2 k (by omega))) a ha
   ·obtain⟨j,_,hj,hp,rfl⟩:=cA _ _ _ _ _ ha
    exact ho.dis_fd j k (by omega) (by omega)
theorem oB (a:bG) (n:Nat):(aL a n).1.1=a.1∧(aL a n).1.2.1=a.2.1:=by
 unfold aL;split<;>exact⟨rfl,rfl⟩
theorem mV (sz:Nat→Nat):∀k i a,(cK sz a i k).1.1=a.1∧(cK sz a i k).1.2.1=a.2.1
 |0,_,_=>⟨rfl,rfl⟩
 |k+1,i,a=>by
  have h:=mV sz k (i+1) (aL a (sz i)).1
  have h2:=oB a (sz i)
  rw[cK];exact⟨h.1.trans h2.1,h.2.trans h2.2⟩
theorem DC {a:bG} (h:ct a) (n:Nat) (ok:(aL a n).2.2=true):a.1≤(aL a n).2.1∧(aL a n).2.1+(n:Int)≤a.1+a.2.1:=by
 obtain⟨⟨h1,h2,h3⟩,⟨h4,h5,h6⟩,h7,h8,h9⟩:=h
 unfold aL at ok⊢
 split at ok
 ·cases ok
 ·rename_i hc
  rw[ap hc]
  have:n≤oN n:=by unfold oN;omega
  exact⟨h7,by simp only;omega⟩
theorem HU (sz:Nat→Nat):∀k i a,ct a→(cK sz a i k).2.2=true→∀j (hj:j< (cK sz a i k).2.1.length),a.1≤(cK sz a i k).2.1[j]∧(cK sz a i k).2.1[j]+(sz (i+j):Int)≤a.1+a.2.1
 |0,_,_,_,_,j,hj=>by simp[cK]at hj
 |k+1,i,a,h,ok,j,hj=>by
  have e:cK sz a i (k+1)=((cK sz (aL a (sz i)).1 (i+1) k).1,(aL a (sz i)).2.1::(cK sz (aL a (sz i)).1 (i+1) k).2.1,(aL a (sz i)).2.2&&(cK sz (aL a (sz i)).1 (i+1) k).2.2):=rfl
  rw[e,ay]at ok
  have hb:=oB a (sz i)
  cases j with
  |zero=>exact DC h _ ok.1
  |succ j=>
   have:=HU sz k (i+1) _ (c9 h (sz i)) ok.2 j (by rw[cr]at hj⊢;omega)
   rw[hb.1,hb.2]at this
   rw[show i+(j+1)=i+1+j by omega]
   exact this
def pt (o:bL) (l:fh):Prop:=∀i:Nat,i<o.2.2.1.length→∃x:Int,rd (τ:= .int .i64) l.1 (i:Int)=x∧8192≤x∧x+(dW o i:Int)≤9216∧x%8=0
theorem Af {t:List dr} {a b:bG} {o:bL} {v:fh×bG×bG×Int} (h:By t a b o v) (ha:ct a) (h1:a.1=8192) (h2:a.2.1=1024):pt o v.1:=by
 intro i hi
 rw[h.ats]
 have hl:=cr (dW o) o.2.2.1.length 0 a
 have hok:=h.ok
 unfold dw at hok
 simp only[ay]at hok
 have:=HU (dW o) o.2.2.1.length 0 a ha hok.1 i (by rw[hl];exact hi)
 have h8:=h.lnk.fa i hi
 rw[h.ats]at h8
 have e:(rd (τ:= .int .i64) (dw o a b).1.1 (i:Int):Int)=(cK (dW o) a 0 o.2.2.1.length).2.1[i]'(by rw[hl];exact hi):=aY (τ:= .int .i64) _ i (by show i< (cK (dW o) a 0 o.2.2.1.length).2.1.length;rw[hl];exact hi)
 have h8':Ks ((cK (dW o) a 0 o.2.2.1.length).2.1[i]'(by rw[hl];exact hi)):=by rw[←e];exact h8
 rw[Nat.zero_add,h1,h2]at this
 exact⟨_,e,this.1,this.2,h8'.2.2⟩
def gQ (x:Int) (n:Int):Prop:=(4096≤x∧x+n≤5120)∨(8192≤x∧x+n≤9216)
theorem gQ.page {x n:Int} (h:gQ x n):∀y,x≤y→y<x+n→0≤dV BL y:=by
 intro y h1 h2
 rcases h with h|h
 ·exact ud (by omega) (by omega)
 ·exact Ae (by omega) (by omega)
theorem gQ.range {x n:Int} (h:gQ x n):4096≤x∧x+n≤9216:=by
 rcases h with h|h<;>omega
theorem xV {F:Int→Int} (hF:FR F) (a:Int) (t:ByteArray) (h:gQ a (t.size:Int)):oJ (aG F BL) a t=some (aG (updF F a t) BL)∧yg (aG F BL) a t=some (aG (updF F a t) BL):=by
 have hr:=h.range
 exact⟨xR hF a t ⟨by omega,by omega,by omega⟩ BL JC,nS hF a t (by omega) (by omega) h.page⟩
def kI (F:Int→Int) (a:Int):Int:=F a+256*(F (a+1)+256*(F (a+2)+256*F (a+3)))
def eU (F:Int→Int) (a n:Int):Prop:=∀i:Nat,4*(i:Int)+4≤n→xu (kI F (a+4*(i:Int)))
theorem nU {F:Int→Int} {a x:Int} {t:ByteArray} (h:x+4≤a∨a+(t.size:Int)≤x):kI (updF F a t) x=kI F x:=by
 unfold kI updF
 rw[ap (by omega),ap (by omega),ap (by omega),ap (by omega)]
theorem xW {F:Int→Int} {a:Int} {t:ByteArray} (i:Nat) (h:4*i+4≤t.size):kI (updF F a t) (a+4*(i:Int))=((eV t (4*i) 4:Nat):Int):=by
 unfold kI updF
 rw[au (by omega),au (by omega),au (by omega),au (by omega)]
 have e:∀k:Nat,bt t (a+4*(i:Int)+(k:Int)-a)=((t.data.getD (4*i+k) 0).toNat:Int):=fun k=>by
  rw[show a+4*(i:Int)+(k:Int)-a=((4*i+k:Nat):Int) by omega,eQ]
 have e0:=e 0
 have e1:=e 1
 have e2:=e 2
 have e3:=e 3
 rw[show a+4*(i:Int)+((0:Nat):Int)-a=a+4*(i:Int)-a by omega]at e0
 rw[show a+4*(i:Int)+((1:Nat):Int)-a=a+4*(i:Int)+1-a by omega]at e1
 rw[show a+4*(i:Int)+((2:Nat):Int)-a=a+4*(i:Int)+2-a by omega]at e2
 rw[show a+4*(i:Int)+((3:Nat):Int)-a=a+4*(i:Int)+3-a by omega]at e3
 rw[e0,e1,e2,e3]
 have:eV t (4*i) 4=(t.data.getD (4*i+0) 0).toNat+256*((t.data.getD (4*i+1) 0).toNat+256*((t.data.getD (4*i+2) 0).toNat+256*((t.data.getD (4*i+3) 0).toNat+256*0))):=rfl
 rw[this]
 omega
theorem eU.out {F:Int→Int} {a n b:Int} {t:ByteArray} (h:eU F a n) (hd:a+n≤b∨b+(t.size:Int)≤a):eU (updF F b t) a n:=fun i hi=>by
 rw[nU (by omega)];exact h i hi
theorem eU.self {F:Int→Int} (a:Int) {t:ByteArray} (h:kX t):eU (updF F a t) a (t.size:Int):=fun i hi=>by
 rw[xW i (by omega)];exact h i (by omega)
theorem eU.head {F:Int→Int} {a n:Int} {t:ByteArray} (h:eU F a n) (ht:t.size=4) (hw:xu ((eV t 0 4:Nat):Int)):eU (updF F a t) a n:=fun i hi=>by
 rcases Nat.eq_zero_or_pos i with rfl|hp
 ·have:=xW (F:=F) (a:=a) (t:=t) 0 (by omega)
  rw[this];exact hw
 ·rw[nU (by omega)];exact h i hi
theorem HV (d w:Int) (h: -1000000≤d∧d≤1000000) (h4:d%2=0) (e:xa (3,0,0,0,d)=some w):xu ((eV (aS (lX w 4)) 0 4:Nat):Int):=by
 have hr:dv (3,0,0,0,d)=true:=by
  unfold dv js
  simp only[show(bE 3).1=2 from rfl]
  simp
  omega
 have hd:=HJ _ hr
 have hRg:=(oy hr).2.1
 rw[eo (3,0,0,0,d) (by simp) (by simp) hRg]at e
 have e':=Option.some.inj e
 have er:=kZ (f:=(bE 3).1) (c:=(bE 3).2.1) (f3:=(bE 3).2.2.1) (f7:=(bE 3).2.2.2) (n:=3) (d:=0) (a:=0) (b:=0) (i:=d) (ip 3 (by decide) (by decide)) hRg
 have er1:0≤w∧w<4294967296:=by rw[←e'];exact⟨er.1,er.2.1⟩
 have hl:=Jq 4 w [] er1.1 (fun x hx=>by cases hx)
 rw[List.nil_append,List.length_nil]at hl
 rw[hl,show w%256^4=w by omega]
 exact⟨_,by rw[←e'];exact hd⟩
def iB (F:Int→Int) (l:fh):Nat→Nat→(Int→Int)
 |_,0=>F
 |i,k+1=>iB (updF F (rd (τ:= .int .i64) l.1 (i:Int)) (rd (τ:= .str) l.2.1 (i:Int))) l (i+1) k
theorem mW (l:fh):∀k i F,FR F→FR (iB F l i k)
 |0,_,_,h=>h
 |k+1,i,F,h=>mW l k (i+1) _ (eC h _ _)
theorem Ag (o:bL) (l:fh) (t:List dr) (hz:ObjSz o) (hl:ft o l) (hp:pt o l) (x8:List (Int×Int)):∀(k i:Nat) (F:Int→Int),FR F→i+k=o.2.2.1.length→
  sd.a t (aG F BL) o l [] x8 (o.2.2.1.length:Int) (i:Int)=sd.b t (aG (iB F l i k) BL) l [] x8 o.2.2.1 (o.2.2.1.length:Int) 0∧
  rV.a t (aG F BL) o l [] (i:Int)=rV.b t (aG (iB F l i k) BL) o l [] [] 0:=by
 have h1:=hz.f
 intro k
 induction k with
 |zero=>
  intro i F hF h
  have:i=o.2.2.1.length:=by omega
  subst this
  rw[sd.a_eq,ai,am (az _),ac,rV.a_eq,ai,am (az _),ac]
  exact⟨rfl,rfl⟩
 |succ k ih=>
  intro i F hF h
  have hi:i<o.2.2.1.length:=by omega
  obtain⟨x,hx,hpi⟩:=hp i hi
  have hsz:=hl.cs i hi
  obtain⟨p1,p2⟩:=xV hF x (rd (τ:= .str) l.2.1 (i:Int)) (.inr ⟨hpi.1,by rw[hsz];exact hpi.2.1⟩)
  rw[←hx]at p1 p2
  rw[sd.a_eq,ai,aj,aj,ab hi,an i _ hi (by omega),show decide (i<l.1.length)=true from ab (by rw[hl.a];exact hi),show decide (i<l.2.1.length)=true from ab (by rw[hl.c];exact hi),p1,
   rV.a_eq,ai,aj,aj,ab hi,an i _ hi (by omega),show decide (i<l.1.length)=true from ab (by rw[hl.a];exact hi),show decide (i<l.2.1.length)=true from ab (by rw[hl.c];exact hi),p2]
  simp only[ae,af]
  exact ih (i+1) _ (eC hF _ _) (by omega)
def BE (t:List dr):Prop:=∀i:Nat,i<t.length→(rd (τ:=aW) t (i:Int)).2.1=1→gQ (rd (τ:=aW) t (i:Int)).2.2.1 4
theorem HW (d:Int) (h: -2147483648≤d∧d≤2147483647):∃w,xa (3,0,0,0,d)=some w∧iD (3,0,0,0,d)=some w:=by
 have hR:ga (3,0,0,0,d):=⟨⟨by simp,by simp⟩,⟨by simp,by simp⟩,⟨by simp,by simp⟩,⟨by simp only;omega,by simp only;omega⟩⟩
 exact⟨_,eo (3,0,0,0,d) (by simp) (by simp) hR,gb (3,0,0,0,d) (by simp) (by simp) hR fun h=>by have h':(bE 3).1=1:=h;exact absurd h' (by decide)⟩
theorem Ah (o:bL) (l:fh) (t:List dr) (ht:t.length≤64) (hz:ObjSz o) (hl:ft o l) (hp:pt o l) (hf:BE t) (hn:∀i:Nat,i<o.2.2.1.length→(rd (τ:=aP) o.2.2.1 (i:Int)).2.1=true→0≤cp t (rd (τ:=aP) o.2.2.1 (i:Int)).1∧(rd (τ:=aW) t (cp t (rd (τ:=aP) o.2.2.1 (i:Int)).1)).2.1=1)
  (h4:∀i:Nat,i<t.length→(rd (τ:=aW) t (i:Int)).2.1=1→∃x:Int,(rd (τ:=aW) t (i:Int)).2.2.1=x∧x%4=0)
  (I:(Int→Int)→Prop) (hI:∀(F:Int→Int) (q:Nat) (b:ByteArray),I F→q<t.length→(rd (τ:=aW) t (q:Int)).2.1=1→b.size=4→xu ((eV b 0 4:Nat):Int)→I (updF F (rd (τ:=aW) t (q:Int)).2.2.1 b)):
  ∀(k i:Nat) (F:Int→Int) (sv:List (Int×Int)),FR F→i+k=o.2.2.1.length→sv.length≤i→∃F' sv',FR F'∧(I F→I F')∧sv'.length≤o.2.2.1.length∧
  sd.b t (aG F BL) l [] sv o.2.2.1 (o.2.2.1.length:Int) (i:Int)=some (aG F' BL,sv')∧rV.b t (aG F BL) o l [] sv (i:Int)=some (aG F' BL,sv'):=by
 have h1:=hz.f
 intro k
 induction k with
 |zero=>
  intro i F sv hF h hs
  have:i=o.2.2.1.length:=by omega
  subst this
  rw[sd.b_eq,ai,am (az _),ac,rV.b_eq,ai,am (az _),ac]
  exact⟨F,sv,hF,fun h=>h,hs,rfl,rfl⟩
 |succ k ih=>
  intro i F sv hF h hs
  have hi:i<o.2.2.1.length:=by omega
  rw[sd.b_eq,ai,aj,ab hi,an i _ hi (by omega),rV.b_eq,ai,ab hi,an i _ hi (by omega)]
  simp only[aj,ab hi,ae]
  cases hr:(rd (τ:=aP) o.2.2.1 (i:Int)).2.1 with
  |false=>exact ih (i+1) F sv hF (by omega) (by omega)
  |true=>
   obtain⟨e1,e2⟩:=hn i hi hr
   have er:=df t (rd (τ:=aP) o.2.2.1 (i:Int)).1
   rw[(dQ t _ (by omega)).1,(dQ t _ (by omega)).2]
   simp only[aM,ac,af]
   obtain⟨q,hq⟩:∃q:Nat,cp t (rd (τ:=aP) o.2.2.1 (i:Int)).1=(q:Int):=⟨(cp t (rd (τ:=aP) o.2.2.1 (i:Int)).1).toNat,by omega⟩
   rw[hq]at e2 er⊢
   have hqt:q<t.length:=by omega
   have hat:=hf q hqt e2
   obtain⟨x4,hx4,hx4'⟩:=h4 q hqt e2
   have hIq:=fun(F:Int→Int) (b:ByteArray) (h:I F)=>hI F q b h hqt e2
   obtain⟨at_,hA⟩:∃x:Int,(rd (τ:=aW) t (q:Int)).2.2.1=x:=⟨_,rfl⟩
   rw[hA]at hat hx4 hIq⊢
   subst hx4
   have hr4:=hat.range
   have hg:=hat.page
   obtain⟨to,hT,hpi⟩:=hp i hi
   simp only[hT]
   rw[aj,ab hqt,show decide (i<l.1.length)=true from ab (by rw[hl.a];exact hi)]
   rw[show Bs (aG F BL) at_ 4=some (vd F at_ 4) from Ab hF BL JC at_ 4 (by omega) (by omega) (by omega) hg,show A9 (aG F BL) at_ 4=some (vd F at_ 4) from HO hF BL JC at_ 4 (by omega) (by omega) (by omega) hg]
   have hgz:=Dz F at_ 4
   simp only[ae,af]
   rw[d7 _ (by omega),hgz,show uP (vd F at_ 4) 0 4=some (IntKind.wrap .i64 (eV (vd F at_ 4) 0 4)) from fH (vd F at_ 4) 0 4 (by omega) (by omega)]
   simp only[af]
   rw[jx _ (by simp;omega),L9,aU (n:=to-at_) (by omega) (by omega)]
   obtain⟨w,w1,w2⟩:=HW (to-at_) ⟨by omega,by omega⟩
   simp only[ae,af]
   rw[w1,w2]
   simp only[af]
   rw[show yj w 4=some (aS (lX w 4)) from lZ w 4 (by omega),show yh w 4=some (aS (lX w 4)) from kF w 4 (by omega)]
   have hb:(aS (lX w 4)).size=4:=by rw[cj,lY]
   obtain⟨p1,p2⟩:=xV hF at_ (aS (lX w 4)) (by rw[hb];exact hat)
   simp only[af]
   rw[p1,p2]
   simp only[af]
   have hdw:=HV (to-at_) w ⟨by omega,by omega⟩ (by omega) w1
   obtain⟨G,sv',g1,g2,g3,g4,g5⟩:=ih (i+1) (updF F at_ (aS (lX w 4))) (sv++[_]) (eC hF _ _) (by omega) (by rw[List.length_append];simp only[List.length_cons,List.length_nil];omega)
   exact⟨G,sv',g1,fun h=>g2 (hIq F _ h hb hdw),g3,g4,g5⟩
abbrev Pc:Type:=Int×Int×Int×Int×Int
def ue (s:mJ):Int:=bif decide (s.2.1=1)then IntKind.wrap .i64 (4096+s.2.2.1)else IntKind.wrap .i64 (16384+s.2.2.1)
theorem pw (s:mJ):M0 s=some (ue s)∧KJ s=some (ue s):=by
 rw[zc,Gg]
 unfold ue
 cases decide (s.2.1=1)<;>exact⟨rfl,rfl⟩
def xX (im:gm) (i:Nat):dr:=((rd (τ:=bx) im.2.2 (i:Int)).1,(rd (τ:=bx) im.2.2 (i:Int)).2.1,ue (rd (τ:=bx) im.2.2 (i:Int)),(rd (τ:=bx) im.2.2 (i:Int)).2.2.2.1,(rd (τ:=bx) im.2.2 (i:Int)).2.2.2.2,0)
def l8 (im:gm):List dr:=bn (xX im) 0 im.2.2.length
def lb (im:gm):List Pc:=cZ (fun i=>decide ((rd (τ:=bx) im.2.2 (i:Int)).2.1=1)) (fun i=>((i:Int),0,ue (rd (τ:=bx) im.2.2 (i:Int)),(rd (τ:=bx) im.2.2 (i:Int)).2.2.2)) 0 im.2.2.length
theorem DD (im:gm) (hn:im.2.2.length≤16):E4 im=some (l8 im):=by
 rw[Ns,cM (L:=fun acc i=>E4.a acc im.2.2 (im.2.2.length:Int) i) (xX im) im.2.2.length [] fun acc i hi ha=> ?_]
 ·rw[E4.a_eq,ai,am (az _),ac,List.nil_append];rfl
 ·show E4.a acc im.2.2 (im.2.2.length:Int) (i:Int)=_
  rw[E4.a_eq,ai,aj,ab hi,an i _ hi (by omega),(pw _).1]
  simp only[ae,af]
  rw[kH _ (by simp at ha⊢;omega)];rfl
theorem DE (im:gm) (hn:im.2.2.length≤16):EH im=some (l8 im):=by
 rw[Lo,cM (L:=fun acc i=>EH.a im acc i) (xX im) im.2.2.length [] fun acc i hi ha=> ?_]
 ·rw[EH.a_eq,ai,am (az _),ac,List.nil_append];rfl
 ·show EH.a im acc (i:Int)=_
  rw[EH.a_eq,ai,aj,ab hi,an i _ hi (by omega),(pw _).2]
  simp only[ae,af]
  rw[kH _ (by simp at ha⊢;omega)];rfl
theorem DF (im:gm) (hn:im.2.2.length≤16):Cz im=some (lb im):=by
 rw[Nt,dJ (L:=fun acc i=>Cz.a acc im.2.2 (im.2.2.length:Int) i) (fun i=>decide ((rd (τ:=bx) im.2.2 (i:Int)).2.1=1)) (fun i=>(((i:Int),0,ue (rd (τ:=bx) im.2.2 (i:Int)),(rd (τ:=bx) im.2.2 (i:Int)).2.2.2):Pc)) im.2.2.length [] fun acc i hi ha=> ?_]
 ·rw[Cz.a_eq,ai,am (az _),ac,List.nil_append];rfl
 ·show Cz.a acc im.2.2 (im.2.2.length:Int) (i:Int)=_
  rw[Cz.a_eq,ai,aj,ab hi,an i _ hi (by omega),(pw _).1]
  simp only[ae,af]
  rw[ru _ (by simp at ha⊢;omega)]
  cases decide ((rd (τ:=bx) im.2.2 (i:Int)).2.1=1)<;>rfl
theorem DG (im:gm) (hn:im.2.2.length≤16):Cv im=some (lb im):=by
 rw[Lq,dJ (L:=fun acc i=>Cv.a im acc i) (fun i=>decide ((rd (τ:=bx) im.2.2 (i:Int)).2.1=1)) (fun i=>(((i:Int),0,ue (rd (τ:=bx) im.2.2 (i:Int)),(rd (τ:=bx) im.2.2 (i:Int)).2.2.2):Pc)) im.2.2.length [] fun acc i hi ha=> ?_]
 ·rw[Cv.a_eq,ai,am (az _),ac,List.nil_append];rfl
 ·show Cv.a im acc (i:Int)=_
  rw[Cv.a_eq,ai,aj,ab hi,an i _ hi (by omega),(pw _).2]
  simp only[ae,af]
  rw[ru _ (by simp at ha⊢;omega)]
  cases decide ((rd (τ:=bx) im.2.2 (i:Int)).2.1=1)<;>rfl
abbrev P8:Type:=List dr×List Pc×List eA×bG×bG
abbrev DH:Type:=List dr×bG×bG×List Pc×List eA
theorem JJ (im:gm) (hz:ly im):Tj im=some ((l8 im,lb im,aG (F0 im) BL,(8192,1024,8192),(20480,256,20480)):P8)∧SY im=some ((l8 im,(8192,1024,8192),(20480,256,20480),lb im,aG (F0 im) BL):DH):=by
 rw[NA,Ly,DD im hz.n,DE im hz.n,DF im hz.n,DG im hz.n,xT im hz.c hz.d,DB im hz.c hz.d]
 exact⟨rfl,rfl⟩
theorem BF {n:Nat} (h:br n=true):20≤n:=by
 unfold br at h
 cases h1:cq n with
 |false=>rw[h1]at h;cases h
 |true=>rw[h1,ae,aT]at h;omega
theorem qQ.sym {im:gm} (h:qQ im) (i:Nat) (hi:i<im.2.2.length):qP im (rd (τ:=bx) im.2.2 (i:Int))∧GZ (rd (τ:=bx) im.2.2 (i:Int)):=by
 obtain⟨E,hE,_⟩:=h.chain
 rw[aY (τ:=bx) im.2.2 i hi]
 exact⟨(nH hE i hi).1,h.funs i hi⟩
theorem mX {im:gm} {s:mJ} (hz:ly im) (h:qP im s) (hk:s.2.1=1):ue s=4096+s.2.2.1:=by
 have:=h.func hk;have:=h.at0;have:=h.size;have:=hz.c
 unfold ue
 rw[ab hk,ae,aU (by omega) (by omega)]
theorem JK {im:gm} {s:mJ} (hz:ly im) (h:qP im s) (hk:s.2.1=2):ue s=16384+s.2.2.1:=by
 have:=h.data hk;have:=h.at0;have:=h.size;have:=hz.d
 unfold ue
 rw[am (by omega),ac,aU (by omega) (by omega)]
theorem rx {α:Type} (p:Nat→Bool) (f:Nat→α):∀(k i j:Nat),i≤j→j<i+k→p j=true→f j∈cZ p f i k
 |0,i,j,h1,h2,_=>by omega
 |k+1,i,j,h1,h2,hp=>by
  rw[cZ]
  by_cases e:j=i
  ·subst e;rw[hp,ae];exact List.mem_cons_self ..
  ·have:=rx p f k (i+1) j (by omega) (by omega) hp
   cases p i
   ·exact this
   ·exact List.mem_cons_of_mem _ this
theorem oC {α:Type} (p:Nat→Bool) (f:Nat→α) (R:α→α→Prop):∀k i,(∀a b,i≤a→a<b→b<i+k→p a=true→p b=true→R (f a) (f b))→(cZ p f i k).Pairwise R
 |0,_,_=>List.Pairwise.nil
 |k+1,i,h=>by
  have ih:=oC p f R k (i+1) fun a b h1 h2 h3=>h a b (by omega) h2 (by omega)
  rw[cZ]
  cases hp:p i with
  |false=>exact ih
  |true=>
   rw[ae]
   refine List.Pairwise.cons (fun x hx=> ?_) ih
   obtain⟨j,h1,h2,hj,rfl⟩:=cA p f x k (i+1) hx
   exact h i j (Nat.le_refl _) (by omega) (by omega) hp hj
structure HX (p:Pc):Prop where
 sy:0≤p.1∧p.1≤63
 pa:0≤p.2.1∧p.2.1≤6
 pc:bS p.2.2.1=true
 sz:p.2.2.2.1%4=0∧20≤p.2.2.2.1∧p.2.2.2.1≤256
 fr:dG p.2.2.2.2=true
def vk (p q:Pc):Prop:=p.2.2.1+p.2.2.2.1≤q.2.2.1∨q.2.2.1+q.2.2.2.1≤p.2.2.1
structure ry (P:List Pc) (top:Int):Prop where
 ok:∀p∈P,HX p
 dis:P.Pairwise vk
 ins:∀p∈P,(4096≤p.2.2.1∧p.2.2.1+p.2.2.2.1≤5120)∨(8192≤p.2.2.1∧p.2.2.1+p.2.2.2.1≤top)
theorem xY {n:Nat} (h:br n=true):n%4=0∧20≤n∧n≤256:=by
 have h2:=BF h
 unfold br at h
 cases h1:cq n with
 |false=>rw[h1]at h;cases h
 |true=>have:=dk h1;omega
theorem l9 {im:gm} {i:Nat} {s:mJ} {e e':Int×Int} (h:eR im i s e=(0,e')):e.1≤e'.1∧(s.2.1=1→s.2.2.1=e.1∧e'.1=s.2.2.1+s.2.2.2.1):=by
 unfold eR at h
 split at h
 ·cases h
 split at h
 ·cases h
 split at h
 ·split at h
  ·rename_i hk hc
   have h2:=(Prod.mk.inj h).2
   rw[←h2]
   exact⟨by show e.1≤s.2.2.1+s.2.2.2.1;omega,fun _=>⟨hc.1,rfl⟩⟩
  ·cases h
 ·rename_i hk
  split at h
  ·split at h
   ·split at h
    ·have h2:=(Prod.mk.inj h).2
     rw[←h2]
     exact⟨Int.le_refl _,fun h=>absurd h hk⟩
    ·cases h
   ·cases h
  ·cases h
theorem Ai {im:gm} {n:Nat} {E:Nat→Int×Int} (h:ju im n E) (hn:n≤im.2.2.length):∀k i,i+k≤n→(E i).1≤(E (i+k)).1:=by
 intro k
 induction k with
 |zero=>intro i _;exact Int.le_refl _
 |succ k ih=>
  intro i hi
  have h1:=(l9 (h.2.2 i (by omega) (by omega))).1
  have h2:=ih (i+1) (by omega)
  rw[show i+(k+1)=i+1+k by omega];omega
theorem JL {im:gm} (h:qQ im):ry (lb im) 8192:=by
 have hz:=h.sz
 have hc:=hz.c
 have hn:=hz.n
 have one:∀j:Nat,j<im.2.2.length→(rd (τ:=bx) im.2.2 (j:Int)).2.1=1→HX ((j:Int),0,ue (rd (τ:=bx) im.2.2 (j:Int)),(rd (τ:=bx) im.2.2 (j:Int)).2.2.2)∧ue (rd (τ:=bx) im.2.2 (j:Int))=4096+(rd (τ:=bx) im.2.2 (j:Int)).2.2.1∧0≤(rd (τ:=bx) im.2.2 (j:Int)).2.2.1∧(rd (τ:=bx) im.2.2 (j:Int)).2.2.1+(rd (τ:=bx) im.2.2 (j:Int)).2.2.2.1≤(im.1.size:Int):=by
  intro j hj hk
  obtain⟨hS,hG⟩:=h.sym j hj
  obtain⟨s,hs⟩:∃s:mJ,rd (τ:=bx) im.2.2 (j:Int)=s:=⟨_,rfl⟩
  rw[hs]at hS hG hk⊢
  obtain⟨g1,g2,g3⟩:=hG hk
  have g4:=xY g3
  have h1:=hS.size
  have e:=mX hz hS hk
  have g5:s.2.2.2.1%4=0∧20≤s.2.2.2.1∧s.2.2.2.1≤256:=by omega
  exact⟨⟨⟨by simp only;omega,by simp only;omega⟩,⟨by simp only;omega,by simp only;omega⟩,by rw[e];exact g1,g5,g2⟩,e,hS.at0,hS.func hk⟩
 refine⟨fun p hp=> ?_, ?_,fun p hp=> ?_⟩
 ·unfold lb at hp
  obtain⟨j,_,hj,hk,rfl⟩:=cA _ _ _ _ _ hp
  exact(one j (by omega) (of_decide_eq_true hk)).1
 ·unfold lb
  refine oC _ _ _ _ _ fun a b _ hab hb ha hbk=> ?_
  have hb':b<im.2.2.length:=by omega
  have ha':a<im.2.2.length:=by omega
  have ka:=of_decide_eq_true ha
  have kb:=of_decide_eq_true hbk
  obtain⟨E,hE,_⟩:=h.chain
  have sa:=(l9 (hE.2.2 a ha' ha')).2
  have sb:=(l9 (hE.2.2 b hb' hb')).2
  rw[←aY (τ:=bx) im.2.2 a ha']at sa
  rw[←aY (τ:=bx) im.2.2 b hb']at sb
  have m:=Ai hE (Nat.le_refl _) (b-(a+1)) (a+1) (by omega)
  rw[show a+1+(b-(a+1))=b by omega]at m
  have ea:=(one a ha' ka).2.1
  have eb:=(one b hb' kb).2.1
  have sa':=(sa ka).2
  have sb':=(sb kb).1
  left
  show ue (rd (τ:=bx) im.2.2 (a:Int))+(rd (τ:=bx) im.2.2 (a:Int)).2.2.2.1≤ue (rd (τ:=bx) im.2.2 (b:Int))
  omega
 ·unfold lb at hp
  obtain⟨j,_,hj,hk,rfl⟩:=cA _ _ _ _ _ hp
  obtain⟨_,e,e0,e1⟩:=one j (by omega) (of_decide_eq_true hk)
  left
  show 4096≤ue (rd (τ:=bx) im.2.2 (j:Int))∧ue (rd (τ:=bx) im.2.2 (j:Int))+(rd (τ:=bx) im.2.2 (j:Int)).2.2.2.1≤5120
  generalize (rd (τ:=bx) im.2.2 (j:Int))=s at e e0 e1⊢
  rw[e]
  obtain⟨x,hx⟩:∃x:Int,s.2.2.1=x:=⟨_,rfl⟩
  obtain⟨y,hy⟩:∃y:Int,s.2.2.2.1=y:=⟨_,rfl⟩
  have e0':(0:Int)≤x:=by rw[←hx];exact e0
  have e1':x+y≤(im.1.size:Int):=by rw[←hx,←hy];exact e1
  show 4096≤4096+s.2.2.1∧4096+s.2.2.1+s.2.2.2.1≤5120
  rw[hx,hy]
  show(4096:Int)≤4096+x∧(4096:Int)+x+y≤5120
  exact⟨by omega,by omega⟩
def HY (t:List dr) (P:List Pc):Prop:=∀k:Nat,k<t.length→(rd (τ:=aW) t (k:Int)).2.1=1→∃p∈P,p.1=(k:Int)∧p.2.2.1=(rd (τ:=aW) t (k:Int)).2.2.1
theorem HZ {im:gm}:HY (l8 im) (lb im):=by
 intro k hk h1
 unfold l8 at hk h1⊢
 rw[aO]at hk
 rw[pq (τ:=aW) (xX im) _ _ hk]at h1⊢
 refine⟨((k:Int),0,ue (rd (τ:=bx) im.2.2 (k:Int)),(rd (τ:=bx) im.2.2 (k:Int)).2.2.2), ?_,rfl,rfl⟩
 unfold lb
 have hk1:(rd (τ:=bx) im.2.2 (k:Int)).2.1=1:=h1
 exact rx (fun i=>decide ((rd (τ:=bx) im.2.2 (i:Int)).2.1=1)) (fun i=>((i:Int),0,ue (rd (τ:=bx) im.2.2 (i:Int)),(rd (τ:=bx) im.2.2 (i:Int)).2.2.2)) _ _ k (Nat.zero_le _) (by omega) (ab hk1)
theorem DI {im:gm} (h:qQ im):∀p∈lb im,eU (F0 im) p.2.2.1 p.2.2.2.1:=by
 intro p hp
 have hz:=h.sz
 have hc:=hz.c
 unfold lb at hp
 obtain⟨j,_,hj,hk,rfl⟩:=cA _ _ _ _ _ hp
 have hj':j<im.2.2.length:=by omega
 have hk':=of_decide_eq_true hk
 have hL:=h.lin j hj'
 rw[←aY (τ:=bx) im.2.2 j hj']at hL
 obtain⟨hS,hG⟩:=h.sym j hj'
 have e:=mX hz hS hk'
 have h0:=hS.at0
 have h1:=hS.size
 have hf:=hS.func hk'
 have hL':=hL hk'
 obtain⟨s,hs⟩:∃s:mJ,rd (τ:=bx) im.2.2 (j:Int)=s:=⟨_,rfl⟩
 rw[hs]at e h0 h1 hf hL'⊢
 obtain⟨nm,kd,off,sz,fr⟩:=s
 simp only at e h0 h1 hf hL'⊢
 rw[e]
 obtain⟨x,rfl⟩:∃x:Nat,off=(x:Int):=⟨off.toNat,by omega⟩
 obtain⟨y,rfl⟩:∃y:Nat,sz=(y:Int):=⟨sz.toNat,by omega⟩
 have hb:((x:Int)).toNat=x:=aB x
 have he:((x:Int)+(y:Int)).toNat=x+y:=by omega
 rw[hb,he]at hL'
 have hsz:(im.1.extract x (x+y)).size=y:=by rw[ByteArray.size_extract];omega
 intro i hi
 have hd:=hL' i (by omega)
 rw[fU im.1 x (x+y) (by omega) 4 (4*i) (by omega)]at hd
 have:kI (F0 im) (4096+(x:Int)+4*(i:Int))=((eV im.1 (x+4*i) 4:Nat):Int):=by
  unfold F0
  rw[nU (by omega)]
  unfold lC kI updF
  rw[au (by omega),au (by omega),au (by omega),au (by omega)]
  have e:∀k:Nat,bt im.1 (4096+(x:Int)+4*(i:Int)+(k:Int)-4096)=((im.1.data.getD (x+4*i+k) 0).toNat:Int):=fun k=>by
   rw[show 4096+(x:Int)+4*(i:Int)+(k:Int)-4096=((x+4*i+k:Nat):Int) by omega,eQ]
  have e0:=e 0
  have e1:=e 1
  have e2:=e 2
  have e3:=e 3
  rw[show 4096+(x:Int)+4*(i:Int)+((0:Nat):Int)-4096=4096+(x:Int)+4*(i:Int)-4096 by omega]at e0
  rw[show 4096+(x:Int)+4*(i:Int)+((1:Nat):Int)-4096=4096+(x:Int)+4*(i:Int)+1-4096 by omega]at e1
  rw[show 4096+(x:Int)+4*(i:Int)+((2:Nat):Int)-4096=4096+(x:Int)+4*(i:Int)+2-4096 by omega]at e2
  rw[show 4096+(x:Int)+4*(i:Int)+((3:Nat):Int)-4096=4096+(x:Int)+4*(i:Int)+3-4096 by omega]at e3
  rw[e0,e1,e2,e3]
  have:eV im.1 (x+4*i) 4=(im.1.data.getD (x+4*i+0) 0).toNat+256*((im.1.data.getD (x+4*i+1) 0).toNat+256*((im.1.data.getD (x+4*i+2) 0).toNat+256*((im.1.data.getD (x+4*i+3) 0).toNat+256*0))):=rfl
  rw[this]
  omega
 rw[this]
 exact hd
structure Aj (n:Nat) (t:List dr) (P:List Pc) (F:Int→Int) (a b:bG):Prop where
 tab:rt t
 len:t.length≤16+8*n
 fin:BE t
 pl:P.length≤16+4*n
 fr:FR F
 aR:ct a
 a1:a.1=8192
 a2:a.2.1=1024
 bR:ct b
 pcs:∀p∈P,0≤p.1∧p.1< (t.length:Int)∧0≤p.2.2.1∧p.2.2.1≤1048575∧1≤p.2.2.2.1∧p.2.2.2.1≤1024∧0≤p.2.1∧p.2.1≤6
 pk:ry P a.2.2
 hs:HY t P
 cd:∀p∈P,eU F p.2.2.1 p.2.2.2.1
theorem JM {im:gm} (h:qQ im):Aj 0 (l8 im) (lb im) (F0 im) (8192,1024,8192) (20480,256,20480):=by
 have hz:=h.sz
 have hn:=hz.n
 have hc:=hz.c
 have hd:=hz.d
 refine⟨⟨by unfold l8;rw[aO];omega,fun e he=> ?_, ?_⟩,by unfold l8;rw[aO];omega,fun i hi hk=> ?_, ?_,rn im,⟨⟨by decide,by decide,by decide⟩,⟨by decide,by decide,by decide⟩,by decide,by decide,by decide⟩,rfl,rfl,⟨⟨by decide,by decide,by decide⟩,⟨by decide,by decide,by decide⟩,by decide,by decide,by decide⟩,fun p hp=> ?_,JL h,HZ,DI h⟩
 ·unfold l8 at he
  obtain⟨i,_,hi,rfl⟩:=(bY _ _ _ _).1 he
  obtain⟨hS,hG⟩:=h.sym i (by omega)
  unfold xX
  obtain⟨s,hs⟩:∃s:mJ,rd (τ:=bx) im.2.2 (i:Int)=s:=⟨_,rfl⟩
  rw[hs]at hS hG⊢
  have h0:=hS.at0
  have h1:=hS.size
  unfold de
  simp only
  rw[hS.name]
  rcases hS.kind with hk|hk
  ·obtain⟨g1,g2,g3⟩:=hG hk
   have hf:=hS.func hk
   rw[mX hz hS hk,g1,bF.2 (show 1≤s.2.2.2.1∧s.2.2.2.1≤1024 by omega)]
   unfold tQ
   rw[ab hk,g2];rfl
  ·have hf:=hS.data hk
   rw[JK hz hS hk,bF.2 (show 1≤s.2.2.2.1∧s.2.2.2.1≤1024 by omega)]
   have hcode:bS (16384+s.2.2.1)=true:=by
    unfold bS
    rw[show(decide (0≤16384+s.2.2.1)&&decide (16384+s.2.2.1≤1048575))=true by simp;omega,ae,aT,Int.tmod_eq_emod_of_nonneg (by omega)];omega
   rw[hcode]
   unfold tQ
   rw[ab hk,ab hf.2.2.2,am (show¬s.2.1=1 by omega)];rfl
 ·unfold l8
  refine k7 _ _ _ _ fun a b _ hab hb=> ?_
  obtain⟨E,hE,_⟩:=h.chain
  have:=(nH hE b (by omega)).2
  intro e
  unfold xX at e
  simp only at e
  rw[aY (τ:=bx) im.2.2 a (by omega),aY (τ:=bx) im.2.2 b (by omega)]at e
  unfold lW at this
  have h2:(im.2.2.take b).any (fun y=>decide (y.1=(im.2.2[b]'(by omega)).1))=true:=List.any_eq_true.2 ⟨im.2.2[a]'(by omega),List.mem_take_iff_getElem.2 ⟨a,by omega,rfl⟩,ab e⟩
  rw[h2]at this
  cases this
 ·unfold l8 at hi hk⊢
  rw[aO]at hi
  rw[pq (τ:=aW) (xX im) _ _ hi]at hk⊢
  obtain⟨hS,hG⟩:=h.sym i hi
  unfold xX at hk⊢
  simp only at hk⊢
  obtain⟨s,hs⟩:∃s:mJ,rd (τ:=bx) im.2.2 (i:Int)=s:=⟨_,rfl⟩
  rw[hs]at hS hG hk⊢
  have h0:=hS.at0
  have h1:=hS.size
  have hf:=hS.func hk
  have h20:=BF (hG hk).2.2
  rw[mX hz hS hk]
  exact .inl ⟨by omega,by omega⟩
 ·unfold lb
  have:=cv (fun i=>decide ((rd (τ:=bx) im.2.2 (i:Int)).2.1=1)) (fun i=>(((i:Int),0,ue (rd (τ:=bx) im.2.2 (i:Int)),(rd (τ:=bx) im.2.2 (i:Int)).2.2.2):Pc)) im.2.2.length 0
  omega
 ·unfold lb at hp
  obtain⟨j,_,hj,hk,rfl⟩:=cA _ _ _ _ _ hp
  have hj':j<im.2.2.length:=by omega
  obtain⟨hS,hG⟩:=h.sym j hj'
  have hk':=of_decide_eq_true hk
  obtain⟨s,hs⟩:∃s:mJ,rd (τ:=bx) im.2.2 (j:Int)=s:=⟨_,rfl⟩
  simp only[hs]at hS hG hk'⊢
  have h0:=hS.at0
  have h1:=hS.size
  have hf:=hS.func hk'
  rw[mX hz hS hk']
  have hl:(l8 im).length=im.2.2.length:=by unfold l8;rw[aO]
  rw[hl]
  refine⟨by omega,by omega,by omega,by omega,h1,by omega⟩
def yk (t:List dr) (o:bL) (l:fh) (owner:Int) (i:Nat):Pc:=(cp t (rd (τ:=aP) o.2.2.1 (i:Int)).1,owner,rd (τ:= .int .i64) l.1 (i:Int),(dW o i:Int),(rd (τ:=aP) o.2.2.1 (i:Int)).2.2.1)
theorem H0 {t u:List dr} {n:ByteArray} (h:0≤cp t n):cp (t++u) n=cp t n∧rd (τ:=aW) (t++u) (cp t n)=rd (τ:=aW) t (cp t n):=by
 have hrd:∀i:Nat,i<t.length→rd (τ:=aW) (t++u) (i:Int)=rd (τ:=aW) t (i:Int):=fun i hi=>by
  rw[aY (τ:=aW) (t++u) i (by rw[List.length_append];omega),aY (τ:=aW) t i hi,List.getElem_append_left hi]
 unfold cp at h⊢
 rcases ce (fun i=>decide ((rd (τ:=aW) t (i:Int)).1=n)) t.length 0 with⟨h1,h2⟩|⟨j,h1,h2,h3,h4,h5⟩
 ·rw[h1]at h;exact absurd h (by decide)
 ·rw[h1]
  rcases ce (fun i=>decide ((rd (τ:=aW) (t++u) (i:Int)).1=n)) (t++u).length 0 with⟨g1,g2⟩|⟨k,g1,g2,g3,g4,g5⟩
  ·have:=g2 j (Nat.zero_le _) (by rw[List.length_append];omega)
   rw[hrd j (by omega),h4]at this;cases this
  ·have:k=j:=by
    rcases Nat.lt_trichotomy k j with c|c|c
    ·have:=h5 k (Nat.zero_le _) c
     rw[hrd k (by omega)]at g4
     rw[this]at g4;cases g4
    ·exact c
    ·have:=g5 j (Nat.zero_le _) c
     rw[hrd j (by omega),h4]at this;cases this
   rw[g1,this]
   exact⟨rfl,hrd j (by omega)⟩
theorem H1 {t:List dr} {o:bL} {l:fh} {owner:Int} (hf:BE t) (ho:eg o) (hp:pt o l):BE (eY t o l owner):=by
 intro i hi hk
 have hm:=aw (τ:=aW) (eY t o l owner) i hi
 generalize rd (τ:=aW) (eY t o l owner) (i:Int)=e at*
 unfold eY at hm
 rcases List.mem_append.1 hm with hm|hm
 ·rcases List.mem_append.1 hm with hm|hm
  ·obtain⟨j,hj,rfl⟩:=rq (τ:=aW) hm
   exact hf j hj hk
  ·obtain⟨j,_,hj,_,rfl⟩:=cA _ _ _ _ _ hm
   obtain⟨x,hx,h1,h2,h3⟩:=hp j (by omega)
   have:=ho.fsz_pos j (by omega)
   unfold mU
   simp only[hx]
   exact .inr ⟨h1,by omega⟩
 ·obtain⟨j,_,hj,rfl⟩:=(bY _ _ _ _).1 hm
  unfold vj at hk
  exact absurd hk (show¬((2:Int)=1) by decide)
theorem H3 (t:List dr) (o:bL) (l:fh) (owner:Int) (ht:t.length≤64) (hz:ObjSz o) (hl:ft o l) (P:List Pc) (hP:P.length≤100) (r:List eA×bG×bG) (x6:fh):
  Bt.a (t,P,r) owner o x6 l o.2.2.1 (o.2.2.1.length:Int) 0=(sd r.1 t o l).bind fun r3=>some (l,r3.2,0,t,P++bn (yk t o l owner) 0 o.2.2.1.length,r3.1,r.2):=by
 have h1:=hz.f
 rw[cM (L:=fun acc i=>Bt.a (t,acc,r) owner o x6 l o.2.2.1 (o.2.2.1.length:Int) i) (yk t o l owner) o.2.2.1.length P fun acc i hi ha=> ?_]
 ·rw[Bt.a_eq,ai,am (az _),ac]
 ·show Bt.a (t,acc,r) owner o x6 l o.2.2.1 (o.2.2.1.length:Int) (i:Int)=_
  rw[Bt.a_eq,ai,aj,ab hi,an i _ hi (by omega),(dQ t _ (by omega)).1]
  simp only[ae,af]
  rw[aj,show decide (i<l.1.length)=true from ab (by rw[hl.a];exact hi),ru _ (by simp;omega)];rfl
theorem H4 (t:List dr) (o:bL) (l:fh) (owner:Int) (ht:t.length≤64) (hz:ObjSz o) (hl:ft o l) (P:List Pc) (hP:P.length≤100) (y:DH) (a b:bG) (x12:DH):
  Cw.a owner y o l a b x12 t P 0=(rV y.2.2.2.2 t o l).bind fun r2=>some ((t,a,b,P++bn (yk t o l owner) 0 o.2.2.1.length,r2.1),r2.2):=by
 have h1:=hz.f
 rw[cM (L:=fun acc i=>Cw.a owner y o l a b x12 t acc i) (yk t o l owner) o.2.2.1.length P fun acc i hi ha=> ?_]
 ·rw[Cw.a_eq,ai,am (az _),ac]
 ·show Cw.a owner y o l a b x12 t acc (i:Int)=_
  rw[Cw.a_eq,ai,aj,ab hi,an i _ hi (by omega),(dQ t _ (by omega)).2]
  simp only[ae,af]
  rw[aj,aj,show decide (i<l.1.length)=true from ab (by rw[hl.a];exact hi),show decide (i<l.2.1.length)=true from ab (by rw[hl.c];exact hi),hl.cs i hi,ru _ (by simp;omega)];rfl
theorem pz (sz:Nat→Nat):∀k i a,ct a→(cK sz a i k).2.2=true→
  a.2.2≤(cK sz a i k).1.2.2∧(∀j (hj:j< (cK sz a i k).2.1.length),a.2.2≤(cK sz a i k).2.1[j]∧(cK sz a i k).2.1[j]+(sz (i+j):Int)≤(cK sz a i k).1.2.2)∧
  (∀j j' (hj:j<j') (hj':j'< (cK sz a i k).2.1.length),(cK sz a i k).2.1[j]+(sz (i+j):Int)≤(cK sz a i k).2.1[j'])
 |0,_,a,_,_=>⟨Int.le_refl _,fun j hj=>by simp[cK]at hj,fun j j' _ hj=>by simp[cK]at hj⟩
 |k+1,i,a,h,ok=>by
  have e:cK sz a i (k+1)=((cK sz (aL a (sz i)).1 (i+1) k).1,(aL a (sz i)).2.1::(cK sz (aL a (sz i)).1 (i+1) k).2.1,(aL a (sz i)).2.2&&(cK sz (aL a (sz i)).1 (i+1) k).2.2):=rfl
  rw[e,ay]at ok
  obtain⟨h1,h2,h3⟩:=pz sz k (i+1) _ (c9 h (sz i)) ok.2
  have hp:(aL a (sz i)).2.1=a.2.2∧a.2.2+(sz i:Int)≤(aL a (sz i)).1.2.2:=by
   have:=ok.1
   unfold aL at this⊢
   split at this
   ·cases this
   ·rename_i hc
    rw[ap hc]
    have:sz i≤oN (sz i):=by unfold oN;omega
    exact⟨rfl,by show a.2.2+(sz i:Int)≤a.2.2+(oN (sz i):Int);omega⟩
  refine⟨?_,fun j hj=> ?_,fun j j' hj hj'=> ?_⟩
  ·show a.2.2≤(cK sz (aL a (sz i)).1 (i+1) k).1.2.2
   omega
  ·cases j with
   |zero=>
    show a.2.2≤(aL a (sz i)).2.1∧(aL a (sz i)).2.1+(sz i:Int)≤(cK sz (aL a (sz i)).1 (i+1) k).1.2.2
    omega
   |succ j=>
    have hl:j< (cK sz (aL a (sz i)).1 (i+1) k).2.1.length:=by rw[cr]at hj⊢;omega
    have:=h2 j hl
    rw[show i+1+j=i+(j+1) by omega]at this
    show a.2.2≤(cK sz (aL a (sz i)).1 (i+1) k).2.1[j]∧(cK sz (aL a (sz i)).1 (i+1) k).2.1[j]+(sz (i+(j+1)):Int)≤(cK sz (aL a (sz i)).1 (i+1) k).1.2.2
    omega
  ·cases j' with
   |zero=>omega
   |succ j'=>
    have hl':j'< (cK sz (aL a (sz i)).1 (i+1) k).2.1.length:=by rw[cr]at hj'⊢;omega
    cases j with
    |zero=>
     have:=h2 j' hl'
     show(aL a (sz i)).2.1+(sz i:Int)≤(cK sz (aL a (sz i)).1 (i+1) k).2.1[j']
     omega
    |succ j=>
     have:=h3 j j' (by omega) hl'
     rw[show i+1+j=i+(j+1) by omega]at this
     exact this
theorem JN {t T:List dr} {P:List Pc} {a b:bG} {o:bL} {v:fh×bG×bG×Int} (hP:ry P a.2.2) (h:By t a b o v) (ho:eg o) (ha:ct a) (h1:a.1=8192) (owner:Int) (how:1≤owner∧owner≤6) (hT:T.length≤64)
  (hs:∀i:Nat,i<o.2.2.1.length→0≤cp T (rd (τ:=aP) o.2.2.1 (i:Int)).1):ry (P++bn (yk T o v.1 owner) 0 o.2.2.1.length) v.2.1.2.2:=by
 have hok:=h.ok
 unfold dw at hok
 simp only[ay]at hok
 have hl:=cr (dW o) o.2.2.1.length 0 a
 obtain⟨p1,p2,p3⟩:=pz (dW o) o.2.2.1.length 0 a ha hok.1
 have e0:v.2.1=(cK (dW o) a 0 o.2.2.1.length).1:=h.ea
 rw[e0]
 have at_:∀i (hi:i<o.2.2.1.length),(rd (τ:= .int .i64) v.1.1 (i:Int):Int)=(cK (dW o) a 0 o.2.2.1.length).2.1[i]'(by rw[hl];exact hi):=fun i hi=>by
  rw[h.ats]
  exact aY (τ:= .int .i64) _ i (by show i< (cK (dW o) a 0 o.2.2.1.length).2.1.length;rw[hl];exact hi)
 have hbase:=(mV (dW o) o.2.2.1.length 0 a)
 have htop:=ha.top
 have one:∀i,i<o.2.2.1.length→HX (yk T o v.1 owner i)∧a.2.2≤(yk T o v.1 owner i).2.2.1∧(yk T o v.1 owner i).2.2.1+(yk T o v.1 owner i).2.2.2.1≤(cK (dW o) a 0 o.2.2.1.length).1.2.2:=by
  intro i hi
  obtain⟨f1,f2,f3,f4⟩:=iZ (ho.fun_ i hi)
  have g4:=xY f4
  have q:=p2 i (by rw[hl];exact hi)
  rw[←at_ i hi,Nat.zero_add]at q
  have her:=df T (rd (τ:=aP) o.2.2.1 (i:Int)).1
  have h0:=hs i hi
  unfold yk
  refine⟨⟨⟨h0,by simp only;omega⟩,⟨by simp only;omega,by simp only;omega⟩, ?_, ?_,f3⟩,q.1,q.2⟩
  ·exact nT (h.lnk.fa i hi)
  ·show(dW o i:Int)%4=0∧20≤(dW o i:Int)∧(dW o i:Int)≤256
   unfold dW
   omega
 refine⟨fun p hp=> ?_, ?_,fun p hp=> ?_⟩
 ·rcases List.mem_append.1 hp with hp|hp
  ·exact hP.ok p hp
  ·obtain⟨j,_,hj,rfl⟩:=(bY _ _ _ _).1 hp
   exact(one j (by omega)).1
 ·rw[List.pairwise_append]
  refine⟨hP.dis,k7 _ _ _ _ fun x y _ hxy hy=> ?_,fun p hp q hq=> ?_⟩
  ·left
   have q:=p3 x y hxy (by rw[hl];omega)
   rw[←at_ x (by omega),←at_ y (by omega),Nat.zero_add]at q
   exact q
  ·obtain⟨j,_,hj,rfl⟩:=(bY _ _ _ _).1 hq
   have:=(one j (by omega)).2.1
   left
   rcases hP.ins p hp with g|g<;>omega
 ·rcases List.mem_append.1 hp with hp|hp
  ·rcases hP.ins p hp with g|g
   ·exact .inl g
   ·exact .inr (by omega)
  ·obtain⟨j,_,hj,rfl⟩:=(bY _ _ _ _).1 hp
   have:=(one j (by omega)).2
   exact .inr (by omega)
theorem ry.pair {P:List Pc} {top:Int} (h:ry P top) {p q:Pc} (hp:p∈P) (hq:q∈P):p=q∨vk p q:=by
 obtain⟨i,hi,rfl⟩:=List.getElem_of_mem hp
 obtain⟨j,hj,rfl⟩:=List.getElem_of_mem hq
 rcases Nat.lt_trichotomy i j with c|c|c
 ·exact .inr (List.pairwise_iff_getElem.1 h.dis i j hi hj c)
 ·subst c;exact .inl rfl
 ·have:=List.pairwise_iff_getElem.1 h.dis j i hj hi c
  unfold vk at this⊢
  exact .inr (this.elim .inr .inl)
theorem kJ (l:fh):∀(k i:Nat) (F:Int→Int) (a n:Int),(∀j:Nat,i≤j→j<i+k→a+n≤(rd (τ:= .int .i64) l.1 (j:Int):Int)∨(rd (τ:= .int .i64) l.1 (j:Int):Int)+((rd (τ:= .str) l.2.1 (j:Int)).size:Int)≤a)→eU F a n→eU (iB F l i k) a n
 |0,_,_,_,_,_,h=>h
 |k+1,i,F,a,n,hd,h=>by
  rw[iB]
  refine kJ l k (i+1) _ a n (fun j h1 h2=>hd j (by omega) (by omega)) ?_
  exact h.out (hd i (Nat.le_refl _) (by omega))
theorem rz (l:fh):∀(k i:Nat) (F:Int→Int),(∀j:Nat,i≤j→j<i+k→kX (rd (τ:= .str) l.2.1 (j:Int)))→(∀j j':Nat,i≤j→j<j'→j'<i+k→(rd (τ:= .int .i64) l.1 (j:Int):Int)+((rd (τ:= .str) l.2.1 (j:Int)).size:Int)≤(rd (τ:= .int .i64) l.1 (j':Int):Int))→
  ∀j:Nat,i≤j→j<i+k→eU (iB F l i k) (rd (τ:= .int .i64) l.1 (j:Int)) ((rd (τ:= .str) l.2.1 (j:Int)).size:Int)
 |0,i,_,_,_,j,h1,h2=>by omega
 |k+1,i,F,hc,hd,j,h1,h2=>by
  rw[iB]
  rcases Nat.lt_or_ge i j with hj|hj
  ·exact rz l k (i+1) _ (fun j h1 h2=>hc j (by omega) (by omega)) (fun j j' h1 h2 h3=>hd j j' (by omega) h2 (by omega)) j hj (by omega)
  ·obtain rfl:j=i:=by omega
   exact kJ l k (j+1) _ _ _ (fun j' h1 h2=> .inl (hd j j' (Nat.le_refl _) h1 (by omega))) (eU.self _ (hc j (Nat.le_refl _) (by omega)))
theorem JO {T:List dr} (h:rt T) (k:Nat) (hk:k<T.length):cp T (rd (τ:=aW) T (k:Int)).1=(k:Int):=by
 unfold cp
 rcases ce (fun i=>decide ((rd (τ:=aW) T (i:Int)).1=(rd (τ:=aW) T (k:Int)).1)) T.length 0 with⟨_,h2⟩|⟨j,h1,_,h3,h4,h5⟩
 ·have:=h2 k (Nat.zero_le _) (by omega)
  rw[ab rfl]at this;cases this
 ·rw[h1]
  have hjl:j<T.length:=by omega
  have e:=of_decide_eq_true h4
  rcases Nat.lt_trichotomy j k with c|c|c
  ·have:=List.pairwise_iff_getElem.1 h.dis j k hjl hk c
   rw[aY (τ:=aW) T j hjl,aY (τ:=aW) T k hk]at e
   exact absurd e this
  ·rw[c]
  ·have:=h5 k (Nat.zero_le _) c
   rw[ab rfl]at this;cases this
theorem JP {τ:Ty} (A B:List τ.den) (k:Nat) (h:k<A.length):rd (τ:=τ) (A++B) (k:Int)=rd (τ:=τ) A (k:Int):=by
 rw[aY (τ:=τ) (A++B) k (by rw[List.length_append];omega),aY (τ:=τ) A k h,List.getElem_append_left h]
theorem JQ {τ:Ty} (A B:List τ.den) (k:Nat) (h:k< (A++B).length) (h':A.length≤k):rd (τ:=τ) (A++B) (k:Int)∈B:=by
 rw[aY (τ:=τ) (A++B) k h,List.getElem_append_right h']
 exact List.getElem_mem _
theorem JR {t:List dr} {P:List Pc} {o:bL} {l:fh} {owner:Int} (h:HY t P) (hT:rt (eY t o l owner)):HY (eY t o l owner) (P++bn (yk (eY t o l owner) o l owner) 0 o.2.2.1.length):=by
 intro k hk h1
 rcases Nat.lt_or_ge k t.length with hlt|hge
 ·have e:rd (τ:=aW) (eY t o l owner) (k:Int)=rd (τ:=aW) t (k:Int):=by
   unfold eY
   rw[bl]
   exact JP (τ:=aW) t _ k hlt
  rw[e]at h1⊢
  obtain⟨p,p1,p2,p3⟩:=h k hlt h1
  exact⟨p,List.mem_append_left _ p1,p2,p3⟩
 ·have hm:rd (τ:=aW) (eY t o l owner) (k:Int)∈cZ (fun i=> !(rd (τ:=aP) o.2.2.1 (i:Int)).2.1) (mU o l owner) 0 o.2.2.1.length++bn (vj o l owner) 0 o.2.2.2.1.length:=by
   have e:eY t o l owner=t++(cZ (fun i=> !(rd (τ:=aP) o.2.2.1 (i:Int)).2.1) (mU o l owner) 0 o.2.2.1.length++bn (vj o l owner) 0 o.2.2.2.1.length):=by unfold eY;rw[bl]
   have hk':=hk
   rw[e]at hk'⊢
   exact JQ (τ:=aW) t _ k hk' hge
  have hat:=JO hT k hk
  generalize hE:rd (τ:=aW) (eY t o l owner) (k:Int)=e at hm h1 hat⊢
  rcases List.mem_append.1 hm with hm|hm
  ·obtain⟨j,_,hj,_,rfl⟩:=cA _ _ _ _ _ hm
   refine⟨yk (eY t o l owner) o l owner j,List.mem_append_right _ ((bY _ _ _ _).2 ⟨j,Nat.zero_le _,hj,rfl⟩),hat,rfl⟩
  ·obtain⟨j,_,hj,rfl⟩:=(bY _ _ _ _).1 hm
   unfold vj at h1
   exact absurd h1 (show¬((2:Int)=1) by decide)
theorem DJ {T:List dr} {P:List Pc} {top:Int} (hP:ry P top) (hH:HY T P) (F:Int→Int) (q:Nat) (b:ByteArray) (hF:∀p∈P,eU F p.2.2.1 p.2.2.2.1) (hq:q<T.length) (h1:(rd (τ:=aW) T (q:Int)).2.1=1) (hb:b.size=4) (hd:xu ((eV b 0 4:Nat):Int)):
  ∀p∈P,eU (updF F (rd (τ:=aW) T (q:Int)).2.2.1 b) p.2.2.1 p.2.2.2.1:=by
 intro p hp
 obtain⟨p0,m0,_,e0⟩:=hH q hq h1
 rw[←e0]
 rcases hP.pair hp m0 with rfl|g
 ·exact(hF p hp).head hb hd
 ·have hz:=(hP.ok p0 m0).sz
  refine(hF p hp).out ?_
  unfold vk at g
  omega
theorem P9 {T:List dr} (h:rt T) (i:Nat) (hi:i<T.length):∃x:Int,(rd (τ:=aW) T (i:Int)).2.2.1=x∧x%4=0:=by
 have h1:=h.ent _ (aw (τ:=aW) T i hi)
 generalize rd (τ:=aW) T (i:Int)=e at h1
 refine⟨e.2.2.1,rfl, ?_⟩
 unfold de at h1
 cases h2:cz e.1 with
 |false=>rw[h2]at h1;cases h1
 |true=>
  rw[h2,ae]at h1
  cases h3:bS e.2.2.1 with
  |false=>rw[h3]at h1;cases h1
  |true=>
   have hr:=fI h3
   unfold bS at h3
   rw[show(decide (0≤e.2.2.1)&&decide (e.2.2.1≤1048575))=true by simp;omega,ae,aT,Int.tmod_eq_emod_of_nonneg hr.1]at h3
   exact h3
theorem H5 (n:Nat) (hn:n≤5) (t:List dr) (P:List Pc) (F:Int→Int) (a b:bG) (hL:Aj n t P F a b) (o:bL) (hr:tV o) (ho:qZ o=true):
  ∃v,gR t a b o=some v∧(v.2.2.2≠0→∃x,Bt (t,P,aG F BL,a,b) o ((n+1:Nat):Int)=some (x,[],v.2.2.2,(t,P,aG F BL,a,b)))∧
   (v.2.2.2=0→∃(t':List dr) (P':List Pc) (F':Int→Int) (sv:List (Int×Int)),sv.length≤4∧Aj (n+1) t' P' F' v.2.1 v.2.2.1∧ft o v.1∧
    Bt (t,P,aG F BL,a,b) o ((n+1:Nat):Int)=some (v.1,sv,0,(t',P',aG F' BL,v.2.1,v.2.2.1))∧
    Cw (t,a,b,P,aG F BL) o v.1 v.2.1 v.2.2.1 ((n+1:Nat):Int)=some ((t',v.2.1,v.2.2.1,P',aG F' BL),sv)):=by
 have hO:=mQ ho
 have hlen:=hL.len
 have hpl:=hL.pl
 have htab:=xU.2 hL.tab
 obtain⟨v,e1,e2,e3⟩:=Dv t a b o hr htab hL.aR hL.bR ho
 refine⟨v,e2,fun hv=> ?_,fun hv=> ?_⟩
 ·rw[Hp]
  simp only
  rw[e1]
  simp only[af]
  rw[am hv]
  exact⟨_,rfl⟩
 ·have hR:=e3 hv
  have hl:=hR.lnk
  have hp:=Af hR hL.aR hL.a1 hL.a2
  obtain⟨n1,n2⟩:=oz hR.names
  have hT:=JI (owner:=((n+1:Nat):Int)) hL.tab hO hl hR.names (by omega) (by omega)
  have hTf:=H1 (owner:=((n+1:Nat):Int)) hL.fin hO hp
  have hTl:=oA t o v.1 ((n+1:Nat):Int) hO.toObjSz
  have hTr:∀i:Nat,i<o.2.2.1.length→(rd (τ:=aP) o.2.2.1 (i:Int)).2.1=true→0≤cp (eY t o v.1 ((n+1:Nat):Int)) (rd (τ:=aP) o.2.2.1 (i:Int)).1∧(rd (τ:=aW) (eY t o v.1 ((n+1:Nat):Int)) (cp (eY t o v.1 ((n+1:Nat):Int)) (rd (τ:=aP) o.2.2.1 (i:Int)).1)).2.1=1:=by
   intro i hi hrr
   obtain⟨g1,g2⟩:=JG (n1 i hi) hrr
   unfold eY
   rw[bl]
   obtain⟨f1,f2⟩:=H0 (u:=cZ (fun i=> !(rd (τ:=aP) o.2.2.1 (i:Int)).2.1) (mU o v.1 ((n+1:Nat):Int)) 0 o.2.2.1.length++bn (vj o v.1 ((n+1:Nat):Int)) 0 o.2.2.2.1.length) g1
   rw[f1,f2];exact⟨g1,g2⟩
  have hHas:=JR (o:=o) (l:=v.1) (owner:=((n+1:Nat):Int)) hL.hs hT
  generalize hTn:eY t o v.1 ((n+1:Nat):Int)=T at*
  have hsy:∀i:Nat,i<o.2.2.1.length→0≤cp T (rd (τ:=aP) o.2.2.1 (i:Int)).1:=by
   intro j hj'
   have hnn:¬cp T (rd (τ:=aP) o.2.2.1 (j:Int)).1<0:=by
    cases hrep:(rd (τ:=aP) o.2.2.1 (j:Int)).2.1 with
    |true=>have:=(hTr j hj' hrep).1;omega
    |false=>
     rw[mT]
     intro hall
     refine hall (mU o v.1 ((n+1:Nat):Int) j) ?_ rfl
     rw[←hTn];unfold eY
     exact List.mem_append_left _ (List.mem_append_right _ (rx _ _ _ _ j (Nat.zero_le _) (by omega) (by rw[hrep];rfl)))
   omega
  have hPk:=JN hL.pk hR hO hL.aR hL.a1 ((n+1:Nat):Int) (by omega) hT.len hsy
  have hCd:∀p∈P++bn (yk T o v.1 ((n+1:Nat):Int)) 0 o.2.2.1.length,eU (iB F v.1 0 o.2.2.1.length) p.2.2.1 p.2.2.2.1:=by
   have hap:∀i j:Nat,i<j→j<o.2.2.1.length→(rd (τ:= .int .i64) v.1.1 (i:Int):Int)+(dW o i:Int)≤(rd (τ:= .int .i64) v.1.1 (j:Int):Int)∧a.2.2≤(rd (τ:= .int .i64) v.1.1 (i:Int):Int):=by
    intro i j hij hj
    have hok:=hR.ok
    unfold dw at hok
    simp only[ay]at hok
    have hlen:=cr (dW o) o.2.2.1.length 0 a
    obtain⟨_,q2,q3⟩:=pz (dW o) o.2.2.1.length 0 a hL.aR hok.1
    have at_:∀i (hi:i<o.2.2.1.length),(rd (τ:= .int .i64) v.1.1 (i:Int):Int)=(cK (dW o) a 0 o.2.2.1.length).2.1[i]'(by rw[hlen];exact hi):=fun i hi=>by
     rw[hR.ats]
     exact aY (τ:= .int .i64) _ i (by show i< (cK (dW o) a 0 o.2.2.1.length).2.1.length;rw[hlen];exact hi)
    have r3:=q3 i j hij (by rw[hlen];exact hj)
    have r2:=(q2 i (by rw[hlen];omega)).1
    rw[←at_ i (by omega),←at_ j hj,Nat.zero_add]at r3
    rw[←at_ i (by omega)]at r2
    exact⟨r3,r2⟩
   have htop:∀i:Nat,i<o.2.2.1.length→a.2.2≤(rd (τ:= .int .i64) v.1.1 (i:Int):Int):=by
    intro i hi
    have hok:=hR.ok
    unfold dw at hok
    simp only[ay]at hok
    have hlen:=cr (dW o) o.2.2.1.length 0 a
    obtain⟨_,q2,_⟩:=pz (dW o) o.2.2.1.length 0 a hL.aR hok.1
    have r2:=(q2 i (by rw[hlen];omega)).1
    have at_:(rd (τ:= .int .i64) v.1.1 (i:Int):Int)=(cK (dW o) a 0 o.2.2.1.length).2.1[i]'(by rw[hlen];exact hi):=by
     rw[hR.ats]
     exact aY (τ:= .int .i64) _ i (by show i< (cK (dW o) a 0 o.2.2.1.length).2.1.length;rw[hlen];exact hi)
    rw[←at_]at r2;exact r2
   have hcs:=hl.cs
   intro p hp
   rcases List.mem_append.1 hp with hp|hp
   ·refine kJ v.1 o.2.2.1.length 0 F _ _ (fun j _ h2=> .inl ?_) (hL.cd p hp)
    have h3:=htop j (by omega)
    have h4:=hL.aR.top
    rcases hL.pk.ins p hp with g|g
    ·have:=hL.a1;omega
    ·omega
   ·obtain⟨j,_,hj,rfl⟩:=(bY _ _ _ _).1 hp
    have:=rz v.1 o.2.2.1.length 0 F (fun j _ h2=>hR.dec j (by omega)) (fun i j _ h2 h3=>by
     rw[hcs i (by omega)]
     exact(hap i j h2 (by omega)).1) j (Nat.zero_le _) hj
    rw[hcs j (by omega)]at this
    exact this
  obtain⟨c1,c2⟩:=Ag o v.1 T hO.toObjSz hl hp [] o.2.2.1.length 0 F hL.fr (by omega)
  obtain⟨F',sv,hF',hCd',hsv,j1,j2⟩:=Ah o v.1 T hT.len hO.toObjSz hl hp hTf hTr (fun i hi _=>P9 hT i hi) (fun F=>∀p∈P++bn (yk T o v.1 ((n+1:Nat):Int)) 0 o.2.2.1.length,eU F p.2.2.1 p.2.2.2.1) (fun F q b hF hq h1 hb hd=>DJ hPk hHas F q b hF hq h1 hb hd) o.2.2.1.length 0 (iB F v.1 0 o.2.2.1.length) [] (mW v.1 _ _ F hL.fr) (by omega) (by simp)
  have hi:sd (aG F BL) T o v.1=some (aG F' BL,sv):=by rw[OD];exact c1.trans j1
  have hs:rV (aG F BL) T o v.1=some (aG F' BL,sv):=by rw[Ma];exact c2.trans j2
  have hf4:=hO.f
  obtain⟨_,hA,hB⟩:=xK o hO a b hL.aR hL.bR
  refine⟨T,P++bn (yk T o v.1 ((n+1:Nat):Int)) 0 o.2.2.1.length,F',sv,by omega,⟨hT,by omega,hTf,by rw[List.length_append,aO];omega,hF',by rw[hR.ea];exact hA, ?_, ?_,by rw[hR.eb];exact hB,fun p hp=> ?_,hPk,hHas,hCd' hCd⟩,hl, ?_, ?_⟩
  ·rw[hR.ea];exact(mV _ _ _ _).1.trans hL.a1
  ·rw[hR.ea];exact(mV _ _ _ _).2.trans hL.a2
  ·have hTlen:t.length≤T.length:=by rw[←hTn];unfold eY;simp only[List.length_append];omega
   rcases List.mem_append.1 hp with hp|hp
   ·have:=hL.pcs p hp
    omega
   ·obtain⟨j,_,hj,rfl⟩:=(bY _ _ _ _).1 hp
    have hj':j<o.2.2.1.length:=by omega
    have hfs:=hO.fsz_pos j hj'
    have hat:=hl.fa j hj'
    have her:=df T (rd (τ:=aP) o.2.2.1 (j:Int)).1
    have hnn:=hsy j hj'
    unfold yk
    simp only
    exact⟨by omega,by omega,hat.1,hat.2.1,by omega,by omega,by omega,by omega⟩
  ·rw[Hp]
   simp only
   rw[e1]
   simp only[af]
   rw[hv,OB,am (show¬(t.length:Int)>4096 by omega),(iX t).1,htab,(jz o hr).1,ho,sI o v.1 hO.toObjSz hl,(bN _ _ _).1,bF.2 (show 1≤((n+1:Nat):Int)∧((n+1:Nat):Int)≤6 by omega),l7 t o v.1 _ (by omega) hO.toObjSz hl,hTn]
   simp only[decide_true,aM,ac,af,aJ]
   rw[(iX T).1,xU.2 hT]
   simp only[decide_true,aM,ac,af]
   rw[H3 T o v.1 _ hT.len hO.toObjSz hl P (by omega)]
   simp only
   rw[hi];rfl
  ·rw[Mb]
   simp only
   rw[sH t o v.1 _ (by omega) hO.toObjSz hl,hTn]
   simp only[af]
   rw[ru _ (by omega),ae,H4 T o v.1 _ hT.len hO.toObjSz hl P (by omega)]
   simp only
   rw[hs];rfl
theorem du {L:Int→Option Bool} {n m:Nat} (p:Nat→Bool) (hend:n=m→L (n:Int)=some true) (hstep:n=m→∀i:Nat,i<n→L (i:Int)=bif p i then L ((i+1:Nat):Int)else some false):
  (bif (!decide ((n:Int)=(m:Int)))then some false else L 0)=some (decide (n=m)&&iv p 0 n):=by
 by_cases h:n=m
 ·rw[ab (show(n:Int)=(m:Int) by omega),ab h,dq p n (hend h) (hstep h)];rfl
 ·rw[am (show¬(n:Int)=(m:Int) by omega),am h];rfl
def Qo (a b:List Int):Bool:=decide (a.length=b.length)&&iv (fun i=>decide ((rd (τ:= .int .i64) a (i:Int):Int)=rd (τ:= .int .i64) b (i:Int))) 0 a.length
def Rp (a b:List ByteArray):Bool:=decide (a.length=b.length)&&iv (fun i=>decide ((rd (τ:= .str) a (i:Int):ByteArray)=rd (τ:= .str) b (i:Int))) 0 a.length
theorem pA (a b:List Int) (h:a.length≤1048576):E9 a b=some (Qo a b)∧EM a b=some (Qo a b):=by
 rw[OE,LW]
 constructor
 ·refine du (L:=E9.a a b (a.length:Int)) _ (fun _=> ?_) fun hl i hi=> ?_
  ·rw[E9.a_eq,ai,am (az _),ac]
  ·rw[E9.a_eq,ai,aj,aj,ab hi,ab (show i<b.length by omega),an i _ hi (by omega)]
   simp only[ae]
   cases decide ((rd (τ:= .int .i64) a (i:Int):Int)=rd (τ:= .int .i64) b (i:Int))<;>rfl
 ·refine du (L:=EM.a a b) _ (fun _=> ?_) fun hl i hi=> ?_
  ·rw[EM.a_eq,ai,am (az _),ac]
  ·rw[EM.a_eq,ai,aj,aj,ab hi,ab (show i<b.length by omega),an i _ hi (by omega)]
   simp only[ae]
   cases decide ((rd (τ:= .int .i64) a (i:Int):Int)=rd (τ:= .int .i64) b (i:Int))<;>rfl
theorem pB (a b:List ByteArray) (h:a.length≤1048576):Fa a b=some (Rp a b)∧EN a b=some (Rp a b):=by
 rw[OF,LX]
 constructor
 ·refine du (L:=Fa.a a b (a.length:Int)) _ (fun _=> ?_) fun hl i hi=> ?_
  ·rw[Fa.a_eq,ai,am (az _),ac]
  ·rw[Fa.a_eq,ai,aj,aj,ab hi,ab (show i<b.length by omega),an i _ hi (by omega),bf]
   simp only[ae]
   cases decide ((rd (τ:= .str) a (i:Int):ByteArray)=rd (τ:= .str) b (i:Int))<;>rfl
 ·refine du (L:=EN.a a b) _ (fun _=> ?_) fun hl i hi=> ?_
  ·rw[EN.a_eq,ai,am (az _),ac]
  ·rw[EN.a_eq,ai,aj,aj,ab hi,ab (show i<b.length by omega),an i _ hi (by omega),bf]
   simp only[ae]
   cases decide ((rd (τ:= .str) a (i:Int):ByteArray)=rd (τ:= .str) b (i:Int))<;>rfl
def mY (a b:fh):Bool:=Qo a.1 b.1&&(Rp a.2.1 b.2.1&&(Qo a.2.2.1 b.2.2.1&&Rp a.2.2.2 b.2.2.2))
theorem Ak (a b:fh) (h1:a.1.length≤1048576) (h2:a.2.1.length≤1048576) (h3:a.2.2.1.length≤1048576) (h4:a.2.2.2.length≤1048576):R4 a b=some (mY a b)∧S7 a b=some (mY a b):=by
 rw[OG,LY,(pA _ _ h1).1,(pA _ _ h1).2,(pB _ _ h2).1,(pB _ _ h2).2,(pA _ _ h3).1,(pA _ _ h3).2,(pB _ _ h4).1,(pB _ _ h4).2]
 unfold mY
 simp only[af]
 cases Qo a.1 b.1<;>cases Rp a.2.1 b.2.1<;>cases Qo a.2.2.1 b.2.2.1<;>exact⟨rfl,rfl⟩
abbrev Sv:Type:=Int×Int
def H6 (a b:List Sv):Bool:=decide (a.length=b.length)&&iv (fun i=>kR gu (rd (τ:=gu) a (i:Int)) (rd (τ:=gu) b (i:Int))) 0 a.length
theorem rC (a b:List Sv) (h:a.length≤1048576):Fb a b=some (H6 a b)∧Gn a b=some (H6 a b):=by
 rw[OH,Mc]
 constructor
 ·refine du (L:=Fb.a a b (a.length:Int)) _ (fun _=> ?_) fun hl i hi=> ?_
  ·rw[Fb.a_eq,ai,am (az _),ac]
  ·rw[Fb.a_eq,ai,aj,aj,ab hi,ab (show i<b.length by omega),an i _ hi (by omega)]
   simp only[ae]
   cases kR gu (rd (τ:=gu) a (i:Int)) (rd (τ:=gu) b (i:Int))<;>rfl
 ·refine du (L:=Gn.a a b) _ (fun _=> ?_) fun hl i hi=> ?_
  ·rw[Gn.a_eq,ai,am (az _),ac]
  ·rw[Gn.a_eq,ai,aj,aj,ab hi,ab (show i<b.length by omega),an i _ hi (by omega)]
   simp only[ae]
   cases kR gu (rd (τ:=gu) a (i:Int)) (rd (τ:=gu) b (i:Int))<;>rfl
def SA (a b:List dr):Bool:=decide (a.length=b.length)&&iv (fun i=>kR aW (rd (τ:=aW) a (i:Int)) (rd (τ:=aW) b (i:Int))) 0 a.length
theorem BG (a b:List dr) (h:a.length≤1048576):Hv a b=some (SA a b)∧Gp a b=some (SA a b):=by
 rw[OV,Me]
 constructor
 ·refine du (L:=Hv.a a b (a.length:Int)) _ (fun _=> ?_) fun hl i hi=> ?_
  ·rw[Hv.a_eq,ai,am (az _),ac]
  ·rw[Hv.a_eq,ai,aj,aj,ab hi,ab (show i<b.length by omega),an i _ hi (by omega)]
   simp only[ae]
   cases kR aW (rd (τ:=aW) a (i:Int)) (rd (τ:=aW) b (i:Int))<;>rfl
 ·refine du (L:=Gp.a a b) _ (fun _=> ?_) fun hl i hi=> ?_
  ·rw[Gp.a_eq,ai,am (az _),ac]
  ·rw[Gp.a_eq,ai,aj,aj,ab hi,ab (show i<b.length by omega),an i _ hi (by omega)]
   simp only[ae]
   cases kR aW (rd (τ:=aW) a (i:Int)) (rd (τ:=aW) b (i:Int))<;>rfl
def xZ (a b:eA):Bool:=decide (a.1=b.1)&&(decide (a.2.1=b.2.1)&&(!decide (a.2.1=4)||decide (a.2.2=b.2.2)))
def oD (a b:List eA):Bool:=decide (a.length=b.length)&&iv (fun i=>xZ (rd (τ:=aN) a (i:Int)) (rd (τ:=aN) b (i:Int))) 0 a.length
theorem ya (a b:List eA) (h:a.length≤1048576):TE a b=some (oD a b)∧EO a b=some (oD a b):=by
 rw[OY,OX,Mf]
 constructor
 ·rw[du (L:=IN.a b a (a.length:Int)) (fun i=>xZ (rd (τ:=aN) a (i:Int)) (rd (τ:=aN) b (i:Int))) (fun _=> ?_) fun hl i hi=> ?_]
  ·rfl
  ·rw[IN.a_eq,ai,am (az _),ac]
  ·rw[IN.a_eq,ai,aj,aj,ab hi,ab (show i<b.length by omega),an i _ hi (by omega),OW,bf]
   unfold xZ
   simp only[ae]
   generalize rd (τ:=aN) a (i:Int)=x
   generalize rd (τ:=aN) b (i:Int)=y
   cases decide (x.1=y.1)<;>cases decide (x.2.1=y.2.1)<;>cases decide (x.2.1=4)<;>cases decide (x.2.2=y.2.2)<;>rfl
 ·refine du (L:=EO.a a b) _ (fun _=> ?_) fun hl i hi=> ?_
  ·rw[EO.a_eq,ai,am (az _),ac]
  ·rw[EO.a_eq,ai,aj,aj,ab hi,ab (show i<b.length by omega),an i _ hi (by omega),bf]
   unfold xZ
   simp only[ae]
   generalize rd (τ:=aN) a (i:Int)=x
   generalize rd (τ:=aN) b (i:Int)=y
   cases decide (x.1=y.1)<;>cases decide (x.2.1=y.2.1)<;>cases decide (x.2.1=4)<;>cases decide (x.2.2=y.2.2)<;>rfl
def uf (o:bL) (id:Int):Bool:=go (fun k=>decide ((rd (τ:=dR) o.2.2.2.2.2 (k:Int)).1=id)) 0 o.2.2.2.2.2.length
def rE (q o:bL):Bool:=go (fun i=>uf o (rd (τ:=dR) q.2.2.2.2.2 (i:Int)).1) 0 q.2.2.2.2.2.length
theorem H7 (o:bL) (hz:ObjSz o) (id:Int):Tm o id=some (uf o id):=by
 have h:=hz.s
 rw[NM,NL,NK]
 rw[cS (L:=II.a id o.2.2.2.2.2 (o.2.2.2.2.2.length:Int)) (fun k=>decide ((rd (τ:=dR) o.2.2.2.2.2 (k:Int)).1=id)) o.2.2.2.2.2.length ?_ fun i hi=> ?_]
 ·simp only[af];rw[qV];rfl
 ·rw[II.a_eq,ai];simp
 ·rw[II.a_eq,ai,aj,ab hi,an i _ hi (by omega),NJ];rfl
theorem DK (q o:bL) (hq:ObjSz q) (ho:ObjSz o):Tn q o=some (rE q o):=by
 have h:=hq.s
 rw[NQ,NP,NO]
 rw[cS (L:=IJ.a o q.2.2.2.2.2 (q.2.2.2.2.2.length:Int)) (fun i=>uf o (rd (τ:=dR) q.2.2.2.2.2 (i:Int)).1) q.2.2.2.2.2.length ?_ fun i hi=> ?_]
 ·simp only[af];rw[qV];rfl
 ·rw[IJ.a_eq,ai];simp
 ·rw[IJ.a_eq,ai,aj,ab hi,an i _ hi (by omega),NN,H7 o ho];rfl
abbrev JS:Ty:= .pair .str (.pair (.int .i64) (.pair (.list aP) (.pair (.list bB) (.pair (.list cu) (.list dR)))))
abbrev JT:Ty:= .pair (.list (.int .i64)) (.pair (.list .str) (.pair (.list (.int .i64)) (.list .str)))
abbrev cI:Ty:= .pair JS (.pair JT (.list gu))
abbrev IO:Type:=bL×fh×List Sv
def mZ (ps:List IO) (o:bL):Bool:=go (fun j=>decide ((rd (τ:=cI) ps (j:Int)).1.1=o.1)) 0 ps.length
def kK (ps:List IO) (o:bL):Bool:=go (fun j=>rE (rd (τ:=cI) ps (j:Int)).1 o) 0 ps.length
theorem H8 (o:bL) (id:Int):go (fun k=>decide (id=(rd (τ:=dR) o.2.2.2.2.2 (k:Int)).1)) 0 o.2.2.2.2.2.length=uf o id:=by
 unfold uf
 have e:(fun k:Nat=>decide (id=(rd (τ:=dR) o.2.2.2.2.2 (k:Int)).1))=fun k:Nat=>decide ((rd (τ:=dR) o.2.2.2.2.2 (k:Int)).1=id):=by
  funext k
  congr 1
  exact propext ⟨Eq.symm,Eq.symm⟩
 rw[e]
theorem Al (ps:List IO) (o:bL) (hp:ps.length≤6) (hz:∀j:Nat,j<ps.length→ObjSz (rd (τ:=cI) ps (j:Int)).1) (ho:ObjSz o):jP.b ps o 0=bif kK ps o then some 30 else some 0:=by
 have hs:=ho.s
 rw[eK (L:=jP.b ps o) (fun j=>rE (rd (τ:=cI) ps (j:Int)).1 o) ps.length (some 30) fun j hj=> ?_]
 ·rw[jP.b_eq,ai,am (az _),ac];rfl
 ·obtain⟨q,hq⟩:∃q:bL,(rd (τ:=cI) ps (j:Int)).1=q:=⟨_,rfl⟩
  have hqz:=hz j hj
  rw[hq]at hqz⊢
  have hqs:=hqz.s
  rw[jP.b_eq,ai,aj,ab hj,ae,ae,hq]
  rw[eK (L:=jP.c ps o (j:Int) q.2.2.2.2.2) (fun k=>uf o (rd (τ:=dR) q.2.2.2.2.2 (k:Int)).1) q.2.2.2.2.2.length (some 30) fun k hk=> ?_]
  ·rw[jP.c_eq,ai,am (az _),ac,an j _ hj (by omega)];rfl
  ·rw[jP.c_eq,ai,ab hk,ae]
   rw[eK (L:=jP.d ps o (j:Int) q.2.2.2.2.2 (k:Int)) (fun n=>decide ((rd (τ:=dR) q.2.2.2.2.2 (k:Int)).1=(rd (τ:=dR) o.2.2.2.2.2 (n:Int)).1)) o.2.2.2.2.2.length (some 30) fun n hn=> ?_]
   ·rw[jP.d_eq,ai,am (az _),ac,an k _ hk (by omega),H8]
   ·rw[jP.d_eq,ai,aj,aj,ab hn,ab hk,an n _ hn (by omega)]
    simp only[ae]
theorem vm (ps:List IO) (o:bL) (hp:ps.length≤6) (hz:∀j:Nat,j<ps.length→ObjSz (rd (τ:=cI) ps (j:Int)).1) (ho:ObjSz o):jP ps o=some (bif mZ ps o then 24 else bif kK ps o then 30 else 0):=by
 rw[LI,eK (L:=jP.a ps o) (fun j=>decide ((rd (τ:=cI) ps (j:Int)).1.1=o.1)) ps.length (some 24) fun j hj=> ?_]
 ·rw[jP.a_eq,ai,am (az _),ac,Al ps o hp hz ho]
  show(bif mZ ps o then _ else _)=_
  cases mZ ps o<;>cases kK ps o<;>rfl
 ·rw[jP.a_eq,ai,aj,ab hj,an j _ hj (by omega),bf]
  simp only[ae]
theorem BH (p q:Nat→Bool):∀k i,go (fun j=>p j||q j) i k=(go p i k||go q i k)
 |0,_=>rfl
 |k+1,i=>by
  rw[go,go,go,BH p q k (i+1)]
  cases p i<;>cases q i<;>simp
abbrev SB:Type:=gm×R3×List IO
def BI (ps:List IO):Prop:=∀j:Nat,j<ps.length→tV (rd (τ:=cI) ps (j:Int)).1
abbrev ZI:P8:=([],[],[],(0,0,0),0,0,0)
theorem JU {τ:Ty} (l:List τ.den) (n j:Nat) (hj:j<n) (hn:n≤l.length):rd (τ:=τ) (l.take n) (j:Int)=rd (τ:=τ) l (j:Int):=by
 rw[aY _ _ (by rw[List.length_take];omega),aY _ _ (by omega),List.getElem_take]
theorem H9 (ps:List IO) (hp:ps.length≤6) (hW:BI ps) (saved:Bool) (x6:P8) (x6':DH):∀(k i:Nat) (t:List dr) (P:List Pc) (F:Int→Int) (a b:bG),i+k=ps.length→Aj i t P F a b→(∀j:Nat,j<i→qZ (rd (τ:=cI) ps (j:Int)).1=true)→
  ∃rI rS,t6.a ps saved ZI (t,P,aG F BL,a,b) ps (ps.length:Int) (i:Int)=some rI∧Ba.a ps saved x6' (t,a,b,P,aG F BL) (i:Int)=some rS∧rI.2=rS.2∧
   (rI.2=true→(ps.length≤6∧∀j:Nat,j<ps.length→qZ (rd (τ:=cI) ps (j:Int)).1=true)∧∃t' P' F' a' b',rI.1=(t',P',aG F' BL,a',b')∧rS.1=(t',a',b',P',aG F' BL)∧Aj ps.length t' P' F' a' b'):=by
 intro k
 induction k with
 |zero=>
  intro i t P F a b h hL hO
  have:i=ps.length:=by omega
  subst this
  rw[t6.a_eq,ai,am (az _),ac,Ba.a_eq,ai,am (az _),ac]
  exact⟨_,_,rfl,rfl,rfl,fun _=>⟨⟨hp,hO⟩,t,P,F,a,b,rfl,rfl,hL⟩⟩
 |succ k ih=>
  intro i t P F a b h hL hO
  have hi:i<ps.length:=by omega
  have hr:=hW i hi
  rw[t6.a_eq,ai,aj,ab hi,Ba.a_eq,ai,ab hi]
  simp only[aj,ab hi,ae,aJ]
  obtain⟨p,hpe⟩:∃p:IO,rd (τ:=cI) ps (i:Int)=p:=⟨_,rfl⟩
  rw[hpe]at hr⊢
  rw[(jz p.1 hr).1,(jz p.1 hr).2]
  simp only[af]
  cases hob:qZ p.1 with
  |false=>exact⟨_,_,rfl,rfl,rfl,fun h=>by cases h⟩
  |true=>
   simp only[aM,ac]
   by_cases hdep:p.1.2.1=(i:Int)
   ·rw[ab hdep,jw i _ (by omega),jv]
    simp only[aM,ac,ae]
    have hpo:=mQ hob
    have hlt:(ps.take i).length=i:=by rw[List.length_take];omega
    have hsz:∀j:Nat,j< (ps.take i).length→ObjSz (rd (τ:=cI) (ps.take i) (j:Int)).1:=fun j hj=>by
     rw[hlt]at hj
     rw[JU (τ:=cI) ps i j hj (by omega)]
     exact(mQ (hO j hj)).toObjSz
    rw[vm (ps.take i) p.1 (by omega) hsz hpo.toObjSz]
    simp only[af]
    rw[eK (L:=t6.b ps saved ZI (t,P,aG F BL,a,b) (i:Int) p ps (ps.length:Int) (i:Int) (ps.take i) ((ps.take i).length:Int)) (fun j=>decide ((rd (τ:=cI) (ps.take i) (j:Int)).1.1=p.1.1)||rE (rd (τ:=cI) (ps.take i) (j:Int)).1 p.1) (ps.take i).length (some (ZI,false)) fun j hj=> ?_]
    ·rw[BH]
     show∃rI rS,(bif (mZ (ps.take i) p.1||kK (ps.take i) p.1)then _ else _)=some rI∧_
     cases hna:mZ (ps.take i) p.1 with
     |true=>exact⟨_,_,rfl,rfl,rfl,fun h=>by cases h⟩
     |false=>
      cases hsa:kK (ps.take i) p.1 with
      |true=>exact⟨_,_,rfl,rfl,rfl,fun h=>by cases h⟩
      |false=>
       simp only[Bool.or_self,ac,decide_true,aM]
       rw[t6.b_eq,ai,am (az _),ac,an i ps.length hi (by omega)]
       obtain⟨v,e1,e2,e3⟩:=H5 i (by omega) t P F a b hL p.1 hr hob
       rw[e1]
       simp only[af,aJ]
       by_cases hv:v.2.2.2=0
       ·obtain⟨t',P',F',sv,hsv,hL',hl',g1,g2⟩:=e3 hv
        rw[g1,hv]
        simp only[af,decide_true,aM,ac]
        have hof:=hpo.f
        have hod:=hpo.d
        obtain⟨q1,q2⟩:=Ak v.1 p.2.1 (by rw[hl'.a];omega) (by rw[hl'.c];omega) (by rw[hl'.d];omega) (by rw[hl'.b];omega)
        rw[q1,q2]
        simp only[af]
        have hnext:=ih (i+1) t' P' F' v.2.1 v.2.2.1 (by omega) hL' fun j hj=>by
         by_cases e:j=i
         ·rw[e,hpe];exact hob
         ·exact hO j (by omega)
        cases mY v.1 p.2.1 with
        |false=>cases saved<;>exact⟨_,_,rfl,rfl,rfl,fun h=>by cases h⟩
        |true=>
         simp only[aM,ac]
         rw[g2]
         simp only[af]
         cases saved with
         |true=>
          simp only[aM,ac,ae]
          rw[(rC sv p.2.2 (by omega)).1,(rC sv p.2.2 (by omega)).2]
          simp only[af]
          cases H6 sv p.2.2 with
          |false=>exact⟨_,_,rfl,rfl,rfl,fun h=>by cases h⟩
          |true=>exact hnext
         |false=>
          simp only[Bool.not_false,ae,ac]
          rw[(rC [] p.2.2 (by simp)).1]
          simp only[af]
          have e:H6 [] p.2.2= !decide ((p.2.2.length:Int)>0):=by
           unfold H6
           rw[show iv (fun i=>kR gu (rd (τ:=gu) ([]:List Sv) (i:Int)) (rd (τ:=gu) p.2.2 (i:Int))) 0 ([]:List Sv).length=true from rfl,Bool.and_true,←decide_not]
           congr 1
           apply propext
           simp only[List.length_nil]
           omega
          rw[e]
          cases decide ((p.2.2.length:Int)>0)with
          |true=>exact⟨_,_,rfl,rfl,rfl,fun h=>by cases h⟩
          |false=>exact hnext
       ·obtain⟨x,g1⟩:=e2 hv
        rw[g1]
        simp only[af]
        rw[am hv]
        cases saved<;>exact⟨_,_,rfl,rfl,rfl,fun h=>by cases h⟩
    ·have hj2:=hj
     rw[hlt]at hj2
     rw[t6.b_eq,ai,aj,ab hj,an j _ hj (by omega),DK _ _ (hsz j hj) hpo.toObjSz,bf]
     simp only[ae,af]
     cases decide ((rd (τ:=cI) (ps.take i) (j:Int)).1.1=p.1.1)<;>cases rE (rd (τ:=cI) (ps.take i) (j:Int)).1 p.1<;>rfl
   ·rw[am hdep]
    exact⟨_,_,rfl,rfl,rfl,fun h=>by cases h⟩
theorem vp (im:gm) (him:CX im=true) (ps:List IO) (hW:BI ps) (saved:Bool):
  ∃rI rS,t6 im ps saved=some rI∧Ba im ps saved=some rS∧rI.2=rS.2∧
   (rI.2=true→(ps.length≤6∧∀j:Nat,j<ps.length→qZ (rd (τ:=cI) ps (j:Int)).1=true)∧∃t' P' F' a' b',rI.1=(t',P',aG F' BL,a',b')∧rS.1=(t',a',b',P',aG F' BL)∧Aj ps.length t' P' F' a' b'):=by
 obtain⟨i1,i2,i3⟩:=ou im
 have hI:=i3 him
 obtain⟨n1,n2⟩:=JJ im hI.sz
 rw[Hq,Md,i1,him,n2]
 simp only[af,aJ,aM,ac]
 rcases Nat.lt_or_ge 6 ps.length with h|h
 ·rw[ab (show(ps.length:Int)>6 by omega)]
  exact⟨_,_,rfl,rfl,rfl,fun h=>by cases h⟩
 ·rw[am (show¬(ps.length:Int)>6 by omega),n1]
  simp only[af,ac]
  exact H9 ps h hW saved ZI ([],(0,0,0),(0,0,0),[],[]) ps.length 0 (l8 im) (lb im) (F0 im) _ _ (by omega) (JM hI) fun j hj=>by omega
theorem Ia {m:R3} (h:xA m=true):m.1.length≤64∧m.2.2.1.length≤64:=by
 unfold xA at h
 rw[ay,ay]at h
 have h1:=h.1
 have h2:=h.2.1
 unfold iW at h1
 unfold oM at h2
 rw[ay,aT]at h1 h2
 exact⟨h1.1,h2.1⟩
theorem vq (s:SB) (hW:BI s.2.2):∃rI rS,TF s=some rI∧S8 s=some rS∧rI.2=rS.2∧
  (rI.2=true→(s.2.2.length≤6∧xA s.2.1=true∧∀j:Nat,j<s.2.2.length→qZ (rd (τ:=cI) s.2.2 (j:Int)).1=true)∧∃t' P' F' a' b',rI.1=(t',P',aG F' BL,a',b')∧rS.1=(t',a',b',P',aG F' BL)∧Aj s.2.2.length t' P' F' a' b'∧oD s.2.1.1 (aG F' BL)=true∧SA s.2.1.2.2.1 t'=true):=by
 obtain⟨i1,i2,i3⟩:=ou s.1
 obtain⟨m1,m2⟩:=xB s.2.1
 rw[OZ,Mg,i2,m1,m2]
 simp only[af,aJ]
 cases him:CX s.1 with
 |false=>
  rw[Hq,i1,him]
  simp only[af,aJ,Bool.not_false,ae]
  exact⟨_,_,rfl,rfl,rfl,fun h=>by cases h⟩
 |true=>
  obtain⟨rI,rS,e1,e2,e3,e4⟩:=vp s.1 him s.2.2 hW true
  rw[e1]
  simp only[af,aM,ac]
  cases hm:xA s.2.1 with
  |false=>
   cases h:rI.2 with
   |false=>exact⟨_,_,rfl,rfl,rfl,fun h=>by cases h⟩
   |true=>exact⟨_,_,rfl,rfl,rfl,fun h=>by cases h⟩
  |true=>
   obtain⟨l1,l2⟩:=Ia hm
   simp only[aM,ac]
   rw[e2]
   simp only[af]
   rw[←e3]
   cases h:rI.2 with
   |false=>exact⟨_,_,rfl,rfl,rfl,fun h=>by cases h⟩
   |true=>
    obtain⟨f0,t',P',F',a',b',f1,f2,f3⟩:=e4 h
    rw[f1,f2]
    simp only[aM,ac,ae]
    rw[(BG _ _ (by omega)).1,(BG _ _ (by omega)).2]
    simp only[af]
    cases hq:SA s.2.1.2.2.1 t' with
    |false=>exact⟨_,_,rfl,rfl,rfl,fun h=>by cases h⟩
    |true=>
     simp only[aM,ac,ae]
     rw[(ya _ _ (by omega)).1,(ya _ _ (by omega)).2]
     simp only[af]
     cases hk:oD s.2.1.1 (aG F' BL)with
     |false=>exact⟨_,_,rfl,rfl,rfl,fun h=>by cases h⟩
     |true=>exact⟨_,_,rfl,rfl,rfl,fun _=>⟨⟨f0.1,trivial,f0.2⟩,t',P',F',a',b',rfl,rfl,f3,hk,hq⟩⟩
def yl:(τ:Ty)→τ.den→Prop
 | .list e,l=>List.length l≤1048576∧∀x∈l,yl e x
 | .pair a b,x=>yl a x.1∧yl b x.2
 |_,_=>True
def SP (B:Prop) (left:Int) (v:Option Int):Prop:=∃r,v=some r∧r≤left∧(0≤r→B)
def oE (left:Int):Prop:=0≤left∧left≤1048576
theorem SP.fin {B:Prop} {left:Int} (h:B):SP B left (some left):=⟨left,rfl,Int.le_refl _,fun _=>h⟩
theorem SP.str {B:Prop} {left:Int} (n:Nat) (hn:n≤9223372036854775807) (hl:oE left) (K:Int→Option Int) (hK:∀l',oE l'→l'≤left→n≤1048576→SP B l' (K l')):SP B left (bif decide (IntKind.wrap .i64 (left-(n:Int))<0)then some (-1)else K (IntKind.wrap .i64 (left-(n:Int)))):=by
 obtain⟨h1,h2⟩:=hl
 rw[aU (n:=left-(n:Int)) (by omega) (by omega)]
 by_cases h:left-(n:Int)<0
 ·rw[ab h];exact⟨-1,rfl,by omega,fun h=>absurd h (by decide)⟩
 ·rw[am h,ac]
  obtain⟨r,e1,e2,e3⟩:=hK (left-(n:Int)) ⟨by omega,by omega⟩ (by omega) (by omega)
  exact⟨r,e1,by omega,e3⟩
theorem SP.call {B B1:Prop} {left:Int} {v:Option Int} (hf:SP B1 left v) (hl:oE left) (K:Int→Option Int) (hK:B1→∀r,oE r→SP B r (K r)):SP B left (v.bind fun r=>bif decide (r<0)then some (-1)else K r):=by
 obtain⟨r,e1,e2,e3⟩:=hf
 rw[e1,af]
 have:=hl.2
 by_cases h:r<0
 ·rw[ab h];exact⟨-1,rfl,by have:=hl.1;omega,fun h=>absurd h (by decide)⟩
 ·rw[am h,ac]
  obtain⟨r',e4,e5,e6⟩:=hK (e3 (by omega)) r ⟨by omega,by omega⟩
  exact⟨r',e4,by omega,e6⟩
def m4 (τ:Ty) (f:τ.den→Int→Option Int):Prop:=∀x,o6 τ x→∀left,oE left→SP (yl τ x) left (f x left)
theorem JV {τ:Ty} (l:List τ.den) (g:τ.den→Int→Option Int) (hg:m4 τ g) (hw:∀x∈l,o6 τ x) (L:Int→Int→Option Int)
  (hstep:∀left (i:Nat),i<l.length→L left (i:Int)=(g (rd (τ:=τ) l (i:Int)) left).bind fun r1=>bif decide (r1<0)then some (-1)else L r1 ((i+1:Nat):Int)) (hend:∀left,L left (l.length:Int)=some left):
  ∀(k i:Nat),i+k=l.length→∀left,oE left→SP (∀j:Nat,i≤j→j<l.length→yl τ (rd (τ:=τ) l (j:Int))) left (L left (i:Int)):=by
 intro k
 induction k with
 |zero=>
  intro i h left hl
  have:i=l.length:=by omega
  subst this
  rw[hend]
  exact SP.fin fun j h1 h2=>by omega
 |succ k ih=>
  intro i h left hl
  rw[hstep left i (by omega)]
  refine SP.call (hg _ (hw _ (aw l i (by omega))) left hl) hl _ fun b r hr=> ?_
  obtain⟨r',e1,e2,e3⟩:=ih (i+1) (by omega) r hr
  exact⟨r',e1,e2,fun h0 j h1 h2=>by
   by_cases e:j=i
   ·rw[e];exact b
   ·exact e3 h0 j (by omega) h2⟩
theorem gq {τ:Ty} (l:List τ.den) (hw:o6 (.list τ) l) (g:τ.den→Int→Option Int) (hg:m4 τ g) (L:Int→Int→Option Int)
  (hstep:l.length≤1048576→∀left (i:Nat),i<l.length→L left (i:Int)=(g (rd (τ:=τ) l (i:Int)) left).bind fun r1=>bif decide (r1<0)then some (-1)else L r1 ((i+1:Nat):Int)) (hend:∀left,L left (l.length:Int)=some left) (left:Int) (hl:oE left):
  SP (yl (.list τ) l) left (bif decide (IntKind.wrap .i64 (left-(l.length:Int))<0)then some (-1)else L (IntKind.wrap .i64 (left-(l.length:Int))) 0):=by
 have hw':List.length l≤9223372036854775807∧∀x∈l,o6 τ x:=hw
 refine SP.str l.length hw'.1 hl (fun r=>L r 0) fun l' h1 h2 h3=> ?_
 obtain⟨r,e1,e2,e3⟩:=JV l g hg hw'.2 L (hstep h3) hend l.length 0 (by omega) l' h1
 refine⟨r,e1,e2,fun h0=> ?_⟩
 show List.length l≤1048576∧∀x∈l,yl τ x
 refine⟨h3,fun x hx=> ?_⟩
 obtain⟨i,hi,hr⟩:=rq hx
 rw[←hr];exact e3 h0 i (Nat.zero_le _) hi
theorem pC {τ:Ty} (l:List τ.den) (hw:o6 (.list τ) l) (hb:∀x,yl τ x) (left:Int) (hl:oE left):
  SP (yl (.list τ) l) left (bif decide (IntKind.wrap .i64 (left-(l.length:Int))<0)then some (-1)else some (IntKind.wrap .i64 (left-(l.length:Int)))):=by
 have hw':List.length l≤9223372036854775807∧∀x∈l,o6 τ x:=hw
 exact SP.str l.length hw'.1 hl some fun l' h1 h2 h3=>SP.fin ⟨h3,fun x _=>hb x⟩
def lD (τ:Ty) (f:τ.den→Option τ.den):Prop:=∀x,o6 τ x→yl τ x→f x=some x
theorem yb {τ:Ty} (l:List τ.den) (L:List τ.den→Int→Option (List τ.den))
  (hstep:∀acc (i:Nat),i<l.length→acc.length=l.length→L acc (i:Int)=L (acc.set i (rd (τ:=τ) l (i:Int))) ((i+1:Nat):Int)) (hend:∀acc,L acc (l.length:Int)=some acc):
  ∀(k i:Nat) (u:List τ.den),i+k=l.length→u.length=k→L (l.take i++u) (i:Int)=some l:=by
 intro k
 induction k with
 |zero=>
  intro i u h hu
  have:i=l.length:=by omega
  subst this
  rw[hend,List.take_length,List.eq_nil_of_length_eq_zero hu,List.append_nil]
 |succ k ih=>
  intro i u h hu
  have hi:i<l.length:=by omega
  rw[hstep _ i hi (by rw[List.length_append,List.length_take];omega)]
  cases u with
  |nil=>simp at hu
  |cons y u=>
   have e:(l.take i++y::u).set i (rd (τ:=τ) l (i:Int))=l.take (i+1)++u:=by
    rw[List.set_append_right _ _ (by rw[List.length_take];omega),List.length_take,show i-min i l.length=0 by omega,List.set_cons_zero,List.take_succ_eq_append_getElem hi,bl,aY l i hi];rfl
   rw[e]
   exact ih (i+1) u (by omega) (by simpa using hu)
theorem dS {τ:Ty} (l:List τ.den) (b:Nat) (hbt:b≤4096) (hb:l.length≤1048576) (z:τ.den) (L:List τ.den→Int→Option (List τ.den))
  (hstep:∀acc (i:Nat),i<l.length→acc.length=l.length→L acc (i:Int)=L (acc.set i (rd (τ:=τ) l (i:Int))) ((i+1:Nat):Int)) (hend:∀acc,L acc (l.length:Int)=some acc):
  (bif decide (0≤(l.length:Int))&&aH (Int.toNat (l.length:Int)) b then L (List.replicate (Int.toNat (l.length:Int)) z) 0 else none)=some l:=by
 have hm:l.length*b≤1048576*4096:=Nat.mul_le_mul hb hbt
 rw[aB,show(decide (0≤(l.length:Int))&&aH l.length b)=true by simp[aH];omega,ae]
 have:=yb l L hstep hend l.length 0 (List.replicate l.length z) (by omega) (by simp)
 simpa using this
def lE (τ:Ty) (f:τ.den→τ.den→Option Bool):Prop:=∀x,o6 τ x→yl τ x→f x x=some true
theorem dg (L:Int→Option Bool) (n:Nat) (hstep:∀i:Nat,i<n→L (i:Int)=L ((i+1:Nat):Int)) (hend:L (n:Int)=some true):L 0=some true:=by
 have:∀k i:Nat,i+k=n→L (i:Int)=some true:=by
  intro k
  induction k with
  |zero=>
    intro i h;have:i=n:=by omega
    rw[this];exact hend
  |succ k ih=>intro i h;rw[hstep i (by omega)];exact ih (i+1) (by omega)
 exact this n 0 (by omega)
abbrev Ib:Ty:= .pair .str (.pair .str (.list bx))
abbrev Ic:Ty:= .pair (.list aN) (.pair (.list fq) (.pair (.list aW) (.list po)))
abbrev TSys:Ty:= .pair Ib (.pair Ic (.list cI))
theorem DL:m4 bx Z5:=by
 intro x hw left hl
 show SP _ left (Z5 x left)
 rw[QD]
 refine SP.str (ByteArray.size x.1) hw.1 hl (fun r=>some r) fun l0 h0 _ _=> ?_
 exact SP.fin ⟨trivial,⟨trivial,⟨trivial,⟨trivial,trivial⟩⟩⟩⟩
theorem Am:m4 (.list bx) Z6:=by
 intro x hw left hl
 show SP _ left (Z6 x left)
 rw[QE]
 exact gq x hw Z5 DL (Z6.a x) (fun hb left i hi=>by
  rw[Z6.a_eq,ai,aj,ab hi,an i _ hi (by omega)];rfl) (fun left=>by
  rw[Z6.a_eq,ai,am (az _),ac]) left hl
theorem Id:m4 aW Ze:=by
 intro x hw left hl
 show SP _ left (Ze x left)
 rw[QM]
 refine SP.str (ByteArray.size x.1) hw.1 hl (fun r=>some r) fun l0 h0 _ _=> ?_
 exact SP.fin ⟨trivial,⟨trivial,⟨trivial,⟨trivial,⟨trivial,trivial⟩⟩⟩⟩⟩
theorem DM:m4 (.list aW) Zf:=by
 intro x hw left hl
 show SP _ left (Zf x left)
 rw[QN]
 exact gq x hw Ze Id (Zf.a x) (fun hb left i hi=>by
  rw[Zf.a_eq,ai,aj,ab hi,an i _ hi (by omega)];rfl) (fun left=>by
  rw[Zf.a_eq,ai,am (az _),ac]) left hl
theorem JW:m4 aN Z8:=by
 intro x hw left hl
 show SP _ left (Z8 x left)
 rw[QG]
 refine SP.str (ByteArray.size x.2.2) hw.2.2 hl (fun r=>some r) fun l0 h0 _ _=> ?_
 exact SP.fin ⟨trivial,⟨trivial,trivial⟩⟩
theorem Ie:m4 (.list aN) Z9:=by
 intro x hw left hl
 show SP _ left (Z9 x left)
 rw[QH]
 exact gq x hw Z8 JW (Z9.a x) (fun hb left i hi=>by
  rw[Z9.a_eq,ai,aj,ab hi,an i _ hi (by omega)];rfl) (fun left=>by
  rw[Z9.a_eq,ai,am (az _),ac]) left hl
theorem vr:m4 aP Zi:=by
 intro x hw left hl
 show SP _ left (Zi x left)
 rw[QQ]
 refine SP.str (ByteArray.size x.1) hw.1 hl (fun r=>bif decide ((IntKind.wrap .i64 (r-(ByteArray.size x.2.2.2:Int)))<0)then some (-1)else(some (IntKind.wrap .i64 (r-(ByteArray.size x.2.2.2:Int))))) fun l0 h0 _ _=> ?_
 refine SP.str (ByteArray.size x.2.2.2) hw.2.2.2 h0 (fun r=>some r) fun l1 h1 _ _=> ?_
 exact SP.fin ⟨trivial,⟨trivial,⟨trivial,trivial⟩⟩⟩
theorem sJ:m4 (.list aP) Zj:=by
 intro x hw left hl
 show SP _ left (Zj x left)
 rw[QR]
 exact gq x hw Zi vr (Zj.a x) (fun hb left i hi=>by
  rw[Zj.a_eq,ai,aj,ab hi,an i _ hi (by omega)];rfl) (fun left=>by
  rw[Zj.a_eq,ai,am (az _),ac]) left hl
theorem vt:m4 bB Zk:=by
 intro x hw left hl
 show SP _ left (Zk x left)
 rw[QS]
 refine SP.str (ByteArray.size x.1) hw.1 hl (fun r=>bif decide ((IntKind.wrap .i64 (r-(ByteArray.size x.2:Int)))<0)then some (-1)else(some (IntKind.wrap .i64 (r-(ByteArray.size x.2:Int))))) fun l0 h0 _ _=> ?_
 refine SP.str (ByteArray.size x.2) hw.2 h0 (fun r=>some r) fun l1 h1 _ _=> ?_
 exact SP.fin ⟨trivial,trivial⟩
theorem sK:m4 (.list bB) Zl:=by
 intro x hw left hl
 show SP _ left (Zl x left)
 rw[QT]
 exact gq x hw Zk vt (Zl.a x) (fun hb left i hi=>by
  rw[Zl.a_eq,ai,aj,ab hi,an i _ hi (by omega)];rfl) (fun left=>by
  rw[Zl.a_eq,ai,am (az _),ac]) left hl
theorem If:m4 cu Zm:=by
 intro x hw left hl
 show SP _ left (Zm x left)
 rw[QU]
 refine SP.str (ByteArray.size x.2.2.2.1) hw.2.2.2.1 hl (fun r=>some r) fun l0 h0 _ _=> ?_
 exact SP.fin ⟨trivial,⟨trivial,⟨trivial,⟨trivial,trivial⟩⟩⟩⟩
theorem DN:m4 (.list cu) Zn:=by
 intro x hw left hl
 show SP _ left (Zn x left)
 rw[QV]
 exact gq x hw Zm If (Zn.a x) (fun hb left i hi=>by
  rw[Zn.a_eq,ai,aj,ab hi,an i _ hi (by omega)];rfl) (fun left=>by
  rw[Zn.a_eq,ai,am (az _),ac]) left hl
theorem vu:m4 (.list (.int .i64)) Zb:=by
 intro x hw left hl
 show SP _ left (Zb x left)
 rw[QJ]
 exact pC x hw (fun _=>trivial) left hl
theorem Ig:m4 (.list gu) Zs:=by
 intro x hw left hl
 show SP _ left (Zs x left)
 rw[Q0]
 exact pC x hw (fun _=>⟨trivial,trivial⟩) left hl
theorem rF:m4 (.list dR) Zo:=by
 intro x hw left hl
 show SP _ left (Zo x left)
 rw[QW]
 exact pC x hw (fun _=>⟨trivial,trivial⟩) left hl
theorem An:m4 (.list po) Zg:=by
 intro x hw left hl
 show SP _ left (Zg x left)
 rw[QO]
 exact pC x hw (fun _=>⟨trivial,⟨trivial,trivial⟩⟩) left hl
theorem rG:m4 (.list .str) Zq:=by
 intro x hw left hl
 show SP _ left (Zq x left)
 rw[QY]
 exact gq x hw (fun s left=>bif decide (IntKind.wrap .i64 (left-(ByteArray.size s:Int))<0)then some (-1)else some (IntKind.wrap .i64 (left-(ByteArray.size s:Int)))) (fun s hs left hl=>SP.str (ByteArray.size s) hs hl some fun l' _ _ _=>SP.fin trivial) (Zq.a x) (fun hb left i hi=>by
  rw[Zq.a_eq,ai,aj,ab hi,an i _ hi (by omega)]
  simp only[ae]
  cases hc:decide (IntKind.wrap .i64 (left-(ByteArray.size (rd (τ:= .str) x (i:Int)):Int))<0)with
  |true=>rfl
  |false=>rw[ac,ac,af,hc];rfl) (fun left=>by
  rw[Zq.a_eq,ai,am (az _),ac]) left hl
theorem DO:m4 fq Zc:=by
 intro x hw left hl
 show SP _ left (Zc x left)
 rw[QK]
 refine SP.call (vu x.2.2.1 hw.2.2.1 left hl) hl _ fun b0 l0 h0=> ?_
 exact SP.fin ⟨trivial,⟨⟨trivial,trivial⟩,⟨b0,trivial⟩⟩⟩
theorem Ao:m4 (.list fq) Zd:=by
 intro x hw left hl
 show SP _ left (Zd x left)
 rw[QL]
 exact gq x hw Zc DO (Zd.a x) (fun hb left i hi=>by
  rw[Zd.a_eq,ai,aj,ab hi,an i _ hi (by omega)];rfl) (fun left=>by
  rw[Zd.a_eq,ai,am (az _),ac]) left hl
theorem Ih:m4 Ib Z7:=by
 intro x hw left hl
 show SP _ left (Z7 x left)
 rw[QF]
 refine SP.str (ByteArray.size x.1) hw.1 hl (fun r=>bif decide ((IntKind.wrap .i64 (r-(ByteArray.size x.2.1:Int)))<0)then some (-1)else((Z6 x.2.2 (IntKind.wrap .i64 (r-(ByteArray.size x.2.1:Int)))).bind fun q1=>bif decide (q1<0)then some (-1)else(some q1))) fun l0 h0 _ _=> ?_
 refine SP.str (ByteArray.size x.2.1) hw.2.1 h0 (fun r=>(Z6 x.2.2 r).bind fun q2=>bif decide (q2<0)then some (-1)else(some q2)) fun l1 h1 _ _=> ?_
 refine SP.call (Am x.2.2 hw.2.2 l1 h1) h1 _ fun b2 l2 h2=> ?_
 exact SP.fin ⟨trivial,⟨trivial,b2⟩⟩
theorem DP:m4 (.list aN) Za:=by
 intro x hw left hl
 show SP _ left (Za x left)
 rw[QI]
 exact SP.call (Ie x hw left hl) hl _ fun b l h=>SP.fin b
theorem Ap:m4 Ic Zh:=by
 intro x hw left hl
 show SP _ left (Zh x left)
 rw[QP]
 refine SP.call (DP x.1 hw.1 left hl) hl _ fun b0 l0 h0=> ?_
 refine SP.call (Ao x.2.1 hw.2.1 l0 h0) h0 _ fun b1 l1 h1=> ?_
 refine SP.call (DM x.2.2.1 hw.2.2.1 l1 h1) h1 _ fun b2 l2 h2=> ?_
 refine SP.call (An x.2.2.2 hw.2.2.2 l2 h2) h2 _ fun b3 l3 h3=> ?_
 exact SP.fin ⟨b0,⟨b1,⟨b2,b3⟩⟩⟩
theorem DQ:m4 JT Zr:=by
 intro x hw left hl
 show SP _ left (Zr x left)
 rw[QZ]
 refine SP.call (vu x.1 hw.1 left hl) hl _ fun b0 l0 h0=> ?_
 refine SP.call (rG x.2.1 hw.2.1 l0 h0) h0 _ fun b1 l1 h1=> ?_
 refine SP.call (vu x.2.2.1 hw.2.2.1 l1 h1) h1 _ fun b2 l2 h2=> ?_
 refine SP.call (rG x.2.2.2 hw.2.2.2 l2 h2) h2 _ fun b3 l3 h3=> ?_
 exact SP.fin ⟨b0,⟨b1,⟨b2,b3⟩⟩⟩
theorem DR:m4 JS Zp:=by
 intro x hw left hl
 show SP _ left (Zp x left)
 rw[QX]
 refine SP.str (ByteArray.size x.1) hw.1 hl (fun r=>(Zj x.2.2.1 r).bind fun q3=>bif decide (q3<0)then some (-1)else((Zl x.2.2.2.1 q3).bind fun q4=>bif decide (q4<0)then some (-1)else((Zn x.2.2.2.2.1 q4).bind fun q5=>bif decide (q5<0)then some (-1)else((Zo x.2.2.2.2.2 q5).bind fun q6=>bif decide (q6<0)then some (-1)else(some q6))))) fun l0 h0 _ _=> ?_
 refine SP.call (sJ x.2.2.1 hw.2.2.1 l0 h0) h0 _ fun b1 l1 h1=> ?_
 refine SP.call (sK x.2.2.2.1 hw.2.2.2.1 l1 h1) h1 _ fun b2 l2 h2=> ?_
 refine SP.call (DN x.2.2.2.2.1 hw.2.2.2.2.1 l2 h2) h2 _ fun b3 l3 h3=> ?_
 refine SP.call (rF x.2.2.2.2.2 hw.2.2.2.2.2 l3 h3) h3 _ fun b4 l4 h4=> ?_
 exact SP.fin ⟨trivial,⟨trivial,⟨b1,⟨b2,⟨b3,b4⟩⟩⟩⟩⟩
theorem Ii:m4 cI Zt:=by
 intro x hw left hl
 show SP _ left (Zt x left)
 rw[Q1]
 refine SP.call (DR x.1 hw.1 left hl) hl _ fun b0 l0 h0=> ?_
 refine SP.call (DQ x.2.1 hw.2.1 l0 h0) h0 _ fun b1 l1 h1=> ?_
 refine SP.call (Ig x.2.2 hw.2.2 l1 h1) h1 _ fun b2 l2 h2=> ?_
 exact SP.fin ⟨b0,⟨b1,b2⟩⟩
theorem DS:m4 (.list cI) Zu:=by
 intro x hw left hl
 show SP _ left (Zu x left)
 rw[Q2]
 exact gq x hw Zt Ii (Zu.a x) (fun hb left i hi=>by
  rw[Zu.a_eq,ai,aj,ab hi,an i _ hi (by omega)];rfl) (fun left=>by
  rw[Zu.a_eq,ai,am (az _),ac]) left hl
theorem DT:m4 TSys Zv:=by
 intro x hw left hl
 show SP _ left (Zv x left)
 rw[Q3]
 refine SP.call (Ih x.1 hw.1 left hl) hl _ fun b0 l0 h0=> ?_
 refine SP.call (Ap x.2.1 hw.2.1 l0 h0) h0 _ fun b1 l1 h1=> ?_
 refine SP.call (DS x.2.2 hw.2.2 l1 h1) h1 _ fun b2 l2 h2=> ?_
 exact SP.fin ⟨b0,⟨b1,b2⟩⟩
theorem DU:lD bx Rz:=by
 intro x _ _
 show Rz x=_
 rw[Mq]
theorem Aq:lD (.list bx) ER:=by
 intro x hw hb
 show ER x=_
 rw[Mr]
 exact dS (τ:=bx) x 48 (by omega) hb.1 _ (ER.a x) (fun acc i hi ha=>by
  rw[ER.a_eq,ai,aj,ab hi,an i _ hi (by have:=hb.1;omega),DU _ (hw.2 _ (aw (τ:=bx) x i hi)) (hb.2 _ (aw (τ:=bx) x i hi))]
  simp only[ae,af]
  rw[aj,show decide (i<acc.length)=true from ab (by rw[ha];exact hi),aB];rfl) (fun acc=>by
  rw[ER.a_eq,ai,am (az _),ac])
theorem Ij:lD aW RF:=by
 intro x _ _
 show RF x=_
 rw[MB]
theorem DV:lD (.list aW) EU:=by
 intro x hw hb
 show EU x=_
 rw[MC]
 exact dS (τ:=aW) x 56 (by omega) hb.1 _ (EU.a x) (fun acc i hi ha=>by
  rw[EU.a_eq,ai,aj,ab hi,an i _ hi (by have:=hb.1;omega),Ij _ (hw.2 _ (aw (τ:=aW) x i hi)) (hb.2 _ (aw (τ:=aW) x i hi))]
  simp only[ae,af]
  rw[aj,show decide (i<acc.length)=true from ab (by rw[ha];exact hi),aB];rfl) (fun acc=>by
  rw[EU.a_eq,ai,am (az _),ac])
theorem JX:lD aN RB:=by
 intro x _ _
 show RB x=_
 rw[Mt]
theorem Ik:lD (.list aN) ES:=by
 intro x hw hb
 show ES x=_
 rw[Mu]
 exact dS (τ:=aN) x 32 (by omega) hb.1 _ (ES.a x) (fun acc i hi ha=>by
  rw[ES.a_eq,ai,aj,ab hi,an i _ hi (by have:=hb.1;omega),JX _ (hw.2 _ (aw (τ:=aN) x i hi)) (hb.2 _ (aw (τ:=aN) x i hi))]
  simp only[ae,af]
  rw[aj,show decide (i<acc.length)=true from ab (by rw[ha];exact hi),aB];rfl) (fun acc=>by
  rw[ES.a_eq,ai,am (az _),ac])
theorem DW:lD po RG:=by
 intro x _ _
 show RG x=_
 rw[MD]
theorem As:lD (.list po) EV:=by
 intro x hw hb
 show EV x=_
 rw[ME]
 exact dS (τ:=po) x 24 (by omega) hb.1 _ (EV.a x) (fun acc i hi ha=>by
  rw[EV.a_eq,ai,aj,ab hi,an i _ hi (by have:=hb.1;omega),DW _ (hw.2 _ (aw (τ:=po) x i hi)) (hb.2 _ (aw (τ:=po) x i hi))]
  simp only[ae,af]
  rw[aj,show decide (i<acc.length)=true from ab (by rw[ha];exact hi),aB];rfl) (fun acc=>by
  rw[EV.a_eq,ai,am (az _),ac])
theorem vv:lD aP RI:=by
 intro x _ _
 show RI x=_
 rw[MG]
theorem sL:lD (.list aP) EW:=by
 intro x hw hb
 show EW x=_
 rw[MH]
 exact dS (τ:=aP) x 48 (by omega) hb.1 _ (EW.a x) (fun acc i hi ha=>by
  rw[EW.a_eq,ai,aj,ab hi,an i _ hi (by have:=hb.1;omega),vv _ (hw.2 _ (aw (τ:=aP) x i hi)) (hb.2 _ (aw (τ:=aP) x i hi))]
  simp only[ae,af]
  rw[aj,show decide (i<acc.length)=true from ab (by rw[ha];exact hi),aB];rfl) (fun acc=>by
  rw[EW.a_eq,ai,am (az _),ac])
theorem vw:lD bB RJ:=by
 intro x _ _
 show RJ x=_
 rw[MI]
theorem sM:lD (.list bB) EX:=by
 intro x hw hb
 show EX x=_
 rw[MJ]
 exact dS (τ:=bB) x 32 (by omega) hb.1 _ (EX.a x) (fun acc i hi ha=>by
  rw[EX.a_eq,ai,aj,ab hi,an i _ hi (by have:=hb.1;omega),vw _ (hw.2 _ (aw (τ:=bB) x i hi)) (hb.2 _ (aw (τ:=bB) x i hi))]
  simp only[ae,af]
  rw[aj,show decide (i<acc.length)=true from ab (by rw[ha];exact hi),aB];rfl) (fun acc=>by
  rw[EX.a_eq,ai,am (az _),ac])
theorem Il:lD cu RK:=by
 intro x _ _
 show RK x=_
 rw[ML]
theorem DX:lD (.list cu) EY:=by
 intro x hw hb
 show EY x=_
 rw[MM]
 exact dS (τ:=cu) x 48 (by omega) hb.1 _ (EY.a x) (fun acc i hi ha=>by
  rw[EY.a_eq,ai,aj,ab hi,an i _ hi (by have:=hb.1;omega),Il _ (hw.2 _ (aw (τ:=cu) x i hi)) (hb.2 _ (aw (τ:=cu) x i hi))]
  simp only[ae,af]
  rw[aj,show decide (i<acc.length)=true from ab (by rw[ha];exact hi),aB];rfl) (fun acc=>by
  rw[EY.a_eq,ai,am (az _),ac])
theorem sN:lD dR RL:=by
 intro x _ _
 show RL x=_
 rw[MN]
theorem rH:lD (.list dR) EZ:=by
 intro x hw hb
 show EZ x=_
 rw[MO]
 exact dS (τ:=dR) x 16 (by omega) hb.1 _ (EZ.a x) (fun acc i hi ha=>by
  rw[EZ.a_eq,ai,aj,ab hi,an i _ hi (by have:=hb.1;omega),sN _ (hw.2 _ (aw (τ:=dR) x i hi)) (hb.2 _ (aw (τ:=dR) x i hi))]
  simp only[ae,af]
  rw[aj,show decide (i<acc.length)=true from ab (by rw[ha];exact hi),aB];rfl) (fun acc=>by
  rw[EZ.a_eq,ai,am (az _),ac])
theorem JY:lD gu RO:=by
 intro x _ _
 show RO x=_
 rw[MS]
theorem Im:lD (.list gu) E0:=by
 intro x hw hb
 show E0 x=_
 rw[MT]
 exact dS (τ:=gu) x 16 (by omega) hb.1 _ (E0.a x) (fun acc i hi ha=>by
  rw[E0.a_eq,ai,aj,ab hi,an i _ hi (by have:=hb.1;omega),JY _ (hw.2 _ (aw (τ:=gu) x i hi)) (hb.2 _ (aw (τ:=gu) x i hi))]
  simp only[ae,af]
  rw[aj,show decide (i<acc.length)=true from ab (by rw[ha];exact hi),aB];rfl) (fun acc=>by
  rw[E0.a_eq,ai,am (az _),ac])
theorem vz:lD (.list (.int .i64)) Bc:=by
 intro x hw hb
 show Bc x=_
 rw[My]
 exact dS (τ:=(.int .i64)) x 8 (by omega) hb.1 _ (Bc.a x) (fun acc i hi ha=>by
  rw[Bc.a_eq,ai,aj,ab hi,an i _ hi (by have:=hb.1;omega)]
  rw[aj,show decide (i<acc.length)=true from ab (by rw[ha];exact hi),aB];rfl) (fun acc=>by
  rw[Bc.a_eq,ai,am (az _),ac])
theorem rJ:lD (.list .str) Cy:=by
 intro x hw hb
 show Cy x=_
 rw[MQ]
 exact dS (τ:= .str) x 16 (by omega) hb.1 _ (Cy.a x) (fun acc i hi ha=>by
  rw[Cy.a_eq,ai,aj,ab hi,an i _ hi (by have:=hb.1;omega)]
  rw[aj,show decide (i<acc.length)=true from ab (by rw[ha];exact hi),aB];rfl) (fun acc=>by
  rw[Cy.a_eq,ai,am (az _),ac])
theorem DY:lD (.arr (.int .i64) 32) Bb:=by
 intro x hw hb
 show Bb x=_
 have hl:List.length x=32:=hw.1
 rw[Mw]
 have h:=yb (τ:= .int .i64) x (fun acc i=>Bb.a x [0,0,0,0,0,0,0,0,0,0,0,0,0,0,0,0,0,0,0,0,0,0,0,0,0,0,0,0,0,0,0,0] acc i) (fun acc i hi ha=>by
  show Bb.a x _ acc (i:Int)=_
  rw[Bb.a_eq,ab (show(i:Int)<32 by omega),aj,ab (show i<32 by omega),an i 32 (by omega) (by omega),aB];rfl) (fun acc=>by
  show Bb.a x _ acc (List.length x:Int)=_
  rw[Bb.a_eq,hl];rfl) 32 0 (List.replicate 32 (0:Int)) (by rw[hl]) (by simp)
 exact h
theorem JZ:lD Hd RD:=by
 intro x hw hb
 show RD x=_
 rw[Mx,DY x.1 hw.1 hb.1]
 rfl
theorem DZ:lD fq RE:=by
 intro x hw hb
 show RE x=_
 rw[Mz,JZ x.2.1 hw.2.1 hb.2.1,vz x.2.2.1 hw.2.2.1 hb.2.2.1]
 rfl
theorem At:lD (.list fq) ET:=by
 intro x hw hb
 show ET x=_
 rw[MA]
 exact dS (τ:=fq) x 304 (by omega) hb.1 _ (ET.a x) (fun acc i hi ha=>by
  rw[ET.a_eq,ai,aj,ab hi,an i _ hi (by have:=hb.1;omega),DZ _ (hw.2 _ (aw (τ:=fq) x i hi)) (hb.2 _ (aw (τ:=fq) x i hi))]
  simp only[ae,af]
  rw[aj,show decide (i<acc.length)=true from ab (by rw[ha];exact hi),aB];rfl) (fun acc=>by
  rw[ET.a_eq,ai,am (az _),ac])
theorem In:lD Ib RA:=by
 intro x hw hb
 show RA x=_
 rw[Ms,Aq x.2.2 hw.2.2 hb.2.2]
 rfl
theorem Ea:lD (.list aN) RC:=by
 intro x hw hb
 show RC x=_
 rw[Mv,Ik x hw hb]
 rfl
theorem Au:lD Ic RH:=by
 intro x hw hb
 show RH x=_
 rw[MF,Ea x.1 hw.1 hb.1,At x.2.1 hw.2.1 hb.2.1,DV x.2.2.1 hw.2.2.1 hb.2.2.1,As x.2.2.2 hw.2.2.2 hb.2.2.2]
 rfl
theorem Eb:lD JT RN:=by
 intro x hw hb
 show RN x=_
 rw[MR,vz x.1 hw.1 hb.1,rJ x.2.1 hw.2.1 hb.2.1,vz x.2.2.1 hw.2.2.1 hb.2.2.1,rJ x.2.2.2 hw.2.2.2 hb.2.2.2]
 rfl
theorem Ec:lD JS RM:=by
 intro x hw hb
 show RM x=_
 rw[MP,sL x.2.2.1 hw.2.2.1 hb.2.2.1,sM x.2.2.2.1 hw.2.2.2.1 hb.2.2.2.1,DX x.2.2.2.2.1 hw.2.2.2.2.1 hb.2.2.2.2.1,rH x.2.2.2.2.2 hw.2.2.2.2.2 hb.2.2.2.2.2]
 rfl
theorem Io:lD cI RP:=by
 intro x hw hb
 show RP x=_
 rw[MU,Ec x.1 hw.1 hb.1,Eb x.2.1 hw.2.1 hb.2.1,Im x.2.2 hw.2.2 hb.2.2]
 rfl
theorem Ed:lD (.list cI) E1:=by
 intro x hw hb
 show E1 x=_
 rw[MV]
 exact dS (τ:=cI) x 240 (by omega) hb.1 _ (E1.a x) (fun acc i hi ha=>by
  rw[E1.a_eq,ai,aj,ab hi,an i _ hi (by have:=hb.1;omega),Io _ (hw.2 _ (aw (τ:=cI) x i hi)) (hb.2 _ (aw (τ:=cI) x i hi))]
  simp only[ae,af]
  rw[aj,show decide (i<acc.length)=true from ab (by rw[ha];exact hi),aB];rfl) (fun acc=>by
  rw[E1.a_eq,ai,am (az _),ac])
theorem Ee:lD TSys MW:=by
 intro x hw hb
 show MW x=_
 rw[MX,In x.1 hw.1 hb.1,Au x.2.1 hw.2.1 hb.2.1,Ed x.2.2 hw.2.2 hb.2.2]
 rfl
theorem Ef:lE bx Sa:=by
 intro x _ _
 show Sa x x=_
 rw[Pd]
 simp[bf]
theorem Av:lE (.list bx) Fe:=by
 intro x hw hb
 show Fe x x=_
 have h1:List.length x≤1048576:=hb.1
 rw[Pe,ab (rfl:(List.length x:Int)=(List.length x:Int)),aM,ac]
 refine dg (Fe.a x x) (List.length x) (fun i hi=> ?_) ?_
 ·rw[Fe.a_eq,ai,aj,ab hi,an i _ hi (by omega),Ef _ (hw.2 _ (aw (τ:=bx) x i hi)) (hb.2 _ (aw (τ:=bx) x i hi))];rfl
 ·rw[Fe.a_eq,ai,am (az _),ac]
theorem Ip:lE aW Si:=by
 intro x _ _
 show Si x x=_
 rw[Pp]
 simp[bf]
theorem Eg:lE (.list aW) Fk:=by
 intro x hw hb
 show Fk x x=_
 have h1:List.length x≤1048576:=hb.1
 rw[Pq,ab (rfl:(List.length x:Int)=(List.length x:Int)),aM,ac]
 refine dg (Fk.a x x) (List.length x) (fun i hi=> ?_) ?_
 ·rw[Fk.a_eq,ai,aj,ab hi,an i _ hi (by omega),Ip _ (hw.2 _ (aw (τ:=aW) x i hi)) (hb.2 _ (aw (τ:=aW) x i hi))];rfl
 ·rw[Fk.a_eq,ai,am (az _),ac]
theorem J0:lE aN Sc:=by
 intro x _ _
 show Sc x x=_
 rw[Pg]
 simp[bf]
theorem Iq:lE (.list aN) Ff:=by
 intro x hw hb
 show Ff x x=_
 have h1:List.length x≤1048576:=hb.1
 rw[Ph,ab (rfl:(List.length x:Int)=(List.length x:Int)),aM,ac]
 refine dg (Ff.a x x) (List.length x) (fun i hi=> ?_) ?_
 ·rw[Ff.a_eq,ai,aj,ab hi,an i _ hi (by omega),J0 _ (hw.2 _ (aw (τ:=aN) x i hi)) (hb.2 _ (aw (τ:=aN) x i hi))];rfl
 ·rw[Ff.a_eq,ai,am (az _),ac]
theorem Eh:lE po Sj:=by
 intro x _ _
 show Sj x x=_
 rw[Pr]
 simp[]
theorem Aw:lE (.list po) Fm:=by
 intro x hw hb
 show Fm x x=_
 have h1:List.length x≤1048576:=hb.1
 rw[Pt,ab (rfl:(List.length x:Int)=(List.length x:Int)),aM,ac]
 refine dg (Fm.a x x) (List.length x) (fun i hi=> ?_) ?_
 ·rw[Fm.a_eq,ai,aj,ab hi,an i _ hi (by omega),Eh _ (hw.2 _ (aw (τ:=po) x i hi)) (hb.2 _ (aw (τ:=po) x i hi))];rfl
 ·rw[Fm.a_eq,ai,am (az _),ac]
theorem vA:lE aP Sl:=by
 intro x _ _
 show Sl x x=_
 rw[Pv]
 simp[bf]
theorem sO:lE (.list aP) Fo:=by
 intro x hw hb
 show Fo x x=_
 have h1:List.length x≤1048576:=hb.1
 rw[Pw,ab (rfl:(List.length x:Int)=(List.length x:Int)),aM,ac]
 refine dg (Fo.a x x) (List.length x) (fun i hi=> ?_) ?_
 ·rw[Fo.a_eq,ai,aj,ab hi,an i _ hi (by omega),vA _ (hw.2 _ (aw (τ:=aP) x i hi)) (hb.2 _ (aw (τ:=aP) x i hi))];rfl
 ·rw[Fo.a_eq,ai,am (az _),ac]
theorem vB:lE bB Sm:=by
 intro x _ _
 show Sm x x=_
 rw[Px]
 simp[bf]
theorem sP:lE (.list bB) Fp:=by
 intro x hw hb
 show Fp x x=_
 have h1:List.length x≤1048576:=hb.1
 rw[Py,ab (rfl:(List.length x:Int)=(List.length x:Int)),aM,ac]
 refine dg (Fp.a x x) (List.length x) (fun i hi=> ?_) ?_
 ·rw[Fp.a_eq,ai,aj,ab hi,an i _ hi (by omega),vB _ (hw.2 _ (aw (τ:=bB) x i hi)) (hb.2 _ (aw (τ:=bB) x i hi))];rfl
 ·rw[Fp.a_eq,ai,am (az _),ac]
theorem Ir:lE cu Sn:=by
 intro x _ _
 show Sn x x=_
 rw[Pz]
 simp[bf]
theorem Ei:lE (.list cu) Fq:=by
 intro x hw hb
 show Fq x x=_
 have h1:List.length x≤1048576:=hb.1
 rw[PA,ab (rfl:(List.length x:Int)=(List.length x:Int)),aM,ac]
 refine dg (Fq.a x x) (List.length x) (fun i hi=> ?_) ?_
 ·rw[Fq.a_eq,ai,aj,ab hi,an i _ hi (by omega),Ir _ (hw.2 _ (aw (τ:=cu) x i hi)) (hb.2 _ (aw (τ:=cu) x i hi))];rfl
 ·rw[Fq.a_eq,ai,am (az _),ac]
theorem sQ:lE dR So:=by
 intro x _ _
 show So x x=_
 rw[PB]
 simp[]
theorem rK:lE (.list dR) Fr:=by
 intro x hw hb
 show Fr x x=_
 have h1:List.length x≤1048576:=hb.1
 rw[PC,ab (rfl:(List.length x:Int)=(List.length x:Int)),aM,ac]
 refine dg (Fr.a x x) (List.length x) (fun i hi=> ?_) ?_
 ·rw[Fr.a_eq,ai,aj,ab hi,an i _ hi (by omega),sQ _ (hw.2 _ (aw (τ:=dR) x i hi)) (hb.2 _ (aw (τ:=dR) x i hi))];rfl
 ·rw[Fr.a_eq,ai,am (az _),ac]
theorem J1:lE gu Sr:=by
 intro x _ _
 show Sr x x=_
 rw[PF]
 simp[]
theorem Is:lE (.list gu) Ft:=by
 intro x hw hb
 show Ft x x=_
 have h1:List.length x≤1048576:=hb.1
 rw[PG,ab (rfl:(List.length x:Int)=(List.length x:Int)),aM,ac]
 refine dg (Ft.a x x) (List.length x) (fun i hi=> ?_) ?_
 ·rw[Ft.a_eq,ai,aj,ab hi,an i _ hi (by omega),J1 _ (hw.2 _ (aw (τ:=gu) x i hi)) (hb.2 _ (aw (τ:=gu) x i hi))];rfl
 ·rw[Ft.a_eq,ai,am (az _),ac]
theorem vC:lE (.list (.int .i64)) Bu:=by
 intro x hw hb
 show Bu x x=_
 have h1:List.length x≤1048576:=hb.1
 rw[Pm,ab (rfl:(List.length x:Int)=(List.length x:Int)),aM,ac]
 refine dg (Bu.a x x) (List.length x) (fun i hi=> ?_) ?_
 ·rw[Bu.a_eq,ai,aj,ab hi,an i _ hi (by omega),ab (rfl:rd (τ:= .int .i64) x (i:Int)=rd (τ:= .int .i64) x (i:Int))];rfl
 ·rw[Bu.a_eq,ai,am (az _),ac]
theorem rL:lE (.list .str) t8:=by
 intro x hw hb
 show t8 x x=_
 have h1:List.length x≤1048576:=hb.1
 rw[Hy,ab (rfl:(List.length x:Int)=(List.length x:Int)),aM,ac]
 refine dg (t8.a x x) (List.length x) (fun i hi=> ?_) ?_
 ·rw[t8.a_eq,ai,aj,ab hi,an i _ hi (by omega),bf,ab (rfl:rd (τ:= .str) x (i:Int)=rd (τ:= .str) x (i:Int))];rfl
 ·rw[t8.a_eq,ai,am (az _),ac]
theorem Ej:lE (.arr (.int .i64) 32) Fg:=by
 intro x hw hb
 show Fg x x=_
 rw[Pj]
 refine dg (Fg.a x x) 32 (fun i hi=> ?_) ?_
 ·rw[Fg.a_eq,ab (show(i:Int)<32 by omega),aj,ab hi,an i 32 hi (by omega),ab (rfl:rd (τ:= .int .i64) x (i:Int)=rd (τ:= .int .i64) x (i:Int))];rfl
 ·rw[Fg.a_eq];rfl
theorem J2:lE Hd Se:=by
 intro x hw hb
 show Se x x=_
 rw[Pk,Ej x.1 hw.1 hb.1]
 simp[]
theorem Ek:lE fq Sf:=by
 intro x hw hb
 show Sf x x=_
 rw[Pn,J2 x.2.1 hw.2.1 hb.2.1,vC x.2.2.1 hw.2.2.1 hb.2.2.1]
 simp[]
theorem Ax:lE (.list fq) Fh:=by
 intro x hw hb
 show Fh x x=_
 have h1:List.length x≤1048576:=hb.1
 rw[Po,ab (rfl:(List.length x:Int)=(List.length x:Int)),aM,ac]
 refine dg (Fh.a x x) (List.length x) (fun i hi=> ?_) ?_
 ·rw[Fh.a_eq,ai,aj,ab hi,an i _ hi (by omega),Ek _ (hw.2 _ (aw (τ:=fq) x i hi)) (hb.2 _ (aw (τ:=fq) x i hi))];rfl
 ·rw[Fh.a_eq,ai,am (az _),ac]
theorem It:lE Ib Sb:=by
 intro x hw hb
 show Sb x x=_
 rw[Pf,Av x.2.2 hw.2.2 hb.2.2]
 simp[bf]
theorem El:lE (.list aN) Sd:=by
 intro x hw hb
 show Sd x x=_
 rw[Pi,Iq x hw hb]
 rfl
theorem Ay:lE Ic Sk:=by
 intro x hw hb
 show Sk x x=_
 rw[Pu,El x.1 hw.1 hb.1,Ax x.2.1 hw.2.1 hb.2.1,Eg x.2.2.1 hw.2.2.1 hb.2.2.1,Aw x.2.2.2 hw.2.2.2 hb.2.2.2]
 simp[]
theorem Em:lE JT Sq:=by
 intro x hw hb
 show Sq x x=_
 rw[PE,vC x.1 hw.1 hb.1,rL x.2.1 hw.2.1 hb.2.1,vC x.2.2.1 hw.2.2.1 hb.2.2.1,rL x.2.2.2 hw.2.2.2 hb.2.2.2]
 simp[]
theorem Eo:lE JS Sp:=by
 intro x hw hb
 show Sp x x=_
 rw[PD,sO x.2.2.1 hw.2.2.1 hb.2.2.1,sP x.2.2.2.1 hw.2.2.2.1 hb.2.2.2.1,Ei x.2.2.2.2.1 hw.2.2.2.2.1 hb.2.2.2.2.1,rK x.2.2.2.2.2 hw.2.2.2.2.2 hb.2.2.2.2.2]
 simp[bf]
theorem Iu:lE cI Ss:=by
 intro x hw hb
 show Ss x x=_
 rw[PH,Eo x.1 hw.1 hb.1,Em x.2.1 hw.2.1 hb.2.1,Is x.2.2 hw.2.2 hb.2.2]
 simp[]
theorem Ep:lE (.list cI) Fu:=by
 intro x hw hb
 show Fu x x=_
 have h1:List.length x≤1048576:=hb.1
 rw[PI,ab (rfl:(List.length x:Int)=(List.length x:Int)),aM,ac]
 refine dg (Fu.a x x) (List.length x) (fun i hi=> ?_) ?_
 ·rw[Fu.a_eq,ai,aj,ab hi,an i _ hi (by omega),Iu _ (hw.2 _ (aw (τ:=cI) x i hi)) (hb.2 _ (aw (τ:=cI) x i hi))];rfl
 ·rw[Fu.a_eq,ai,am (az _),ac]
theorem Er:lE TSys Su:=by
 intro x hw hb
 show Su x x=_
 rw[PJ,It x.1 hw.1 hb.1,Ay x.2.1 hw.2.1 hb.2.1,Ep x.2.2 hw.2.2 hb.2.2]
 simp[]
theorem Iv {ps:List IO} (h:o6 (.list cI) ps):BI ps:=by
 intro j hj k hk
 have hp:=h.2 _ (aw (τ:=cI) ps j hj)
 generalize rd (τ:=cI) ps (j:Int)=p at*
 have hr:=hp.1.2.2.2.2.1.2 _ (aw (τ:=cu) p.1.2.2.2.2.1 k hk)
 exact hr.1
theorem Rq {n:Int} (h:(31≤n∧n≤40)∨(50≤n∧n≤62)):(bE n).1=8:=by
 obtain⟨k,rfl⟩:=mD (n:=n) (by omega) (by omega)
 revert k
 decide
theorem yc {n d a b i:Int} (f:Int) (hf:(bE n).1=f) (hn:1≤n∧n≤64) (hd:0≤d∧d≤31) (ha:0≤a∧a≤31) (hb:0≤b∧b≤31) (g1:(bd f).1=true∨d=0) (g2:(bd f).2.1=true∨a=0) (g3:(bd f).2.2=true∨b=0) (hi:js f i=true):dv (n,d,a,b,i)=true:=by
 simp only[dv,ay,Bool.or_eq_true,aT,hf]
 exact⟨⟨⟨⟨⟨⟨⟨⟨⟨⟨⟨hn.1,hn.2⟩,hd.1⟩,hd.2⟩,ha.1⟩,ha.2⟩,hb.1⟩,hb.2⟩,g1⟩,g2⟩,g3⟩,hi⟩
theorem TH {i:Int} (h: -2147483648≤i∧i≤2147479552∧i%4096=0):js 1 i=true:=by simp[js];omega
theorem r1 {a i:Int} (ha:0≤a∧a≤31) (h: -2147483648≤i∧i≤2147479552∧i%4096=0):dv (1,a,0,0,i)=true:=yc 1 rfl (by decide) ha (by decide) (by decide) (.inl rfl) (.inr rfl) (.inr rfl) (TH h)
theorem r8 {n a b c:Int} (h:(31≤n∧n≤40)∨(50≤n∧n≤62)) (ha:0≤a∧a≤31) (hb:0≤b∧b≤31) (hc:0≤c∧c≤31):dv (n,a,b,c,0)=true:=yc 8 (Rq h) (by omega) ha hb hc (.inl rfl) (.inl rfl) (.inl rfl) rfl
theorem Iw {a b:ByteArray} (h:a.size+b.size≤4194304):decide (a.size+b.size≤9223372036854775807)=true:=ab (by omega)
def MK {α:Type} (m:Int) (C:Nat) (v:Option (Int×α)):Prop:=∃r,v=some r∧m≤r.1∧r.1≤m+C
def vN {α:Type} (τ:Ty) (f:τ.den→Int→Option (Int×α)) (C:Nat):Prop:=∀x,yl τ x→∀m:Int,1≤m→m+C≤4611686018427387904→MK m C (f x m)
theorem MK.bind {α β:Type} {m:Int} {C D E:Nat} {v:Option (Int×α)} (h:MK m C v) (k:Int×α→Option (Int×β)) (hk:∀r,m≤r.1→r.1≤m+C→MK r.1 D (k r)) (hE:C+D≤E):MK m E (v.bind k):=by
 obtain⟨r,e,h1,h2⟩:=h
 obtain⟨q,e',h3,h4⟩:=hk r h1 h2
 rw[e,af]
 exact⟨q,e',by omega,by omega⟩
theorem vD {τ:Ty} (xs:List τ.den) (i j:Nat) (v:τ.den) (h:i≠j):rd (τ:=τ) (xs.set i v) (j:Int)=rd (τ:=τ) xs (j:Int):=by
 unfold rd;rw[aB,List.getD_eq_getElem?_getD,List.getElem?_set_ne h,←List.getD_eq_getElem?_getD]
theorem J3 {τ:Ty} (L:List τ.den→Int→Int→Option (Int×List τ.den)) (c n:Nat) (hn:n≤1048576)
  (step:∀(y:List τ.den) (m:Int) (i:Nat),y.length=n→i<y.length→yl τ (rd (τ:=τ) y (i:Int))→1≤m→m+c≤4611686018427387904→∃z m',L y m (i:Int)=L (y.set i z) m' ((i+1:Nat):Int)∧m≤m'∧m'≤m+c)
  (last:∀(y:List τ.den) (m:Int),y.length=n→L y m (n:Int)=some (m,y)):
  ∀(k i:Nat) (y:List τ.den),i+k=n→y.length=n→(∀j:Nat,i≤j→j<n→yl τ (rd (τ:=τ) y (j:Int)))→∀m:Int,1≤m→m+(c*k:Nat)≤4611686018427387904→MK m (c*k) (L y m (i:Int)):=by
 intro k
 induction k with
 |zero=>
  intro i y h hy hb m h1 h2
  have:i=n:=by omega
  subst this
  rw[last y m hy]
  exact⟨_,rfl,Int.le_refl _,by simp⟩
 |succ k ih=>
  intro i y h hy hb m h1 h2
  rw[Nat.mul_succ]at h2⊢
  obtain⟨z,m',e,a,b⟩:=step y m i hy (by omega) (hb i (Nat.le_refl _) (by omega)) h1 (by omega)
  rw[e]
  obtain⟨r,e',a',b'⟩:=ih (i+1) (y.set i z) (by omega) (by rw[List.length_set];exact hy) (fun j h1 h2=>by rw[vD _ _ _ _ (by omega)];exact hb j (by omega) h2) m' (by omega) (by omega)
  exact⟨r,e',by omega,by omega⟩
end Go.Proofs.YtijpmnicihmoaaaGreatDoor.S
