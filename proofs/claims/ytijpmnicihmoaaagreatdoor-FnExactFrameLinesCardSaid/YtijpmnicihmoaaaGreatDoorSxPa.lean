import Derived.Test.YtijpmnicihmoaaaGreatDoorSxP
namespace Go.Proofs.YtijpmnicihmoaaaGreatDoor.S
open Go.Ps
set_option linter.unusedVariables false
set_option maxRecDepth 100000
theorem zT (o:bM) (hz:UnitSz o) (x6:bH) (x8:fe) (x9 x10:bH) (r:List dg×bM) (l3:List Int) (l4:List ByteArray):∀(k i:Nat) (a:bH) (ats:List Int) (codes:List ByteArray) (f:Int),i+k=o.2.2.1.length→cy a→ats.length=i→codes.length=i→
  eM.a a x6 o x8 x9 x10 ((ats,codes,l3,l4),r) f o.2.2.1 (o.2.2.1.length:Int) (i:Int)=
   eM.b (cN (dZ o) a i k).1 x6 o x8 x9 x10 ((ats++(cN (dZ o) a i k).2.1,codes++br (lB o) i k,l3,l4),r) (after f (cN (dZ o) a i k).2.2) o.2.2.2.1 (o.2.2.2.1.length:Int) 0:=by
 have h4:=hz.f
 intro k
 induction k with
 |zero=>
  intro i a ats codes f hk ha h1 h2
  have:i=o.2.2.1.length:=by omega
  subst this
  rw[eM.a_eq,ah,ak (aA _),ac,cN,br,List.append_nil,List.append_nil]
  simp[after]
 |succ k ih=>
  intro i a ats codes f hk ha h1 h2
  have hi:i<o.2.2.1.length:=by omega
  rw[eM.a_eq,ah,aj,ab hi,an i _ hi (by omega)]
  rw[ky a ha _ (by have:=hz.fs i hi;omega)]
  simp only[ae,af,aF]
  rw[lz _ (by simp;omega),ju _ (by simp;omega)]
  simp only[ae]
  have e:(bif decide (f=0)then bif !(aM a (rd (τ:=aP) o.2.2.1 (i:Int)).2.2.2.size).2.2 then eM.a (aM a (rd (τ:=aP) o.2.2.1 (i:Int)).2.2.2.size).1 x6 o x8 x9 x10 ((ats++[(aM a (rd (τ:=aP) o.2.2.1 (i:Int)).2.2.2.size).2.1],codes++[(rd (τ:=aP) o.2.2.1 (i:Int)).2.2.2],l3,l4),r) 7 o.2.2.1 (o.2.2.1.length:Int) ((i+1:Nat):Int)
    else eM.a (aM a (rd (τ:=aP) o.2.2.1 (i:Int)).2.2.2.size).1 x6 o x8 x9 x10 ((ats++[(aM a (rd (τ:=aP) o.2.2.1 (i:Int)).2.2.2.size).2.1],codes++[(rd (τ:=aP) o.2.2.1 (i:Int)).2.2.2],l3,l4),r) f o.2.2.1 (o.2.2.1.length:Int) ((i+1:Nat):Int)
    else bif false then eM.a (aM a (rd (τ:=aP) o.2.2.1 (i:Int)).2.2.2.size).1 x6 o x8 x9 x10 ((ats++[(aM a (rd (τ:=aP) o.2.2.1 (i:Int)).2.2.2.size).2.1],codes++[(rd (τ:=aP) o.2.2.1 (i:Int)).2.2.2],l3,l4),r) 7 o.2.2.1 (o.2.2.1.length:Int) ((i+1:Nat):Int)
    else eM.a (aM a (rd (τ:=aP) o.2.2.1 (i:Int)).2.2.2.size).1 x6 o x8 x9 x10 ((ats++[(aM a (rd (τ:=aP) o.2.2.1 (i:Int)).2.2.2.size).2.1],codes++[(rd (τ:=aP) o.2.2.1 (i:Int)).2.2.2],l3,l4),r) f o.2.2.1 (o.2.2.1.length:Int) ((i+1:Nat):Int))=
    eM.a (aM a (dZ o i)).1 x6 o x8 x9 x10 ((ats++[(aM a (dZ o i)).2.1],codes++[lB o i],l3,l4),r) (after f (aM a (dZ o i)).2.2) o.2.2.1 (o.2.2.1.length:Int) ((i+1:Nat):Int):=by
   unfold after dZ lB
   generalize aM a (rd (τ:=aP) o.2.2.1 (i:Int)).2.2.2.size=p
   by_cases h:f=0
   ·rw[ab h]
    cases hp:p.2.2<;>simp[h]
   ·rw[ak h];simp[h]
  rw[e,ih (i+1) _ _ _ _ (by omega) (db ha _) (by simp;omega) (by simp;omega),cN,br,kB,bn,bn]
  rfl
theorem zU (o:bM) (hz:UnitSz o) (x5:bH) (x8:fe) (x9 x10:bH) (r:List dg×bM) (l1:List Int) (l2:List ByteArray):∀(k i:Nat) (a:bH) (ats:List Int) (codes:List ByteArray) (f:Int),i+k=o.2.2.2.1.length→cy a→ats.length=i→codes.length=i→
  eM.b x5 a o x8 x9 x10 ((l1,l2,ats,codes),r) f o.2.2.2.1 (o.2.2.2.1.length:Int) (i:Int)=
   eM.c x5 (cN (lA o) a i k).1 o x8 x9 x10 ((l1,l2,ats++(cN (lA o) a i k).2.1,codes++br (kA o) i k),r) (after f (cN (lA o) a i k).2.2) o.2.2.2.2.1 (o.2.2.2.2.1.length:Int) 0:=by
 have h4:=hz.d
 intro k
 induction k with
 |zero=>
  intro i a ats codes f hk ha h1 h2
  have:i=o.2.2.2.1.length:=by omega
  subst this
  rw[eM.b_eq,ah,ak (aA _),ac,cN,br,List.append_nil,List.append_nil]
  simp[after]
 |succ k ih=>
  intro i a ats codes f hk ha h1 h2
  have hi:i<o.2.2.2.1.length:=by omega
  rw[eM.b_eq,ah,aj,ab hi,an i _ hi (by omega)]
  rw[ky a ha _ (by have:=hz.ds i hi;omega)]
  simp only[ae,af,aF]
  rw[lz _ (by simp;omega),ju _ (by simp;omega)]
  simp only[ae]
  have e:(bif decide (f=0)then bif !(aM a (rd (τ:=bD) o.2.2.2.1 (i:Int)).2.size).2.2 then eM.b x5 (aM a (rd (τ:=bD) o.2.2.2.1 (i:Int)).2.size).1 o x8 x9 x10 ((l1,l2,ats++[(aM a (rd (τ:=bD) o.2.2.2.1 (i:Int)).2.size).2.1],codes++[(rd (τ:=bD) o.2.2.2.1 (i:Int)).2]),r) 7 o.2.2.2.1 (o.2.2.2.1.length:Int) ((i+1:Nat):Int)
    else eM.b x5 (aM a (rd (τ:=bD) o.2.2.2.1 (i:Int)).2.size).1 o x8 x9 x10 ((l1,l2,ats++[(aM a (rd (τ:=bD) o.2.2.2.1 (i:Int)).2.size).2.1],codes++[(rd (τ:=bD) o.2.2.2.1 (i:Int)).2]),r) f o.2.2.2.1 (o.2.2.2.1.length:Int) ((i+1:Nat):Int)
    else bif false then eM.b x5 (aM a (rd (τ:=bD) o.2.2.2.1 (i:Int)).2.size).1 o x8 x9 x10 ((l1,l2,ats++[(aM a (rd (τ:=bD) o.2.2.2.1 (i:Int)).2.size).2.1],codes++[(rd (τ:=bD) o.2.2.2.1 (i:Int)).2]),r) 7 o.2.2.2.1 (o.2.2.2.1.length:Int) ((i+1:Nat):Int)
    else eM.b x5 (aM a (rd (τ:=bD) o.2.2.2.1 (i:Int)).2.size).1 o x8 x9 x10 ((l1,l2,ats++[(aM a (rd (τ:=bD) o.2.2.2.1 (i:Int)).2.size).2.1],codes++[(rd (τ:=bD) o.2.2.2.1 (i:Int)).2]),r) f o.2.2.2.1 (o.2.2.2.1.length:Int) ((i+1:Nat):Int))=
    eM.b x5 (aM a (lA o i)).1 o x8 x9 x10 ((l1,l2,ats++[(aM a (lA o i)).2.1],codes++[kA o i]),r) (after f (aM a (lA o i)).2.2) o.2.2.2.1 (o.2.2.2.1.length:Int) ((i+1:Nat):Int):=by
   unfold after lA kA
   generalize aM a (rd (τ:=bD) o.2.2.2.1 (i:Int)).2.size=p
   by_cases h:f=0
   ·rw[ab h]
    cases hp:p.2.2<;>simp[h]
   ·rw[ak h];simp[h]
  rw[e,ih (i+1) _ _ _ _ (by omega) (db ha _) (by simp;omega) (by simp;omega),cN,br,kB,bn,bn]
  rfl
theorem zV (o:bM) (hz:UnitSz o) (x4:bH) (x6:fe) (x7 x8:bH) (l3:List Int) (l4:List ByteArray):∀(k i:Nat) (a:bH) (ats:List Int) (codes:List ByteArray),i+k=o.2.2.1.length→cy a→ats.length=i→codes.length=i→
  ((cN (dZ o) a i k).2.2=true→qD.a a x4 o x6 x7 x8 (ats,codes,l3,l4) (i:Int)=qD.b (cN (dZ o) a i k).1 x4 o x6 x7 x8 (ats++(cN (dZ o) a i k).2.1,codes++br (lB o) i k,l3,l4) 0)∧
  ((cN (dZ o) a i k).2.2=false→∃r,qD.a a x4 o x6 x7 x8 (ats,codes,l3,l4) (i:Int)=some r∧r.2.2.2=false):=by
 have h4:=hz.f
 intro k
 induction k with
 |zero=>
  intro i a ats codes hk ha h1 h2
  have:i=o.2.2.1.length:=by omega
  subst this
  rw[qD.a_eq,ah,ak (aA _),ac,cN,br,List.append_nil,List.append_nil]
  exact⟨fun _=>rfl,fun h=>by cases h⟩
 |succ k ih=>
  intro i a ats codes hk ha h1 h2
  have hi:i<o.2.2.1.length:=by omega
  rw[qD.a_eq,ah,aj,ab hi,an i _ hi (by omega)]
  rw[kz a ha _ (by have:=hz.fs i hi;omega)]
  simp only[ae,af]
  rw[lz _ (by simp;omega),ju _ (by simp;omega)]
  simp only[ae]
  obtain⟨i1,i2⟩:=ih (i+1) (aM a (dZ o i)).1 (ats++[(aM a (dZ o i)).2.1]) (codes++[lB o i]) (by omega) (db ha _) (by simp;omega) (by simp;omega)
  rw[cN,br]
  rw[show aM a (rd (τ:=aP) o.2.2.1 (i:Int)).2.2.2.size=aM a (dZ o i) from rfl]
  cases hp:(aM a (dZ o i)).2.2 with
  |false=>exact⟨fun h=>by simp at h,fun _=>⟨_,rfl,rfl⟩⟩
  |true=>
   simp only[Bool.true_and,aD,ac]
   refine⟨fun h=> ?_,fun h=>i2 h⟩
   have:=i1 h
   rw[bn,bn]at this
   exact this
theorem zW (o:bM) (hz:UnitSz o) (x3:bH) (x6:fe) (x7 x8:bH) (l1:List Int) (l2:List ByteArray):∀(k i:Nat) (a:bH) (ats:List Int) (codes:List ByteArray),i+k=o.2.2.2.1.length→cy a→ats.length=i→codes.length=i→
  ((cN (lA o) a i k).2.2=true→qD.b x3 a o x6 x7 x8 (l1,l2,ats,codes) (i:Int)=some ((l1,l2,ats++(cN (lA o) a i k).2.1,codes++br (kA o) i k),x3,(cN (lA o) a i k).1,true))∧
  ((cN (lA o) a i k).2.2=false→∃r,qD.b x3 a o x6 x7 x8 (l1,l2,ats,codes) (i:Int)=some r∧r.2.2.2=false):=by
 have h4:=hz.d
 intro k
 induction k with
 |zero=>
  intro i a ats codes hk ha h1 h2
  have:i=o.2.2.2.1.length:=by omega
  subst this
  rw[qD.b_eq,ah,ak (aA _),ac,cN,br,List.append_nil,List.append_nil]
  exact⟨fun _=>rfl,fun h=>by cases h⟩
 |succ k ih=>
  intro i a ats codes hk ha h1 h2
  have hi:i<o.2.2.2.1.length:=by omega
  rw[qD.b_eq,ah,aj,ab hi,an i _ hi (by omega)]
  rw[kz a ha _ (by have:=hz.ds i hi;omega)]
  simp only[ae,af]
  rw[lz _ (by simp;omega),ju _ (by simp;omega)]
  simp only[ae]
  obtain⟨i1,i2⟩:=ih (i+1) (aM a (lA o i)).1 (ats++[(aM a (lA o i)).2.1]) (codes++[kA o i]) (by omega) (db ha _) (by simp;omega) (by simp;omega)
  rw[cN,br]
  rw[show aM a (rd (τ:=bD) o.2.2.2.1 (i:Int)).2.size=aM a (lA o i) from rfl]
  cases hp:(aM a (lA o i)).2.2 with
  |false=>exact⟨fun h=>by simp at h,fun _=>⟨_,rfl,rfl⟩⟩
  |true=>
   simp only[Bool.true_and,aD,ac]
   refine⟨fun h=> ?_,fun h=>i2 h⟩
   have:=i1 h
   rw[bn,bn]at this
   exact this
def dz (o:bM) (a b:bH):fe×bH×bH×Bool:=
 (((cN (dZ o) a 0 o.2.2.1.length).2.1,br (lB o) 0 o.2.2.1.length,(cN (lA o) b 0 o.2.2.2.1.length).2.1,br (kA o) 0 o.2.2.2.1.length),
  (cN (dZ o) a 0 o.2.2.1.length).1,(cN (lA o) b 0 o.2.2.2.1.length).1,(cN (dZ o) a 0 o.2.2.1.length).2.2&&(cN (lA o) b 0 o.2.2.2.1.length).2.2)
theorem Hz (o:bM) (hz:UnitSz o) (a b:bH) (ha:cy a) (hb:cy b):((dz o a b).2.2.2=true→qD a b o=some (dz o a b))∧((dz o a b).2.2.2=false→∃r,qD a b o=some r∧r.2.2.2=false):=by
 rw[Nl]
 obtain⟨f1,f2⟩:=zV o hz b ([],[],[],[]) (0,0,0) (0,0,0) [] [] o.2.2.1.length 0 a [] [] (by omega) ha rfl rfl
 obtain⟨d1,d2⟩:=zW o hz (cN (dZ o) a 0 o.2.2.1.length).1 ([],[],[],[]) (0,0,0) (0,0,0) (cN (dZ o) a 0 o.2.2.1.length).2.1 (br (lB o) 0 o.2.2.1.length) o.2.2.2.1.length 0 b [] [] (by omega) hb rfl rfl
 simp only[List.nil_append]at f1 d1
 unfold dz
 simp only
 cases h1:(cN (dZ o) a 0 o.2.2.1.length).2.2 with
 |false=>exact⟨fun h=>(by cases h),fun _=>f2 h1⟩
 |true=>
  rw[Bool.true_and]
  refine⟨fun h=> ?_,fun h=> ?_⟩
  ·rw[h]
   exact(f1 h1).trans (d1 h)
  ·obtain⟨r,h3,h4⟩:=d2 h
   exact⟨r,(f1 h1).trans h3,h4⟩
theorem HC (o:bM) (hz:UnitSz o) (a b:bH) (ha:cy a) (hb:cy b) (x8:fe) (x9 x10:bH) (t:List dg) (f:Int):
  eM.a a b o x8 x9 x10 (([],[],[],[]),t,o) f o.2.2.1 (o.2.2.1.length:Int) 0=
   eM.c (dz o a b).2.1 (dz o a b).2.2.1 o x8 x9 x10 ((dz o a b).1,t,o) (after f (dz o a b).2.2.2) o.2.2.2.2.1 (o.2.2.2.2.1.length:Int) 0:=by
 have h1:=zT o hz b x8 x9 x10 (t,o) [] [] o.2.2.1.length 0 a [] [] f (by omega) ha rfl rfl
 have h2:=zU o hz (cN (dZ o) a 0 o.2.2.1.length).1 x8 x9 x10 (t,o) (cN (dZ o) a 0 o.2.2.1.length).2.1 (br (lB o) 0 o.2.2.1.length) o.2.2.2.1.length 0 b [] [] (after f (cN (dZ o) a 0 o.2.2.1.length).2.2) (by omega) hb rfl rfl
 simp only[List.nil_append]at h1 h2
 rw[kB]at h2
 exact h1.trans h2
def Ky (x:Int):Prop:=0≤x∧x≤1048575∧x%8=0
theorem Dm {a:bH} (h:cy a) (n:Nat) (hn:1≤n):Ky (aM a n).2.1:=by
 obtain⟨⟨h1,h2,h3⟩,⟨h4,h5,h6⟩,h7,h8,h9⟩:=h
 unfold aM
 split
 ·exact⟨by simp,by simp,by simp⟩
 ·have:8≤oP n:=by unfold oP;omega
  refine⟨?_, ?_, ?_⟩<;>simp only<;>omega
theorem zX (sz:Nat→Nat):∀k i a,cy a→(∀j,i≤j→j<i+k→1≤sz j)→∀x∈(cN sz a i k).2.1,Ky x
 |0,_,_,_,_,x,hx=>by cases hx
 |k+1,i,a,h,hs,x,hx=>by
  rw[cN]at hx
  rcases List.mem_cons.1 hx with rfl|hx
  ·exact Dm h _ (hs i (Nat.le_refl _) (by omega))
  ·exact zX sz k (i+1) _ (db h _) (fun j h1 h2=>hs j (by omega) (by omega)) x hx
structure ft (o:bM) (l:fe):Prop where
 a:l.1.length=o.2.2.1.length
 c:l.2.1.length=o.2.2.1.length
 d:l.2.2.1.length=o.2.2.2.1.length
 b:l.2.2.2.length=o.2.2.2.1.length
 cs:∀i:Nat,i<o.2.2.1.length→(rd (τ:= .str) l.2.1 (i:Int)).size=dZ o i
 bs:∀i:Nat,i<o.2.2.2.1.length→(rd (τ:= .str) l.2.2.2 (i:Int)).size=lA o i
 fa:∀i:Nat,i<o.2.2.1.length→Ky (rd (τ:= .int .i64) l.1 (i:Int))
 ds:∀i:Nat,i<o.2.2.2.1.length→Ky (rd (τ:= .int .i64) l.2.2.1 (i:Int))
theorem pr {τ:Ty} (f:Nat→τ.den) (k j:Nat) (h:j<k):rd (τ:=τ) (br f 0 k) (j:Int)=f j:=by
 rw[aW _ _ (by rw[aO];exact h),gK,Nat.zero_add]
theorem eh.fsz_pos {o:bM} (h:eh o) (i:Nat) (hi:i<o.2.2.1.length):20≤dZ o i∧dZ o i≤256∧dZ o i%4=0:=by
 have:=(i6 (h.fun_ i hi)).2.2.2
 unfold bw at this
 unfold dZ
 cases h1:ct (rd (τ:=aP) o.2.2.1 (i:Int)).2.2.2.size with
 |false=>rw[h1]at this;cases this
 |true=>
  rw[h1,ae,aV]at this
  have h2:=dm h1
  exact⟨by omega,h2.2,h2.1⟩
theorem eh.dsz_pos {o:bM} (h:eh o) (i:Nat) (hi:i<o.2.2.2.1.length):8≤lA o i∧lA o i≤64∧lA o i%8=0:=ox (i7 (h.dat i hi)).2.2
theorem xI (o:bM) (h:eh o) (a b:bH) (ha:cy a) (hb:cy b):ft o (dz o a b).1∧cy (dz o a b).2.1∧cy (dz o a b).2.2.1:=by
 refine⟨⟨cw _ _ _ _,aO _ _ _,cw _ _ _ _,aO _ _ _,fun i hi=> ?_,fun i hi=> ?_,fun i hi=> ?_,fun i hi=> ?_⟩,rc _ _ _ _ ha,rc _ _ _ _ hb⟩
 ·show(rd (τ:= .str) (br (lB o) 0 o.2.2.1.length) (i:Int)).size=_
  rw[pr (τ:= .str) (lB o) _ _ hi];rfl
 ·show(rd (τ:= .str) (br (kA o) 0 o.2.2.2.1.length) (i:Int)).size=_
  rw[pr (τ:= .str) (kA o) _ _ hi];rfl
 ·have hl:=cw (dZ o) o.2.2.1.length 0 a
  show Ky (rd (τ:= .int .i64) (cN (dZ o) a 0 o.2.2.1.length).2.1 (i:Int))
  rw[aW (τ:= .int .i64) _ i (by rw[hl];exact hi)]
  exact zX _ _ _ _ ha (fun j _ h2=>by have:=h.fsz_pos j (by omega);omega) _ (List.getElem_mem _)
 ·have hl:=cw (lA o) o.2.2.2.1.length 0 b
  show Ky (rd (τ:= .int .i64) (cN (lA o) b 0 o.2.2.2.1.length).2.1 (i:Int))
  rw[aW (τ:= .int .i64) _ i (by rw[hl];exact hi)]
  exact zX _ _ _ _ hb (fun j _ h2=>by have:=h.dsz_pos j (by omega);omega) _ (List.getElem_mem _)
theorem Jw (v:Int) (i:Nat) (hi:i<8):(v%18446744073709551616)/2^(8*i)%256=v/2^(8*i)%256:=by
 match i,hi with
 |0,_=>omega
 |1,_=>omega
 |2,_=>omega
 |3,_=>omega
 |4,_=>omega
 |5,_=>omega
 |6,_=>omega
 |7,_=>omega
theorem RB (n:Nat) (h:n≤4096):aI n 1=true:=by simp[aI];omega
theorem nN (v:Int) (n:Nat) (hn:n≤8):∀(k i:Nat) (xs:List Int),i+k=n→xs.length=i→yk.a v (n:Int) xs (i:Int)=some (aS (xs++lY (v/2^(8*i)) k)):=by
 intro k
 induction k with
 |zero=>
  intro i xs h hx
  have:i=n:=by omega
  subst this
  rw[yk.a_eq,ah,ak (aA _),ac,lY,List.append_nil]
 |succ k ih=>
  intro i xs h hx
  rw[yk.a_eq,ah,ab (show i<n by omega),aT (n:=8*(i:Int)) (by omega) (by omega),GB (n:=8*(i:Int)) (by omega) (by omega),ak (show¬8*(i:Int)<0 by omega),an i n (by omega) (by omega),mI,tL (by omega) (by omega),po,RB _ (by simp;omega),ih (i+1) _ (by omega) (by simp;omega),lY,bn]
  have e1:(8*(i:Int)).toNat=8*i:=by omega
  rw[e1,Jw v i (by omega)]
  have e2:v/2^(8*i)/256=v/2^(8*(i+1)):=by
   rw[Int.ediv_ediv_of_nonneg (Int.pow_nonneg (by decide))]
   congr 1
   rw[show 8*(i+1)=8*i+8 by omega,Int.pow_add];rfl
  rw[e2];rfl
theorem kC (v:Int) (n:Nat) (hn:n≤8):yk v (n:Int)=some (aS (lY v n)):=by
 rw[Nn]
 have:=nN v n hn n 0 [] (by omega) rfl
 simpa using this
theorem Dn {β:Type} (L:Int→Option β) (p:Nat→Bool) (g:Nat→Option β) (n:Nat) (hstep:∀i:Nat,i<n→L (i:Int)=bif p i then g i else L ((i+1:Nat):Int)):
  ∀k i:Nat,i+k=n→L (i:Int)=if dW p i k<0 then L (n:Int)else g (dW p i k).toNat:=by
 intro k
 induction k with
 |zero=>
   intro i h;have:i=n:=by omega
   subst this;rfl
 |succ k ih=>
  intro i h
  rw[hstep i (by omega),ih (i+1) (by omega),dW]
  cases p i with
  |false=>rfl
  |true=>rw[ae,ae,ap (by omega)];rfl
theorem jy {β:Type} {L:Int→Option β} (p:Nat→Bool) (g:Nat→Option β) (n:Nat) (hstep:∀i:Nat,i<n→L (i:Int)=bif p i then g i else L ((i+1:Nat):Int)):L 0=if dW p 0 n<0 then L (n:Int)else g (dW p 0 n).toNat:=
 Dn L p g n hstep n 0 (by omega)
theorem xJ (p:Nat→Bool) (n:Nat) (h:¬dW p 0 n<0):(dW p 0 n).toNat<n:=by
 rcases cg p n 0 with⟨h1,_⟩|⟨j,h1,h2,h3,_⟩
 ·omega
 ·omega
def xK (o:bM) (name:ByteArray):Int:=dW (fun i=>decide ((rd (τ:=aP) o.2.2.1 (i:Int)).1=name)&& !(rd (τ:=aP) o.2.2.1 (i:Int)).2.1) 0 o.2.2.1.length
def xL (o:bM) (name:ByteArray):Int:=dW (fun i=>decide ((rd (τ:=bD) o.2.2.2.1 (i:Int)).1=name)) 0 o.2.2.2.1.length
def xM (t:List dg) (o:bM) (l:fe) (name:ByteArray):Int×Bool:=
 if xK o name<0 then if xL o name<0 then if cz t name<0 then(0,false)else((rd (τ:=ba) t (cz t name)).2.2.1,true)
  else(rd (τ:= .int .i64) l.2.2.1 ((xL o name).toNat:Int),true)
 else(rd (τ:= .int .i64) l.1 ((xK o name).toNat:Int),true)
theorem HD (t:List dg) (o:bM) (l:fe) (name:ByteArray) (ht:t.length≤64) (hz:ObjSz o) (hl:ft o l):rX (l,t,o) name=some (xM t o l name):=by
 have h1:=hz.f
 have h2:=hz.d
 rw[Po]
 show rX.a (l,t,o) name o.2.2.1 (o.2.2.1.length:Int) 0=_
 rw[jy (L:=rX.a (l,t,o) name o.2.2.1 (o.2.2.1.length:Int)) (fun i=>decide ((rd (τ:=aP) o.2.2.1 (i:Int)).1=name)&& !(rd (τ:=aP) o.2.2.1 (i:Int)).2.1) (fun i=>some (rd (τ:= .int .i64) l.1 (i:Int),true)) o.2.2.1.length fun i hi=> ?_]
 ·unfold xM
  show(if xK o name<0 then _ else _)=some (if xK o name<0 then _ else _)
  by_cases hf:xK o name<0
  ·rw[av hf,av hf,rX.a_eq,ah,ak (aA _),ac]
   show rX.b (l,t,o) name o.2.2.2.1 (o.2.2.2.1.length:Int) 0=_
   rw[jy (L:=rX.b (l,t,o) name o.2.2.2.1 (o.2.2.2.1.length:Int)) (fun i=>decide ((rd (τ:=bD) o.2.2.2.1 (i:Int)).1=name)) (fun i=>some (rd (τ:= .int .i64) l.2.2.1 (i:Int),true)) o.2.2.2.1.length fun i hi=> ?_]
   ·show(if xL o name<0 then _ else _)=some (if xL o name<0 then _ else _)
    by_cases hd:xL o name<0
    ·rw[av hd,av hd,rX.b_eq,ah,ak (aA _),ac,(eu t _ (by omega)).1]
     simp only[af]
     have hr:=dK t name
     by_cases he:cz t name<0
     ·rw[av he,ab he];rfl
     ·rw[ap he,ak he,inL_true (by omega) (by omega)];rfl
    ·rw[ap hd,ap hd];rfl
   ·rw[rX.b_eq,ah,aj,ab hi,an i _ hi (by omega),bg,aj,show decide (i<l.2.2.1.length)=true from ab (by rw[hl.d];exact hi)]
    simp only[ae]
  ·rw[ap hf,ap hf];rfl
 ·rw[rX.a_eq,ah,aj,ab hi,an i _ hi (by omega),bg,aj,show decide (i<l.1.length)=true from ab (by rw[hl.a];exact hi)]
  simp only[ae]
  cases decide ((rd (τ:=aP) o.2.2.1 (i:Int)).1=name)<;>cases (rd (τ:=aP) o.2.2.1 (i:Int)).2.1<;>rfl
theorem HE (t:List dg) (o:bM) (l:fe) (name:ByteArray) (ht:t.length≤64) (hz:ObjSz o) (hl:ft o l):tJ t o l name=some (xM t o l name):=by
 have h1:=hz.f
 have h2:=hz.d
 rw[Nm]
 rw[jy (L:=tJ.a t name o l) (fun i=>decide ((rd (τ:=aP) o.2.2.1 (i:Int)).1=name)&& !(rd (τ:=aP) o.2.2.1 (i:Int)).2.1) (fun i=>some (rd (τ:= .int .i64) l.1 (i:Int),true)) o.2.2.1.length fun i hi=> ?_]
 ·unfold xM
  show(if xK o name<0 then _ else _)=some (if xK o name<0 then _ else _)
  by_cases hf:xK o name<0
  ·rw[av hf,av hf,tJ.a_eq,ah,ak (aA _),ac]
   rw[jy (L:=tJ.b t name o l) (fun i=>decide ((rd (τ:=bD) o.2.2.2.1 (i:Int)).1=name)) (fun i=>some (rd (τ:= .int .i64) l.2.2.1 (i:Int),true)) o.2.2.2.1.length fun i hi=> ?_]
   ·show(if xL o name<0 then _ else _)=some (if xL o name<0 then _ else _)
    by_cases hd:xL o name<0
    ·rw[av hd,av hd,tJ.b_eq,ah,ak (aA _),ac,(eu t _ (by omega)).2]
     simp only[af]
     have hr:=dK t name
     by_cases he:cz t name<0
     ·rw[av he,ab he];rfl
     ·rw[ap he,ak he,inL_true (by omega) (by omega)];rfl
    ·rw[ap hd,ap hd];rfl
   ·rw[tJ.b_eq,ah,aj,ab hi,an i _ hi (by omega),bg,aj,show decide (i<l.2.2.1.length)=true from ab (by rw[hl.d];exact hi)]
    simp only[ae]
  ·rw[ap hf,ap hf];rfl
 ·rw[tJ.a_eq,ah,aj,ab hi,an i _ hi (by omega),bg,aj,show decide (i<l.1.length)=true from ab (by rw[hl.a];exact hi)]
  simp only[ae]
  cases decide ((rd (τ:=aP) o.2.2.1 (i:Int)).1=name)<;>cases (rd (τ:=aP) o.2.2.1 (i:Int)).2.1<;>rfl
def Do (t:List dg):Prop:=t.length≤64∧∀i:Nat,i<t.length→dh (rd (τ:=ba) t (i:Int))=true
theorem xN {e:dg} (h:dh e=true):0≤e.2.2.1∧e.2.2.1≤1048575:=by
 unfold dh at h
 cases h1:cx e.1 with
 |false=>rw[h1]at h;cases h
 |true=>
  cases h2:bU e.2.2.1 with
  |false=>rw[h1,h2]at h;cases h
  |true=>exact fG h2
theorem zY (t:List dg) (o:bM) (l:fe) (name:ByteArray) (ht:Do t) (hl:ft o l):0≤(xM t o l name).1∧(xM t o l name).1≤1048575:=by
 unfold xM
 split
 ·split
  ·split
   ·simp
   ·rename_i h1 h2 h3
    have hr:=dK t name
    have:=ht.2 (cz t name).toNat (by omega)
    rw[show(((cz t name).toNat:Nat):Int)=cz t name by omega]at this
    exact xN this
  ·rename_i h1 h2
   have:=hl.ds _ (xJ _ _ h2)
   exact⟨this.1,this.2.1⟩
 ·rename_i h1
  have:=hl.fa _ (xJ _ _ h1)
  exact⟨this.1,this.2.1⟩
def hZ (t:ByteArray) (i:Nat) (b:ByteArray):ByteArray:=t.extract 0 i++b++t.extract (i+b.size) t.size
theorem mU (t:ByteArray) (i:Nat) (b:ByteArray) (h:i+b.size≤t.size):(hZ t i b).size=t.size:=by
 unfold hZ
 simp only[ByteArray.size_append,ByteArray.size_extract]
 omega
theorem oz (t:ByteArray) (i:Nat) (b:ByteArray) (h:i+b.size≤t.size) (ht:t.size≤4096):SF t (i:Int) b=some (hZ t i b):=by
 rw[Pp,aT (n:=(i:Int)+(b.size:Int)) (by omega) (by omega)]
 unfold hZ
 rw[show(decide (0≤0)&&decide (0≤(i:Int))&&decide ((i:Int)≤(t.size:Int)))=true by simp;omega,show(decide (0≤(i:Int)+(b.size:Int))&&decide ((i:Int)+(b.size:Int)≤(t.size:Int))&&decide ((t.size:Int)≤(t.size:Int)))=true by simp;omega]
 rw[show(Int.toNat 0)=0 from rfl,aC,show((i:Int)+(b.size:Int)).toNat=i+b.size by omega,aC]
 rw[ab (show(t.extract 0 i).size+b.size≤9223372036854775807 by simp only[ByteArray.size_extract];omega),ab (show(t.extract 0 i++b).size+(t.extract (i+b.size) t.size).size≤9223372036854775807 by simp only[ByteArray.size_append,ByteArray.size_extract];omega)]
 rfl
theorem HF {τ:Ty} (l:List τ.den) (k:Nat) (x:τ.den) (hk:k<l.length) (i:Nat) (hi:i<l.length):rd (τ:=τ) (l.set k x) (i:Int)=if i=k then x else rd (τ:=τ) l (i:Int):=by
 rw[aW _ _ (by rw[List.length_set];exact hi),aW _ _ hi,List.getElem_set]
 by_cases h:i=k
 ·rw[av h,av h.symm]
 ·rw[ap h,ap (fun e=>h e.symm)]
theorem ft.setB {o:bM} {l:fe} (h:ft o l) (k:Nat) (hk:k<o.2.2.2.1.length) (x:ByteArray) (hx:x.size=lA o k):ft o (l.1,l.2.1,l.2.2.1,l.2.2.2.set k x):=by
 refine⟨h.a,h.c,h.d,by simp only[List.length_set];exact h.b,h.cs,fun i hi=> ?_,h.fa,h.ds⟩
 simp only
 rw[HF (τ:= .str) l.2.2.2 k x (by rw[h.b];exact hk) i (by rw[h.b];exact hi)]
 split
 ·rename_i e;rw[e];exact hx
 ·exact h.bs i hi
theorem ft.setC {o:bM} {l:fe} (h:ft o l) (k:Nat) (hk:k<o.2.2.1.length) (x:ByteArray) (hx:x.size=dZ o k):ft o (l.1,l.2.1.set k x,l.2.2.1,l.2.2.2):=by
 refine⟨h.a,by simp only[List.length_set];exact h.c,h.d,h.b,fun i hi=> ?_,h.bs,h.fa,h.ds⟩
 simp only
 rw[HF (τ:= .str) l.2.1 k x (by rw[h.c];exact hk) i (by rw[h.c];exact hi)]
 split
 ·rename_i e;rw[e];exact hx
 ·exact h.cs i hi
structure Dp (o:bM) (r:Ku):Prop where
 at_:iZ o r=true
 kind:1≤r.2.2.1∧r.2.2.1≤9
 word:r.2.2.1=9↔(o.2.2.1.length:Int)≤r.1
 add: -2147483648≤r.2.2.2.2∧r.2.2.2.2≤2147483647
theorem Dq {o:bM} {k:Nat} (h:l7 o k=0):Dp o (rd (τ:=cA) o.2.2.2.2.1 (k:Int)):=by
 unfold l7 at h
 generalize rd (τ:=cA) o.2.2.2.2.1 (k:Int)=r at*
 split at h
 ·cases h
 split at h
 ·cases h
 split at h
 ·cases h
 split at h
 ·cases h
 rename_i h1 h2 h3 h4
 have h2:(c7 r.2.2.1 1 9&&(decide (r.2.2.1=9)==decide (r.1≥(o.2.2.1.length:Int))))=true:=by
  cases h5:(c7 r.2.2.1 1 9&&(decide (r.2.2.1=9)==decide (r.1≥(o.2.2.1.length:Int))));exact absurd h5 h2;rfl
 rw[ay,bm]at h2
 refine⟨?_,h2.1, ?_, ?_⟩
 ·cases h5:iZ o r;exact absurd h5 h1;rfl
 ·have:=h2.2
  rw[beq_iff_eq,decide_eq_decide]at this
  exact this
 ·rw[←bm]
  cases h5:c7 r.2.2.2.2 (-2147483648) 2147483647;exact absurd h5 h4;rfl
theorem Dp.data {o:bM} {r:Ku} (ho:eh o) (h:Dp o r) (hu:(o.2.2.1.length:Int)≤r.1):∃k j:Nat,r.1-(o.2.2.1.length:Int)=(k:Int)∧k<o.2.2.2.1.length∧r.2.1=(j:Int)∧8*j+8≤lA o k:=by
 have h1:=h.at_
 unfold iZ at h1
 rw[ay,bm,bm]at h1
 refine⟨(r.1-(o.2.2.1.length:Int)).toNat,r.2.1.toNat,by omega,by omega,by omega, ?_⟩
 have hv:fb o r.1=((lA o (r.1-(o.2.2.1.length:Int)).toNat:Nat):Int)/8:=by
  unfold fb
  rw[ap (by omega),av ⟨hu,by omega⟩,Int.tdiv_eq_ediv_of_nonneg (by omega)]
  unfold lA
  rw[show(((r.1-(o.2.2.1.length:Int)).toNat:Nat):Int)=r.1-(o.2.2.1.length:Int) by omega]
 have:=ho.dsz_pos (r.1-(o.2.2.1.length:Int)).toNat (by omega)
 omega
theorem Dp.code {o:bM} {r:Ku} (ho:eh o) (h:Dp o r) (hu:¬(o.2.2.1.length:Int)≤r.1):∃k j:Nat,r.1=(k:Int)∧k<o.2.2.1.length∧r.2.1=(j:Int)∧4*j+4≤dZ o k:=by
 have h1:=h.at_
 unfold iZ at h1
 rw[ay,bm,bm]at h1
 refine⟨r.1.toNat,r.2.1.toNat,by omega,by omega,by omega, ?_⟩
 have hv:fb o r.1=((dZ o r.1.toNat:Nat):Int)/4:=by
  unfold fb
  rw[av ⟨by omega,by omega⟩,Int.tdiv_eq_ediv_of_nonneg (by omega)]
  unfold dZ
  rw[show((r.1.toNat:Nat):Int)=r.1 by omega]
 have:=ho.fsz_pos r.1.toNat (by omega)
 omega
theorem Br (n:Nat) (h:n≤4096):aI (0+n) 16=true:=ju _ (by omega)
theorem zZ (t:List dg) (o:bM) (l:fe) (r:Ku) (ht:Do t) (ho:eh o) (hl:ft o l) (hr:Dp o r):
  ∃l' c,TP (l,t,o) r=some (c,l',t,o)∧Tn t o l r=some (l',c)∧ft o l'∧l'.1=l.1:=by
 have h1:=ho.f
 have h2:=ho.d
 have hs:=zY t o l r.2.2.2.1 ht hl
 have hadd:=hr.add
 rw[Px,Nt,HD t o l _ ht.1 ho.toObjSz hl,HE t o l _ ht.1 ho.toObjSz hl]
 simp only[af]
 generalize xM t o l r.2.2.2.1=s at*
 cases hs2:s.2 with
 |false=>exact⟨l,23,rfl,rfl,hl,rfl⟩
 |true=>
  have hat:=hr.at_
  unfold iZ at hat
  rw[ay,bm,bm]at hat
  rw[aT (n:=r.1-(o.2.2.1.length:Int)) (by omega) (by omega),aT (n:=s.1+r.2.2.2.2) (by omega) (by omega)]
  simp only[aD,ac]
  by_cases hu:(o.2.2.1.length:Int)≤r.1
  ·obtain⟨k,j,e1,hk,e2,hj⟩:=hr.data ho hu
   have hd:=ho.dsz_pos k hk
   have hsz:=hl.bs k hk
   rw[ab (show r.1-(o.2.2.1.length:Int)≥0 by omega),ab (show r.1≥(o.2.2.1.length:Int) from hu),e1,e2,aj,ab (show k<l.2.2.2.length by rw[hl.b];exact hk),aT (n:=8*(j:Int)) (by omega) (by omega),aT (n:=8*(j:Int)+8) (by omega) (by omega),Br l.2.2.2.length (by rw[hl.b];omega),
    show(8:Int)*(j:Int)=((8*j:Nat):Int) by omega,show ym (s.1+r.2.2.2.2) 8=some (aS (lY (s.1+r.2.2.2.2) 8)) from l5 _ 8 (by omega)]
   rw[show yk (s.1+r.2.2.2.2) 8=some (aS (lY (s.1+r.2.2.2.2) 8)) from kC _ 8 (by omega)]
   simp only[af,ae,letB]
   have hb:(aS (lY (s.1+r.2.2.2.2) 8)).size=8:=by rw[cm,lZ]
   generalize aS (lY (s.1+r.2.2.2.2) 8)=b at*
   rw[oz _ _ _ (by rw[hsz,hb];omega) (by rw[hsz];omega)]
   simp only[af]
   generalize rd (τ:= .str) l.2.2.2 (k:Int)=d at*
   refine⟨_,0,rfl, ?_,hl.setB k hk (hZ d (8*j) b) (by rw[mU _ _ _ (by rw[hsz,hb];omega),hsz]),rfl⟩
   rw[show(decide (0≤0)&&decide (0≤((8*j:Nat):Int))&&decide (((8*j:Nat):Int)≤(d.size:Int)))=true by simp;omega,show(decide (0≤((8*j:Nat):Int)+8)&&decide (((8*j:Nat):Int)+8≤(d.size:Int))&&decide ((d.size:Int)≤(d.size:Int)))=true by simp;omega]
   rw[show(Int.toNat 0)=0 from rfl,aC,show(((8*j:Nat):Int)+8).toNat=8*j+8 by omega,aC,aC]
   rw[ab (show(d.extract 0 (8*j)).size+b.size≤9223372036854775807 by simp only[ByteArray.size_extract];omega),ab (show(d.extract 0 (8*j)++b).size+(d.extract (8*j+8) d.size).size≤9223372036854775807 by simp only[ByteArray.size_append,ByteArray.size_extract];omega)]
   unfold hZ
   rw[hb]
   rfl
  ·obtain⟨k,j,e1,hk,e2,hj⟩:=hr.code ho hu
   have hd:=ho.fsz_pos k hk
   have hsz:=hl.cs k hk
   have hk8:1≤r.2.2.1∧r.2.2.1≤8:=by
    have:=hr.kind
    have h9:r.2.2.1≠9:=fun e=>hu (hr.word.1 e)
    omega
   have hat2:=hl.fa k hk
   rw[ak (show¬r.1-(o.2.2.1.length:Int)≥0 by omega),ak (show¬r.1≥(o.2.2.1.length:Int) from hu),e1,e2,aj,aj,ab (show k<l.2.1.length by rw[hl.c];exact hk),ab (show k<l.1.length by rw[hl.a];exact hk),aT (n:=4*(j:Int)) (by omega) (by omega),aT (n:=4*(j:Int)+4) (by omega) (by omega),Br l.2.1.length (by rw[hl.c];omega),
    show(4:Int)*(j:Int)=((4*j:Nat):Int) by omega]
   simp only[ac,ae,letB]
   generalize rd (τ:= .str) l.2.1 (k:Int)=d at*
   obtain⟨a,ha⟩:∃x:Int,rd (τ:= .int .i64) l.1 (k:Int)=x:=⟨_,rfl⟩
   rw[ha]at hat2
   simp only[ha]
   have hat3:0≤a∧a≤1048575:=⟨hat2.1,hat2.2.1⟩
   rw[show(decide (0≤((4*j:Nat):Int))&&decide (((4*j:Nat):Int)≤((4*j:Nat):Int)+4)&&decide (((4*j:Nat):Int)+4≤(d.size:Int)))=true by simp;omega,show(decide (0≤0)&&decide (0≤((4*j:Nat):Int))&&decide (((4*j:Nat):Int)≤(d.size:Int)))=true by simp;omega,show(decide (0≤((4*j:Nat):Int)+4)&&decide (((4*j:Nat):Int)+4≤(d.size:Int))&&decide ((d.size:Int)≤(d.size:Int)))=true by simp;omega]
   rw[show(Int.toNat 0)=0 from rfl,aC,show(((4*j:Nat):Int)+4).toNat=4*j+4 by omega,aC,aC]
   have hx:(d.extract (4*j) (4*j+4)).size=4:=by simp only[ByteArray.size_extract];omega
   rw[ef _ (by omega),hx,fR d (4*j) (4*j+4) (by omega) 4 0 (by omega),Nat.add_zero]
   rw[show su d ((4*j:Nat):Int) 4=some (IntKind.wrap .i64 (eZ d (4*j) 4)) from fF d (4*j) 4 (by omega) (by omega)]
   have h4:=TE d (4*j)
   rw[aT (n:=(eZ d (4*j) 4:Int)) (by omega) (by omega),aT (n:=a+((4*j:Nat):Int)) (by omega) (by omega)]
   simp only[af,ae]
   obtain⟨q,q1,q2⟩:=sH (eZ d (4*j) 4:Int) r.2.2.1 (s.1+r.2.2.2.2) (a+((4*j:Nat):Int)) h4 hk8 ⟨by omega,by omega⟩ ⟨by omega,by omega⟩
   rw[q1,q2]
   simp only[af]
   by_cases hq:q.2=0
   ·rw[ab hq,show ym q.1 4=some (aS (lY q.1 4)) from l5 _ 4 (by omega),show yk q.1 4=some (aS (lY q.1 4)) from kC _ 4 (by omega)]
    have hb:(aS (lY q.1 4)).size=4:=by rw[cm,lZ]
    simp only[af,ae,aD,ac]
    generalize aS (lY q.1 4)=b at*
    rw[oz _ _ _ (by omega) (by omega)]
    simp only[af]
    refine⟨_,q.2,rfl, ?_,hl.setC k hk (hZ d (4*j) b) (by rw[mU _ _ _ (by omega),hsz]),rfl⟩
    rw[ab (show(d.extract 0 (4*j)).size+b.size≤9223372036854775807 by simp only[ByteArray.size_extract];omega),ab (show(d.extract 0 (4*j)++b).size+(d.extract (4*j+4) d.size).size≤9223372036854775807 by simp only[ByteArray.size_append,ByteArray.size_extract];omega),hq]
    unfold hZ
    rw[hb]
    rfl
   ·rw[ak hq]
    exact⟨l,q.2,rfl,rfl,hl,rfl⟩
def c6 {α:Type} (p:Nat→Bool) (f:Nat→α):Nat→Nat→List α
 |_,0=>[]
 |i,k+1=>bif p i then f i::c6 p f (i+1) k else c6 p f (i+1) k
theorem cB {α:Type} (p:Nat→Bool) (f:Nat→α):∀k i,(c6 p f i k).length≤k
 |0,_=>Nat.le_refl _
 |k+1,i=>by
  have:=cB p f k (i+1)
  rw[c6]
  cases p i
  ·rw[ac];omega
  ·rw[ae,List.length_cons];omega
theorem Dr {α β:Type} (L:List α→Int→Option β) (p:Nat→Bool) (f:Nat→α) (n A:Nat) (hstep:∀acc (i:Nat),i<n→acc.length≤A+i→L acc (i:Int)=bif p i then L (acc++[f i]) ((i+1:Nat):Int)else L acc ((i+1:Nat):Int)):
  ∀(k i:Nat) (acc:List α),i+k=n→acc.length≤A+i→L acc (i:Int)=L (acc++c6 p f i k) (n:Int):=by
 intro k
 induction k with
 |zero=>
   intro i acc h _;have:i=n:=by omega
   subst this;rw[c6,List.append_nil]
 |succ k ih=>
  intro i acc h ha
  rw[hstep acc i (by omega) ha,c6]
  cases p i with
  |false=>rw[ac,ac,ih (i+1) _ (by omega) (by omega)]
  |true=>rw[ae,ae,ih (i+1) _ (by omega) (by simp;omega),bn];rfl
theorem dL {α β:Type} {L:List α→Int→Option β} (p:Nat→Bool) (f:Nat→α) (n:Nat) (acc:List α) (hstep:∀acc' (i:Nat),i<n→acc'.length≤acc.length+i→L acc' (i:Int)=bif p i then L (acc'++[f i]) ((i+1:Nat):Int)else L acc' ((i+1:Nat):Int)):L acc 0=L (acc++c6 p f 0 n) (n:Int):=
 Dr L p f n acc.length hstep n 0 acc (by omega) (by omega)
def nO (t:List dg) (o:bM) (l:fe):List Int:=
 c6 (fun i=>decide ((rd (τ:=ba) t (i:Int)).2.1=1)) (fun i=>(rd (τ:=ba) t (i:Int)).2.2.1) 0 t.length++
  c6 (fun i=> !(rd (τ:=aP) o.2.2.1 (i:Int)).2.1) (fun i=>rd (τ:= .int .i64) l.1 (i:Int)) 0 o.2.2.1.length
theorem sK (t:List dg) (o:bM) (l:fe) (ht:t.length≤64) (hz:ObjSz o):(nO t o l).length≤68:=by
 have:=hz.f
 unfold nO
 have h1:=cB (fun i=>decide ((rd (τ:=ba) t (i:Int)).2.1=1)) (fun i=>(rd (τ:=ba) t (i:Int)).2.2.1) t.length 0
 have h2:=cB (fun i=> !(rd (τ:=aP) o.2.2.1 (i:Int)).2.1) (fun i=>rd (τ:= .int .i64) l.1 (i:Int)) o.2.2.1.length 0
 rw[List.length_append];omega
theorem z7 (t:List dg) (o:bM) (l:fe) (ht:t.length≤64) (hz:ObjSz o) (hl:ft o l):oy (l,t,o)=some (nO t o l):=by
 have h1:=hz.f
 rw[Py]
 show oy.a (l,t,o) [] t (t.length:Int) 0=_
 rw[dL (L:=fun acc i=>oy.a (l,t,o) acc t (t.length:Int) i) (fun i=>decide ((rd (τ:=ba) t (i:Int)).2.1=1)) (fun i=>(rd (τ:=ba) t (i:Int)).2.2.1) t.length [] fun acc i hi ha=> ?_]
 ·rw[oy.a_eq,ah,ak (aA _),ac,List.nil_append]
  have hf:=cB (fun i=>decide ((rd (τ:=ba) t (i:Int)).2.1=1)) (fun i=>(rd (τ:=ba) t (i:Int)).2.2.1) t.length 0
  show oy.b (l,t,o) _ o.2.2.1 (o.2.2.1.length:Int) 0=_
  rw[dL (L:=fun acc i=>oy.b (l,t,o) acc o.2.2.1 (o.2.2.1.length:Int) i) (fun i=> !(rd (τ:=aP) o.2.2.1 (i:Int)).2.1) (fun i=>rd (τ:= .int .i64) l.1 (i:Int)) o.2.2.1.length (c6 (fun i=>decide ((rd (τ:=ba) t (i:Int)).2.1=1)) (fun i=>(rd (τ:=ba) t (i:Int)).2.2.1) 0 t.length) fun acc i hi ha=> ?_]
  ·show oy.b (l,t,o) _ o.2.2.1 (o.2.2.1.length:Int) (o.2.2.1.length:Int)=_
   rw[oy.b_eq,ah,ak (aA _),ac];rfl
  ·show oy.b (l,t,o) acc o.2.2.1 (o.2.2.1.length:Int) (i:Int)=_
   rw[oy.b_eq,ah,aj,ab hi,an i _ hi (by omega),aj,show decide (i<l.1.length)=true from ab (by rw[hl.a];exact hi),lz _ (by simp;omega)]
   cases (rd (τ:=aP) o.2.2.1 (i:Int)).2.1<;>rfl
 ·show oy.a (l,t,o) acc t (t.length:Int) (i:Int)=_
  rw[oy.a_eq,ah,aj,ab hi,an i _ hi (by omega),lz _ (by simp at ha⊢;omega)]
  cases decide ((rd (τ:=ba) t (i:Int)).2.1=1)<;>rfl
theorem z8 (t:List dg) (o:bM) (l:fe) (ht:t.length≤64) (hz:ObjSz o) (hl:ft o l) (x8:fe) (x9 x10 a b:bH):gT.b t o x8 x9 x10 l a b [] 0=gT.d o x8 x9 x10 l a b (nO t o l) 0:=by
 have h1:=hz.f
 rw[dL (L:=fun acc i=>gT.b t o x8 x9 x10 l a b acc i) (fun i=>decide ((rd (τ:=ba) t (i:Int)).2.1=1)) (fun i=>(rd (τ:=ba) t (i:Int)).2.2.1) t.length [] fun acc i hi ha=> ?_]
 ·rw[gT.b_eq,ah,ak (aA _),ac,List.nil_append]
  have hf:=cB (fun i=>decide ((rd (τ:=ba) t (i:Int)).2.1=1)) (fun i=>(rd (τ:=ba) t (i:Int)).2.2.1) t.length 0
  rw[dL (L:=fun acc i=>gT.c o x8 x9 x10 l a b acc i) (fun i=> !(rd (τ:=aP) o.2.2.1 (i:Int)).2.1) (fun i=>rd (τ:= .int .i64) l.1 (i:Int)) o.2.2.1.length (c6 (fun i=>decide ((rd (τ:=ba) t (i:Int)).2.1=1)) (fun i=>(rd (τ:=ba) t (i:Int)).2.2.1) 0 t.length) fun acc i hi ha=> ?_]
  ·rw[gT.c_eq,ah,ak (aA _),ac];rfl
  ·show gT.c o x8 x9 x10 l a b acc (i:Int)=_
   rw[gT.c_eq,ah,aj,ab hi,an i _ hi (by omega),aj,show decide (i<l.1.length)=true from ab (by rw[hl.a];exact hi),lz _ (by simp;omega)]
   cases (rd (τ:=aP) o.2.2.1 (i:Int)).2.1<;>rfl
 ·show gT.b t o x8 x9 x10 l a b acc (i:Int)=_
  rw[gT.b_eq,ah,aj,ab hi,an i _ hi (by omega),lz _ (by simp at ha⊢;omega)]
  cases decide ((rd (τ:=ba) t (i:Int)).2.1=1)<;>rfl
theorem iA (o:bM) (hz:ObjSz o) (x5 x6:bH) (x8:fe) (x9 x10:bH) (s:Uk) (c:Int) (hc:c≠0):∀k i:Nat,i+k=o.2.2.2.2.1.length→
  eM.c x5 x6 o x8 x9 x10 s c o.2.2.2.2.1 (o.2.2.2.2.1.length:Int) (i:Int)=eM.d x5 x6 x8 x9 x10 s c o.2.2.1 (o.2.2.1.length:Int) 0:=by
 have h1:=hz.r
 intro k
 induction k with
 |zero=>
   intro i h;have:i=o.2.2.2.2.1.length:=by omega
   subst this;rw[eM.c_eq,ah,ak (aA _),ac]
 |succ k ih=>
  intro i h
  have hi:i<o.2.2.2.2.1.length:=by omega
  rw[eM.c_eq,ah,aj,ab hi,an i _ hi (by omega),ak hc,ih (i+1) (by omega)];rfl
abbrev ZL:fe:=([],[],[],[])
abbrev ZA:bH:=(0,0,0)
theorem Ds (t:List dg) (o:bM) (ht:Do t) (ho:eh o) (x5 x6:bH) (x8:fe) (x9 x10:bH) (a b:bH):∀(k i:Nat) (l:fe),i+k=o.2.2.2.2.1.length→ft o l→
  ∃l' c,eM.c x5 x6 o x8 x9 x10 (l,t,o) 0 o.2.2.2.2.1 (o.2.2.2.2.1.length:Int) (i:Int)=eM.d x5 x6 x8 x9 x10 (l',t,o) c o.2.2.1 (o.2.2.1.length:Int) 0∧
   (c=0→ft o l'∧l'.1=l.1∧gT.a t o ZL ZA ZA l a b (i:Int)=gT.b t o ZL ZA ZA l' a b [] 0)∧(c≠0→gT.a t o ZL ZA ZA l a b (i:Int)=some (ZL,ZA,ZA,c)):=by
 have h1:=ho.r
 intro k
 induction k with
 |zero=>
  intro i l h hl
  have:i=o.2.2.2.2.1.length:=by omega
  subst this
  rw[eM.c_eq,ah,ak (aA _),ac,gT.a_eq,ah,ak (aA _),ac]
  exact⟨l,0,rfl,fun _=>⟨hl,rfl,rfl⟩,fun h=>absurd rfl h⟩
 |succ k ih=>
  intro i l h hl
  have hi:i<o.2.2.2.2.1.length:=by omega
  obtain⟨l1,c,e1,e2,hl1,hl2⟩:=zZ t o l (rd (τ:=cA) o.2.2.2.2.1 (i:Int)) ht ho hl (Dq (ho.rel i hi))
  rw[eM.c_eq,ah,aj,ab hi,an i _ hi (by omega),gT.a_eq,ah,aj,ab hi,an i _ hi (by omega),e1,e2]
  simp only[ae,decide_true,af]
  by_cases hc:c=0
  ·subst hc
   obtain⟨l',c',g1,g2,g3⟩:=ih (i+1) l1 (by omega) hl1
   exact⟨l',c',g1,fun h=>⟨(g2 h).1,(g2 h).2.1.trans hl2,(g2 h).2.2⟩,g3⟩
  ·rw[iA o ho.toObjSz x5 x6 x8 x9 x10 (l1,t,o) c hc k (i+1) (by omega),ak hc]
   exact⟨l1,c,rfl,fun h=>absurd h hc,fun _=>rfl⟩
theorem eS (o:bM) (hz:ObjSz o) (x5 x6:bH) (x8:fe) (x9 x10:bH) (s:Uk) (c:Int) (hc:c≠0):∀k i:Nat,i+k=o.2.2.1.length→
  eM.d x5 x6 x8 x9 x10 s c o.2.2.1 (o.2.2.1.length:Int) (i:Int)=some (ZL,ZA,ZA,c):=by
 have h1:=hz.f
 intro k
 induction k with
 |zero=>
   intro i h;have:i=o.2.2.1.length:=by omega
   subst this;rw[eM.d_eq,ah,ak (aA _),ac,ak hc];rfl
 |succ k ih=>
  intro i h
  have hi:i<o.2.2.1.length:=by omega
  rw[eM.d_eq,ah,aj,ab hi,an i _ hi (by omega),ak hc,ih (i+1) (by omega)];rfl
theorem Aa (t:List dg) (o:bM) (ht:Do t) (ho:eh o) (x8:fe) (x9 x10:bH) (a b:bH) (l:fe) (hl:ft o l):∀(k i:Nat),i+k=o.2.2.1.length→
  ∃v,eM.d a b x8 x9 x10 (l,t,o) 0 o.2.2.1 (o.2.2.1.length:Int) (i:Int)=some v∧gT.d o ZL ZA ZA l a b (nO t o l) (i:Int)=some v∧(v.2.2.2=0→v=(l,a,b,0)∧∀j:Nat,i≤j→j<o.2.2.1.length→kX (rd (τ:= .str) l.2.1 (j:Int))):=by
 have h1:=ho.f
 intro k
 induction k with
 |zero=>
  intro i h
  have:i=o.2.2.1.length:=by omega
  subst this
  rw[eM.d_eq,ah,ak (aA _),ac,gT.d_eq,ah,ak (aA _),ac]
  exact⟨(l,a,b,0),rfl,rfl,fun _=>⟨rfl,fun j h1 h2=>by omega⟩⟩
 |succ k ih=>
  intro i h
  have hi:i<o.2.2.1.length:=by omega
  have hsz:=hl.cs i hi
  have hfs:=ho.fsz_pos i hi
  have hcl:=sK t o l ht.1 ho.toObjSz
  obtain⟨v,e1,e2⟩:=tT (rd (τ:= .str) l.2.1 (i:Int)) (rd (τ:= .int .i64) l.1 (i:Int)) (rd (τ:=aP) o.2.2.1 (i:Int)).2.2.1 (nO t o l) (by omega) (by omega)
  rw[eM.d_eq,ah,aj,ab hi,an i _ hi (by omega),gT.d_eq,ah,aj,ab hi,an i _ hi (by omega),z7 t o l ht.1 ho.toObjSz hl]
  rw[aj,aj,show decide (i<l.2.1.length)=true from ab (by rw[hl.c];exact hi),show decide (i<l.1.length)=true from ab (by rw[hl.a];exact hi),ab hi]
  simp only[ae,decide_true,af]
  rw[e1,e2]
  simp only[af]
  by_cases hv:v.2=0
  ·have hdec:=xt e1 hv
   rw[hv]
   obtain⟨u,u1,u2,u3⟩:=ih (i+1) (by omega)
   refine⟨u,u1,u2,fun h=>⟨(u3 h).1,fun j h1 h2=> ?_⟩⟩
   rcases Nat.lt_or_ge i j with hj|hj
   ·exact(u3 h).2 j hj h2
   ·rw[show j=i by omega];exact hdec
  ·rw[eS o ho.toObjSz a b x8 x9 x10 (l,t,o) v.2 hv k (i+1) (by omega),ak hv]
   exact⟨(ZL,ZA,ZA,v.2),rfl,rfl,fun h=>absurd h hv⟩
structure Bs (t:List dg) (a b:bH) (o:bM) (v:fe×bH×bH×Int):Prop where
 lnk:ft o v.1
 ea:v.2.1=(dz o a b).2.1
 eb:v.2.2.1=(dz o a b).2.2.1
 ok:(dz o a b).2.2.2=true
 ats:v.1.1=(dz o a b).1.1
 names:gL t o=0
 dec:∀j:Nat,j<o.2.2.1.length→kX (rd (τ:= .str) v.1.2.1 (j:Int))
theorem xO (f:Int) (hf:f≠0) (ok:Bool):after f ok=f:=by unfold after;rw[ap (fun h=>hf h.1)]
theorem Dt (t:List dg) (a b:bH) (o:bM) (ht:Do t) (ha:cy a) (hb:cy b) (ho:eh o) (x8:fe) (x9 x10:bH):
  ∃v,eM.a a b o x8 x9 x10 (([],[],[],[]),t,o) (gL t o) o.2.2.1 (o.2.2.1.length:Int) 0=some v∧gT t a b o=some v∧(v.2.2.2=0→Bs t a b o v):=by
 rw[HC o ho.toUnitSz a b ha hb,Nu,zS t o ht.1 ho.toObjSz]
 simp only[af]
 obtain⟨hl,hA,hB⟩:=xI o ho a b ha hb
 by_cases hn:gL t o=0
 ·rw[hn]
  obtain⟨s1,s2⟩:=Hz o ho.toUnitSz a b ha hb
  cases hok:(dz o a b).2.2.2 with
  |false=>
   obtain⟨r,e1,e2⟩:=s2 hok
   rw[e1]
   simp only[af]
   rw[e2,show after 0 false=7 from rfl]
   refine⟨(ZL,ZA,ZA,7), ?_,rfl,fun h=>by cases h⟩
   rw[show(0:Int)=((0:Nat):Int) from rfl,iA o ho.toObjSz _ _ x8 x9 x10 ((dz o a b).1,t,o) 7 (by decide) o.2.2.2.2.1.length 0 (by omega)]
   exact eS o ho.toObjSz _ _ x8 x9 x10 ((dz o a b).1,t,o) 7 (by decide) o.2.2.1.length 0 (by omega)
  |true=>
   rw[s1 hok]
   simp only[af]
   rw[hok,show after 0 true=0 from rfl]
   obtain⟨l',c,g1,g2,g3⟩:=Ds t o ht ho (dz o a b).2.1 (dz o a b).2.2.1 x8 x9 x10 (dz o a b).2.1 (dz o a b).2.2.1 o.2.2.2.2.1.length 0 (dz o a b).1 (by omega) hl
   have g1':eM.c (dz o a b).2.1 (dz o a b).2.2.1 o x8 x9 x10 ((dz o a b).1,t,o) 0 o.2.2.2.2.1 (o.2.2.2.2.1.length:Int) 0=_:=g1
   rw[g1']
   simp only[decide_true,aD,ac]
   by_cases hc:c=0
   ·subst hc
    obtain⟨hl',hl2,g4⟩:=g2 rfl
    obtain⟨v,e1,e2,e3⟩:=Aa t o ht ho x8 x9 x10 (dz o a b).2.1 (dz o a b).2.2.1 l' hl' o.2.2.1.length 0 (by omega)
    have g4':=z8 t o l' ht.1 ho.toObjSz hl' ZL ZA ZA (dz o a b).2.1 (dz o a b).2.2.1
    refine⟨v,e1,g4.trans (g4'.trans e2),fun h=> ?_⟩
    obtain⟨q1,q2⟩:=e3 h
    rw[q1]
    exact⟨hl',rfl,rfl,hok,hl2,hn,fun j hj=>q2 j (Nat.zero_le _) hj⟩
   ·refine⟨(ZL,ZA,ZA,c), ?_,g3 hc,fun h=>absurd h hc⟩
    exact eS o ho.toObjSz _ _ x8 x9 x10 (l',t,o) c hc o.2.2.1.length 0 (by omega)
 ·rw[ak hn,xO _ hn]
  refine⟨(ZL,ZA,ZA,gL t o), ?_,rfl,fun h=>absurd h hn⟩
  rw[show(0:Int)=((0:Nat):Int) from rfl,iA o ho.toObjSz _ _ x8 x9 x10 ((dz o a b).1,t,o) _ hn o.2.2.2.2.1.length 0 (by omega)]
  exact eS o ho.toObjSz _ _ x8 x9 x10 ((dz o a b).1,t,o) _ hn o.2.2.1.length 0 (by omega)
theorem Jx {t:List dg} (h:oN t=true):Do t:=by
 unfold oN at h
 rw[ay,aV,fT]at h
 refine⟨h.1,fun i hi=> ?_⟩
 have:=h.2 i (Nat.zero_le _) (by omega)
 unfold xw at this
 cases h1:dh (rd (τ:=ba) t (i:Int))with
 |true=>rfl
 |false=>rw[h1]at this;cases this
theorem Du (t:List dg) (a b:bH) (o:bM) (hr:tZ o) (ht:oN t=true) (ha:cy a) (hb:cy b) (ho:oO o=true):
  ∃v,eM t a b o=some v∧gT t a b o=some v∧(v.2.2.2=0→Bs t a b o v):=by
 have hT:=Jx ht
 have hO:=mT ho
 have:=hT.1
 obtain⟨v,e1,e2,e3⟩:=Dt t a b o hT ha hb hO ([],[],[],[]) (0,0,0) (0,0,0)
 refine⟨v, ?_,e2,e3⟩
 rw[Pz,ak (show¬(t.length:Int)>4096 by omega),(iY t).1,ht,tW a,ub.2 ha,tW b,ub.2 hb,(jw o hr).1,ho]
 simp only[af,aF,aD,ac]
 rw[zR _ _ _ hT.1 hO.toObjSz]
 exact e1
theorem oA {x:gU} (h:dw x=true):(1≤x.1∧x.1≤64)∧fZ x∧((be (bG x.1).1).1=false→x.2.1=0)∧((be (bG x.1).1).2.1=false→x.2.2.1=0)∧((be (bG x.1).1).2.2=false→x.2.2.2.1=0)∧js (bG x.1).1 x.2.2.2.2=true:=by
 simp only[dw,ay,Bool.or_eq_true,aV]at h
 obtain⟨⟨⟨⟨⟨⟨⟨⟨⟨⟨⟨h1,h2⟩,h3⟩,h4⟩,h5⟩,h6⟩,h7⟩,h8⟩,a⟩,b⟩,c⟩,d⟩:=h
 have hf:=fQ (n:=x.1) h1 h2
 refine⟨⟨h1,h2⟩,⟨⟨h3,h4⟩,⟨h5,h6⟩,⟨h7,h8⟩, ?_⟩,fun e=> ?_,fun e=> ?_,fun e=> ?_,d⟩
 ·generalize (bG x.1).1=f at d hf
  rcases fL hf with rfl|rfl|rfl|rfl|rfl|rfl|rfl|rfl|rfl<;>simp[js]at d<;>omega
 ·simpa[e]using a
 ·simpa[e]using b
 ·simpa[e]using c
theorem UU (i:Int) (h:i%2=0):i=2*(i/2%1024+1024*(i/2048%2+2*(i/4096%256+256*(i/1048576%2+2*(i/2097152))))):=by
 have a1:i/2048=i/2/1024:=by omega
 have a2:i/4096=i/2048/2:=by omega
 have a3:i/1048576=i/4096/256:=by omega
 have a4:i/2097152=i/1048576/2:=by omega
 have b0:i=2*(i/2):=by omega
 have b1:=Int.emod_add_mul_ediv (i/2) 1024
 have b2:=Int.emod_add_mul_ediv (i/2048) 2
 have b3:=Int.emod_add_mul_ediv (i/4096) 256
 have b4:=Int.emod_add_mul_ediv (i/1048576) 2
 rw[←a1]at b1;rw[←a2]at b2;rw[←a3]at b3;rw[←a4]at b4
 rw[b4,b3,b2,b1];exact b0
theorem UV (i:Int) (h:i%2=0):i=2*(i/2%16+16*(i/32%64+64*(i/2048%2+2*(i/4096%2+2*(i/8192))))):=by
 have a1:i/32=i/2/16:=by omega
 have a2:i/2048=i/32/64:=by omega
 have a3:i/4096=i/2048/2:=by omega
 have a4:i/8192=i/4096/2:=by omega
 have b0:i=2*(i/2):=by omega
 have b1:=Int.emod_add_mul_ediv (i/2) 16
 have b2:=Int.emod_add_mul_ediv (i/32) 64
 have b3:=Int.emod_add_mul_ediv (i/2048) 2
 have b4:=Int.emod_add_mul_ediv (i/4096) 2
 rw[←a1]at b1;rw[←a2]at b2;rw[←a3]at b3;rw[←a4]at b4
 rw[b4,b3,b2,b1];exact b0
theorem UW (i:Int):i=i%32+32*(i/32%128+128*(i/4096)):=by
 have a1:i/4096=i/32/128:=by omega
 have b0:=Int.emod_add_mul_ediv i 32
 have b1:=Int.emod_add_mul_ediv (i/32) 128
 rw[←a1]at b1
 rw[b1,b0]
theorem m2 (a:Int):0≤a%2∧a%2<2:=by omega
theorem UG (a:Int):0≤a%16∧a%16<16:=by omega
theorem UH (a:Int):0≤a%32∧a%32<32:=by omega
theorem UI (a:Int):0≤a%64∧a%64<64:=by omega
theorem RC (a:Int):0≤a%128∧a%128<128:=by omega
theorem RD (a:Int):0≤a%256∧a%256<256:=by omega
theorem Kz (a:Int):0≤a%1024∧a%1024<1024:=by omega
theorem un2 {c d y0 y1 y2 y3:Int} (hc:0≤c∧c<128) (hd:0≤d∧d≤31) (q0:0≤y0∧y0<256) (q1:0≤y1∧y1<2) (q2:0≤y2∧y2<1024) (q3:0≤y3∧y3<2):
  (c+d*128+y0*4096+y1*1048576+y2*2097152+y3*2147483648)/128%32=d∧(c+d*128+y0*4096+y1*1048576+y2*2097152+y3*2147483648)/4096%256=y0∧(c+d*128+y0*4096+y1*1048576+y2*2097152+y3*2147483648)/1048576%2=y1∧(c+d*128+y0*4096+y1*1048576+y2*2097152+y3*2147483648)/2097152%1024=y2∧(c+d*128+y0*4096+y1*1048576+y2*2097152+y3*2147483648)/2147483648%2=y3:=by
 refine⟨?_, ?_, ?_, ?_, ?_⟩<;>omega
theorem UX {c y0 y1 f3 a b y2 y3:Int} (hc:0≤c∧c<128) (hf:0≤f3∧f3<8) (ha:0≤a∧a≤31) (hb:0≤b∧b≤31) (q0:0≤y0∧y0<2) (q1:0≤y1∧y1<16) (q2:0≤y2∧y2<64) (q3:0≤y3∧y3<2):
  (c+y0*128+y1*256+f3*4096+a*32768+b*1048576+y2*33554432+y3*2147483648)/128%2=y0∧(c+y0*128+y1*256+f3*4096+a*32768+b*1048576+y2*33554432+y3*2147483648)/256%16=y1∧(c+y0*128+y1*256+f3*4096+a*32768+b*1048576+y2*33554432+y3*2147483648)/32768%32=a∧(c+y0*128+y1*256+f3*4096+a*32768+b*1048576+y2*33554432+y3*2147483648)/1048576%32=b∧(c+y0*128+y1*256+f3*4096+a*32768+b*1048576+y2*33554432+y3*2147483648)/33554432%64=y2∧(c+y0*128+y1*256+f3*4096+a*32768+b*1048576+y2*33554432+y3*2147483648)/2147483648%2=y3:=by
 refine⟨?_, ?_, ?_, ?_, ?_, ?_⟩<;>omega
theorem UY {c y0 f3 a b y1:Int} (hc:0≤c∧c<128) (hf:0≤f3∧f3<8) (ha:0≤a∧a≤31) (hb:0≤b∧b≤31) (q0:0≤y0∧y0<32) (q1:0≤y1∧y1<128):
  (c+y0*128+f3*4096+a*32768+b*1048576+y1*33554432)/128%32=y0∧(c+y0*128+f3*4096+a*32768+b*1048576+y1*33554432)/32768%32=a∧(c+y0*128+f3*4096+a*32768+b*1048576+y1*33554432)/1048576%32=b∧(c+y0*128+f3*4096+a*32768+b*1048576+y1*33554432)/33554432%128=y1:=by
 refine⟨?_, ?_, ?_, ?_⟩<;>omega
theorem Dv {f c f3 f7 n d a b i:Int} (hs:tN (f,c,f3,f7)=true) (hr:fZ (n,d,a,b,i)) (hd:(be f).1=false→d=0) (ha:(be f).2.1=false→a=0) (hb:(be f).2.2=false→b=0) (hi:js f i=true):dR n f (bL (f,c,f3,f7) (n,d,a,b,i))=(n,d,a,b,i):=by
 obtain⟨h1,h2,h3,h4,h5,h6⟩:=dr hs
 obtain⟨⟨d0,d1⟩,⟨a0,a1⟩,⟨b0,b1⟩,_⟩:=hr
 simp only at d0 d1 a0 a1 b0 b1
 clear hs
 rcases fL h1 with rfl|rfl|rfl|rfl|rfl|rfl|rfl|rfl|rfl<;>simp[js]at hi<;>simp[be]at hd ha hb<;>simp[dR,be,bL,nF,eJ,fM,cI]
 ·omega
 ·have e:=UU i (by omega)
  have q1:=Kz (i/2);have q2:=m2 (i/2048);have q3:=RD (i/4096);have q4:=m2 (i/1048576)
  generalize i/2%1024=y2 at*;generalize i/2048%2=y1 at*;generalize i/4096%256=y0 at*;generalize i/1048576%2=y3 at*
  obtain⟨w1,w2,w3,w4,w5⟩:=un2 h2 ⟨d0,d1⟩ q3 q2 q1 q4
  rw[w1,w2,w3,w4,w5];omega
 ·omega
 ·have e:=UV i (by omega)
  have q1:=UG (i/2);have q2:=UI (i/32);have q3:=m2 (i/2048);have q4:=m2 (i/4096)
  generalize i/2%16=y1 at*;generalize i/32%64=y2 at*;generalize i/2048%2=y0 at*;generalize i/4096%2=y3 at*
  obtain⟨w1,w2,w3,w4,w5,w6⟩:=UX h2 h3 ⟨a0,a1⟩ ⟨b0,b1⟩ q3 q1 q2 q4
  rw[w1,w2,w3,w4,w5,w6];omega
 ·have e:=UW i
  have q1:=UH i;have q2:=RC (i/32)
  generalize i%32=y0 at*;generalize i/32%128=y1 at*
  obtain⟨w1,w3,w4,w5⟩:=UY h2 h3 ⟨a0,a1⟩ ⟨b0,b1⟩ q1 q2
  rw[w1,w3,w4,w5];omega
 all_goals omega
theorem kZ {f c f3 f7 n d a b i:Int} (hs:tN (f,c,f3,f7)=true) (hr:fZ (n,d,a,b,i)):0≤bL (f,c,f3,f7) (n,d,a,b,i)∧bL (f,c,f3,f7) (n,d,a,b,i)<4294967296∧bL (f,c,f3,f7) (n,d,a,b,i)%128=c∧(3≤f→f≤8→bL (f,c,f3,f7) (n,d,a,b,i)/4096%8=f3)
  ∧(f=6→bL (f,c,f3,f7) (n,d,a,b,i)/67108864=f7/2)∧(f=7∨f=8→bL (f,c,f3,f7) (n,d,a,b,i)/33554432=f7)∧(f=9→bL (f,c,f3,f7) (n,d,a,b,i)/1048576=f7):=by
 obtain⟨h1,h2,h3,h4,h5,h6⟩:=dr hs
 obtain⟨⟨d0,d1⟩,⟨a0,a1⟩,⟨b0,b1⟩,_⟩:=hr
 simp only at d0 d1 a0 a1 b0 b1
 have q1:=Kz (i/2);have q2:=m2 (i/2048);have q3:=RD (i/4096);have q4:=m2 (i/1048576)
 have q5:=UG (i/2);have q6:=UI (i/32);have q7:=m2 (i/4096);have q8:=UH i;have q9:=RC (i/32)
 clear hs
 rcases fL h1 with rfl|rfl|rfl|rfl|rfl|rfl|rfl|rfl|rfl<;>simp[bL]
 ·omega
 ·generalize i/2%1024=y2 at*;generalize i/2048%2=y1 at*;generalize i/4096%256=y0 at*;generalize i/1048576%2=y3 at*
  clear q5 q6 q7 q8 q9;omega
 ·omega
 ·generalize i/2%16=y1 at*;generalize i/32%64=y2 at*;generalize i/2048%2=y0 at*;generalize i/4096%2=y3 at*
  clear q1 q3 q4 q8 q9;omega
 ·generalize i%32=y0 at*;generalize i/32%128=y1 at*
  clear q1 q2 q3 q4 q5 q6 q7;omega
 all_goals omega
def Bt (m n:Fin 65):Bool:=
 let s:=bG (m.val:Int);let t:=bG (n.val:Int)
 decide (m.val=0)||decide (n.val=0)||decide (m=n)|| !decide (s.2.1=t.2.1)|| (decide (3≤s.1)&&decide (s.1≤8)&&decide (3≤t.1)&&decide (t.1≤8)&& !decide (s.2.2.1=t.2.2.1))|| (decide (s.1=t.1)&&decide (6≤s.1)&& !decide (s.2.2.2=t.2.2.2))
theorem HG:∀m n:Fin 65,Bt m n=true:=by decide+kernel
theorem Dw {x y:gU} (hx:fZ x) (hy:fZ y) (h1:1≤x.1∧x.1≤64) (h2:1≤y.1∧y.1≤64) (e:bL (bG x.1) x=bL (bG y.1) y):x.1=y.1:=by
 obtain⟨n,d,a,b,i⟩:=x
 obtain⟨m,d',a',b',i'⟩:=y
 simp only at h1 h2 e⊢
 have o1:=io n h1.1 h1.2
 have o2:=io m h2.1 h2.2
 have f1:=dr (f:=(bG n).1) (c:=(bG n).2.1) (f3:=(bG n).2.2.1) (f7:=(bG n).2.2.2) o1
 have f2:=dr (f:=(bG m).1) (c:=(bG m).2.1) (f3:=(bG m).2.2.1) (f7:=(bG m).2.2.2) o2
 have r1:_∧_:=kZ (f:=(bG n).1) (c:=(bG n).2.1) (f3:=(bG n).2.2.1) (f7:=(bG n).2.2.2) o1 hx
 have r2:_∧_:=kZ (f:=(bG m).1) (c:=(bG m).2.1) (f3:=(bG m).2.2.1) (f7:=(bG m).2.2.2) o2 hy
 change 0≤bL (bG n) (n,d,a,b,i)∧bL (bG n) (n,d,a,b,i)<4294967296∧bL (bG n) (n,d,a,b,i)%128=_∧(_→_→bL (bG n) (n,d,a,b,i)/4096%8=_)∧(_→bL (bG n) (n,d,a,b,i)/67108864=_)∧(_→bL (bG n) (n,d,a,b,i)/33554432=_)∧(_→bL (bG n) (n,d,a,b,i)/1048576=_)at r1
 change 0≤bL (bG m) (m,d',a',b',i')∧bL (bG m) (m,d',a',b',i')<4294967296∧bL (bG m) (m,d',a',b',i')%128=_∧(_→_→bL (bG m) (m,d',a',b',i')/4096%8=_)∧(_→bL (bG m) (m,d',a',b',i')/67108864=_)∧(_→bL (bG m) (m,d',a',b',i')/33554432=_)∧(_→bL (bG m) (m,d',a',b',i')/1048576=_)at r2
 rw[e]at r1
 obtain⟨k,hk⟩:=mE (n:=n) (by omega) (by omega)
 obtain⟨l,hl⟩:=mE (n:=m) (by omega) (by omega)
 have ha:=HG k l
 unfold Bt at ha
 rw[←hk,←hl]at ha
 by_cases hkl:k=l
 ·omega
 exfalso
 generalize bL (bG m) (m,d',a',b',i')=w at*
 have k0:k.val≠0:=by omega
 have l0:l.val≠0:=by omega
 simp only[Bool.or_eq_true,ay,Bool.not_eq_true',aV,decide_eq_false_iff_not,k0,l0,hkl,false_or]at ha
 clear e hk hl o1 o2
 generalize bG n=s at*
 generalize bG m=t at*
 obtain⟨sf,sc,s3,s7⟩:=s
 obtain⟨tf,tc,t3,t7⟩:=t
 simp only at*
 obtain⟨_,_,u1,u2,u3,u4,u5⟩:=r1
 obtain⟨_,_,v1,v2,v3,v4,v5⟩:=r2
 obtain⟨f1a,_,_,_,f1b,_⟩:=f1
 obtain⟨f2a,_,_,_,f2b,_⟩:=f2
 rcases ha with(ha|⟨⟨⟨⟨ha,hb⟩,hc⟩,hd⟩,he⟩)|⟨⟨ha,hb⟩,hc⟩
 ·exact ha (u1.symm.trans v1)
 ·exact he ((u2 ha hb).symm.trans (v2 hc hd))
 ·subst ha
  have:sf=6∨sf=7∨sf=8∨sf=9:=by omega
  rcases this with h|h|h|h
  ·have:=(u3 h).symm.trans (v3 h);have:=f1b h;have:=f2b h;omega
  ·exact hc ((u4 (.inl h)).symm.trans (v4 (.inl h)))
  ·exact hc ((u4 (.inr h)).symm.trans (v4 (.inr h)))
  ·exact hc ((u5 h).symm.trans (v5 h))
theorem HH (x:gU) (h:dw x=true):jK (bL (bG x.1) x)=some (x,true):=by
 obtain⟨h1,hr,hd,ha,hb,hi⟩:=oA h
 have ho:=io x.1 h1.1 h1.2
 have er:=kZ (f:=(bG x.1).1) (c:=(bG x.1).2.1) (f3:=(bG x.1).2.2.1) (f7:=(bG x.1).2.2.2) (n:=x.1) (d:=x.2.1) (a:=x.2.2.1) (b:=x.2.2.2.1) (i:=x.2.2.2.2) ho hr
 have ee:bL ((bG x.1).1,(bG x.1).2.1,(bG x.1).2.2.1,(bG x.1).2.2.2) (x.1,x.2.1,x.2.2.1,x.2.2.2.1,x.2.2.2.2)=bL (bG x.1) x:=rfl
 rw[ee]at er
 have hdec:dR x.1 (bG x.1).1 (bL (bG x.1) x)=x:=Dv (f:=(bG x.1).1) (c:=(bG x.1).2.1) (f3:=(bG x.1).2.2.1) (f7:=(bG x.1).2.2.2) (n:=x.1) (d:=x.2.1) (a:=x.2.2.1) (b:=x.2.2.2.1) (i:=x.2.2.2.2) ho hr hd ha hb hi
 obtain⟨os,ho',hl,hs⟩:=GP 0 (by decide) (by decide)
 rw[Gy,ho']
 simp only[af,hl]
 have hz:jK.a (bL (bG x.1) x) (0,0,0,0,0) os 65 0=jK.a (bL (bG x.1) x) (0,0,0,0,0) os 65 1:=by
  rw[jK.a_eq,hl];rfl
 have key:∀(k n:Nat),(n:Int)+k=x.1→1≤n→jK.a (bL (bG x.1) x) (0,0,0,0,0) os 65 (n:Int)=some (x,true):=by
  intro k
  induction k with
  |zero=>
   intro n hn hn1
   have hnx:(n:Int)=x.1:=by omega
   rw[ip _ er.1 er.2.1 _ os hl hs n hn1 (by omega),hnx,hdec,av ⟨er.2.2.1.symm,rfl⟩]
  |succ k ih=>
   intro n hn hn1
   rw[ip _ er.1 er.2.1 _ os hl hs n hn1 (by omega),ap,ih (n+1) (by omega) (by omega)]
   rintro⟨_,hc⟩
   have:=Dw (x:=dR (n:Int) (bG n).1 (bL (bG x.1) x)) (y:=x) (fO (fQ (n:=n) (by omega) (by omega)) er.1 er.2.1) hr (by simp only[dR];omega) h1 hc
   simp only[dR]at this
   omega
 rw[show(((65:Nat)):Int)=65 by rfl,hz]
 exact key (x.1-1).toNat 1 (by omega) (by omega)
def updF (F:Int→Int) (a:Int) (t:ByteArray) (x:Int):Int:=if a≤x∧x<a+(t.size:Int)then bt t (x-a)else F x
def FR (F:Int→Int):Prop:=∀x,0≤F x∧F x≤255
theorem eD {F:Int→Int} (h:FR F) (a:Int) (t:ByteArray):FR (updF F a t):=by
 intro x
 unfold updF
 split
 ·exact xe _ _
 ·exact h x
def pg (F:Int→Int) (b:Int):ByteArray:=aS (br (fun i=>F (b+(i:Int))) 0 128)
def cJ (F:Int→Int) (q:Int×Int):eB:=(q.1,q.2,pg F q.1)
def aK (F:Int→Int) (L:List (Int×Int)):List eB:=L.map (cJ F)
theorem go (F:Int→Int) (b:Int):(pg F b).size=128:=by unfold pg;rw[cm,aO]
theorem xP {α:Type} (f:Nat→α) (P:α→Prop) (k i:Nat) (h:∀j,P (f j)):∀x∈br f i k,P x:=by
 intro x hx
 obtain⟨j,_,_,rfl⟩:=(b9 f x k i).1 hx
 exact h j
theorem xQ {F:Int→Int} (hF:FR F) (b i:Int) (h:0≤i) (h':i<128):bt (pg F b) i=F (b+i):=by
 obtain⟨n,rfl⟩:∃n:Nat,i=(n:Int):=⟨i.toNat,by omega⟩
 rw[fq]
 unfold pg
 rw[mM _ n (xP _ _ _ _ fun j=>hF _) (by rw[aO];omega),gK,Nat.zero_add]
theorem re (xs:List Int) (h:∀x∈xs,0≤x∧x≤255):fX (aS xs)=xs:=by
 unfold fX aS
 simp only[List.map_map]
 rw[List.map_congr_left (g:=id) fun x hx=> ?_,List.map_id]
 have:=h x hx
 simp only[Function.comp,id]
 rw[UInt8.toNat_ofNat']
 omega
theorem HI {α:Type} (f:Nat→α) (n i:Nat) (x:α):(br f 0 n).set i x=br (fun j=>if j=i then x else f j) 0 n:=by
 apply List.ext_getElem
 ·rw[List.length_set,aO,aO]
 ·intro j h1 h2
  rw[List.getElem_set,gK,gK,Nat.zero_add]
  by_cases h:j=i
  ·rw[av h.symm,av h]
  ·rw[ap (fun e=>h e.symm),ap h]
theorem eE {α:Type} {f g:Nat→α}:∀(k i:Nat),(∀j,i≤j→j<i+k→f j=g j)→br f i k=br g i k
 |0,_,_=>rfl
 |k+1,i,h=>by rw[br,br,h i (Nat.le_refl _) (by omega),eE k (i+1) fun j h1 h2=>h j (by omega) (by omega)]
def mV (F:Int→Int) (a:Int) (t:ByteArray) (b:Int) (i:Nat):List Int:=br (fun j=>if j<i then updF F a t (b+(j:Int))else F (b+(j:Int))) 0 128
structure fu (L:List (Int×Int)):Prop where
 len:L.length≤64
 base:∀q∈L,0≤q.1∧q.1≤1048575
def HJ (a:Int) (t:ByteArray):Prop:= -1099511627776≤a∧a≤1099511627776∧t.size≤1048576
theorem vf {F:Int→Int} (hF:FR F) (a:Int) (t:ByteArray) (hA:HJ a t) (x6 m:List eB) (k:Nat) (p:eB) (hp:0≤p.1∧p.1≤1048575) (x17 x18:Int) (hk:k<m.length):∀(d i:Nat),i+d=128→
  oR.b a t x6 m (k:Int) p (mV F a t p.1 i) x17 x18 128 (i:Int)=oR.a a t x6 (m.set k ((rd (τ:=aN) m (k:Int)).1,(rd (τ:=aN) m (k:Int)).2.1,aS (mV F a t p.1 128))) x17 (IntKind.wrap .i64 (x18+1)):=by
 obtain⟨a1,a2,a3⟩:=hA
 intro d
 induction d with
 |zero=>
  intro i h
  have:i=128:=by omega
  subst this
  rw[oR.b_eq,show decide (((128:Nat):Int)<128)=false by decide,ac,aj,ab hk,aC];rfl
 |succ d ih=>
  intro i h
  have hi:i<128:=by omega
  have hs:mV F a t p.1 (i+1)=if a≤p.1+(i:Int)∧p.1+(i:Int)<a+(t.size:Int)then(mV F a t p.1 i).set i (bt t (p.1+(i:Int)-a))else mV F a t p.1 i:=by
   unfold mV
   split
   ·rename_i hc
    rw[HI]
    apply eE
    intro j _ _
    by_cases hj:j=i
    ·subst hj
     rw[av (by omega),av rfl]
     unfold updF
     rw[av hc]
    ·rw[ap hj]
     by_cases hj2:j<i
     ·rw[av (by omega),av hj2]
     ·rw[ap (by omega),ap hj2]
   ·rename_i hc
    apply eE
    intro j _ _
    by_cases hj:j=i
    ·subst hj
     rw[av (by omega),ap (by omega)]
     unfold updF
     rw[ap hc]
    ·by_cases hj2:j<i
     ·rw[av (by omega),av hj2]
     ·rw[ap (by omega),ap hj2]
  have hl:(mV F a t p.1 i).length=128:=by unfold mV;rw[aO]
  have ih':=ih (i+1) (by omega)
  rw[hs]at ih'
  rw[oR.b_eq,ab (show(i:Int)<128 by omega),aT (n:=p.1+(i:Int)) (by omega) (by omega),aT (n:=p.1+(i:Int)-a) (by omega) (by omega),aT (n:=(t.size:Int)-1) (by omega) (by omega),aT (n:=(i:Int)+1) (by omega) (by omega),show(i:Int)+1=((i+1:Nat):Int) by omega,sF]
  simp only[ae,af]
  by_cases hc:a≤p.1+(i:Int)∧p.1+(i:Int)<a+(t.size:Int)
  ·rw[bm.2 (show 0≤p.1+(i:Int)-a∧p.1+(i:Int)-a≤(t.size:Int)-1 by omega),inL_true (i:=p.1+(i:Int)-a) (n:=t.size) (by omega) (by omega),aj,hl,ab hi]
   rw[av hc]at ih'
   simp only[ae,letB,aC]
   exact ih'
  ·rw[show c7 (p.1+(i:Int)-a) 0 ((t.size:Int)-1)=false by cases h5:c7 (p.1+(i:Int)-a) 0 ((t.size:Int)-1);rfl;rw[bm]at h5;omega]
   rw[ap hc]at ih'
   simp only[ac]
   exact ih'
theorem sL {F:Int→Int} (hF:FR F) (a:Int) (t:ByteArray) (hA:HJ a t) (L:List (Int×Int)) (hL:fu L) (x6:List eB):∀(d k:Nat),k+d=L.length→
  oR.a a t x6 (aK (updF F a t) (L.take k)++aK F (L.drop k)) (L.length:Int) (k:Int)=some (aK (updF F a t) L):=by
 have hn:=hL.len
 intro d
 induction d with
 |zero=>
  intro k h
  have:k=L.length:=by omega
  subst this
  rw[oR.a_eq,ah,ak (aA _),ac,List.take_length,List.drop_length]
  simp[aK]
 |succ d ih=>
  intro k h
  have hk:k<L.length:=by omega
  have hml:(aK (updF F a t) (L.take k)++aK F (L.drop k)).length=L.length:=by simp[aK];omega
  have hrd:rd (τ:=aN) (aK (updF F a t) (L.take k)++aK F (L.drop k)) (k:Int)=cJ F L[k]:=by
   rw[aW (τ:=aN) _ k (by rw[hml];exact hk),List.getElem_append_right (by simp[aK];omega)]
   simp[aK,List.getElem_drop]
   congr 2
   omega
  have hset:(aK (updF F a t) (L.take k)++aK F (L.drop k)).set k (cJ (updF F a t) L[k])=aK (updF F a t) (L.take (k+1))++aK F (L.drop (k+1)):=by
   rw[List.set_append_right _ _ (by simp[aK];omega)]
   have e:k-(aK (updF F a t) (L.take k)).length=0:=by simp[aK];omega
   rw[e]
   unfold aK
   rw[List.drop_eq_getElem_cons hk,List.map_cons,List.set_cons_zero,List.take_succ_eq_append_getElem hk,List.map_append,bn]
   rfl
  have hq:=hL.base L[k] (List.getElem_mem hk)
  rw[oR.a_eq,ah,aj,hml,ab hk,hrd]
  have hint:fX (pg F (L[k]).1)=mV F a t (L[k]).1 0:=by
   unfold pg
   rw[re _ (xP _ _ _ _ fun j=>hF _)]
   unfold mV
   apply eE
   intro j _ _
   rw[ap (by omega)]
  show(bif true then bif true then bif decide ((pg F (L[k]).1).size≤9223372036854775807)then oR.b a t x6 _ (k:Int) (cJ F L[k]) (fX (pg F (L[k]).1)) (L.length:Int) (k:Int) ((fX (pg F (L[k]).1)).length:Int) 0 else none else none else _)=_
  rw[go,hint,show(mV F a t (L[k]).1 0).length=128 by unfold mV;rw[aO]]
  have hrow:=vf hF a t hA x6 (aK (updF F a t) (L.take k)++aK F (L.drop k)) k (cJ F L[k]) hq (L.length:Int) (k:Int) (by rw[hml];exact hk) 128 0 (by omega)
  rw[hrd]at hrow
  have hfin:aS (mV F a t (cJ F L[k]).1 128)=pg (updF F a t) (L[k]).1:=by
   unfold mV pg
   rw[eE (f:=fun j=>if j<128 then updF F a t ((cJ F L[k]).1+(j:Int))else F ((cJ F L[k]).1+(j:Int))) (g:=fun j=>updF F a t ((L[k]).1+(j:Int))) 128 0 fun j _ hj=>av (by omega)]
  rw[hfin,an k L.length hk (by omega)]at hrow
  have hset':(aK (updF F a t) (L.take k)++aK F (L.drop k)).set k ((cJ F L[k]).1,(cJ F L[k]).2.1,pg (updF F a t) (L[k]).1)=aK (updF F a t) (L.take (k+1))++aK F (L.drop (k+1)):=hset
  rw[hset']at hrow
  exact hrow.trans (ih (k+1) (by omega))
theorem rf (m:List eB) (h:m.length≤64):Z4 m=some m:=by
 rw[QN,show aI m.length 32=true by simp[aI];omega];rfl
theorem xR {F:Int→Int} (hF:FR F) (a:Int) (t:ByteArray) (hA:HJ a t) (L:List (Int×Int)) (hL:fu L):oR (aK F L) a t=some (aK (updF F a t) L):=by
 have hml:(aK F L).length=L.length:=by simp[aK]
 have hn:=hL.len
 rw[OR,OQ,rf _ (by omega)]
 simp only[af]
 rw[hml]
 exact sL hF a t hA L hL [] L.length 0 (by omega)
theorem nP (a b:ByteArray) (i:Nat):bt (a++b) (i:Int)=if i<a.size then bt a (i:Int)else bt b ((i-a.size:Nat):Int):=by
 rw[fq,fq,fq]
 have hs:a.size=a.data.size:=rfl
 rw[ByteArray.data_append,Array.getD_eq_getD_getElem?,Array.getD_eq_getD_getElem?,Array.getD_eq_getD_getElem?,Array.getElem?_append,hs]
 split<;>rfl
theorem jz (t:ByteArray) (s e i:Nat) (h:s+i<e) (he:e≤t.size):bt (t.extract s e) (i:Int)=bt t ((s+i:Nat):Int):=by
 rw[fq,fq]
 have hs:t.size=t.data.size:=rfl
 rw[ByteArray.data_extract,Array.getD_eq_getD_getElem?,Array.getD_eq_getD_getElem?,Array.getElem?_extract,av (by omega)]
theorem Ql {a b:ByteArray} (hs:a.size=b.size) (h:∀i:Nat,i<a.size→bt a (i:Int)=bt b (i:Int)):a=b:=by
 apply G6 hs
 intro i hi
 have:=h i hi
 rw[fq,fq]at this
 exact UInt8.toNat_inj.1 (by omega)
abbrev gM:Ty:= .pair (.int .i64) (.int .i64)
def eF (b a:Int):Bool:=decide (b≤a)&&decide (a≤b+127)
def dY (L:List (Int×Int)) (a:Int):Int:=dW (fun i=>eF (rd (τ:=gM) L (i:Int)).1 a) 0 L.length
theorem kD (F:Int→Int) (L:List (Int×Int)) (i:Nat) (h:i<L.length):rd (τ:=aN) (aK F L) (i:Int)=cJ F (rd (τ:=gM) L (i:Int)):=by
 rw[aW (τ:=aN) (aK F L) i (by simp[aK];exact h),aW (τ:=gM) L i h]
 simp[aK]
theorem k6 {L:List (Int×Int)} (hL:fu L) (i:Nat) (h:i<L.length) {q:Int×Int} (hq:rd (τ:=gM) L (i:Int)=q):0≤q.1∧q.1≤1048575:=by
 rw[aW (τ:=gM) L i h]at hq;rw[←hq];exact hL.base _ (List.getElem_mem h)
def Qm (a:Int):Prop:= -1099511627776≤a∧a≤1099511627776
theorem Dx (F:Int→Int) (L:List (Int×Int)) (hL:fu L) (a:Int) (ha:Qm a):Ry (aK F L) a=some (dY L a):=by
 have hn:=hL.len
 obtain⟨a1,a2⟩:=ha
 have hml:(aK F L).length=L.length:=by simp[aK]
 rw[Hp,Ho,hml]
 rw[cv (L:=Dj.a a (aK F L) (L.length:Int)) (fun i=>eF (rd (τ:=gM) L (i:Int)).1 a) L.length ?_ fun i hi=> ?_]
 ·rfl
 ·rw[Dj.a_eq,ah];simp
 ·rw[Dj.a_eq,ah,aj,hml,ab hi,an i _ hi (by omega),kD F L i hi,Hn]
  obtain⟨q,hq⟩:∃q:Int×Int,rd (τ:=gM) L (i:Int)=q:=⟨_,rfl⟩
  have hb:=k6 hL i hi hq
  rw[hq]
  obtain⟨b,hbe⟩:∃b:Int,q.1=b:=⟨_,rfl⟩
  rw[hbe]at hb⊢
  show(bif true then bif true then(Option.bind (Option.bind (gb a (cJ F q).1 (IntKind.wrap .i64 (IntKind.wrap .i64 ((cJ F q).1+128)-1))) fun r1=>some r1) _)else none else _)=_
  rw[show(cJ F q).1=b from hbe,aT (n:=b+128) (by omega) (by omega),aT (n:=b+128-1) (by omega) (by omega),sF,show c7 a b (b+128-1)=eF b a by unfold c7 eF;rw[show b+128-1=b+127 by omega]]
  rfl
theorem nQ (F:Int→Int) (L:List (Int×Int)) (hL:fu L) (a:Int) (ha:Qm a):sw (aK F L) a=some (dY L a):=by
 have hn:=hL.len
 obtain⟨a1,a2⟩:=ha
 have hml:(aK F L).length=L.length:=by simp[aK]
 rw[Gm]
 refine cv (L:=sw.a a (aK F L)) (fun i=>eF (rd (τ:=gM) L (i:Int)).1 a) L.length ?_ fun i hi=> ?_
 ·rw[sw.a_eq,hml,ah];simp
 ·rw[sw.a_eq,hml,ah,aj,ab hi,an i _ hi (by omega),kD F L i hi]
  obtain⟨q,hq⟩:∃q:Int×Int,rd (τ:=gM) L (i:Int)=q:=⟨_,rfl⟩
  have hb:=k6 hL i hi hq
  rw[hq]
  obtain⟨b,hbe⟩:∃b:Int,q.1=b:=⟨_,rfl⟩
  rw[hbe]at hb⊢
  rw[show(cJ F q).1=b from hbe,aT (n:=a-b) (by omega) (by omega)]
  unfold eF
  by_cases h1:b≤a
  ·rw[ab h1,show decide (a-b<128)=decide (a≤b+127) by congr 1;apply propext;omega]
   cases decide (a≤b+127)<;>rfl
  ·rw[ak h1];rfl
def Ab (L:List (Int×Int)):Prop:=∀(i j:Nat) (a:Int),i<L.length→j<L.length→eF (rd (τ:=gM) L (i:Int)).1 a=true→eF (rd (τ:=gM) L (j:Int)).1 a=true→i=j
theorem kE {L:List (Int×Int)} {a:Int} (h:0≤dY L a):∃(k:Nat) (q:Int×Int),dY L a=(k:Int)∧k<L.length∧rd (τ:=gM) L (k:Int)=q∧q.1≤a∧a≤q.1+127:=by
 unfold dY at h⊢
 rcases cg (fun i=>eF (rd (τ:=gM) L (i:Int)).1 a) L.length 0 with⟨h1,_⟩|⟨j,h1,h2,h3,h4,_⟩
 ·omega
 ·unfold eF at h4
  rw[ay,aV,aV]at h4
  exact⟨j,_,h1,by omega,rfl,h4.1,h4.2⟩
theorem Jy (m:List eB) (h:m.length≤64):Td m=some m:=by
 rw[M1,show aI (0+m.length) 32=true by simp[aI];omega];rfl
theorem vg {F:Int→Int} (hF:FR F) (L:List (Int×Int)) (hL:fu L) (hN:Ab L) (a:Int) (ha:Qm a) (t:ByteArray) (k:Nat) (hk:dY L a=(k:Int)) (hkl:k<L.length) {q:Int×Int} (hq:rd (τ:=gM) L (k:Int)=q) (h1:q.1≤a) (h2:a+(t.size:Int)≤q.1+128):
  Te (aK F L) a t=some (aK (updF F a t) L):=by
 have hn:=hL.len
 have hml:(aK F L).length=L.length:=by simp[aK]
 have hb:=k6 hL k hkl hq
 rw[M2,Jy _ (by omega),nQ F L hL a ha,hk]
 simp only[af]
 rw[aj,hml,ab hkl,kD F L k hkl]
 rw[hq]
 obtain⟨j,hj⟩:∃j:Nat,a-q.1=(j:Int):=⟨(a-q.1).toNat,by omega⟩
 show(bif true then bif true then(bif decide (0≤0)&&decide (0≤IntKind.wrap .i64 (a-q.1))&&decide (IntKind.wrap .i64 (a-q.1)≤((pg F q.1).size:Int))then _ else none)else none else none)=_
 simp only[show(cJ F q).1=q.1 from rfl,show(cJ F q).2.1=q.2 from rfl,show(cJ F q).2.2=pg F q.1 from rfl]
 rw[aT (n:=a-q.1) (by omega) (by omega),hj,go,aT (n:=(j:Int)+(t.size:Int)) (by omega) (by omega)]
 rw[show(decide (0≤0)&&decide (0≤(j:Int))&&decide ((j:Int)≤((128:Nat):Int)))=true by simp;omega,show(decide (0≤(j:Int)+(t.size:Int))&&decide ((j:Int)+(t.size:Int)≤((128:Nat):Int))&&decide (((128:Nat):Int)≤((128:Nat):Int)))=true by simp;omega]
 rw[show(Int.toNat 0)=0 from rfl,aC,show((j:Int)+(t.size:Int)).toNat=j+t.size by omega,aC,aC]
 have hz1:((pg F q.1).extract 0 j).size=j:=by rw[ByteArray.size_extract,go];omega
 have hz2:((pg F q.1).extract (j+t.size) 128).size=128-(j+t.size):=by rw[ByteArray.size_extract,go];omega
 rw[ab (show((pg F q.1).extract 0 j).size+t.size≤9223372036854775807 by rw[hz1];omega),ab (show((pg F q.1).extract 0 j++t).size+((pg F q.1).extract (j+t.size) 128).size≤9223372036854775807 by rw[ByteArray.size_append,hz1,hz2];omega)]
 have hpage:(pg F q.1).extract 0 j++t++(pg F q.1).extract (j+t.size) 128=pg (updF F a t) q.1:=by
  apply Ql
  ·rw[ByteArray.size_append,ByteArray.size_append,hz1,hz2,go];omega
  ·intro i hi
   rw[ByteArray.size_append,ByteArray.size_append,hz1,hz2]at hi
   rw[xQ (eD hF a t) _ _ (by omega) (by omega),nP,ByteArray.size_append,hz1,nP,hz1]
   unfold updF
   by_cases c1:i<j
   ·rw[av (by omega),av c1,ap (by omega),jz _ _ _ _ (by omega) (by rw[go];omega),xQ hF _ _ (by omega) (by omega),Nat.zero_add]
   ·by_cases c2:i<j+t.size
    ·rw[av c2,ap c1,av (by omega),show q.1+(i:Int)-a=((i-j:Nat):Int) by omega]
    ·rw[ap c2,ap (by omega),jz _ _ _ _ (by omega) (by rw[go];omega),xQ hF _ _ (by omega) (by omega)]
     congr 1;omega
 rw[hpage]
 show some ((aK F L).set k (cJ (updF F a t) q))=_
 congr 1
 apply List.ext_getElem
 ·simp[aK]
 ·intro i g1 g2
  have hi:i<L.length:=by simpa[aK]using g2
  rw[List.getElem_set]
  have e1:(aK (updF F a t) L)[i]=cJ (updF F a t) L[i]:=by simp[aK]
  have e2:(aK F L)[i]'(by simp[aK];exact hi)=cJ F L[i]:=by simp[aK]
  rw[e1,e2]
  have hqk:L[k]=q:=by rw[←hq,aW (τ:=gM) L k hkl]
  by_cases c:k=i
  ·subst c
   rw[av rfl,hqk]
  ·rw[ap c]
   unfold cJ
   congr 2
   have hpg:∀x:Nat,x<128→F ((L[i]).1+(x:Int))=updF F a t ((L[i]).1+(x:Int)):=by
    intro x hx
    unfold updF
    rw[ap]
    intro hc
    refine c (hN k i ((L[i]).1+(x:Int)) hkl hi ?_ ?_)
    ·rw[hq];unfold eF
     rw[ay,aV,aV];omega
    ·rw[aW (τ:=gM) L i hi];unfold eF
     rw[ay,aV,aV];omega
   unfold pg
   rw[eE 128 0 fun x _ hx=>hpg x (by omega)]
theorem Ac (F:Int→Int) (a:Int) (t:ByteArray) (n:Nat) (hn:n≤t.size):updF (updF F a (t.extract 0 n)) (a+(n:Int)) (t.extract n t.size)=updF F a t:=by
 funext x
 have hz1:(t.extract 0 n).size=n:=by rw[ByteArray.size_extract];omega
 have hz2:(t.extract n t.size).size=t.size-n:=by rw[ByteArray.size_extract];omega
 unfold updF
 rw[hz1,hz2]
 by_cases c1:a+(n:Int)≤x∧x<a+(n:Int)+((t.size-n:Nat):Int)
 ·rw[av c1,av (by omega)]
  obtain⟨i,hi⟩:∃i:Nat,x-(a+(n:Int))=(i:Int):=⟨(x-(a+(n:Int))).toNat,by omega⟩
  rw[hi,jz _ _ _ _ (by omega) (Nat.le_refl _)]
  congr 1;omega
 ·rw[ap c1]
  by_cases c2:a≤x∧x<a+(n:Int)
  ·rw[av c2,av (by omega)]
   obtain⟨i,hi⟩:∃i:Nat,x-a=(i:Int):=⟨(x-a).toNat,by omega⟩
   rw[hi,jz _ _ _ _ (by omega) hn]
   congr 1;omega
  ·rw[ap c2,ap (by omega)]
theorem rg (F:Int→Int) (a:Int) (t:ByteArray) (h:t.size=0):updF F a t=F:=by
 funext x
 unfold updF
 rw[ap (by omega)]
theorem HK (L:List (Int×Int)) (hL:fu L) (hN:Ab L) (x6:List eB):∀(n:Nat) (F:Int→Int) (a:Int) (t:ByteArray),FR F→t.size≤n→ -1000000000≤a→a+(t.size:Int)≤1000000000→(∀x,a≤x→x<a+(t.size:Int)→0≤dY L x)→
  yj.a a t (aK F L) x6=some (aK (updF F a t) L):=by
 have hml:∀F,(aK F L).length=L.length:=by intro F;simp[aK]
 intro n
 induction n with
 |zero=>
  intro F a t hF ht h1 h2 hx
  have h0:t.size=0:=by omega
  rw[yj.a_eq,ak (show¬(t.size:Int)>0 by omega),ac,rg F a t h0]
 |succ n ih=>
  intro F a t hF ht h1 h2 hx
  by_cases h0:t.size=0
  ·rw[yj.a_eq,ak (show¬(t.size:Int)>0 by omega),ac,rg F a t h0]
  ·obtain⟨k,q,hk,hkl,hq,hb1,hb2⟩:=kE (hx a (Int.le_refl _) (by omega))
   have hb:=k6 hL k hkl hq
   rw[yj.a_eq,ab (show(t.size:Int)>0 by omega),nQ F L hL a ⟨by omega,by omega⟩,hk]
   simp only[ae,af]
   rw[aj,hml,ab hkl,kD F L k hkl]
   rw[hq]
   simp only[show(cJ F q).1=q.1 from rfl,ae]
   rw[aT (n:=q.1+128) (by omega) (by omega),aT (n:=q.1+128-a) (by omega) (by omega)]
   obtain⟨m,hm⟩:∃m:Nat,(if q.1+128-a< (t.size:Int)then q.1+128-a else(t.size:Int))=(m:Int):=⟨(if q.1+128-a< (t.size:Int)then q.1+128-a else(t.size:Int)).toNat,by split<;>omega⟩
   have hm1:1≤m∧m≤t.size∧a+(m:Int)≤q.1+128:=by split at hm<;>omega
   rw[hm,aT (n:=a+(m:Int)) (by omega) (by omega)]
   rw[show(decide (0≤0)&&decide (0≤(m:Int))&&decide ((m:Int)≤(t.size:Int)))=true by simp;omega,show(decide (0≤(m:Int))&&decide ((m:Int)≤(t.size:Int))&&decide ((t.size:Int)≤(t.size:Int)))=true by simp;omega]
   rw[show(Int.toNat 0)=0 from rfl,aC,aC]
   have hz1:(t.extract 0 m).size=m:=by rw[ByteArray.size_extract];omega
   have hz2:(t.extract m t.size).size=t.size-m:=by rw[ByteArray.size_extract];omega
   rw[vg hF L hL hN a ⟨by omega,by omega⟩ (t.extract 0 m) k hk hkl hq hb1 (by rw[hz1];exact hm1.2.2)]
   simp only[ae,af]
   rw[ih _ _ _ (eD hF _ _) (by omega) (by omega) (by omega) fun x g1 g2=>hx x (by omega) (by omega),Ac F a t m hm1.2.1]
def vh (F:Int→Int) (a:Int) (n:Nat):ByteArray:=aS (br (fun i=>F (a+(i:Int))) 0 n)
theorem Dy (F:Int→Int) (a:Int) (n:Nat):(vh F a n).size=n:=by unfold vh;rw[cm,aO]
theorem HL (n:Nat) (h:n≤8192):aI n 1=true:=by simp[aI];omega
theorem Ad {F:Int→Int} (hF:FR F) (L:List (Int×Int)) (hL:fu L) (a:Int) (n:Nat) (hn:n≤1024) (h1: -1000000000≤a) (h2:a≤1000000000) (hx:∀x,a≤x→x<a+(n:Int)→0≤dY L x):
  Bo (aK F L) a (n:Int)=some (vh F a n):=by
 have hml:(aK F L).length=L.length:=by simp[aK]
 rw[PD]
 have key:=cP (L:=fun acc i=>Bo.a a (n:Int) (aK F L) acc (a+i)) (fun i=>F (a+(i:Int))) n ([]:List Int) fun acc i hi ha=> ?_
 ·simp only[Int.add_zero,List.nil_append]at key
  rw[key,Bo.a_eq,aT (n:=a+(n:Int)) (by omega) (by omega),ak (show¬a+(n:Int)<a+(n:Int) by omega)];rfl
 ·simp only[List.length_nil,Nat.zero_add]at ha
  obtain⟨k,q,hk,hkl,hq,hb1,hb2⟩:=kE (hx (a+(i:Int)) (by omega) (by omega))
  have hb:=k6 hL k hkl hq
  show Bo.a a (n:Int) (aK F L) acc (a+(i:Int))=Bo.a a (n:Int) (aK F L) (acc++[F (a+(i:Int))]) (a+((i+1:Nat):Int))
  rw[Bo.a_eq,aT (n:=a+(n:Int)) (by omega) (by omega),ab (show a+(i:Int)<a+(n:Int) by omega),Dx F L hL _ ⟨by omega,by omega⟩,hk]
  simp only[ae,af]
  rw[aj,hml,ab hkl,kD F L k hkl,hq]
  simp only[show(cJ F q).1=q.1 from rfl,show(cJ F q).2.2=pg F q.1 from rfl,ae]
  rw[aT (n:=a+(i:Int)-q.1) (by omega) (by omega),aT (n:=a+(i:Int)+1) (by omega) (by omega),go,inL_true (i:=a+(i:Int)-q.1) (n:=128) (by omega) (by omega),xQ hF _ _ (by omega) (by omega),show q.1+(a+(i:Int)-q.1)=a+(i:Int) by omega,HL _ (by simp;omega),show a+(i:Int)+1=a+((i+1:Nat):Int) by omega]
  rfl
theorem HM {F:Int→Int} (hF:FR F) (L:List (Int×Int)) (hL:fu L) (a:Int) (n:Nat) (hn:n≤1024) (h1: -1000000000≤a) (h2:a≤1000000000) (hx:∀x,a≤x→x<a+(n:Int)→0≤dY L x):
  A8 (aK F L) a (n:Int)=some (vh F a n):=by
 have hml:(aK F L).length=L.length:=by simp[aK]
 rw[Nz]
 rw[cP (L:=fun acc i=>A8.a a (n:Int) (aK F L) acc i) (fun i=>F (a+(i:Int))) n ([]:List Int) fun acc i hi ha=> ?_]
 ·rw[A8.a_eq,ah,ak (aA _),ac,List.nil_append];rfl
 ·simp only[List.length_nil,Nat.zero_add]at ha
  obtain⟨k,q,hk,hkl,hq,hb1,hb2⟩:=kE (hx (a+(i:Int)) (by omega) (by omega))
  have hb:=k6 hL k hkl hq
  show A8.a a (n:Int) (aK F L) acc (i:Int)=A8.a a (n:Int) (aK F L) (acc++[F (a+(i:Int))]) ((i+1:Nat):Int)
  rw[A8.a_eq,ah,ab hi,aT (n:=a+(i:Int)) (by omega) (by omega),an i n hi (by omega),nQ F L hL _ ⟨by omega,by omega⟩,hk]
  simp only[ae,af]
  rw[aj,hml,ab hkl,kD F L k hkl,hq]
  simp only[show(cJ F q).1=q.1 from rfl,show(cJ F q).2.2=pg F q.1 from rfl,ae]
  rw[aT (n:=a+(i:Int)-q.1) (by omega) (by omega),go,inL_true (i:=a+(i:Int)-q.1) (n:=128) (by omega) (by omega),xQ hF _ _ (by omega) (by omega),show q.1+(a+(i:Int)-q.1)=a+(i:Int) by omega,HL _ (by simp;omega)]
  rfl
def oS (F:Int→Int) (b:Int) (n:Nat):Prop:=∀x,b≤x→x<b+(n:Int)→F x=0
theorem Bu {F:Int→Int} {b:Int} (h:oS F b 128):pg F b=aS (List.replicate 128 (0:Int)):=by
 unfold pg
 rw[eE (g:=fun _=>(0:Int)) 128 0 fun j _ hj=>h _ (by omega) (by omega)]
 rfl
theorem HN:sm (⟨#[0]⟩:ByteArray) 128=aS (List.replicate 128 (0:Int)):=by decide+kernel
theorem HO {F:Int→Int} (L:List (Int×Int)) (hn:L.length<64) (b p:Int) (hb:∀q∈L,q.1<b) (hz:oS F b 128):Di (aK F L) b p=some (aK F (L++[(b,p)])):=by
 have hml:(aK F L).length=L.length:=by simp[aK]
 rw[OS]
 have loop:∀(d k:Nat),k+d=L.length→Di.a b p (aK F L) [] (k:Int)=Di.a b p (aK F L) [] (L.length:Int):=by
  intro d
  induction d with
  |zero=>
    intro k h;have:k=L.length:=by omega
    rw[this]
  |succ d ih=>
   intro k h
   have hk:k<L.length:=by omega
   obtain⟨q,hq⟩:∃q:Int×Int,rd (τ:=gM) L (k:Int)=q:=⟨_,rfl⟩
   have hqb:q.1<b:=by rw[aW (τ:=gM) L k hk]at hq;rw[←hq];exact hb _ (List.getElem_mem hk)
   rw[Di.a_eq,hml,ah,aj,ab hk,kD F L k hk,hq]
   simp only[aF,ae]
   rw[show decide ((cJ F q).1<b)=true from ab hqb,an k L.length hk (by omega),ae,ih (k+1) (by omega)]
 have h0:=loop L.length 0 (by omega)
 rw[show((0:Nat):Int)=0 from rfl]at h0
 rw[h0,Di.a_eq,hml,ah,ak (aA _)]
 simp only[aF,ac]
 rw[rf _ (by omega),Km]
 simp only[af]
 rw[show(decide (0≤(128:Int))&&decide ((128:Int)≤9223372036854775807)&&decide (ByteArray.size (⟨#[0]⟩:ByteArray)*(128:Int).toNat≤140737488355328))=true by decide,ae,HN,←Bu hz]
 simp only[af]
 rw[QM,hml,show(decide ((L.length:Int)=(L.length:Int))&&aI (L.length+[(b,p,pg F b)].length) 32)=true by simp[aI];omega]
 simp only[ae,af]
 unfold aK
 rw[List.map_append];rfl
theorem HP {F:Int→Int} (L:List (Int×Int)) (hn:L.length<64) (b p:Int) (hb:∀q∈L,q.1<b) (hz:oS F b 128):A7 (aK F L) b p=some (aK F (L++[(b,p)])):=by
 have hml:(aK F L).length=L.length:=by simp[aK]
 rw[M4]
 have loop:∀(d k:Nat),k+d=L.length→A7.a b p (aK F L) [] (aK F (L.take k)) false (k:Int)=A7.a b p (aK F L) [] (aK F L) false (L.length:Int):=by
  intro d
  induction d with
  |zero=>
    intro k h;have:k=L.length:=by omega
    rw[this,List.take_length]
  |succ d ih=>
   intro k h
   have hk:k<L.length:=by omega
   obtain⟨q,hq⟩:∃q:Int×Int,rd (τ:=gM) L (k:Int)=q:=⟨_,rfl⟩
   have hqL:L[k]=q:=by rw[aW (τ:=gM) L k hk]at hq;exact hq
   have hqb:q.1<b:=by rw[←hqL];exact hb _ (List.getElem_mem hk)
   have hlt:(aK F (L.take k)).length=k:=by simp[aK];omega
   rw[A7.a_eq,hml,ah,aj,ab hk,kD F L k hk,hq]
   simp only[aF,ae,Bool.not_false]
   rw[show decide ((cJ F q).1>b)=false from ak (by show¬q.1>b;omega),an k L.length hk (by omega),ac,show aI ((aK F (L.take k)).length+[cJ F q].length) 32=true by rw[hlt];simp[aI];omega,ae]
   rw[show aK F (L.take k)++[cJ F q]=aK F (L.take (k+1)) by unfold aK;rw[List.take_succ_eq_append_getElem hk,List.map_append,hqL];rfl]
   exact ih (k+1) (by omega)
 have h0:=loop L.length 0 (by omega)
 rw[show((0:Nat):Int)=0 from rfl,show aK F (L.take 0)=[] from rfl]at h0
 rw[h0,A7.a_eq,hml,ah,ak (aA _)]
 simp only[ac,Bool.not_false,ae]
 rw[show(decide ((0:Nat)≤128)&&aI (Int.toNat 128) 1)=true by decide,show(Int.toNat 128)=128 from rfl,←Bu hz,show aI (L.length+[(b,p,pg F b)].length) 32=true by simp[aI];omega]
 simp only[ae]
 unfold aK
 rw[List.map_append];rfl
def nR (b p:Int) (n:Nat):List (Int×Int):=br (fun i=>(b+128*(i:Int),p)) 0 n
theorem HQ (b p:Int):∀n,nR b p (n+1)=nR b p n++[(b+128*(n:Int),p)]:=by
 intro n
 unfold nR
 have:∀(k i:Nat),br (fun i=>(b+128*(i:Int),p)) i (k+1)=br (fun i=>(b+128*(i:Int),p)) i k++[(b+128*((i+k:Nat):Int),p)]:=by
  intro k
  induction k with
  |zero=>intro i;rfl
  |succ k ih=>intro i;rw[br,ih (i+1),br,show i+1+k=i+(k+1) by omega];rfl
 rw[this n 0,Nat.zero_add]
theorem rh (b p:Int) (n:Nat):(nR b p n).length=n:=aO _ _ _
theorem Bv {b p:Int} {n:Nat} {q:Int×Int} (h:q∈nR b p n):b≤q.1∧q.1+128≤b+128*(n:Int):=by
 obtain⟨j,_,hj,rfl⟩:=(b9 _ _ _ _).1 h
 simp only;omega
theorem xS {F:Int→Int} (A:List eB→Int→Int→Option (List eB)) (hA:∀(L:List (Int×Int)) (b p:Int),L.length<64→(∀q∈L,q.1<b)→oS F b 128→A (aK F L) b p=some (aK F (L++[(b,p)])))
  (X:List eB→Int→Option (List eB)) (L:List (Int×Int)) (b p:Int) (n:Nat) (hn:L.length+n≤64) (hb:∀q∈L,q.1<b) (hb0:0≤b∧b≤1048575) (hz:oS F b (128*n))
  (hX:∀m (i:Nat),i<n→X m (128*(i:Int))=(A m (b+128*(i:Int)) p).bind fun r=>X r (128*((i+1:Nat):Int))):
  ∀(d k:Nat),k+d=n→X (aK F (L++nR b p k)) (128*(k:Int))=X (aK F (L++nR b p n)) (128*(n:Int)):=by
 intro d
 induction d with
 |zero=>
   intro k h;have:k=n:=by omega
   rw[this]
 |succ d ih=>
  intro k h
  rw[hX _ k (by omega),hA _ _ _ (by rw[List.length_append,rh];omega) (fun q hq=> ?_) (fun x h1 h2=>hz x (by omega) (by omega))]
  ·simp only[af]
   rw[bn,←HQ]
   exact ih (k+1) (by omega)
  ·rcases List.mem_append.1 hq with hq|hq
   ·have:=hb q hq;omega
   ·have:=Bv hq;omega
def iB (t:ByteArray) (n:Nat):ByteArray:=t++sm (⟨#[0]⟩:ByteArray) ((n-t.size:Nat):Int)
theorem Bw:∀k:Nat,(Lib.repeatL [(0:UInt8)] k)=List.replicate k 0
 |0=>rfl
 |k+1=>by rw[Lib.repeatL,Bw k];rfl
theorem ue (k:Nat):(sm (⟨#[0]⟩:ByteArray) (k:Int)).data=(List.replicate k (0:UInt8)).toArray:=by
 unfold sm
 rw[aC]
 show(Lib.repeatL [(0:UInt8)] k).toArray=_
 rw[Bw]
theorem uf (k:Nat):(sm (⟨#[0]⟩:ByteArray) (k:Int)).size=k:=by
 show(sm (⟨#[0]⟩:ByteArray) (k:Int)).data.size=k
 rw[ue];simp
theorem Jz (k i:Nat):bt (sm (⟨#[0]⟩:ByteArray) (k:Int)) (i:Int)=0:=by
 rw[fq,ue]
 simp only[Array.getD,List.size_toArray,List.length_replicate]
 split
 ·simp
 ·rfl
theorem fw (t:ByteArray) (n:Nat) (h:t.size≤n):(iB t n).size=n:=by
 unfold iB
 rw[ByteArray.size_append,uf];omega
theorem JA (t:ByteArray) (n i:Nat):bt (iB t n) (i:Int)=if i<t.size then bt t (i:Int)else 0:=by
 unfold iB
 rw[nP]
 split
 ·rfl
 ·exact Jz _ _
theorem gO (t:ByteArray) (n:Nat) (h:t.size≤n) (hn:n≤1048576):Fx t (n:Int)=some (iB t n):=by
 have hz:=fw t n h
 rw[OU,aT (n:=(n:Int)-(t.size:Int)) (by omega) (by omega),show(n:Int)-(t.size:Int)=((n-t.size:Nat):Int) by omega,Km]
 rw[show(decide (0≤((n-t.size:Nat):Int))&&decide (((n-t.size:Nat):Int)≤9223372036854775807)&&decide (ByteArray.size (⟨#[0]⟩:ByteArray)*(((n-t.size:Nat):Int)).toNat≤140737488355328))=true by
  rw[show ByteArray.size (⟨#[0]⟩:ByteArray)=1 from rfl];simp;omega]
 simp only[ae,af]
 rw[uf,ab (show t.size+(n-t.size)≤9223372036854775807 by omega)];rfl
theorem rk {F:Int→Int} (b:Int) (t:ByteArray) (n:Nat) (h:t.size≤n) (hz:oS F b n):updF F b (iB t n)=updF F b t:=by
 funext x
 unfold updF
 rw[fw t n h]
 by_cases c:b≤x∧x<b+(n:Int)
 ·rw[av c]
  obtain⟨i,hi⟩:∃i:Nat,x-b=(i:Int):=⟨(x-b).toNat,by omega⟩
  rw[hi,JA]
  by_cases c2:i<t.size
  ·rw[av c2,av (by omega)]
  ·rw[ap c2,ap (by omega),hz x c.1 c.2]
 ·rw[ap c,ap (by omega)]
theorem i8 {F:Int→Int} (hF:FR F) (L:List (Int×Int)) (hL:fu L) (b p:Int) (n:Nat) (t:ByteArray) (hn:L.length+n≤64) (hb:∀q∈L,q.1<b) (hb0:0≤b∧b+128*(n:Int)≤1048575) (hz:oS F b (128*n)) (ht:t.size=128*n):
  rU (aK F L) b p t=some (aK (updF F b t) (L++nR b p n)):=by
 rw[OT]
 have hL':fu (L++nR b p n):=⟨by rw[List.length_append,rh];omega,fun q hq=>by
  rcases List.mem_append.1 hq with hq|hq
  ·exact hL.base q hq
  ·have:=Bv hq;omega⟩
 have h:=xS (F:=F) Di (fun L b p h1 h2 h3=>HO L h1 b p h2 h3) (fun m i=>rU.a b p t m [] i) L b p n hn hb ⟨by omega,by omega⟩ hz (fun m i hi=>by
  show rU.a b p t m [] (128*(i:Int))=_
  rw[rU.a_eq,ht,ab (show 128*(i:Int)< ((128*n:Nat):Int) by omega),ae,aT (n:=b+128*(i:Int)) (by omega) (by omega),aT (n:=128*(i:Int)+128) (by omega) (by omega),show 128*(i:Int)+128=128*((i+1:Nat):Int) by omega]) n 0 (by omega)
 have h':rU.a b p t (aK F (L++nR b p 0)) [] (128*((0:Nat):Int))=rU.a b p t (aK F (L++nR b p n)) [] (128*(n:Int)):=h
 rw[show nR b p 0=[] from rfl,List.append_nil,show 128*((0:Nat):Int)=0 from rfl]at h'
 rw[h',rU.a_eq,ht,ak (show¬128*(n:Int)< ((128*n:Nat):Int) by omega),ac,xR hF b t ⟨by omega,by omega,by omega⟩ _ hL'];rfl
theorem gP {F:Int→Int} (L:List (Int×Int)) (b p:Int) (n:Nat) (hn:L.length+n≤64) (hb:∀q∈L,q.1<b) (hb0:0≤b∧b+128*(n:Int)≤1048575) (hz:oS F b (128*n)):
  qC (aK F L) b (128*(n:Int)) p=some (aK F (L++nR b p n)):=by
 rw[M5]
 have h:=xS (F:=F) A7 (fun L b p h1 h2 h3=>HP L h1 b p h2 h3) (fun m i=>qC.a b (128*(n:Int)) p m [] i) L b p n hn hb ⟨by omega,by omega⟩ hz (fun m i hi=>by
  show qC.a b (128*(n:Int)) p m [] (128*(i:Int))=_
  rw[qC.a_eq,ab (show 128*(i:Int)<128*(n:Int) by omega),ae,aT (n:=b+128*(i:Int)) (by omega) (by omega),aT (n:=128*(i:Int)+128) (by omega) (by omega),show 128*(i:Int)+128=128*((i+1:Nat):Int) by omega]) n 0 (by omega)
 have h':qC.a b (128*(n:Int)) p (aK F (L++nR b p 0)) [] (128*((0:Nat):Int))=qC.a b (128*(n:Int)) p (aK F (L++nR b p n)) [] (128*(n:Int)):=h
 rw[show nR b p 0=[] from rfl,List.append_nil,show 128*((0:Nat):Int)=0 from rfl]at h'
 rw[h',qC.a_eq,ak (show¬128*(n:Int)<128*(n:Int) by omega),ac]
def L1:List (Int×Int):=nR 4096 4 8
def L2:List (Int×Int):=L1++nR 8192 4 8
def L3:List (Int×Int):=L2++nR 16384 3 2
def L4:List (Int×Int):=L3++nR 20480 3 2
def L5:List (Int×Int):=L4++nR 32768 11 4
def L6:List (Int×Int):=L5++nR 33792 11 4
def L7:List (Int×Int):=L6++nR 34816 11 4
def BL:List (Int×Int):=L7++nR 35840 11 4
def FD (L:List (Int×Int)) (m:Int):Bool:=decide (L.length≤64)&&L.all fun q=>decide (0≤q.1)&&decide (q.1≤1048575)&&decide (q.1<m)
theorem dn {L:List (Int×Int)} {m:Int} (h:FD L m=true):fu L∧∀q∈L,q.1<m:=by
 unfold FD at h
 rw[ay,aV,List.all_eq_true]at h
 refine⟨⟨h.1,fun q hq=> ?_⟩,fun q hq=> ?_⟩
 ·have:=h.2 q hq;simp only[ay,aV]at this;exact this.1
 ·have:=h.2 q hq;simp only[ay,aV]at this;exact this.2
theorem b1:FD L1 8192=true:=by decide
theorem b2:FD L2 16384=true:=by decide
theorem b3:FD L3 20480=true:=by decide
theorem b4:FD L4 32768=true:=by decide
theorem b5:FD L5 33792=true:=by decide
theorem b6:FD L6 34816=true:=by decide
theorem b7:FD L7 35840=true:=by decide
theorem b8:FD BL 40000=true:=by decide
def zF:Int→Int:=fun _=>0
def lC (im:gk):Int→Int:=updF zF 4096 im.1
def F0 (im:gk):Int→Int:=updF (lC im) 16384 im.2.1
theorem rm:FR zF:=fun _=>⟨Int.le_refl 0,show(0:Int)≤255 by omega⟩
theorem ia (im:gk):FR (lC im):=eD rm _ _
theorem rn (im:gk):FR (F0 im):=eD (ia im) _ _
theorem gQ {im:gk} (h:im.1.size≤1024) (b:Int) (n:Nat) (hb:5120≤b):oS (lC im) b n:=by
 intro x h1 h2
 unfold lC updF
 rw[ap (by omega)];rfl
theorem pt {im:gk} (h:im.1.size≤1024) (h':im.2.1.size≤256) (b:Int) (n:Nat) (hb:16640≤b):oS (F0 im) b n:=by
 intro x h1 h2
 unfold F0 updF
 rw[ap (by omega)]
 exact gQ h b n (by omega) x h1 h2
theorem jA (b:Int) (n:Nat):oS zF b n:=fun _ _ _=>rfl
theorem vj {F:Int→Int} (b:Int) (n:Nat) (hz:oS F b n):updF F b (iB ⟨#[]⟩ n)=F:=by
 rw[rk b _ n (by show(0:Nat)≤n;omega) hz,rg _ _ _ rfl]
theorem jB (im:gk) (hc:im.1.size≤1024) (hd:im.2.1.size≤256) (L:List (Int×Int)) (i:Nat) (hi:i<4) (m:Int) (hL:FD L m=true) (hm:m=32768+1024*(i:Int)) (hn:L.length+4≤64):
  Fy.a [] (aK (F0 im) L) (i:Int)=Fy.a [] (aK (F0 im) (L++nR m 11 4)) ((i+1:Nat):Int):=by
 obtain⟨h1,h2⟩:=dn hL
 rw[Fy.a_eq,ab (show(i:Int)<4 by omega),show Fx (⟨#[]⟩:ByteArray) 512=some (iB ⟨#[]⟩ 512) from gO _ 512 (by show(0:Nat)≤512;omega) (by omega),aT (n:=1024*(i:Int)) (by omega) (by omega),aT (n:=32768+1024*(i:Int)) (by omega) (by omega),aT (n:=(i:Int)+1) (by omega) (by omega),←hm]
 simp only[ae,af]
 rw[i8 (rn im) L h1 m 11 4 (iB ⟨#[]⟩ 512) hn h2 (by omega) (pt hc hd m 512 (by omega)) (fw _ 512 (by show(0:Nat)≤512;omega)),vj m 512 (pt hc hd m 512 (by omega))]
 simp only[af]
 rw[show(i:Int)+1=((i+1:Nat):Int) by omega]
theorem xT (im:gk) (hc:im.1.size≤1024) (hd:im.2.1.size≤256):Fy im=some (aK (F0 im) BL):=by
 have e0:(0:Nat)≤1024:=by omega
 rw[OV,show Fx im.1 1024=some (iB im.1 1024) from gO _ 1024 hc (by omega),show Fx (⟨#[]⟩:ByteArray) 1024=some (iB ⟨#[]⟩ 1024) from gO _ 1024 (by show(0:Nat)≤1024;omega) (by omega),
  show Fx im.2.1 256=some (iB im.2.1 256) from gO _ 256 hd (by omega),show Fx (⟨#[]⟩:ByteArray) 256=some (iB ⟨#[]⟩ 256) from gO _ 256 (by show(0:Nat)≤256;omega) (by omega)]
 simp only[af]
 have a1:=i8 rm [] ⟨by simp,fun q hq=>by cases hq⟩ 4096 4 8 (iB im.1 1024) (by simp) (fun q hq=>by cases hq) (by omega) (jA _ _) (fw _ 1024 hc)
 rw[rk 4096 im.1 1024 hc (jA _ _),List.nil_append]at a1
 rw[show rU [] 4096 4 (iB im.1 1024)=some (aK (lC im) L1) from a1]
 simp only[af]
 have a2:=i8 (ia im) L1 (dn b1).1 8192 4 8 (iB ⟨#[]⟩ 1024) (by decide) (dn b1).2 (by omega) (gQ hc _ _ (by omega)) (fw _ 1024 (by show(0:Nat)≤1024;omega))
 rw[vj 8192 1024 (gQ hc _ _ (by omega))]at a2
 rw[show rU (aK (lC im) L1) 8192 4 (iB ⟨#[]⟩ 1024)=some (aK (lC im) L2) from a2]
 simp only[af]
 have a3:=i8 (ia im) L2 (dn b2).1 16384 3 2 (iB im.2.1 256) (by decide) (dn b2).2 (by omega) (gQ hc _ _ (by omega)) (fw _ 256 hd)
 rw[rk 16384 im.2.1 256 hd (gQ hc _ _ (by omega))]at a3
 rw[show rU (aK (lC im) L2) 16384 3 (iB im.2.1 256)=some (aK (F0 im) L3) from a3]
 simp only[af]
 have a4:=i8 (rn im) L3 (dn b3).1 20480 3 2 (iB ⟨#[]⟩ 256) (by decide) (dn b3).2 (by omega) (pt hc hd _ _ (by omega)) (fw _ 256 (by show(0:Nat)≤256;omega))
 rw[vj 20480 256 (pt hc hd _ _ (by omega))]at a4
 rw[show rU (aK (F0 im) L3) 20480 3 (iB ⟨#[]⟩ 256)=some (aK (F0 im) L4) from a4]
 simp only[af]
 have s0:=jB im hc hd L4 0 (by omega) 32768 b4 (by omega) (by decide)
 have s1:=jB im hc hd L5 1 (by omega) 33792 b5 (by omega) (by decide)
 have s2:=jB im hc hd L6 2 (by omega) 34816 b6 (by omega) (by decide)
 have s3:=jB im hc hd L7 3 (by omega) 35840 b7 (by omega) (by decide)
 refine s0.trans (s1.trans (s2.trans (s3.trans ?_)))
 rw[Fy.a_eq,show decide (((3+1:Nat):Int)<4)=false by decide,ac];rfl
theorem jC (L:List (Int×Int)) (i:Nat) (hi:i<4) (m:Int) (hL:FD L m=true) (hm:m=32768+1024*(i:Int)) (hn:L.length+4≤64):
  Fe.a [] (aK zF L) (i:Int)=Fe.a [] (aK zF (L++nR m 11 4)) ((i+1:Nat):Int):=by
 obtain⟨h1,h2⟩:=dn hL
 rw[Fe.a_eq,ab (show(i:Int)<4 by omega),aT (n:=1024*(i:Int)) (by omega) (by omega),aT (n:=32768+1024*(i:Int)) (by omega) (by omega),aT (n:=(i:Int)+1) (by omega) (by omega),←hm]
 rw[show qC (aK zF L) m 512 11=some (aK zF (L++nR m 11 4)) from gP L m 11 4 hn h2 (by omega) (jA _ _)]
 simp only[af,ae]
 rw[show(i:Int)+1=((i+1:Nat):Int) by omega]
theorem Ae:Fe=some (aK zF BL):=by
 rw[M6]
 rw[show qC [] 4096 1024 4=some (aK zF L1) from gP (F:=zF) [] 4096 4 8 (by simp) (fun q hq=>by cases hq) (by omega) (jA _ _)]
 simp only[af]
 rw[show qC (aK zF L1) 8192 1024 4=some (aK zF L2) from gP L1 8192 4 8 (by decide) (dn b1).2 (by omega) (jA _ _)]
 simp only[af]
 rw[show qC (aK zF L2) 16384 256 3=some (aK zF L3) from gP L2 16384 3 2 (by decide) (dn b2).2 (by omega) (jA _ _)]
 simp only[af]
 rw[show qC (aK zF L3) 20480 256 3=some (aK zF L4) from gP L3 20480 3 2 (by decide) (dn b3).2 (by omega) (jA _ _)]
 simp only[af]
 have s0:=jC L4 0 (by omega) 32768 b4 (by omega) (by decide)
 have s1:=jC L5 1 (by omega) 33792 b5 (by omega) (by decide)
 have s2:=jC L6 2 (by omega) 34816 b6 (by omega) (by decide)
 have s3:=jC L7 3 (by omega) 35840 b7 (by omega) (by decide)
 refine s0.trans (s1.trans (s2.trans (s3.trans ?_)))
 rw[Fe.a_eq,show decide (((3+1:Nat):Int)<4)=false by decide,ac];rfl
theorem JB:fu BL:=(dn b8).1
theorem HR:BL.length=36:=by decide
def JC (i:Nat):Int:=(BL.getD i (0,0)).1
theorem KA (i:Nat):(rd (τ:=gM) BL (i:Int)).1=JC i:=by
 unfold rd JC
 rw[aC];rfl
theorem HT:∀i j:Fin 36,i<j→JC i+128≤JC j:=by decide+kernel
theorem JD:Ab BL:=by
 intro i j a hi hj h1 h2
 rw[HR]at hi hj
 rw[KA]at h1 h2
 unfold eF at h1 h2
 rw[ay,aV,aV]at h1 h2
 rcases Nat.lt_trichotomy i j with h|h|h
 ·have:=HT ⟨i,hi⟩ ⟨j,hj⟩ h
  simp only at this;omega
 ·exact h
 ·have:=HT ⟨j,hj⟩ ⟨i,hi⟩ h
  simp only at this;omega
theorem vk (i:Nat) (hi:i<36) (x:Int) (h1:JC i≤x) (h2:x≤JC i+127):0≤dY BL x:=by
 unfold dY
 rcases cg (fun i=>eF (rd (τ:=gM) BL (i:Int)).1 x) BL.length 0 with⟨g1,g2⟩|⟨j,g1,_⟩
 ·have:=g2 i (Nat.zero_le _) (by rw[HR];omega)
  rw[KA]at this
  unfold eF at this
  rw[ab h1,ab h2]at this
  cases this
 ·rw[g1];omega
theorem JE:∀i:Fin 8,JC i=4096+128*((i:Nat):Int):=by decide+kernel
theorem HU:∀i:Fin 8,JC (8+i)=8192+128*((i:Nat):Int):=by decide+kernel
theorem JF:∀i:Fin 2,JC (16+i)=16384+128*((i:Nat):Int):=by decide+kernel
theorem ug {x:Int} (h1:4096≤x) (h2:x<5120):0≤dY BL x:=by
 have:=JE ⟨((x-4096)/128).toNat,by omega⟩
 simp only at this
 exact vk ((x-4096)/128).toNat (by omega) x (by omega) (by omega)
theorem Af {x:Int} (h1:8192≤x) (h2:x<9216):0≤dY BL x:=by
 have:=HU ⟨((x-8192)/128).toNat,by omega⟩
 simp only at this
 exact vk (8+((x-8192)/128).toNat) (by omega) x (by omega) (by omega)
theorem Dz {x:Int} (h1:16384≤x) (h2:x<16640):0≤dY BL x:=by
 have:=JF ⟨((x-16384)/128).toNat,by omega⟩
 simp only at this
 exact vk (16+((x-16384)/128).toNat) (by omega) x (by omega) (by omega)
theorem nS {F:Int→Int} (hF:FR F) (a:Int) (t:ByteArray) (h1: -1000000000≤a) (h2:a+(t.size:Int)≤1000000000) (hx:∀x,a≤x→x<a+(t.size:Int)→0≤dY BL x):yj (aK F BL) a t=some (aK (updF F a t) BL):=by
 rw[M3];exact HK BL JB JD [] t.size F a t hF (Nat.le_refl _) h1 h2 hx
theorem DA (im:gk) (hc:im.1.size≤1024) (hd:im.2.1.size≤256):Tf im=some (aK (F0 im) BL):=by
 rw[M7,Ae]
 simp only[af]
 rw[nS rm 4096 im.1 (by omega) (by omega) fun x h1 h2=>ug h1 (by omega)]
 simp only[af]
 rw[show updF zF 4096 im.1=lC im from rfl,nS (ia im) 16384 im.2.1 (by omega) (by omega) fun x h1 h2=>Dz h1 (by omega)]
 rfl
theorem au {τ:Ty} (l:List τ.den) (i:Nat) (h:i<l.length):rd (τ:=τ) l (i:Int)∈l:=by rw[aW l i h];exact List.getElem_mem h
theorem vm {τ:Ty} {l:List τ.den} {x:τ.den} (h:x∈l):∃i:Nat,i<l.length∧rd (τ:=τ) l (i:Int)=x:=by
 obtain⟨i,hi,e⟩:=List.mem_iff_getElem.1 h
 exact⟨i,hi,by rw[aW l i hi];exact e⟩
theorem mW {t:List dg} {n:ByteArray}:cz t n<0↔∀e∈t,e.1≠n:=by
 unfold cz
 rcases cg (fun i=>decide ((rd (τ:=ba) t (i:Int)).1=n)) t.length 0 with⟨h1,h2⟩|⟨j,h1,h2,h3,h4,_⟩
 ·refine⟨fun _ e he hn=> ?_,fun _=>by rw[h1];decide⟩
  obtain⟨i,hi,hr⟩:=vm (τ:=ba) he
  have:=h2 i (Nat.zero_le _) (by omega)
  rw[decide_eq_false_iff_not,hr]at this
  exact this hn
 ·refine⟨fun h=>by rw[h1]at h;omega,fun h=> ?_⟩
  rw[aV]at h4
  exact absurd h4 (h _ (au (τ:=ba) t j (by omega)))
structure rp (t:List dg):Prop where
 len:t.length≤64
 ent:∀e∈t,dh e=true
 dis:t.Pairwise fun a b=>a.1≠b.1
theorem xU {t:List dg}:oN t=true↔rp t:=by
 unfold oN
 rw[ay,aV,fT]
 have key:∀i:Nat,i<t.length→(xw t i=true↔dh (rd (τ:=ba) t (i:Int))=true∧∀e∈t.take i,e.1≠(rd (τ:=ba) t (i:Int)).1):=by
  intro i hi
  unfold xw
  rw[←mW]
  cases dh (rd (τ:=ba) t (i:Int))<;>simp
 constructor
 ·rintro⟨h1,h2⟩
  refine⟨h1,fun e he=> ?_, ?_⟩
  ·obtain⟨i,hi,hr⟩:=vm (τ:=ba) he
   rw[←hr];exact((key i hi).1 (h2 i (Nat.zero_le _) (by omega))).1
  ·rw[List.pairwise_iff_getElem]
   intro i j hi hj hij
   have:=((key j hj).1 (h2 j (Nat.zero_le _) (by omega))).2 t[i] (by rw[List.mem_take_iff_getElem];exact⟨i,by omega,rfl⟩)
   rw[aW (τ:=ba) t j hj]at this
   exact this
 ·rintro⟨h1,h2,h3⟩
  refine⟨h1,fun i _ hi=>(key i (by omega)).2 ⟨h2 _ (au (τ:=ba) t i (by omega)),fun e he=> ?_⟩⟩
  obtain⟨j,hj,rfl⟩:=List.mem_take_iff_getElem.1 he
  rw[aW (τ:=ba) t i (by omega)]
  exact(List.pairwise_iff_getElem.1 h3) j i (by omega) (by omega) (by omega)
def mX (o:bM) (l:fe) (owner:Int) (i:Nat):dg:=((rd (τ:=aP) o.2.2.1 (i:Int)).1,1,rd (τ:= .int .i64) l.1 (i:Int),(dZ o i:Int),(rd (τ:=aP) o.2.2.1 (i:Int)).2.2.1,owner)
def vp (o:bM) (l:fe) (owner:Int) (i:Nat):dg:=((rd (τ:=bD) o.2.2.2.1 (i:Int)).1,2,rd (τ:= .int .i64) l.2.2.1 (i:Int),(lA o i:Int),0,owner)
def eV (t:List dg) (o:bM) (l:fe) (owner:Int):List dg:=
 (t++c6 (fun i=> !(rd (τ:=aP) o.2.2.1 (i:Int)).2.1) (mX o l owner) 0 o.2.2.1.length)++br (vp o l owner) 0 o.2.2.2.1.length
theorem kF (n:Nat) (h:n≤4096):aI n 56=true:=by simp[aI];omega
theorem rq (n:Nat) (h:n≤4096):aI n 40=true:=by simp[aI];omega
theorem l8 (t:List dg) (o:bM) (l:fe) (owner:Int) (ht:t.length≤64) (hz:ObjSz o) (hl:ft o l):pq t o l owner=some (eV t o l owner):=by
 have h1:=hz.f
 have h2:=hz.d
 have hf:=cB (fun i=> !(rd (τ:=aP) o.2.2.1 (i:Int)).2.1) (mX o l owner) o.2.2.1.length 0
 rw[PB,QL,kF _ (by omega)]
 simp only[ae,af]
 rw[dL (L:=fun acc i=>pq.a owner o l acc o.2.2.1 (o.2.2.1.length:Int) i) (fun i=> !(rd (τ:=aP) o.2.2.1 (i:Int)).2.1) (mX o l owner) o.2.2.1.length t fun acc i hi ha=> ?_]
 ·show pq.a owner o l _ o.2.2.1 (o.2.2.1.length:Int) (o.2.2.1.length:Int)=_
  rw[pq.a_eq,ah,ak (aA _),ac]
  rw[cP (L:=fun acc i=>pq.b owner l acc o.2.2.2.1 (o.2.2.2.1.length:Int) i) (vp o l owner) o.2.2.2.1.length (t++c6 (fun i=> !(rd (τ:=aP) o.2.2.1 (i:Int)).2.1) (mX o l owner) 0 o.2.2.1.length) fun acc i hi ha=> ?_]
  ·show pq.b owner l _ o.2.2.2.1 (o.2.2.2.1.length:Int) (o.2.2.2.1.length:Int)=_
   rw[pq.b_eq,ah,ak (aA _),ac];rfl
  ·show pq.b owner l acc o.2.2.2.1 (o.2.2.2.1.length:Int) (i:Int)=_
   rw[List.length_append]at ha
   rw[pq.b_eq,ah,aj,ab hi,an i _ hi (by omega),aj,show decide (i<l.2.2.1.length)=true from ab (by rw[hl.d];exact hi),kF _ (by simp;omega)];rfl
 ·show pq.a owner o l acc o.2.2.1 (o.2.2.1.length:Int) (i:Int)=_
  rw[pq.a_eq,ah,aj,ab hi,an i _ hi (by omega),aj,show decide (i<l.1.length)=true from ab (by rw[hl.a];exact hi),kF _ (by simp;omega)]
  cases (rd (τ:=aP) o.2.2.1 (i:Int)).2.1<;>rfl
theorem sM (t:List dg) (o:bM) (l:fe) (owner:Int) (ht:t.length≤64) (hz:ObjSz o) (hl:ft o l):rR t o l owner=some (eV t o l owner):=by
 have h1:=hz.f
 have h2:=hz.d
 have hf:=cB (fun i=> !(rd (τ:=aP) o.2.2.1 (i:Int)).2.1) (mX o l owner) o.2.2.1.length 0
 rw[Ny,kF _ (by omega)]
 simp only[ae]
 rw[dL (L:=fun acc i=>rR.a owner o l acc i) (fun i=> !(rd (τ:=aP) o.2.2.1 (i:Int)).2.1) (mX o l owner) o.2.2.1.length t fun acc i hi ha=> ?_]
 ·rw[rR.a_eq,ah,ak (aA _),ac]
  rw[cP (L:=fun acc i=>rR.b owner o l acc i) (vp o l owner) o.2.2.2.1.length (t++c6 (fun i=> !(rd (τ:=aP) o.2.2.1 (i:Int)).2.1) (mX o l owner) 0 o.2.2.1.length) fun acc i hi ha=> ?_]
  ·rw[rR.b_eq,ah,ak (aA _),ac];rfl
  ·show rR.b owner o l acc (i:Int)=_
   rw[List.length_append]at ha
   rw[rR.b_eq,ah,aj,ab hi,an i _ hi (by omega),aj,aj,show decide (i<l.2.2.1.length)=true from ab (by rw[hl.d];exact hi),show decide (i<l.2.2.2.length)=true from ab (by rw[hl.b];exact hi),kF _ (by simp;omega),hl.bs i hi];rfl
 ·show rR.a owner o l acc (i:Int)=_
  rw[rR.a_eq,ah,aj,ab hi,an i _ hi (by omega),aj,aj,show decide (i<l.1.length)=true from ab (by rw[hl.a];exact hi),show decide (i<l.2.1.length)=true from ab (by rw[hl.c];exact hi),kF _ (by simp;omega),hl.cs i hi]
  cases (rd (τ:=aP) o.2.2.1 (i:Int)).2.1<;>rfl
theorem sN (o:bM) (l:fe) (hz:ObjSz o) (hl:ft o l):ve l o=some true:=by
 have h1:=hz.f
 have h2:=hz.d
 rw[PA,hl.a,hl.c,hl.d,hl.b]
 simp only[decide_true,aD,ac]
 rw[du (L:=ve.a l o o.2.2.1 (o.2.2.1.length:Int)) (fun _=>true) o.2.2.1.length ?_ fun i hi=> ?_]
 ·rw[(fT _ _ _).2 fun _ _ _=>rfl]
 ·rw[ve.a_eq,ah,ak (aA _),ac]
  rw[du (L:=ve.b l o.2.2.2.1 (o.2.2.2.1.length:Int)) (fun _=>true) o.2.2.2.1.length ?_ fun i hi=> ?_]
  ·rw[(fT _ _ _).2 fun _ _ _=>rfl]
  ·rw[ve.b_eq,ah,ak (aA _),ac]
  ·rw[ve.b_eq,ah,aj,ab hi,an i _ hi (by omega),aj,show decide (i<l.2.2.2.length)=true from ab (by rw[hl.b];exact hi),hl.bs i hi,show decide ((lA o i:Int)=((rd (τ:=bD) o.2.2.2.1 (i:Int)).2.size:Int))=true from ab rfl];rfl
 ·rw[ve.a_eq,ah,aj,ab hi,an i _ hi (by omega),aj,show decide (i<l.2.1.length)=true from ab (by rw[hl.c];exact hi),hl.cs i hi,show decide ((dZ o i:Int)=((rd (τ:=aP) o.2.2.1 (i:Int)).2.2.2.size:Int))=true from ab rfl];rfl
theorem cE {α:Type} (p:Nat→Bool) (f:Nat→α) (x:α):∀k i,x∈c6 p f i k→∃j,i≤j∧j<i+k∧p j=true∧f j=x
 |0,i,h=>by cases h
 |k+1,i,h=>by
  rw[c6]at h
  cases hp:p i with
  |false=>
   rw[hp,ac]at h
   obtain⟨j,h1,h2,h3⟩:=cE p f x k (i+1) h
   exact⟨j,by omega,by omega,h3⟩
  |true=>
   rw[hp,ae]at h
   rcases List.mem_cons.1 h with rfl|h
   ·exact⟨i,Nat.le_refl _,by omega,hp,rfl⟩
   ·obtain⟨j,h1,h2,h3⟩:=cE p f x k (i+1) h
    exact⟨j,by omega,by omega,h3⟩
theorem rt {α:Type} (p:Nat→Bool) (f:Nat→α) (R:α→α→Prop):∀k i,(∀a b,i≤a→a<b→b<i+k→R (f a) (f b))→(c6 p f i k).Pairwise R
 |0,_,_=>List.Pairwise.nil
 |k+1,i,h=>by
  have ih:=rt p f R k (i+1) fun a b h1 h2 h3=>h a b (by omega) h2 (by omega)
  rw[c6]
  cases p i with
  |false=>exact ih
  |true=>
   rw[ae]
   refine List.Pairwise.cons (fun x hx=> ?_) ih
   obtain⟨j,h1,h2,_,rfl⟩:=cE p f x k (i+1) hx
   exact h i j (Nat.le_refl _) (by omega) (by omega)
theorem k7 {α:Type} (f:Nat→α) (R:α→α→Prop):∀k i,(∀a b,i≤a→a<b→b<i+k→R (f a) (f b))→(br f i k).Pairwise R
 |0,_,_=>List.Pairwise.nil
 |k+1,i,h=>by
  have ih:=k7 f R k (i+1) fun a b h1 h2 h3=>h a b (by omega) h2 (by omega)
  rw[br]
  refine List.Pairwise.cons (fun x hx=> ?_) ih
  obtain⟨j,h1,h2,rfl⟩:=(b9 f x k (i+1)).1 hx
  exact h i j (Nat.le_refl _) (by omega) (by omega)
theorem eh.dis_ff {o:bM} (h:eh o) (a b:Nat) (hab:a<b) (hb:b<o.2.2.1.length):(rd (τ:=aP) o.2.2.1 (a:Int)).1≠(rd (τ:=aP) o.2.2.1 (b:Int)).1:=by
 have:=(i6 (h.fun_ b hb)).2.1
 rw[mN o b (by omega)]at this
 intro e
 have:iw (br (fun i=>(rd (τ:=aP) o.2.2.1 (i:Int)).1) 0 b) (rd (τ:=aP) o.2.2.1 (b:Int)).1=true:=kw.2 ((b9 _ _ _ _).2 ⟨a,Nat.zero_le _,by omega,e⟩)
 simp_all
theorem eh.dis_fd {o:bM} (h:eh o) (a b:Nat) (ha:a<o.2.2.1.length) (hb:b<o.2.2.2.1.length):(rd (τ:=aP) o.2.2.1 (a:Int)).1≠(rd (τ:=bD) o.2.2.2.1 (b:Int)).1:=by
 have:=(i7 (h.dat b hb)).2.1
 rw[jv o b (by omega),qY,Bool.or_eq_false_iff]at this
 intro e
 have h2:iw (br (fun i=>(rd (τ:=aP) o.2.2.1 (i:Int)).1) 0 o.2.2.1.length) (rd (τ:=bD) o.2.2.2.1 (b:Int)).1=true:=kw.2 ((b9 _ _ _ _).2 ⟨a,Nat.zero_le _,by omega,e⟩)
 rw[h2]at this
 exact absurd this.1 (by decide)
theorem eh.dis_dd {o:bM} (h:eh o) (a b:Nat) (hab:a<b) (hb:b<o.2.2.2.1.length):(rd (τ:=bD) o.2.2.2.1 (a:Int)).1≠(rd (τ:=bD) o.2.2.2.1 (b:Int)).1:=by
 have:=(i7 (h.dat b hb)).2.1
 rw[jv o b (by omega),qY,Bool.or_eq_false_iff]at this
 intro e
 have h2:iw (br (fun i=>(rd (τ:=bD) o.2.2.2.1 (i:Int)).1) 0 b) (rd (τ:=bD) o.2.2.2.1 (b:Int)).1=true:=kw.2 ((b9 _ _ _ _).2 ⟨a,Nat.zero_le _,by omega,e⟩)
 rw[h2]at this
 exact absurd this.2 (by decide)
theorem oB {t:List dg} {o:bM} (h:gL t o=0):(∀i,i<o.2.2.1.length→Fv t o i=0)∧(∀i,i<o.2.2.2.1.length→Kw t o i=0):=by
 unfold gL at h
 by_cases h1:(bz (Fv t o) 0 o.2.2.1.length).2=0
 ·rw[av h1]at h
  exact⟨fun i hi=>(dJ _ _ _).1 h1 i (Nat.zero_le _) (by omega),fun i hi=>(dJ _ _ _).1 h i (Nat.zero_le _) (by omega)⟩
 ·rw[ap h1]at h;exact absurd h h1
theorem JG {t:List dg} {o:bM} {i:Nat} (h:Fv t o i=0) (hr:(rd (τ:=aP) o.2.2.1 (i:Int)).2.1=false):cz t (rd (τ:=aP) o.2.2.1 (i:Int)).1<0:=by
 unfold Fv at h
 rw[hr]at h
 simp only[Bool.false_eq_true,if_false]at h
 split at h
 ·cases h
 ·omega
theorem JH {t:List dg} {o:bM} {i:Nat} (h:Fv t o i=0) (hr:(rd (τ:=aP) o.2.2.1 (i:Int)).2.1=true):0≤cz t (rd (τ:=aP) o.2.2.1 (i:Int)).1∧(rd (τ:=ba) t (cz t (rd (τ:=aP) o.2.2.1 (i:Int)).1)).2.1=1:=by
 unfold Fv at h
 rw[hr]at h
 simp only[if_true]at h
 split at h
 ·cases h
 ·split at h
  ·rename_i h1 h2;exact⟨by omega,h2⟩
  ·cases h
theorem JI {t:List dg} {o:bM} {i:Nat} (h:Kw t o i=0):cz t (rd (τ:=bD) o.2.2.2.1 (i:Int)).1<0:=by
 unfold Kw at h
 split at h
 ·cases h
 ·omega
theorem nT {x:Int} (h:Ky x):bU x=true:=by
 unfold bU
 obtain⟨h1,h2,h3⟩:=h
 rw[show(decide (0≤x)&&decide (x≤1048575))=true by simp;omega,ae,aV,Int.tmod_eq_emod_of_nonneg h1];omega
theorem oC (t:List dg) (o:bM) (l:fe) (owner:Int) (hz:ObjSz o):(eV t o l owner).length≤t.length+8:=by
 have h1:=hz.f
 have h2:=hz.d
 have hf:=cB (fun i=> !(rd (τ:=aP) o.2.2.1 (i:Int)).2.1) (mX o l owner) o.2.2.1.length 0
 unfold eV
 rw[List.length_append,List.length_append,aO];omega
theorem JJ {t:List dg} {o:bM} {l:fe} {owner:Int} (ht:rp t) (ho:eh o) (hl:ft o l) (hn:gL t o=0) (how:1≤owner∧owner≤6) (hlen:t.length≤56):rp (eV t o l owner):=by
 obtain⟨n1,n2⟩:=oB hn
 refine⟨by have:=oC t o l owner ho.toObjSz;omega,fun e he=> ?_, ?_⟩
 ·unfold eV at he
  rcases List.mem_append.1 he with he|he
  ·rcases List.mem_append.1 he with he|he
   ·exact ht.ent e he
   ·obtain⟨j,_,hj,_,rfl⟩:=cE _ _ _ _ _ he
    have hf:=i6 (ho.fun_ j (by omega))
    have hs:=ho.fsz_pos j (by omega)
    have ha:=hl.fa j (by omega)
    unfold dh mX
    simp only
    rw[hf.1,nT ha,bm.2 (show(1:Int)≤(dZ o j:Int)∧(dZ o j:Int)≤1024 by omega),bm.2 (show 0≤owner∧owner≤6 by omega)]
    unfold xu
    rw[hf.2.2.1];rfl
  ·obtain⟨j,_,hj,rfl⟩:=(b9 _ _ _ _).1 he
   have hf:=i7 (ho.dat j (by omega))
   have hs:=ho.dsz_pos j (by omega)
   have ha:=hl.ds j (by omega)
   unfold dh vp
   simp only
   rw[hf.1,nT ha,bm.2 (show(1:Int)≤(lA o j:Int)∧(lA o j:Int)≤1024 by omega),bm.2 (show 0≤owner∧owner≤6 by omega)]
   rfl
 ·unfold eV
  rw[List.pairwise_append,List.pairwise_append]
  refine⟨⟨ht.dis,rt _ _ _ _ _ fun a b _ h2 h3=>ho.dis_ff a b h2 (by omega),fun a ha b hb=> ?_⟩,k7 _ _ _ _ fun a b _ h2 h3=>ho.dis_dd a b h2 (by omega),fun a ha b hb=> ?_⟩
  ·obtain⟨j,_,hj,hp,rfl⟩:=cE _ _ _ _ _ hb
   have:=JG (n1 j (by omega)) (by simpa using hp)
   exact mW.1 this a ha
  ·obtain⟨k,_,hk,rfl⟩:=(b9 _ _ _ _).1 hb
   rcases List.mem_append.1 ha with ha|ha
   ·exact mW.1 (JI (n2 k (by omega))) a ha
   ·obtain⟨j,_,hj,hp,rfl⟩:=cE _ _ _ _ _ ha
    exact ho.dis_fd j k (by omega) (by omega)
theorem oD (a:bH) (n:Nat):(aM a n).1.1=a.1∧(aM a n).1.2.1=a.2.1:=by
 unfold aM;split<;>exact⟨rfl,rfl⟩
theorem mY (sz:Nat→Nat):∀k i a,(cN sz a i k).1.1=a.1∧(cN sz a i k).1.2.1=a.2.1
 |0,_,_=>⟨rfl,rfl⟩
 |k+1,i,a=>by
  have h:=mY sz k (i+1) (aM a (sz i)).1
  have h2:=oD a (sz i)
  rw[cN];exact⟨h.1.trans h2.1,h.2.trans h2.2⟩
theorem DB {a:bH} (h:cy a) (n:Nat) (ok:(aM a n).2.2=true):a.1≤(aM a n).2.1∧(aM a n).2.1+(n:Int)≤a.1+a.2.1:=by
 obtain⟨⟨h1,h2,h3⟩,⟨h4,h5,h6⟩,h7,h8,h9⟩:=h
 unfold aM at ok⊢
 split at ok
 ·cases ok
 ·rename_i hc
  rw[ap hc]
  have:n≤oP n:=by unfold oP;omega
  exact⟨h7,by simp only;omega⟩
theorem HV (sz:Nat→Nat):∀k i a,cy a→(cN sz a i k).2.2=true→∀j (hj:j< (cN sz a i k).2.1.length),a.1≤(cN sz a i k).2.1[j]∧(cN sz a i k).2.1[j]+(sz (i+j):Int)≤a.1+a.2.1
 |0,_,_,_,_,j,hj=>by simp[cN]at hj
 |k+1,i,a,h,ok,j,hj=>by
  have e:cN sz a i (k+1)=((cN sz (aM a (sz i)).1 (i+1) k).1,(aM a (sz i)).2.1::(cN sz (aM a (sz i)).1 (i+1) k).2.1,(aM a (sz i)).2.2&&(cN sz (aM a (sz i)).1 (i+1) k).2.2):=rfl
  rw[e,ay]at ok
  have hb:=oD a (sz i)
  cases j with
  |zero=>exact DB h _ ok.1
  |succ j=>
   have:=HV sz k (i+1) _ (db h (sz i)) ok.2 j (by rw[cw]at hj⊢;omega)
   rw[hb.1,hb.2]at this
   rw[show i+(j+1)=i+1+j by omega]
   exact this
def pw (o:bM) (l:fe):Prop:=∀i:Nat,i<o.2.2.1.length→∃x:Int,rd (τ:= .int .i64) l.1 (i:Int)=x∧8192≤x∧x+(dZ o i:Int)≤9216∧x%8=0
theorem Ag {t:List dg} {a b:bH} {o:bM} {v:fe×bH×bH×Int} (h:Bs t a b o v) (ha:cy a) (h1:a.1=8192) (h2:a.2.1=1024):pw o v.1:=by
 intro i hi
 rw[h.ats]
 have hl:=cw (dZ o) o.2.2.1.length 0 a
 have hok:=h.ok
 unfold dz at hok
 simp only[ay]at hok
 have:=HV (dZ o) o.2.2.1.length 0 a ha hok.1 i (by rw[hl];exact hi)
 have h8:=h.lnk.fa i hi
 rw[h.ats]at h8
 have e:(rd (τ:= .int .i64) (dz o a b).1.1 (i:Int):Int)=(cN (dZ o) a 0 o.2.2.1.length).2.1[i]'(by rw[hl];exact hi):=aW (τ:= .int .i64) _ i (by show i< (cN (dZ o) a 0 o.2.2.1.length).2.1.length;rw[hl];exact hi)
 have h8':Ky ((cN (dZ o) a 0 o.2.2.1.length).2.1[i]'(by rw[hl];exact hi)):=by rw[←e];exact h8
 rw[Nat.zero_add,h1,h2]at this
 exact⟨_,e,this.1,this.2,h8'.2.2⟩
def nU (x:Int) (n:Int):Prop:=(4096≤x∧x+n≤5120)∨(8192≤x∧x+n≤9216)
theorem nU.page {x n:Int} (h:nU x n):∀y,x≤y→y<x+n→0≤dY BL y:=by
 intro y h1 h2
 rcases h with h|h
 ·exact ug (by omega) (by omega)
 ·exact Af (by omega) (by omega)
theorem nU.range {x n:Int} (h:nU x n):4096≤x∧x+n≤9216:=by
 rcases h with h|h<;>omega
theorem xV {F:Int→Int} (hF:FR F) (a:Int) (t:ByteArray) (h:nU a (t.size:Int)):oR (aK F BL) a t=some (aK (updF F a t) BL)∧yj (aK F BL) a t=some (aK (updF F a t) BL):=by
 have hr:=h.range
 exact⟨xR hF a t ⟨by omega,by omega,by omega⟩ BL JB,nS hF a t (by omega) (by omega) h.page⟩
def oE (F:Int→Int) (a:Int):Int:=F a+256*(F (a+1)+256*(F (a+2)+256*F (a+3)))
def fg (F:Int→Int) (a n:Int):Prop:=∀i:Nat,4*(i:Int)+4≤n→zE (oE F (a+4*(i:Int)))
theorem nV {F:Int→Int} {a x:Int} {t:ByteArray} (h:x+4≤a∨a+(t.size:Int)≤x):oE (updF F a t) x=oE F x:=by
 unfold oE updF
 rw[ap (by omega),ap (by omega),ap (by omega),ap (by omega)]
theorem xW {F:Int→Int} {a:Int} {t:ByteArray} (i:Nat) (h:4*i+4≤t.size):oE (updF F a t) (a+4*(i:Int))=((eZ t (4*i) 4:Nat):Int):=by
 unfold oE updF
 rw[av (by omega),av (by omega),av (by omega),av (by omega)]
 have e:∀k:Nat,bt t (a+4*(i:Int)+(k:Int)-a)=((t.data.getD (4*i+k) 0).toNat:Int):=fun k=>by
  rw[show a+4*(i:Int)+(k:Int)-a=((4*i+k:Nat):Int) by omega,fq]
 have e0:=e 0
 have e1:=e 1
 have e2:=e 2
 have e3:=e 3
 rw[show a+4*(i:Int)+((0:Nat):Int)-a=a+4*(i:Int)-a by omega]at e0
 rw[show a+4*(i:Int)+((1:Nat):Int)-a=a+4*(i:Int)+1-a by omega]at e1
 rw[show a+4*(i:Int)+((2:Nat):Int)-a=a+4*(i:Int)+2-a by omega]at e2
 rw[show a+4*(i:Int)+((3:Nat):Int)-a=a+4*(i:Int)+3-a by omega]at e3
 rw[e0,e1,e2,e3]
 have:eZ t (4*i) 4=(t.data.getD (4*i+0) 0).toNat+256*((t.data.getD (4*i+1) 0).toNat+256*((t.data.getD (4*i+2) 0).toNat+256*((t.data.getD (4*i+3) 0).toNat+256*0))):=rfl
 rw[this]
 omega
theorem fg.out {F:Int→Int} {a n b:Int} {t:ByteArray} (h:fg F a n) (hd:a+n≤b∨b+(t.size:Int)≤a):fg (updF F b t) a n:=fun i hi=>by
 rw[nV (by omega)];exact h i hi
theorem fg.self {F:Int→Int} (a:Int) {t:ByteArray} (h:kX t):fg (updF F a t) a (t.size:Int):=fun i hi=>by
 rw[xW i (by omega)];exact h i (by omega)
theorem fg.head {F:Int→Int} {a n:Int} {t:ByteArray} (h:fg F a n) (ht:t.size=4) (hw:zE ((eZ t 0 4:Nat):Int)):fg (updF F a t) a n:=fun i hi=>by
 rcases Nat.eq_zero_or_pos i with rfl|hp
 ·have:=xW (F:=F) (a:=a) (t:=t) 0 (by omega)
  rw[this];exact hw
 ·rw[nV (by omega)];exact h i hi
theorem HW (d w:Int) (h: -1000000≤d∧d≤1000000) (h4:d%2=0) (e:w9 (3,0,0,0,d)=some w):zE ((eZ (aS (lY w 4)) 0 4:Nat):Int):=by
 have hr:dw (3,0,0,0,d)=true:=by
  unfold dw js
  simp only[show(bG 3).1=2 from rfl]
  simp
  omega
 have hd:=HH _ hr
 have hRg:=(oA hr).2.1
 rw[ep (3,0,0,0,d) (by simp) (by simp) hRg]at e
 have e':=Option.some.inj e
 have er:=kZ (f:=(bG 3).1) (c:=(bG 3).2.1) (f3:=(bG 3).2.2.1) (f7:=(bG 3).2.2.2) (n:=3) (d:=0) (a:=0) (b:=0) (i:=d) (io 3 (by decide) (by decide)) hRg
 have er1:0≤w∧w<4294967296:=by rw[←e'];exact⟨er.1,er.2.1⟩
 have hl:=Jp 4 w [] er1.1 (fun x hx=>by cases hx)
 rw[List.nil_append,List.length_nil]at hl
 rw[hl,show w%256^4=w by omega]
 exact⟨_,by rw[←e'];exact hd⟩
def iC (F:Int→Int) (l:fe):Nat→Nat→(Int→Int)
 |_,0=>F
 |i,k+1=>iC (updF F (rd (τ:= .int .i64) l.1 (i:Int)) (rd (τ:= .str) l.2.1 (i:Int))) l (i+1) k
theorem mZ (l:fe):∀k i F,FR F→FR (iC F l i k)
 |0,_,_,h=>h
 |k+1,i,F,h=>mZ l k (i+1) _ (eD h _ _)
theorem Ah (o:bM) (l:fe) (t:List dg) (hz:ObjSz o) (hl:ft o l) (hp:pw o l) (x8:List (Int×Int)):∀(k i:Nat) (F:Int→Int),FR F→i+k=o.2.2.1.length→
  rY.a t (aK F BL) o l [] x8 (o.2.2.1.length:Int) (i:Int)=rY.b t (aK (iC F l i k) BL) l [] x8 o.2.2.1 (o.2.2.1.length:Int) 0∧
  rT.a t (aK F BL) o l [] (i:Int)=rT.b t (aK (iC F l i k) BL) o l [] [] 0:=by
 have h1:=hz.f
 intro k
 induction k with
 |zero=>
  intro i F hF h
  have:i=o.2.2.1.length:=by omega
  subst this
  rw[rY.a_eq,ah,ak (aA _),ac,rT.a_eq,ah,ak (aA _),ac]
  exact⟨rfl,rfl⟩
 |succ k ih=>
  intro i F hF h
  have hi:i<o.2.2.1.length:=by omega
  obtain⟨x,hx,hpi⟩:=hp i hi
  have hsz:=hl.cs i hi
  obtain⟨p1,p2⟩:=xV hF x (rd (τ:= .str) l.2.1 (i:Int)) (.inr ⟨hpi.1,by rw[hsz];exact hpi.2.1⟩)
  rw[←hx]at p1 p2
  rw[rY.a_eq,ah,aj,aj,ab hi,an i _ hi (by omega),show decide (i<l.1.length)=true from ab (by rw[hl.a];exact hi),show decide (i<l.2.1.length)=true from ab (by rw[hl.c];exact hi),p1,
   rT.a_eq,ah,aj,aj,ab hi,an i _ hi (by omega),show decide (i<l.1.length)=true from ab (by rw[hl.a];exact hi),show decide (i<l.2.1.length)=true from ab (by rw[hl.c];exact hi),p2]
  simp only[ae,af]
  exact ih (i+1) _ (eD hF _ _) (by omega)
def By (t:List dg):Prop:=∀i:Nat,i<t.length→(rd (τ:=ba) t (i:Int)).2.1=1→nU (rd (τ:=ba) t (i:Int)).2.2.1 4
theorem HX (d:Int) (h: -2147483648≤d∧d≤2147483647):∃w,w9 (3,0,0,0,d)=some w∧iE (3,0,0,0,d)=some w:=by
 have hR:fZ (3,0,0,0,d):=⟨⟨by simp,by simp⟩,⟨by simp,by simp⟩,⟨by simp,by simp⟩,⟨by simp only;omega,by simp only;omega⟩⟩
 exact⟨_,ep (3,0,0,0,d) (by simp) (by simp) hR,f6 (3,0,0,0,d) (by simp) (by simp) hR fun h=>by have h':(bG 3).1=1:=h;exact absurd h' (by decide)⟩
theorem Ai (o:bM) (l:fe) (t:List dg) (ht:t.length≤64) (hz:ObjSz o) (hl:ft o l) (hp:pw o l) (hf:By t) (hn:∀i:Nat,i<o.2.2.1.length→(rd (τ:=aP) o.2.2.1 (i:Int)).2.1=true→0≤cz t (rd (τ:=aP) o.2.2.1 (i:Int)).1∧(rd (τ:=ba) t (cz t (rd (τ:=aP) o.2.2.1 (i:Int)).1)).2.1=1)
  (h4:∀i:Nat,i<t.length→(rd (τ:=ba) t (i:Int)).2.1=1→∃x:Int,(rd (τ:=ba) t (i:Int)).2.2.1=x∧x%4=0)
  (I:(Int→Int)→Prop) (hI:∀(F:Int→Int) (q:Nat) (b:ByteArray),I F→q<t.length→(rd (τ:=ba) t (q:Int)).2.1=1→b.size=4→zE ((eZ b 0 4:Nat):Int)→I (updF F (rd (τ:=ba) t (q:Int)).2.2.1 b)):
  ∀(k i:Nat) (F:Int→Int) (sv:List (Int×Int)),FR F→i+k=o.2.2.1.length→sv.length≤i→∃F' sv',FR F'∧(I F→I F')∧sv'.length≤o.2.2.1.length∧
  rY.b t (aK F BL) l [] sv o.2.2.1 (o.2.2.1.length:Int) (i:Int)=some (aK F' BL,sv')∧rT.b t (aK F BL) o l [] sv (i:Int)=some (aK F' BL,sv'):=by
 have h1:=hz.f
 intro k
 induction k with
 |zero=>
  intro i F sv hF h hs
  have:i=o.2.2.1.length:=by omega
  subst this
  rw[rY.b_eq,ah,ak (aA _),ac,rT.b_eq,ah,ak (aA _),ac]
  exact⟨F,sv,hF,fun h=>h,hs,rfl,rfl⟩
 |succ k ih=>
  intro i F sv hF h hs
  have hi:i<o.2.2.1.length:=by omega
  rw[rY.b_eq,ah,aj,ab hi,an i _ hi (by omega),rT.b_eq,ah,ab hi,an i _ hi (by omega)]
  simp only[aj,ab hi,ae]
  cases hr:(rd (τ:=aP) o.2.2.1 (i:Int)).2.1 with
  |false=>exact ih (i+1) F sv hF (by omega) (by omega)
  |true=>
   obtain⟨e1,e2⟩:=hn i hi hr
   have er:=dK t (rd (τ:=aP) o.2.2.1 (i:Int)).1
   rw[(eu t _ (by omega)).1,(eu t _ (by omega)).2]
   simp only[aD,ac,af]
   obtain⟨q,hq⟩:∃q:Nat,cz t (rd (τ:=aP) o.2.2.1 (i:Int)).1=(q:Int):=⟨(cz t (rd (τ:=aP) o.2.2.1 (i:Int)).1).toNat,by omega⟩
   rw[hq]at e2 er⊢
   have hqt:q<t.length:=by omega
   have hat:=hf q hqt e2
   obtain⟨x4,hx4,hx4'⟩:=h4 q hqt e2
   have hIq:=fun(F:Int→Int) (b:ByteArray) (h:I F)=>hI F q b h hqt e2
   obtain⟨at_,hA⟩:∃x:Int,(rd (τ:=ba) t (q:Int)).2.2.1=x:=⟨_,rfl⟩
   rw[hA]at hat hx4 hIq⊢
   subst hx4
   have hr4:=hat.range
   have hg:=hat.page
   obtain⟨to,hT,hpi⟩:=hp i hi
   simp only[hT]
   rw[aj,ab hqt,show decide (i<l.1.length)=true from ab (by rw[hl.a];exact hi)]
   rw[show Bo (aK F BL) at_ 4=some (vh F at_ 4) from Ad hF BL JB at_ 4 (by omega) (by omega) (by omega) hg,show A8 (aK F BL) at_ 4=some (vh F at_ 4) from HM hF BL JB at_ 4 (by omega) (by omega) (by omega) hg]
   have hgz:=Dy F at_ 4
   simp only[ae,af]
   rw[ef _ (by omega),hgz,show su (vh F at_ 4) 0 4=some (IntKind.wrap .i64 (eZ (vh F at_ 4) 0 4)) from fF (vh F at_ 4) 0 4 (by omega) (by omega)]
   simp only[af]
   rw[ju _ (by simp;omega),NA,aT (n:=to-at_) (by omega) (by omega)]
   obtain⟨w,w1,w2⟩:=HX (to-at_) ⟨by omega,by omega⟩
   simp only[ae,af]
   rw[w1,w2]
   simp only[af]
   rw[show ym w 4=some (aS (lY w 4)) from l5 w 4 (by omega),show yk w 4=some (aS (lY w 4)) from kC w 4 (by omega)]
   have hb:(aS (lY w 4)).size=4:=by rw[cm,lZ]
   obtain⟨p1,p2⟩:=xV hF at_ (aS (lY w 4)) (by rw[hb];exact hat)
   simp only[af]
   rw[p1,p2]
   simp only[af]
   have hdw:=HW (to-at_) w ⟨by omega,by omega⟩ (by omega) w1
   obtain⟨G,sv',g1,g2,g3,g4,g5⟩:=ih (i+1) (updF F at_ (aS (lY w 4))) (sv++[_]) (eD hF _ _) (by omega) (by rw[List.length_append];simp only[List.length_cons,List.length_nil];omega)
   exact⟨G,sv',g1,fun h=>g2 (hIq F _ h hb hdw),g3,g4,g5⟩
abbrev Pc:Type:=Int×Int×Int×Int×Int
def uh (s:mL):Int:=bif decide (s.2.1=1)then IntKind.wrap .i64 (4096+s.2.2.1)else IntKind.wrap .i64 (16384+s.2.2.1)
theorem pz (s:mL):NX s=some (uh s)∧Mm s=some (uh s):=by
 rw[zf,Gg]
 unfold uh
 cases decide (s.2.1=1)<;>exact⟨rfl,rfl⟩
def xX (im:gk) (i:Nat):dg:=((rd (τ:=bA) im.2.2 (i:Int)).1,(rd (τ:=bA) im.2.2 (i:Int)).2.1,uh (rd (τ:=bA) im.2.2 (i:Int)),(rd (τ:=bA) im.2.2 (i:Int)).2.2.2.1,(rd (τ:=bA) im.2.2 (i:Int)).2.2.2.2,0)
def l9 (im:gk):List dg:=br (xX im) 0 im.2.2.length
def lb (im:gk):List Pc:=c6 (fun i=>decide ((rd (τ:=bA) im.2.2 (i:Int)).2.1=1)) (fun i=>((i:Int),0,uh (rd (τ:=bA) im.2.2 (i:Int)),(rd (τ:=bA) im.2.2 (i:Int)).2.2.2)) 0 im.2.2.length
theorem DC (im:gk) (hn:im.2.2.length≤16):Fw im=some (l9 im):=by
 rw[OO,cP (L:=fun acc i=>Fw.a acc im.2.2 (im.2.2.length:Int) i) (xX im) im.2.2.length [] fun acc i hi ha=> ?_]
 ·rw[Fw.a_eq,ah,ak (aA _),ac,List.nil_append];rfl
 ·show Fw.a acc im.2.2 (im.2.2.length:Int) (i:Int)=_
  rw[Fw.a_eq,ah,aj,ab hi,an i _ hi (by omega),(pz _).1]
  simp only[ae,af]
  rw[kF _ (by simp at ha⊢;omega)];rfl
theorem DD (im:gk) (hn:im.2.2.length≤16):Fd im=some (l9 im):=by
 rw[MZ,cP (L:=fun acc i=>Fd.a im acc i) (xX im) im.2.2.length [] fun acc i hi ha=> ?_]
 ·rw[Fd.a_eq,ah,ak (aA _),ac,List.nil_append];rfl
 ·show Fd.a im acc (i:Int)=_
  rw[Fd.a_eq,ah,aj,ab hi,an i _ hi (by omega),(pz _).2]
  simp only[ae,af]
  rw[kF _ (by simp at ha⊢;omega)];rfl
theorem DE (im:gk) (hn:im.2.2.length≤16):Dh im=some (lb im):=by
 rw[OP,dL (L:=fun acc i=>Dh.a acc im.2.2 (im.2.2.length:Int) i) (fun i=>decide ((rd (τ:=bA) im.2.2 (i:Int)).2.1=1)) (fun i=>(((i:Int),0,uh (rd (τ:=bA) im.2.2 (i:Int)),(rd (τ:=bA) im.2.2 (i:Int)).2.2.2):Pc)) im.2.2.length [] fun acc i hi ha=> ?_]
 ·rw[Dh.a_eq,ah,ak (aA _),ac,List.nil_append];rfl
 ·show Dh.a acc im.2.2 (im.2.2.length:Int) (i:Int)=_
  rw[Dh.a_eq,ah,aj,ab hi,an i _ hi (by omega),(pz _).1]
  simp only[ae,af]
  rw[rq _ (by simp at ha⊢;omega)]
  cases decide ((rd (τ:=bA) im.2.2 (i:Int)).2.1=1)<;>rfl
theorem DF (im:gk) (hn:im.2.2.length≤16):Cu im=some (lb im):=by
 rw[M0,dL (L:=fun acc i=>Cu.a im acc i) (fun i=>decide ((rd (τ:=bA) im.2.2 (i:Int)).2.1=1)) (fun i=>(((i:Int),0,uh (rd (τ:=bA) im.2.2 (i:Int)),(rd (τ:=bA) im.2.2 (i:Int)).2.2.2):Pc)) im.2.2.length [] fun acc i hi ha=> ?_]
 ·rw[Cu.a_eq,ah,ak (aA _),ac,List.nil_append];rfl
 ·show Cu.a im acc (i:Int)=_
  rw[Cu.a_eq,ah,aj,ab hi,an i _ hi (by omega),(pz _).2]
  simp only[ae,af]
  rw[rq _ (by simp at ha⊢;omega)]
  cases decide ((rd (τ:=bA) im.2.2 (i:Int)).2.1=1)<;>rfl
abbrev Qn:Type:=List dg×List Pc×List eB×bH×bH
abbrev JK:Type:=List dg×bH×bH×List Pc×List eB
theorem JL (im:gk) (hz:ly im):TF im=some ((l9 im,lb im,aK (F0 im) BL,(8192,1024,8192),(20480,256,20480)):Qn)∧Tg im=some ((l9 im,(8192,1024,8192),(20480,256,20480),lb im,aK (F0 im) BL):JK):=by
 rw[OW,M8,DC im hz.n,DD im hz.n,DE im hz.n,DF im hz.n,xT im hz.c hz.d,DA im hz.c hz.d]
 exact⟨rfl,rfl⟩
theorem Bz {n:Nat} (h:bw n=true):20≤n:=by
 unfold bw at h
 cases h1:ct n with
 |false=>rw[h1]at h;cases h
 |true=>rw[h1,ae,aV]at h;omega
theorem qS.sym {im:gk} (h:qS im) (i:Nat) (hi:i<im.2.2.length):qR im (rd (τ:=bA) im.2.2 (i:Int))∧G5 (rd (τ:=bA) im.2.2 (i:Int)):=by
 obtain⟨E,hE,_⟩:=h.chain
 rw[aW (τ:=bA) im.2.2 i hi]
 exact⟨(nH hE i hi).1,h.funs i hi⟩
theorem m4 {im:gk} {s:mL} (hz:ly im) (h:qR im s) (hk:s.2.1=1):uh s=4096+s.2.2.1:=by
 have:=h.func hk;have:=h.at0;have:=h.size;have:=hz.c
 unfold uh
 rw[ab hk,ae,aT (by omega) (by omega)]
theorem JM {im:gk} {s:mL} (hz:ly im) (h:qR im s) (hk:s.2.1=2):uh s=16384+s.2.2.1:=by
 have:=h.data hk;have:=h.at0;have:=h.size;have:=hz.d
 unfold uh
 rw[ak (by omega),ac,aT (by omega) (by omega)]
theorem ru {α:Type} (p:Nat→Bool) (f:Nat→α):∀(k i j:Nat),i≤j→j<i+k→p j=true→f j∈c6 p f i k
 |0,i,j,h1,h2,_=>by omega
 |k+1,i,j,h1,h2,hp=>by
  rw[c6]
  by_cases e:j=i
  ·subst e;rw[hp,ae];exact List.mem_cons_self ..
  ·have:=ru p f k (i+1) j (by omega) (by omega) hp
   cases p i
   ·exact this
   ·exact List.mem_cons_of_mem _ this
theorem oF {α:Type} (p:Nat→Bool) (f:Nat→α) (R:α→α→Prop):∀k i,(∀a b,i≤a→a<b→b<i+k→p a=true→p b=true→R (f a) (f b))→(c6 p f i k).Pairwise R
 |0,_,_=>List.Pairwise.nil
 |k+1,i,h=>by
  have ih:=oF p f R k (i+1) fun a b h1 h2 h3=>h a b (by omega) h2 (by omega)
  rw[c6]
  cases hp:p i with
  |false=>exact ih
  |true=>
   rw[ae]
   refine List.Pairwise.cons (fun x hx=> ?_) ih
   obtain⟨j,h1,h2,hj,rfl⟩:=cE p f x k (i+1) hx
   exact h i j (Nat.le_refl _) (by omega) (by omega) hp hj
structure HY (p:Pc):Prop where
 sy:0≤p.1∧p.1≤63
 pa:0≤p.2.1∧p.2.1≤6
 pc:bU p.2.2.1=true
 sz:p.2.2.2.1%4=0∧20≤p.2.2.2.1∧p.2.2.2.1≤256
 fr:df p.2.2.2.2=true
def nW (p q:Pc):Prop:=p.2.2.1+p.2.2.2.1≤q.2.2.1∨q.2.2.1+q.2.2.2.1≤p.2.2.1
structure ja (P:List Pc) (top:Int):Prop where
 ok:∀p∈P,HY p
 dis:P.Pairwise nW
 ins:∀p∈P,(4096≤p.2.2.1∧p.2.2.1+p.2.2.2.1≤5120)∨(8192≤p.2.2.1∧p.2.2.1+p.2.2.2.1≤top)
theorem xY {n:Nat} (h:bw n=true):n%4=0∧20≤n∧n≤256:=by
 have h2:=Bz h
 unfold bw at h
 cases h1:ct n with
 |false=>rw[h1]at h;cases h
 |true=>have:=dm h1;omega
theorem ma {im:gk} {i:Nat} {s:mL} {e e':Int×Int} (h:eR im i s e=(0,e')):e.1≤e'.1∧(s.2.1=1→s.2.2.1=e.1∧e'.1=s.2.2.1+s.2.2.2.1):=by
 unfold eR at h
 split at h
 ·cases h
 split at h
 ·cases h
 split at h
 ·split at h
  ·rename_i hk hc
   have h2:=(Prod.mk.inj h).2
   rw[←h2]
   exact⟨by show e.1≤s.2.2.1+s.2.2.2.1;omega,fun _=>⟨hc.1,rfl⟩⟩
  ·cases h
 ·rename_i hk
  split at h
  ·split at h
   ·split at h
    ·have h2:=(Prod.mk.inj h).2
     rw[←h2]
     exact⟨Int.le_refl _,fun h=>absurd h hk⟩
    ·cases h
   ·cases h
  ·cases h
theorem Aj {im:gk} {n:Nat} {E:Nat→Int×Int} (h:jt im n E) (hn:n≤im.2.2.length):∀k i,i+k≤n→(E i).1≤(E (i+k)).1:=by
 intro k
 induction k with
 |zero=>intro i _;exact Int.le_refl _
 |succ k ih=>
  intro i hi
  have h1:=(ma (h.2.2 i (by omega) (by omega))).1
  have h2:=ih (i+1) (by omega)
  rw[show i+(k+1)=i+1+k by omega];omega
theorem JN {im:gk} (h:qS im):ja (lb im) 8192:=by
 have hz:=h.sz
 have hc:=hz.c
 have hn:=hz.n
 have one:∀j:Nat,j<im.2.2.length→(rd (τ:=bA) im.2.2 (j:Int)).2.1=1→HY ((j:Int),0,uh (rd (τ:=bA) im.2.2 (j:Int)),(rd (τ:=bA) im.2.2 (j:Int)).2.2.2)∧uh (rd (τ:=bA) im.2.2 (j:Int))=4096+(rd (τ:=bA) im.2.2 (j:Int)).2.2.1∧0≤(rd (τ:=bA) im.2.2 (j:Int)).2.2.1∧(rd (τ:=bA) im.2.2 (j:Int)).2.2.1+(rd (τ:=bA) im.2.2 (j:Int)).2.2.2.1≤(im.1.size:Int):=by
  intro j hj hk
  obtain⟨hS,hG⟩:=h.sym j hj
  obtain⟨s,hs⟩:∃s:mL,rd (τ:=bA) im.2.2 (j:Int)=s:=⟨_,rfl⟩
  rw[hs]at hS hG hk⊢
  obtain⟨g1,g2,g3⟩:=hG hk
  have g4:=xY g3
  have h1:=hS.size
  have e:=m4 hz hS hk
  have g5:s.2.2.2.1%4=0∧20≤s.2.2.2.1∧s.2.2.2.1≤256:=by omega
  exact⟨⟨⟨by simp only;omega,by simp only;omega⟩,⟨by simp only;omega,by simp only;omega⟩,by rw[e];exact g1,g5,g2⟩,e,hS.at0,hS.func hk⟩
 refine⟨fun p hp=> ?_, ?_,fun p hp=> ?_⟩
 ·unfold lb at hp
  obtain⟨j,_,hj,hk,rfl⟩:=cE _ _ _ _ _ hp
  exact(one j (by omega) (of_decide_eq_true hk)).1
 ·unfold lb
  refine oF _ _ _ _ _ fun a b _ hab hb ha hbk=> ?_
  have hb':b<im.2.2.length:=by omega
  have ha':a<im.2.2.length:=by omega
  have ka:=of_decide_eq_true ha
  have kb:=of_decide_eq_true hbk
  obtain⟨E,hE,_⟩:=h.chain
  have sa:=(ma (hE.2.2 a ha' ha')).2
  have sb:=(ma (hE.2.2 b hb' hb')).2
  rw[←aW (τ:=bA) im.2.2 a ha']at sa
  rw[←aW (τ:=bA) im.2.2 b hb']at sb
  have m:=Aj hE (Nat.le_refl _) (b-(a+1)) (a+1) (by omega)
  rw[show a+1+(b-(a+1))=b by omega]at m
  have ea:=(one a ha' ka).2.1
  have eb:=(one b hb' kb).2.1
  have sa':=(sa ka).2
  have sb':=(sb kb).1
  left
  show uh (rd (τ:=bA) im.2.2 (a:Int))+(rd (τ:=bA) im.2.2 (a:Int)).2.2.2.1≤uh (rd (τ:=bA) im.2.2 (b:Int))
  omega
 ·unfold lb at hp
  obtain⟨j,_,hj,hk,rfl⟩:=cE _ _ _ _ _ hp
  obtain⟨_,e,e0,e1⟩:=one j (by omega) (of_decide_eq_true hk)
  left
  show 4096≤uh (rd (τ:=bA) im.2.2 (j:Int))∧uh (rd (τ:=bA) im.2.2 (j:Int))+(rd (τ:=bA) im.2.2 (j:Int)).2.2.2.1≤5120
  generalize (rd (τ:=bA) im.2.2 (j:Int))=s at e e0 e1⊢
  rw[e]
  obtain⟨x,hx⟩:∃x:Int,s.2.2.1=x:=⟨_,rfl⟩
  obtain⟨y,hy⟩:∃y:Int,s.2.2.2.1=y:=⟨_,rfl⟩
  have e0':(0:Int)≤x:=by rw[←hx];exact e0
  have e1':x+y≤(im.1.size:Int):=by rw[←hx,←hy];exact e1
  show 4096≤4096+s.2.2.1∧4096+s.2.2.1+s.2.2.2.1≤5120
  rw[hx,hy]
  show(4096:Int)≤4096+x∧(4096:Int)+x+y≤5120
  exact⟨by omega,by omega⟩
def HZ (t:List dg) (P:List Pc):Prop:=∀k:Nat,k<t.length→(rd (τ:=ba) t (k:Int)).2.1=1→∃p∈P,p.1=(k:Int)∧p.2.2.1=(rd (τ:=ba) t (k:Int)).2.2.1
theorem H0 {im:gk}:HZ (l9 im) (lb im):=by
 intro k hk h1
 unfold l9 at hk h1⊢
 rw[aO]at hk
 rw[pr (τ:=ba) (xX im) _ _ hk]at h1⊢
 refine⟨((k:Int),0,uh (rd (τ:=bA) im.2.2 (k:Int)),(rd (τ:=bA) im.2.2 (k:Int)).2.2.2), ?_,rfl,rfl⟩
 unfold lb
 have hk1:(rd (τ:=bA) im.2.2 (k:Int)).2.1=1:=h1
 exact ru (fun i=>decide ((rd (τ:=bA) im.2.2 (i:Int)).2.1=1)) (fun i=>((i:Int),0,uh (rd (τ:=bA) im.2.2 (i:Int)),(rd (τ:=bA) im.2.2 (i:Int)).2.2.2)) _ _ k (Nat.zero_le _) (by omega) (ab hk1)
theorem DG {im:gk} (h:qS im):∀p∈lb im,fg (F0 im) p.2.2.1 p.2.2.2.1:=by
 intro p hp
 have hz:=h.sz
 have hc:=hz.c
 unfold lb at hp
 obtain⟨j,_,hj,hk,rfl⟩:=cE _ _ _ _ _ hp
 have hj':j<im.2.2.length:=by omega
 have hk':=of_decide_eq_true hk
 have hL:=h.lin j hj'
 rw[←aW (τ:=bA) im.2.2 j hj']at hL
 obtain⟨hS,hG⟩:=h.sym j hj'
 have e:=m4 hz hS hk'
 have h0:=hS.at0
 have h1:=hS.size
 have hf:=hS.func hk'
 have hL':=hL hk'
 obtain⟨s,hs⟩:∃s:mL,rd (τ:=bA) im.2.2 (j:Int)=s:=⟨_,rfl⟩
 rw[hs]at e h0 h1 hf hL'⊢
 obtain⟨nm,kd,off,sz,fr⟩:=s
 simp only at e h0 h1 hf hL'⊢
 rw[e]
 obtain⟨x,rfl⟩:∃x:Nat,off=(x:Int):=⟨off.toNat,by omega⟩
 obtain⟨y,rfl⟩:∃y:Nat,sz=(y:Int):=⟨sz.toNat,by omega⟩
 have hb:((x:Int)).toNat=x:=aC x
 have he:((x:Int)+(y:Int)).toNat=x+y:=by omega
 rw[hb,he]at hL'
 have hsz:(im.1.extract x (x+y)).size=y:=by rw[ByteArray.size_extract];omega
 intro i hi
 have hd:=hL' i (by omega)
 rw[fR im.1 x (x+y) (by omega) 4 (4*i) (by omega)]at hd
 have:oE (F0 im) (4096+(x:Int)+4*(i:Int))=((eZ im.1 (x+4*i) 4:Nat):Int):=by
  unfold F0
  rw[nV (by omega)]
  unfold lC oE updF
  rw[av (by omega),av (by omega),av (by omega),av (by omega)]
  have e:∀k:Nat,bt im.1 (4096+(x:Int)+4*(i:Int)+(k:Int)-4096)=((im.1.data.getD (x+4*i+k) 0).toNat:Int):=fun k=>by
   rw[show 4096+(x:Int)+4*(i:Int)+(k:Int)-4096=((x+4*i+k:Nat):Int) by omega,fq]
  have e0:=e 0
  have e1:=e 1
  have e2:=e 2
  have e3:=e 3
  rw[show 4096+(x:Int)+4*(i:Int)+((0:Nat):Int)-4096=4096+(x:Int)+4*(i:Int)-4096 by omega]at e0
  rw[show 4096+(x:Int)+4*(i:Int)+((1:Nat):Int)-4096=4096+(x:Int)+4*(i:Int)+1-4096 by omega]at e1
  rw[show 4096+(x:Int)+4*(i:Int)+((2:Nat):Int)-4096=4096+(x:Int)+4*(i:Int)+2-4096 by omega]at e2
  rw[show 4096+(x:Int)+4*(i:Int)+((3:Nat):Int)-4096=4096+(x:Int)+4*(i:Int)+3-4096 by omega]at e3
  rw[e0,e1,e2,e3]
  have:eZ im.1 (x+4*i) 4=(im.1.data.getD (x+4*i+0) 0).toNat+256*((im.1.data.getD (x+4*i+1) 0).toNat+256*((im.1.data.getD (x+4*i+2) 0).toNat+256*((im.1.data.getD (x+4*i+3) 0).toNat+256*0))):=rfl
  rw[this]
  omega
 rw[this]
 exact hd
structure xZ (n:Nat) (t:List dg) (P:List Pc) (F:Int→Int) (a b:bH):Prop where
 tab:rp t
 len:t.length≤16+8*n
 fin:By t
 pl:P.length≤16+4*n
 fr:FR F
 aR:cy a
 a1:a.1=8192
 a2:a.2.1=1024
 bR:cy b
 pcs:∀p∈P,0≤p.1∧p.1< (t.length:Int)∧0≤p.2.2.1∧p.2.2.1≤1048575∧1≤p.2.2.2.1∧p.2.2.2.1≤1024∧0≤p.2.1∧p.2.1≤6
 pk:ja P a.2.2
 hs:HZ t P
 cd:∀p∈P,fg F p.2.2.1 p.2.2.2.1
theorem JO {im:gk} (h:qS im):xZ 0 (l9 im) (lb im) (F0 im) (8192,1024,8192) (20480,256,20480):=by
 have hz:=h.sz
 have hn:=hz.n
 have hc:=hz.c
 have hd:=hz.d
 refine⟨⟨by unfold l9;rw[aO];omega,fun e he=> ?_, ?_⟩,by unfold l9;rw[aO];omega,fun i hi hk=> ?_, ?_,rn im,⟨⟨by decide,by decide,by decide⟩,⟨by decide,by decide,by decide⟩,by decide,by decide,by decide⟩,rfl,rfl,⟨⟨by decide,by decide,by decide⟩,⟨by decide,by decide,by decide⟩,by decide,by decide,by decide⟩,fun p hp=> ?_,JN h,H0,DG h⟩
 ·unfold l9 at he
  obtain⟨i,_,hi,rfl⟩:=(b9 _ _ _ _).1 he
  obtain⟨hS,hG⟩:=h.sym i (by omega)
  unfold xX
  obtain⟨s,hs⟩:∃s:mL,rd (τ:=bA) im.2.2 (i:Int)=s:=⟨_,rfl⟩
  rw[hs]at hS hG⊢
  have h0:=hS.at0
  have h1:=hS.size
  unfold dh
  simp only
  rw[hS.name]
  rcases hS.kind with hk|hk
  ·obtain⟨g1,g2,g3⟩:=hG hk
   have hf:=hS.func hk
   rw[m4 hz hS hk,g1,bm.2 (show 1≤s.2.2.2.1∧s.2.2.2.1≤1024 by omega)]
   unfold xu
   rw[ab hk,g2];rfl
  ·have hf:=hS.data hk
   rw[JM hz hS hk,bm.2 (show 1≤s.2.2.2.1∧s.2.2.2.1≤1024 by omega)]
   have hcode:bU (16384+s.2.2.1)=true:=by
    unfold bU
    rw[show(decide (0≤16384+s.2.2.1)&&decide (16384+s.2.2.1≤1048575))=true by simp;omega,ae,aV,Int.tmod_eq_emod_of_nonneg (by omega)];omega
   rw[hcode]
   unfold xu
   rw[ab hk,ab hf.2.2.2,ak (show¬s.2.1=1 by omega)];rfl
 ·unfold l9
  refine k7 _ _ _ _ fun a b _ hab hb=> ?_
  obtain⟨E,hE,_⟩:=h.chain
  have:=(nH hE b (by omega)).2
  intro e
  unfold xX at e
  simp only at e
  rw[aW (τ:=bA) im.2.2 a (by omega),aW (τ:=bA) im.2.2 b (by omega)]at e
  unfold lX at this
  have h2:(im.2.2.take b).any (fun y=>decide (y.1=(im.2.2[b]'(by omega)).1))=true:=List.any_eq_true.2 ⟨im.2.2[a]'(by omega),List.mem_take_iff_getElem.2 ⟨a,by omega,rfl⟩,ab e⟩
  rw[h2]at this
  cases this
 ·unfold l9 at hi hk⊢
  rw[aO]at hi
  rw[pr (τ:=ba) (xX im) _ _ hi]at hk⊢
  obtain⟨hS,hG⟩:=h.sym i hi
  unfold xX at hk⊢
  simp only at hk⊢
  obtain⟨s,hs⟩:∃s:mL,rd (τ:=bA) im.2.2 (i:Int)=s:=⟨_,rfl⟩
  rw[hs]at hS hG hk⊢
  have h0:=hS.at0
  have h1:=hS.size
  have hf:=hS.func hk
  have h20:=Bz (hG hk).2.2
  rw[m4 hz hS hk]
  exact .inl ⟨by omega,by omega⟩
 ·unfold lb
  have:=cB (fun i=>decide ((rd (τ:=bA) im.2.2 (i:Int)).2.1=1)) (fun i=>(((i:Int),0,uh (rd (τ:=bA) im.2.2 (i:Int)),(rd (τ:=bA) im.2.2 (i:Int)).2.2.2):Pc)) im.2.2.length 0
  omega
 ·unfold lb at hp
  obtain⟨j,_,hj,hk,rfl⟩:=cE _ _ _ _ _ hp
  have hj':j<im.2.2.length:=by omega
  obtain⟨hS,hG⟩:=h.sym j hj'
  have hk':=of_decide_eq_true hk
  obtain⟨s,hs⟩:∃s:mL,rd (τ:=bA) im.2.2 (j:Int)=s:=⟨_,rfl⟩
  simp only[hs]at hS hG hk'⊢
  have h0:=hS.at0
  have h1:=hS.size
  have hf:=hS.func hk'
  rw[m4 hz hS hk']
  have hl:(l9 im).length=im.2.2.length:=by unfold l9;rw[aO]
  rw[hl]
  refine⟨by omega,by omega,by omega,by omega,h1,by omega⟩
def yn (t:List dg) (o:bM) (l:fe) (owner:Int) (i:Nat):Pc:=(cz t (rd (τ:=aP) o.2.2.1 (i:Int)).1,owner,rd (τ:= .int .i64) l.1 (i:Int),(dZ o i:Int),(rd (τ:=aP) o.2.2.1 (i:Int)).2.2.1)
theorem H1 {t u:List dg} {n:ByteArray} (h:0≤cz t n):cz (t++u) n=cz t n∧rd (τ:=ba) (t++u) (cz t n)=rd (τ:=ba) t (cz t n):=by
 have hrd:∀i:Nat,i<t.length→rd (τ:=ba) (t++u) (i:Int)=rd (τ:=ba) t (i:Int):=fun i hi=>by
  rw[aW (τ:=ba) (t++u) i (by rw[List.length_append];omega),aW (τ:=ba) t i hi,List.getElem_append_left hi]
 unfold cz at h⊢
 rcases cg (fun i=>decide ((rd (τ:=ba) t (i:Int)).1=n)) t.length 0 with⟨h1,h2⟩|⟨j,h1,h2,h3,h4,h5⟩
 ·rw[h1]at h;exact absurd h (by decide)
 ·rw[h1]
  rcases cg (fun i=>decide ((rd (τ:=ba) (t++u) (i:Int)).1=n)) (t++u).length 0 with⟨g1,g2⟩|⟨k,g1,g2,g3,g4,g5⟩
  ·have:=g2 j (Nat.zero_le _) (by rw[List.length_append];omega)
   rw[hrd j (by omega),h4]at this;cases this
  ·have:k=j:=by
    rcases Nat.lt_trichotomy k j with c|c|c
    ·have:=h5 k (Nat.zero_le _) c
     rw[hrd k (by omega)]at g4
     rw[this]at g4;cases g4
    ·exact c
    ·have:=g5 j (Nat.zero_le _) c
     rw[hrd j (by omega),h4]at this;cases this
   rw[g1,this]
   exact⟨rfl,hrd j (by omega)⟩
theorem H3 {t:List dg} {o:bM} {l:fe} {owner:Int} (hf:By t) (ho:eh o) (hp:pw o l):By (eV t o l owner):=by
 intro i hi hk
 have hm:=au (τ:=ba) (eV t o l owner) i hi
 generalize rd (τ:=ba) (eV t o l owner) (i:Int)=e at*
 unfold eV at hm
 rcases List.mem_append.1 hm with hm|hm
 ·rcases List.mem_append.1 hm with hm|hm
  ·obtain⟨j,hj,rfl⟩:=vm (τ:=ba) hm
   exact hf j hj hk
  ·obtain⟨j,_,hj,_,rfl⟩:=cE _ _ _ _ _ hm
   obtain⟨x,hx,h1,h2,h3⟩:=hp j (by omega)
   have:=ho.fsz_pos j (by omega)
   unfold mX
   simp only[hx]
   exact .inr ⟨h1,by omega⟩
 ·obtain⟨j,_,hj,rfl⟩:=(b9 _ _ _ _).1 hm
  unfold vp at hk
  exact absurd hk (show¬((2:Int)=1) by decide)
theorem H4 (t:List dg) (o:bM) (l:fe) (owner:Int) (ht:t.length≤64) (hz:ObjSz o) (hl:ft o l) (P:List Pc) (hP:P.length≤100) (r:List eB×bH×bH) (x6:fe):
  Bp.a (t,P,r) owner o x6 l o.2.2.1 (o.2.2.1.length:Int) 0=(rY r.1 t o l).bind fun r3=>some (l,r3.2,0,t,P++br (yn t o l owner) 0 o.2.2.1.length,r3.1,r.2):=by
 have h1:=hz.f
 rw[cP (L:=fun acc i=>Bp.a (t,acc,r) owner o x6 l o.2.2.1 (o.2.2.1.length:Int) i) (yn t o l owner) o.2.2.1.length P fun acc i hi ha=> ?_]
 ·rw[Bp.a_eq,ah,ak (aA _),ac]
 ·show Bp.a (t,acc,r) owner o x6 l o.2.2.1 (o.2.2.1.length:Int) (i:Int)=_
  rw[Bp.a_eq,ah,aj,ab hi,an i _ hi (by omega),(eu t _ (by omega)).1]
  simp only[ae,af]
  rw[aj,show decide (i<l.1.length)=true from ab (by rw[hl.a];exact hi),rq _ (by simp;omega)];rfl
theorem H5 (t:List dg) (o:bM) (l:fe) (owner:Int) (ht:t.length≤64) (hz:ObjSz o) (hl:ft o l) (P:List Pc) (hP:P.length≤100) (y:JK) (a b:bH) (x12:JK):
  Cv.a owner y o l a b x12 t P 0=(rT y.2.2.2.2 t o l).bind fun r2=>some ((t,a,b,P++br (yn t o l owner) 0 o.2.2.1.length,r2.1),r2.2):=by
 have h1:=hz.f
 rw[cP (L:=fun acc i=>Cv.a owner y o l a b x12 t acc i) (yn t o l owner) o.2.2.1.length P fun acc i hi ha=> ?_]
 ·rw[Cv.a_eq,ah,ak (aA _),ac]
 ·show Cv.a owner y o l a b x12 t acc (i:Int)=_
  rw[Cv.a_eq,ah,aj,ab hi,an i _ hi (by omega),(eu t _ (by omega)).2]
  simp only[ae,af]
  rw[aj,aj,show decide (i<l.1.length)=true from ab (by rw[hl.a];exact hi),show decide (i<l.2.1.length)=true from ab (by rw[hl.c];exact hi),hl.cs i hi,rq _ (by simp;omega)];rfl
theorem pA (sz:Nat→Nat):∀k i a,cy a→(cN sz a i k).2.2=true→
  a.2.2≤(cN sz a i k).1.2.2∧(∀j (hj:j< (cN sz a i k).2.1.length),a.2.2≤(cN sz a i k).2.1[j]∧(cN sz a i k).2.1[j]+(sz (i+j):Int)≤(cN sz a i k).1.2.2)∧
  (∀j j' (hj:j<j') (hj':j'< (cN sz a i k).2.1.length),(cN sz a i k).2.1[j]+(sz (i+j):Int)≤(cN sz a i k).2.1[j'])
 |0,_,a,_,_=>⟨Int.le_refl _,fun j hj=>by simp[cN]at hj,fun j j' _ hj=>by simp[cN]at hj⟩
 |k+1,i,a,h,ok=>by
  have e:cN sz a i (k+1)=((cN sz (aM a (sz i)).1 (i+1) k).1,(aM a (sz i)).2.1::(cN sz (aM a (sz i)).1 (i+1) k).2.1,(aM a (sz i)).2.2&&(cN sz (aM a (sz i)).1 (i+1) k).2.2):=rfl
  rw[e,ay]at ok
  obtain⟨h1,h2,h3⟩:=pA sz k (i+1) _ (db h (sz i)) ok.2
  have hp:(aM a (sz i)).2.1=a.2.2∧a.2.2+(sz i:Int)≤(aM a (sz i)).1.2.2:=by
   have:=ok.1
   unfold aM at this⊢
   split at this
   ·cases this
   ·rename_i hc
    rw[ap hc]
    have:sz i≤oP (sz i):=by unfold oP;omega
    exact⟨rfl,by show a.2.2+(sz i:Int)≤a.2.2+(oP (sz i):Int);omega⟩
  refine⟨?_,fun j hj=> ?_,fun j j' hj hj'=> ?_⟩
  ·show a.2.2≤(cN sz (aM a (sz i)).1 (i+1) k).1.2.2
   omega
  ·cases j with
   |zero=>
    show a.2.2≤(aM a (sz i)).2.1∧(aM a (sz i)).2.1+(sz i:Int)≤(cN sz (aM a (sz i)).1 (i+1) k).1.2.2
    omega
   |succ j=>
    have hl:j< (cN sz (aM a (sz i)).1 (i+1) k).2.1.length:=by rw[cw]at hj⊢;omega
    have:=h2 j hl
    rw[show i+1+j=i+(j+1) by omega]at this
    show a.2.2≤(cN sz (aM a (sz i)).1 (i+1) k).2.1[j]∧(cN sz (aM a (sz i)).1 (i+1) k).2.1[j]+(sz (i+(j+1)):Int)≤(cN sz (aM a (sz i)).1 (i+1) k).1.2.2
    omega
  ·cases j' with
   |zero=>omega
   |succ j'=>
    have hl':j'< (cN sz (aM a (sz i)).1 (i+1) k).2.1.length:=by rw[cw]at hj'⊢;omega
    cases j with
    |zero=>
     have:=h2 j' hl'
     show(aM a (sz i)).2.1+(sz i:Int)≤(cN sz (aM a (sz i)).1 (i+1) k).2.1[j']
     omega
    |succ j=>
     have:=h3 j j' (by omega) hl'
     rw[show i+1+j=i+(j+1) by omega]at this
     exact this
theorem JP {t T:List dg} {P:List Pc} {a b:bH} {o:bM} {v:fe×bH×bH×Int} (hP:ja P a.2.2) (h:Bs t a b o v) (ho:eh o) (ha:cy a) (h1:a.1=8192) (owner:Int) (how:1≤owner∧owner≤6) (hT:T.length≤64)
  (hs:∀i:Nat,i<o.2.2.1.length→0≤cz T (rd (τ:=aP) o.2.2.1 (i:Int)).1):ja (P++br (yn T o v.1 owner) 0 o.2.2.1.length) v.2.1.2.2:=by
 have hok:=h.ok
 unfold dz at hok
 simp only[ay]at hok
 have hl:=cw (dZ o) o.2.2.1.length 0 a
 obtain⟨p1,p2,p3⟩:=pA (dZ o) o.2.2.1.length 0 a ha hok.1
 have e0:v.2.1=(cN (dZ o) a 0 o.2.2.1.length).1:=h.ea
 rw[e0]
 have at_:∀i (hi:i<o.2.2.1.length),(rd (τ:= .int .i64) v.1.1 (i:Int):Int)=(cN (dZ o) a 0 o.2.2.1.length).2.1[i]'(by rw[hl];exact hi):=fun i hi=>by
  rw[h.ats]
  exact aW (τ:= .int .i64) _ i (by show i< (cN (dZ o) a 0 o.2.2.1.length).2.1.length;rw[hl];exact hi)
 have hbase:=(mY (dZ o) o.2.2.1.length 0 a)
 have htop:=ha.top
 have one:∀i,i<o.2.2.1.length→HY (yn T o v.1 owner i)∧a.2.2≤(yn T o v.1 owner i).2.2.1∧(yn T o v.1 owner i).2.2.1+(yn T o v.1 owner i).2.2.2.1≤(cN (dZ o) a 0 o.2.2.1.length).1.2.2:=by
  intro i hi
  obtain⟨f1,f2,f3,f4⟩:=i6 (ho.fun_ i hi)
  have g4:=xY f4
  have q:=p2 i (by rw[hl];exact hi)
  rw[←at_ i hi,Nat.zero_add]at q
  have her:=dK T (rd (τ:=aP) o.2.2.1 (i:Int)).1
  have h0:=hs i hi
  unfold yn
  refine⟨⟨⟨h0,by simp only;omega⟩,⟨by simp only;omega,by simp only;omega⟩, ?_, ?_,f3⟩,q.1,q.2⟩
  ·exact nT (h.lnk.fa i hi)
  ·show(dZ o i:Int)%4=0∧20≤(dZ o i:Int)∧(dZ o i:Int)≤256
   unfold dZ
   omega
 refine⟨fun p hp=> ?_, ?_,fun p hp=> ?_⟩
 ·rcases List.mem_append.1 hp with hp|hp
  ·exact hP.ok p hp
  ·obtain⟨j,_,hj,rfl⟩:=(b9 _ _ _ _).1 hp
   exact(one j (by omega)).1
 ·rw[List.pairwise_append]
  refine⟨hP.dis,k7 _ _ _ _ fun x y _ hxy hy=> ?_,fun p hp q hq=> ?_⟩
  ·left
   have q:=p3 x y hxy (by rw[hl];omega)
   rw[←at_ x (by omega),←at_ y (by omega),Nat.zero_add]at q
   exact q
  ·obtain⟨j,_,hj,rfl⟩:=(b9 _ _ _ _).1 hq
   have:=(one j (by omega)).2.1
   left
   rcases hP.ins p hp with g|g<;>omega
 ·rcases List.mem_append.1 hp with hp|hp
  ·rcases hP.ins p hp with g|g
   ·exact .inl g
   ·exact .inr (by omega)
  ·obtain⟨j,_,hj,rfl⟩:=(b9 _ _ _ _).1 hp
   have:=(one j (by omega)).2
   exact .inr (by omega)
theorem ja.pair {P:List Pc} {top:Int} (h:ja P top) {p q:Pc} (hp:p∈P) (hq:q∈P):p=q∨nW p q:=by
 obtain⟨i,hi,rfl⟩:=List.getElem_of_mem hp
 obtain⟨j,hj,rfl⟩:=List.getElem_of_mem hq
 rcases Nat.lt_trichotomy i j with c|c|c
 ·exact .inr (List.pairwise_iff_getElem.1 h.dis i j hi hj c)
 ·subst c;exact .inl rfl
 ·have:=List.pairwise_iff_getElem.1 h.dis j i hj hi c
  unfold nW at this⊢
  exact .inr (this.elim .inr .inl)
theorem kG (l:fe):∀(k i:Nat) (F:Int→Int) (a n:Int),(∀j:Nat,i≤j→j<i+k→a+n≤(rd (τ:= .int .i64) l.1 (j:Int):Int)∨(rd (τ:= .int .i64) l.1 (j:Int):Int)+((rd (τ:= .str) l.2.1 (j:Int)).size:Int)≤a)→fg F a n→fg (iC F l i k) a n
 |0,_,_,_,_,_,h=>h
 |k+1,i,F,a,n,hd,h=>by
  rw[iC]
  refine kG l k (i+1) _ a n (fun j h1 h2=>hd j (by omega) (by omega)) ?_
  exact h.out (hd i (Nat.le_refl _) (by omega))
theorem rv (l:fe):∀(k i:Nat) (F:Int→Int),(∀j:Nat,i≤j→j<i+k→kX (rd (τ:= .str) l.2.1 (j:Int)))→(∀j j':Nat,i≤j→j<j'→j'<i+k→(rd (τ:= .int .i64) l.1 (j:Int):Int)+((rd (τ:= .str) l.2.1 (j:Int)).size:Int)≤(rd (τ:= .int .i64) l.1 (j':Int):Int))→
  ∀j:Nat,i≤j→j<i+k→fg (iC F l i k) (rd (τ:= .int .i64) l.1 (j:Int)) ((rd (τ:= .str) l.2.1 (j:Int)).size:Int)
 |0,i,_,_,_,j,h1,h2=>by omega
 |k+1,i,F,hc,hd,j,h1,h2=>by
  rw[iC]
  rcases Nat.lt_or_ge i j with hj|hj
  ·exact rv l k (i+1) _ (fun j h1 h2=>hc j (by omega) (by omega)) (fun j j' h1 h2 h3=>hd j j' (by omega) h2 (by omega)) j hj (by omega)
  ·obtain rfl:j=i:=by omega
   exact kG l k (j+1) _ _ _ (fun j' h1 h2=> .inl (hd j j' (Nat.le_refl _) h1 (by omega))) (fg.self _ (hc j (Nat.le_refl _) (by omega)))
theorem JQ {T:List dg} (h:rp T) (k:Nat) (hk:k<T.length):cz T (rd (τ:=ba) T (k:Int)).1=(k:Int):=by
 unfold cz
 rcases cg (fun i=>decide ((rd (τ:=ba) T (i:Int)).1=(rd (τ:=ba) T (k:Int)).1)) T.length 0 with⟨_,h2⟩|⟨j,h1,_,h3,h4,h5⟩
 ·have:=h2 k (Nat.zero_le _) (by omega)
  rw[ab rfl]at this;cases this
 ·rw[h1]
  have hjl:j<T.length:=by omega
  have e:=of_decide_eq_true h4
  rcases Nat.lt_trichotomy j k with c|c|c
  ·have:=List.pairwise_iff_getElem.1 h.dis j k hjl hk c
   rw[aW (τ:=ba) T j hjl,aW (τ:=ba) T k hk]at e
   exact absurd e this
  ·rw[c]
  ·have:=h5 k (Nat.zero_le _) c
   rw[ab rfl]at this;cases this
theorem JR {τ:Ty} (A B:List τ.den) (k:Nat) (h:k<A.length):rd (τ:=τ) (A++B) (k:Int)=rd (τ:=τ) A (k:Int):=by
 rw[aW (τ:=τ) (A++B) k (by rw[List.length_append];omega),aW (τ:=τ) A k h,List.getElem_append_left h]
theorem JS {τ:Ty} (A B:List τ.den) (k:Nat) (h:k< (A++B).length) (h':A.length≤k):rd (τ:=τ) (A++B) (k:Int)∈B:=by
 rw[aW (τ:=τ) (A++B) k h,List.getElem_append_right h']
 exact List.getElem_mem _
theorem JT {t:List dg} {P:List Pc} {o:bM} {l:fe} {owner:Int} (h:HZ t P) (hT:rp (eV t o l owner)):HZ (eV t o l owner) (P++br (yn (eV t o l owner) o l owner) 0 o.2.2.1.length):=by
 intro k hk h1
 rcases Nat.lt_or_ge k t.length with hlt|hge
 ·have e:rd (τ:=ba) (eV t o l owner) (k:Int)=rd (τ:=ba) t (k:Int):=by
   unfold eV
   rw[bn]
   exact JR (τ:=ba) t _ k hlt
  rw[e]at h1⊢
  obtain⟨p,p1,p2,p3⟩:=h k hlt h1
  exact⟨p,List.mem_append_left _ p1,p2,p3⟩
 ·have hm:rd (τ:=ba) (eV t o l owner) (k:Int)∈c6 (fun i=> !(rd (τ:=aP) o.2.2.1 (i:Int)).2.1) (mX o l owner) 0 o.2.2.1.length++br (vp o l owner) 0 o.2.2.2.1.length:=by
   have e:eV t o l owner=t++(c6 (fun i=> !(rd (τ:=aP) o.2.2.1 (i:Int)).2.1) (mX o l owner) 0 o.2.2.1.length++br (vp o l owner) 0 o.2.2.2.1.length):=by unfold eV;rw[bn]
   have hk':=hk
   rw[e]at hk'⊢
   exact JS (τ:=ba) t _ k hk' hge
  have hat:=JQ hT k hk
  generalize hE:rd (τ:=ba) (eV t o l owner) (k:Int)=e at hm h1 hat⊢
  rcases List.mem_append.1 hm with hm|hm
  ·obtain⟨j,_,hj,_,rfl⟩:=cE _ _ _ _ _ hm
   refine⟨yn (eV t o l owner) o l owner j,List.mem_append_right _ ((b9 _ _ _ _).2 ⟨j,Nat.zero_le _,hj,rfl⟩),hat,rfl⟩
  ·obtain⟨j,_,hj,rfl⟩:=(b9 _ _ _ _).1 hm
   unfold vp at h1
   exact absurd h1 (show¬((2:Int)=1) by decide)
theorem DH {T:List dg} {P:List Pc} {top:Int} (hP:ja P top) (hH:HZ T P) (F:Int→Int) (q:Nat) (b:ByteArray) (hF:∀p∈P,fg F p.2.2.1 p.2.2.2.1) (hq:q<T.length) (h1:(rd (τ:=ba) T (q:Int)).2.1=1) (hb:b.size=4) (hd:zE ((eZ b 0 4:Nat):Int)):
  ∀p∈P,fg (updF F (rd (τ:=ba) T (q:Int)).2.2.1 b) p.2.2.1 p.2.2.2.1:=by
 intro p hp
 obtain⟨p0,m0,_,e0⟩:=hH q hq h1
 rw[←e0]
 rcases hP.pair hp m0 with rfl|g
 ·exact(hF p hp).head hb hd
 ·have hz:=(hP.ok p0 m0).sz
  refine(hF p hp).out ?_
  unfold nW at g
  omega
theorem Qo {T:List dg} (h:rp T) (i:Nat) (hi:i<T.length):∃x:Int,(rd (τ:=ba) T (i:Int)).2.2.1=x∧x%4=0:=by
 have h1:=h.ent _ (au (τ:=ba) T i hi)
 generalize rd (τ:=ba) T (i:Int)=e at h1
 refine⟨e.2.2.1,rfl, ?_⟩
 unfold dh at h1
 cases h2:cx e.1 with
 |false=>rw[h2]at h1;cases h1
 |true=>
  rw[h2,ae]at h1
  cases h3:bU e.2.2.1 with
  |false=>rw[h3]at h1;cases h1
  |true=>
   have hr:=fG h3
   unfold bU at h3
   rw[show(decide (0≤e.2.2.1)&&decide (e.2.2.1≤1048575))=true by simp;omega,ae,aV,Int.tmod_eq_emod_of_nonneg hr.1]at h3
   exact h3
theorem H6 (n:Nat) (hn:n≤5) (t:List dg) (P:List Pc) (F:Int→Int) (a b:bH) (hL:xZ n t P F a b) (o:bM) (hr:tZ o) (ho:oO o=true):
  ∃v,gT t a b o=some v∧(v.2.2.2≠0→∃x,Bp (t,P,aK F BL,a,b) o ((n+1:Nat):Int)=some (x,[],v.2.2.2,(t,P,aK F BL,a,b)))∧
   (v.2.2.2=0→∃(t':List dg) (P':List Pc) (F':Int→Int) (sv:List (Int×Int)),sv.length≤4∧xZ (n+1) t' P' F' v.2.1 v.2.2.1∧ft o v.1∧
    Bp (t,P,aK F BL,a,b) o ((n+1:Nat):Int)=some (v.1,sv,0,(t',P',aK F' BL,v.2.1,v.2.2.1))∧
    Cv (t,a,b,P,aK F BL) o v.1 v.2.1 v.2.2.1 ((n+1:Nat):Int)=some ((t',v.2.1,v.2.2.1,P',aK F' BL),sv)):=by
 have hO:=mT ho
 have hlen:=hL.len
 have hpl:=hL.pl
 have htab:=xU.2 hL.tab
 obtain⟨v,e1,e2,e3⟩:=Du t a b o hr htab hL.aR hL.bR ho
 refine⟨v,e2,fun hv=> ?_,fun hv=> ?_⟩
 ·rw[Hq]
  simp only
  rw[e1]
  simp only[af]
  rw[ak hv]
  exact⟨_,rfl⟩
 ·have hR:=e3 hv
  have hl:=hR.lnk
  have hp:=Ag hR hL.aR hL.a1 hL.a2
  obtain⟨n1,n2⟩:=oB hR.names
  have hT:=JJ (owner:=((n+1:Nat):Int)) hL.tab hO hl hR.names (by omega) (by omega)
  have hTf:=H3 (owner:=((n+1:Nat):Int)) hL.fin hO hp
  have hTl:=oC t o v.1 ((n+1:Nat):Int) hO.toObjSz
  have hTr:∀i:Nat,i<o.2.2.1.length→(rd (τ:=aP) o.2.2.1 (i:Int)).2.1=true→0≤cz (eV t o v.1 ((n+1:Nat):Int)) (rd (τ:=aP) o.2.2.1 (i:Int)).1∧(rd (τ:=ba) (eV t o v.1 ((n+1:Nat):Int)) (cz (eV t o v.1 ((n+1:Nat):Int)) (rd (τ:=aP) o.2.2.1 (i:Int)).1)).2.1=1:=by
   intro i hi hrr
   obtain⟨g1,g2⟩:=JH (n1 i hi) hrr
   unfold eV
   rw[bn]
   obtain⟨f1,f2⟩:=H1 (u:=c6 (fun i=> !(rd (τ:=aP) o.2.2.1 (i:Int)).2.1) (mX o v.1 ((n+1:Nat):Int)) 0 o.2.2.1.length++br (vp o v.1 ((n+1:Nat):Int)) 0 o.2.2.2.1.length) g1
   rw[f1,f2];exact⟨g1,g2⟩
  have hHas:=JT (o:=o) (l:=v.1) (owner:=((n+1:Nat):Int)) hL.hs hT
  generalize hTn:eV t o v.1 ((n+1:Nat):Int)=T at*
  have hsy:∀i:Nat,i<o.2.2.1.length→0≤cz T (rd (τ:=aP) o.2.2.1 (i:Int)).1:=by
   intro j hj'
   have hnn:¬cz T (rd (τ:=aP) o.2.2.1 (j:Int)).1<0:=by
    cases hrep:(rd (τ:=aP) o.2.2.1 (j:Int)).2.1 with
    |true=>have:=(hTr j hj' hrep).1;omega
    |false=>
     rw[mW]
     intro hall
     refine hall (mX o v.1 ((n+1:Nat):Int) j) ?_ rfl
     rw[←hTn];unfold eV
     exact List.mem_append_left _ (List.mem_append_right _ (ru _ _ _ _ j (Nat.zero_le _) (by omega) (by rw[hrep];rfl)))
   omega
  have hPk:=JP hL.pk hR hO hL.aR hL.a1 ((n+1:Nat):Int) (by omega) hT.len hsy
  have hCd:∀p∈P++br (yn T o v.1 ((n+1:Nat):Int)) 0 o.2.2.1.length,fg (iC F v.1 0 o.2.2.1.length) p.2.2.1 p.2.2.2.1:=by
   have hap:∀i j:Nat,i<j→j<o.2.2.1.length→(rd (τ:= .int .i64) v.1.1 (i:Int):Int)+(dZ o i:Int)≤(rd (τ:= .int .i64) v.1.1 (j:Int):Int)∧a.2.2≤(rd (τ:= .int .i64) v.1.1 (i:Int):Int):=by
    intro i j hij hj
    have hok:=hR.ok
    unfold dz at hok
    simp only[ay]at hok
    have hlen:=cw (dZ o) o.2.2.1.length 0 a
    obtain⟨_,q2,q3⟩:=pA (dZ o) o.2.2.1.length 0 a hL.aR hok.1
    have at_:∀i (hi:i<o.2.2.1.length),(rd (τ:= .int .i64) v.1.1 (i:Int):Int)=(cN (dZ o) a 0 o.2.2.1.length).2.1[i]'(by rw[hlen];exact hi):=fun i hi=>by
     rw[hR.ats]
     exact aW (τ:= .int .i64) _ i (by show i< (cN (dZ o) a 0 o.2.2.1.length).2.1.length;rw[hlen];exact hi)
    have r3:=q3 i j hij (by rw[hlen];exact hj)
    have r2:=(q2 i (by rw[hlen];omega)).1
    rw[←at_ i (by omega),←at_ j hj,Nat.zero_add]at r3
    rw[←at_ i (by omega)]at r2
    exact⟨r3,r2⟩
   have htop:∀i:Nat,i<o.2.2.1.length→a.2.2≤(rd (τ:= .int .i64) v.1.1 (i:Int):Int):=by
    intro i hi
    have hok:=hR.ok
    unfold dz at hok
    simp only[ay]at hok
    have hlen:=cw (dZ o) o.2.2.1.length 0 a
    obtain⟨_,q2,_⟩:=pA (dZ o) o.2.2.1.length 0 a hL.aR hok.1
    have r2:=(q2 i (by rw[hlen];omega)).1
    have at_:(rd (τ:= .int .i64) v.1.1 (i:Int):Int)=(cN (dZ o) a 0 o.2.2.1.length).2.1[i]'(by rw[hlen];exact hi):=by
     rw[hR.ats]
     exact aW (τ:= .int .i64) _ i (by show i< (cN (dZ o) a 0 o.2.2.1.length).2.1.length;rw[hlen];exact hi)
    rw[←at_]at r2;exact r2
   have hcs:=hl.cs
   intro p hp
   rcases List.mem_append.1 hp with hp|hp
   ·refine kG v.1 o.2.2.1.length 0 F _ _ (fun j _ h2=> .inl ?_) (hL.cd p hp)
    have h3:=htop j (by omega)
    have h4:=hL.aR.top
    rcases hL.pk.ins p hp with g|g
    ·have:=hL.a1;omega
    ·omega
   ·obtain⟨j,_,hj,rfl⟩:=(b9 _ _ _ _).1 hp
    have:=rv v.1 o.2.2.1.length 0 F (fun j _ h2=>hR.dec j (by omega)) (fun i j _ h2 h3=>by
     rw[hcs i (by omega)]
     exact(hap i j h2 (by omega)).1) j (Nat.zero_le _) hj
    rw[hcs j (by omega)]at this
    exact this
  obtain⟨c1,c2⟩:=Ah o v.1 T hO.toObjSz hl hp [] o.2.2.1.length 0 F hL.fr (by omega)
  obtain⟨F',sv,hF',hCd',hsv,j1,j2⟩:=Ai o v.1 T hT.len hO.toObjSz hl hp hTf hTr (fun i hi _=>Qo hT i hi) (fun F=>∀p∈P++br (yn T o v.1 ((n+1:Nat):Int)) 0 o.2.2.1.length,fg F p.2.2.1 p.2.2.2.1) (fun F q b hF hq h1 hb hd=>DH hPk hHas F q b hF hq h1 hb hd) o.2.2.1.length 0 (iC F v.1 0 o.2.2.1.length) [] (mZ v.1 _ _ F hL.fr) (by omega) (by simp)
  have hi:rY (aK F BL) T o v.1=some (aK F' BL,sv):=by rw[PE];exact c1.trans j1
  have hs:rT (aK F BL) T o v.1=some (aK F' BL,sv):=by rw[NB];exact c2.trans j2
  have hf4:=hO.f
  obtain⟨_,hA,hB⟩:=xI o hO a b hL.aR hL.bR
  refine⟨T,P++br (yn T o v.1 ((n+1:Nat):Int)) 0 o.2.2.1.length,F',sv,by omega,⟨hT,by omega,hTf,by rw[List.length_append,aO];omega,hF',by rw[hR.ea];exact hA, ?_, ?_,by rw[hR.eb];exact hB,fun p hp=> ?_,hPk,hHas,hCd' hCd⟩,hl, ?_, ?_⟩
  ·rw[hR.ea];exact(mY _ _ _ _).1.trans hL.a1
  ·rw[hR.ea];exact(mY _ _ _ _).2.trans hL.a2
  ·have hTlen:t.length≤T.length:=by rw[←hTn];unfold eV;simp only[List.length_append];omega
   rcases List.mem_append.1 hp with hp|hp
   ·have:=hL.pcs p hp
    omega
   ·obtain⟨j,_,hj,rfl⟩:=(b9 _ _ _ _).1 hp
    have hj':j<o.2.2.1.length:=by omega
    have hfs:=hO.fsz_pos j hj'
    have hat:=hl.fa j hj'
    have her:=dK T (rd (τ:=aP) o.2.2.1 (j:Int)).1
    have hnn:=hsy j hj'
    unfold yn
    simp only
    exact⟨by omega,by omega,hat.1,hat.2.1,by omega,by omega,by omega,by omega⟩
  ·rw[Hq]
   simp only
   rw[e1]
   simp only[af]
   rw[hv,PC,ak (show¬(t.length:Int)>4096 by omega),(iY t).1,htab,(jw o hr).1,ho,sN o v.1 hO.toObjSz hl,(bP _ _ _).1,bm.2 (show 1≤((n+1:Nat):Int)∧((n+1:Nat):Int)≤6 by omega),l8 t o v.1 _ (by omega) hO.toObjSz hl,hTn]
   simp only[decide_true,aD,ac,af,aF]
   rw[(iY T).1,xU.2 hT]
   simp only[decide_true,aD,ac,af]
   rw[H4 T o v.1 _ hT.len hO.toObjSz hl P (by omega)]
   simp only
   rw[hi];rfl
  ·rw[NC]
   simp only
   rw[sM t o v.1 _ (by omega) hO.toObjSz hl,hTn]
   simp only[af]
   rw[rq _ (by omega),ae,H5 T o v.1 _ hT.len hO.toObjSz hl P (by omega)]
   simp only
   rw[hs];rfl
theorem dv {L:Int→Option Bool} {n m:Nat} (p:Nat→Bool) (hend:n=m→L (n:Int)=some true) (hstep:n=m→∀i:Nat,i<n→L (i:Int)=bif p i then L ((i+1:Nat):Int)else some false):
  (bif (!decide ((n:Int)=(m:Int)))then some false else L 0)=some (decide (n=m)&&ir p 0 n):=by
 by_cases h:n=m
 ·rw[ab (show(n:Int)=(m:Int) by omega),ab h,du p n (hend h) (hstep h)];rfl
 ·rw[ak (show¬(n:Int)=(m:Int) by omega),ak h];rfl
def Qz (a b:List Int):Bool:=decide (a.length=b.length)&&ir (fun i=>decide ((rd (τ:= .int .i64) a (i:Int):Int)=rd (τ:= .int .i64) b (i:Int))) 0 a.length
def RE (a b:List ByteArray):Bool:=decide (a.length=b.length)&&ir (fun i=>decide ((rd (τ:= .str) a (i:Int):ByteArray)=rd (τ:= .str) b (i:Int))) 0 a.length
theorem pB (a b:List Int) (h:a.length≤1048576):Fz a b=some (Qz a b)∧Fk a b=some (Qz a b):=by
 rw[PF,Nv]
 constructor
 ·refine dv (L:=Fz.a a b (a.length:Int)) _ (fun _=> ?_) fun hl i hi=> ?_
  ·rw[Fz.a_eq,ah,ak (aA _),ac]
  ·rw[Fz.a_eq,ah,aj,aj,ab hi,ab (show i<b.length by omega),an i _ hi (by omega)]
   simp only[ae]
   cases decide ((rd (τ:= .int .i64) a (i:Int):Int)=rd (τ:= .int .i64) b (i:Int))<;>rfl
 ·refine dv (L:=Fk.a a b) _ (fun _=> ?_) fun hl i hi=> ?_
  ·rw[Fk.a_eq,ah,ak (aA _),ac]
  ·rw[Fk.a_eq,ah,aj,aj,ab hi,ab (show i<b.length by omega),an i _ hi (by omega)]
   simp only[ae]
   cases decide ((rd (τ:= .int .i64) a (i:Int):Int)=rd (τ:= .int .i64) b (i:Int))<;>rfl
theorem pC (a b:List ByteArray) (h:a.length≤1048576):FA a b=some (RE a b)∧Fm a b=some (RE a b):=by
 rw[PG,Nw]
 constructor
 ·refine dv (L:=FA.a a b (a.length:Int)) _ (fun _=> ?_) fun hl i hi=> ?_
  ·rw[FA.a_eq,ah,ak (aA _),ac]
  ·rw[FA.a_eq,ah,aj,aj,ab hi,ab (show i<b.length by omega),an i _ hi (by omega),bg]
   simp only[ae]
   cases decide ((rd (τ:= .str) a (i:Int):ByteArray)=rd (τ:= .str) b (i:Int))<;>rfl
 ·refine dv (L:=Fm.a a b) _ (fun _=> ?_) fun hl i hi=> ?_
  ·rw[Fm.a_eq,ah,ak (aA _),ac]
  ·rw[Fm.a_eq,ah,aj,aj,ab hi,ab (show i<b.length by omega),an i _ hi (by omega),bg]
   simp only[ae]
   cases decide ((rd (τ:= .str) a (i:Int):ByteArray)=rd (τ:= .str) b (i:Int))<;>rfl
def m5 (a b:fe):Bool:=Qz a.1 b.1&&(RE a.2.1 b.2.1&&(Qz a.2.2.1 b.2.2.1&&RE a.2.2.2 b.2.2.2))
theorem Ak (a b:fe) (h1:a.1.length≤1048576) (h2:a.2.1.length≤1048576) (h3:a.2.2.1.length≤1048576) (h4:a.2.2.2.length≤1048576):SH a b=some (m5 a b)∧To a b=some (m5 a b):=by
 rw[PH,Nx,(pB _ _ h1).1,(pB _ _ h1).2,(pC _ _ h2).1,(pC _ _ h2).2,(pB _ _ h3).1,(pB _ _ h3).2,(pC _ _ h4).1,(pC _ _ h4).2]
 unfold m5
 simp only[af]
 cases Qz a.1 b.1<;>cases RE a.2.1 b.2.1<;>cases Qz a.2.2.1 b.2.2.1<;>exact⟨rfl,rfl⟩
abbrev Sv:Type:=Int×Int
def H7 (a b:List Sv):Bool:=decide (a.length=b.length)&&ir (fun i=>kR gM (rd (τ:=gM) a (i:Int)) (rd (τ:=gM) b (i:Int))) 0 a.length
theorem rx (a b:List Sv) (h:a.length≤1048576):FB a b=some (H7 a b)∧Gn a b=some (H7 a b):=by
 rw[PI,ND]
 constructor
 ·refine dv (L:=FB.a a b (a.length:Int)) _ (fun _=> ?_) fun hl i hi=> ?_
  ·rw[FB.a_eq,ah,ak (aA _),ac]
  ·rw[FB.a_eq,ah,aj,aj,ab hi,ab (show i<b.length by omega),an i _ hi (by omega)]
   simp only[ae]
   cases kR gM (rd (τ:=gM) a (i:Int)) (rd (τ:=gM) b (i:Int))<;>rfl
 ·refine dv (L:=Gn.a a b) _ (fun _=> ?_) fun hl i hi=> ?_
  ·rw[Gn.a_eq,ah,ak (aA _),ac]
  ·rw[Gn.a_eq,ah,aj,aj,ab hi,ab (show i<b.length by omega),an i _ hi (by omega)]
   simp only[ae]
   cases kR gM (rd (τ:=gM) a (i:Int)) (rd (τ:=gM) b (i:Int))<;>rfl
def SR (a b:List dg):Bool:=decide (a.length=b.length)&&ir (fun i=>kR ba (rd (τ:=ba) a (i:Int)) (rd (τ:=ba) b (i:Int))) 0 a.length
theorem BA (a b:List dg) (h:a.length≤1048576):Hw a b=some (SR a b)∧Gp a b=some (SR a b):=by
 rw[PX,NF]
 constructor
 ·refine dv (L:=Hw.a a b (a.length:Int)) _ (fun _=> ?_) fun hl i hi=> ?_
  ·rw[Hw.a_eq,ah,ak (aA _),ac]
  ·rw[Hw.a_eq,ah,aj,aj,ab hi,ab (show i<b.length by omega),an i _ hi (by omega)]
   simp only[ae]
   cases kR ba (rd (τ:=ba) a (i:Int)) (rd (τ:=ba) b (i:Int))<;>rfl
 ·refine dv (L:=Gp.a a b) _ (fun _=> ?_) fun hl i hi=> ?_
  ·rw[Gp.a_eq,ah,ak (aA _),ac]
  ·rw[Gp.a_eq,ah,aj,aj,ab hi,ab (show i<b.length by omega),an i _ hi (by omega)]
   simp only[ae]
   cases kR ba (rd (τ:=ba) a (i:Int)) (rd (τ:=ba) b (i:Int))<;>rfl
def BC (a b:eB):Bool:=decide (a.1=b.1)&&(decide (a.2.1=b.2.1)&&(!decide (a.2.1=4)||decide (a.2.2=b.2.2)))
def BD (a b:List eB):Bool:=decide (a.length=b.length)&&ir (fun i=>BC (rd (τ:=aN) a (i:Int)) (rd (τ:=aN) b (i:Int))) 0 a.length
theorem ya (a b:List eB) (h:a.length≤1048576):TV a b=some (BD a b)∧Fo a b=some (BD a b):=by
 rw[P0,PZ,NG]
 constructor
 ·rw[dv (L:=IN.a b a (a.length:Int)) (fun i=>BC (rd (τ:=aN) a (i:Int)) (rd (τ:=aN) b (i:Int))) (fun _=> ?_) fun hl i hi=> ?_]
  ·rfl
  ·rw[IN.a_eq,ah,ak (aA _),ac]
  ·rw[IN.a_eq,ah,aj,aj,ab hi,ab (show i<b.length by omega),an i _ hi (by omega),PY,bg]
   unfold BC
   simp only[ae]
   generalize rd (τ:=aN) a (i:Int)=x
   generalize rd (τ:=aN) b (i:Int)=y
   cases decide (x.1=y.1)<;>cases decide (x.2.1=y.2.1)<;>cases decide (x.2.1=4)<;>cases decide (x.2.2=y.2.2)<;>rfl
 ·refine dv (L:=Fo.a a b) _ (fun _=> ?_) fun hl i hi=> ?_
  ·rw[Fo.a_eq,ah,ak (aA _),ac]
  ·rw[Fo.a_eq,ah,aj,aj,ab hi,ab (show i<b.length by omega),an i _ hi (by omega),bg]
   unfold BC
   simp only[ae]
   generalize rd (τ:=aN) a (i:Int)=x
   generalize rd (τ:=aN) b (i:Int)=y
   cases decide (x.1=y.1)<;>cases decide (x.2.1=y.2.1)<;>cases decide (x.2.1=4)<;>cases decide (x.2.2=y.2.2)<;>rfl
def uk (o:bM) (id:Int):Bool:=gm (fun k=>decide ((rd (τ:=dT) o.2.2.2.2.2 (k:Int)).1=id)) 0 o.2.2.2.2.2.length
def ry (q o:bM):Bool:=gm (fun i=>uk o (rd (τ:=dT) q.2.2.2.2.2 (i:Int)).1) 0 q.2.2.2.2.2.length
theorem H8 (o:bM) (hz:ObjSz o) (id:Int):TJ o id=some (uk o id):=by
 have h:=hz.s
 rw[O8,O7,O6]
 rw[cv (L:=IJ.a id o.2.2.2.2.2 (o.2.2.2.2.2.length:Int)) (fun k=>decide ((rd (τ:=dT) o.2.2.2.2.2 (k:Int)).1=id)) o.2.2.2.2.2.length ?_ fun i hi=> ?_]
 ·simp only[af];rw[qX];rfl
 ·rw[IJ.a_eq,ah];simp
 ·rw[IJ.a_eq,ah,aj,ab hi,an i _ hi (by omega),O5];rfl
theorem DI (q o:bM) (hq:ObjSz q) (ho:ObjSz o):TK q o=some (ry q o):=by
 have h:=hq.s
 rw[Pd,Pb,Pa]
 rw[cv (L:=IK.a o q.2.2.2.2.2 (q.2.2.2.2.2.length:Int)) (fun i=>uk o (rd (τ:=dT) q.2.2.2.2.2 (i:Int)).1) q.2.2.2.2.2.length ?_ fun i hi=> ?_]
 ·simp only[af];rw[qX];rfl
 ·rw[IK.a_eq,ah];simp
 ·rw[IK.a_eq,ah,aj,ab hi,an i _ hi (by omega),O9,H8 o ho];rfl
abbrev JU:Ty:= .pair .str (.pair (.int .i64) (.pair (.list aP) (.pair (.list bD) (.pair (.list cA) (.list dT)))))
abbrev JV:Ty:= .pair (.list (.int .i64)) (.pair (.list .str) (.pair (.list (.int .i64)) (.list .str)))
abbrev cK:Ty:= .pair JU (.pair JV (.list gM))
abbrev IP:Type:=bM×fe×List Sv
def m6 (ps:List IP) (o:bM):Bool:=gm (fun j=>decide ((rd (τ:=cK) ps (j:Int)).1.1=o.1)) 0 ps.length
def kH (ps:List IP) (o:bM):Bool:=gm (fun j=>ry (rd (τ:=cK) ps (j:Int)).1 o) 0 ps.length
theorem H9 (o:bM) (id:Int):gm (fun k=>decide (id=(rd (τ:=dT) o.2.2.2.2.2 (k:Int)).1)) 0 o.2.2.2.2.2.length=uk o id:=by
 unfold uk
 have e:(fun k:Nat=>decide (id=(rd (τ:=dT) o.2.2.2.2.2 (k:Int)).1))=fun k:Nat=>decide ((rd (τ:=dT) o.2.2.2.2.2 (k:Int)).1=id):=by
  funext k
  congr 1
  exact propext ⟨Eq.symm,Eq.symm⟩
 rw[e]
theorem Al (ps:List IP) (o:bM) (hp:ps.length≤6) (hz:∀j:Nat,j<ps.length→ObjSz (rd (τ:=cK) ps (j:Int)).1) (ho:ObjSz o):jM.b ps o 0=bif kH ps o then some 30 else some 0:=by
 have hs:=ho.s
 rw[eL (L:=jM.b ps o) (fun j=>ry (rd (τ:=cK) ps (j:Int)).1 o) ps.length (some 30) fun j hj=> ?_]
 ·rw[jM.b_eq,ah,ak (aA _),ac];rfl
 ·obtain⟨q,hq⟩:∃q:bM,(rd (τ:=cK) ps (j:Int)).1=q:=⟨_,rfl⟩
  have hqz:=hz j hj
  rw[hq]at hqz⊢
  have hqs:=hqz.s
  rw[jM.b_eq,ah,aj,ab hj,ae,ae,hq]
  rw[eL (L:=jM.c ps o (j:Int) q.2.2.2.2.2) (fun k=>uk o (rd (τ:=dT) q.2.2.2.2.2 (k:Int)).1) q.2.2.2.2.2.length (some 30) fun k hk=> ?_]
  ·rw[jM.c_eq,ah,ak (aA _),ac,an j _ hj (by omega)];rfl
  ·rw[jM.c_eq,ah,ab hk,ae]
   rw[eL (L:=jM.d ps o (j:Int) q.2.2.2.2.2 (k:Int)) (fun n=>decide ((rd (τ:=dT) q.2.2.2.2.2 (k:Int)).1=(rd (τ:=dT) o.2.2.2.2.2 (n:Int)).1)) o.2.2.2.2.2.length (some 30) fun n hn=> ?_]
   ·rw[jM.d_eq,ah,ak (aA _),ac,an k _ hk (by omega),H9]
   ·rw[jM.d_eq,ah,aj,aj,ab hn,ab hk,an n _ hn (by omega)]
    simp only[ae]
theorem vq (ps:List IP) (o:bM) (hp:ps.length≤6) (hz:∀j:Nat,j<ps.length→ObjSz (rd (τ:=cK) ps (j:Int)).1) (ho:ObjSz o):jM ps o=some (bif m6 ps o then 24 else bif kH ps o then 30 else 0):=by
 rw[Ni,eL (L:=jM.a ps o) (fun j=>decide ((rd (τ:=cK) ps (j:Int)).1.1=o.1)) ps.length (some 24) fun j hj=> ?_]
 ·rw[jM.a_eq,ah,ak (aA _),ac,Al ps o hp hz ho]
  show(bif m6 ps o then _ else _)=_
  cases m6 ps o<;>cases kH ps o<;>rfl
 ·rw[jM.a_eq,ah,aj,ab hj,an j _ hj (by omega),bg]
  simp only[ae]
theorem BE (p q:Nat→Bool):∀k i,gm (fun j=>p j||q j) i k=(gm p i k||gm q i k)
 |0,_=>rfl
 |k+1,i=>by
  rw[gm,gm,gm,BE p q k (i+1)]
  cases p i<;>cases q i<;>simp
abbrev SS:Type:=gk×OM×List IP
def yb (ps:List IP):Prop:=∀j:Nat,j<ps.length→tZ (rd (τ:=cK) ps (j:Int)).1
abbrev ZI:Qn:=([],[],[],(0,0,0),0,0,0)
theorem BF {τ:Ty} (l:List τ.den) (n j:Nat) (hj:j<n) (hn:n≤l.length):rd (τ:=τ) (l.take n) (j:Int)=rd (τ:=τ) l (j:Int):=by
 rw[aW _ _ (by rw[List.length_take];omega),aW _ _ (by omega),List.getElem_take]
theorem Ia (ps:List IP) (hp:ps.length≤6) (hW:yb ps) (saved:Bool) (x6:Qn) (x6':JK):∀(k i:Nat) (t:List dg) (P:List Pc) (F:Int→Int) (a b:bH),i+k=ps.length→xZ i t P F a b→(∀j:Nat,j<i→oO (rd (τ:=cK) ps (j:Int)).1=true)→
  ∃rI rS,uc.a ps saved ZI (t,P,aK F BL,a,b) ps (ps.length:Int) (i:Int)=some rI∧A9.a ps saved x6' (t,a,b,P,aK F BL) (i:Int)=some rS∧rI.2=rS.2∧
   (rI.2=true→(ps.length≤6∧∀j:Nat,j<ps.length→oO (rd (τ:=cK) ps (j:Int)).1=true)∧∃t' P' F' a' b',rI.1=(t',P',aK F' BL,a',b')∧rS.1=(t',a',b',P',aK F' BL)∧xZ ps.length t' P' F' a' b'):=by
 intro k
 induction k with
 |zero=>
  intro i t P F a b h hL hO
  have:i=ps.length:=by omega
  subst this
  rw[uc.a_eq,ah,ak (aA _),ac,A9.a_eq,ah,ak (aA _),ac]
  exact⟨_,_,rfl,rfl,rfl,fun _=>⟨⟨hp,hO⟩,t,P,F,a,b,rfl,rfl,hL⟩⟩
 |succ k ih=>
  intro i t P F a b h hL hO
  have hi:i<ps.length:=by omega
  have hr:=hW i hi
  rw[uc.a_eq,ah,aj,ab hi,A9.a_eq,ah,ab hi]
  simp only[aj,ab hi,ae,aF]
  obtain⟨p,hpe⟩:∃p:IP,rd (τ:=cK) ps (i:Int)=p:=⟨_,rfl⟩
  rw[hpe]at hr⊢
  rw[(jw p.1 hr).1,(jw p.1 hr).2]
  simp only[af]
  cases hob:oO p.1 with
  |false=>exact⟨_,_,rfl,rfl,rfl,fun h=>by cases h⟩
  |true=>
   simp only[aD,ac]
   by_cases hdep:p.1.2.1=(i:Int)
   ·rw[ab hdep,gJ i _ (by omega),gI]
    simp only[aD,ac,ae]
    have hpo:=mT hob
    have hlt:(ps.take i).length=i:=by rw[List.length_take];omega
    have hsz:∀j:Nat,j< (ps.take i).length→ObjSz (rd (τ:=cK) (ps.take i) (j:Int)).1:=fun j hj=>by
     rw[hlt]at hj
     rw[BF (τ:=cK) ps i j hj (by omega)]
     exact(mT (hO j hj)).toObjSz
    rw[vq (ps.take i) p.1 (by omega) hsz hpo.toObjSz]
    simp only[af]
    rw[eL (L:=uc.b ps saved ZI (t,P,aK F BL,a,b) (i:Int) p ps (ps.length:Int) (i:Int) (ps.take i) ((ps.take i).length:Int)) (fun j=>decide ((rd (τ:=cK) (ps.take i) (j:Int)).1.1=p.1.1)||ry (rd (τ:=cK) (ps.take i) (j:Int)).1 p.1) (ps.take i).length (some (ZI,false)) fun j hj=> ?_]
    ·rw[BE]
     show∃rI rS,(bif (m6 (ps.take i) p.1||kH (ps.take i) p.1)then _ else _)=some rI∧_
     cases hna:m6 (ps.take i) p.1 with
     |true=>exact⟨_,_,rfl,rfl,rfl,fun h=>by cases h⟩
     |false=>
      cases hsa:kH (ps.take i) p.1 with
      |true=>exact⟨_,_,rfl,rfl,rfl,fun h=>by cases h⟩
      |false=>
       simp only[Bool.or_self,ac,decide_true,aD]
       rw[uc.b_eq,ah,ak (aA _),ac,an i ps.length hi (by omega)]
       obtain⟨v,e1,e2,e3⟩:=H6 i (by omega) t P F a b hL p.1 hr hob
       rw[e1]
       simp only[af,aF]
       by_cases hv:v.2.2.2=0
       ·obtain⟨t',P',F',sv,hsv,hL',hl',g1,g2⟩:=e3 hv
        rw[g1,hv]
        simp only[af,decide_true,aD,ac]
        have hof:=hpo.f
        have hod:=hpo.d
        obtain⟨q1,q2⟩:=Ak v.1 p.2.1 (by rw[hl'.a];omega) (by rw[hl'.c];omega) (by rw[hl'.d];omega) (by rw[hl'.b];omega)
        rw[q1,q2]
        simp only[af]
        have hnext:=ih (i+1) t' P' F' v.2.1 v.2.2.1 (by omega) hL' fun j hj=>by
         by_cases e:j=i
         ·rw[e,hpe];exact hob
         ·exact hO j (by omega)
        cases m5 v.1 p.2.1 with
        |false=>cases saved<;>exact⟨_,_,rfl,rfl,rfl,fun h=>by cases h⟩
        |true=>
         simp only[aD,ac]
         rw[g2]
         simp only[af]
         cases saved with
         |true=>
          simp only[aD,ac,ae]
          rw[(rx sv p.2.2 (by omega)).1,(rx sv p.2.2 (by omega)).2]
          simp only[af]
          cases H7 sv p.2.2 with
          |false=>exact⟨_,_,rfl,rfl,rfl,fun h=>by cases h⟩
          |true=>exact hnext
         |false=>
          simp only[Bool.not_false,ae,ac]
          rw[(rx [] p.2.2 (by simp)).1]
          simp only[af]
          have e:H7 [] p.2.2= !decide ((p.2.2.length:Int)>0):=by
           unfold H7
           rw[show ir (fun i=>kR gM (rd (τ:=gM) ([]:List Sv) (i:Int)) (rd (τ:=gM) p.2.2 (i:Int))) 0 ([]:List Sv).length=true from rfl,Bool.and_true,←decide_not]
           congr 1
           apply propext
           simp only[List.length_nil]
           omega
          rw[e]
          cases decide ((p.2.2.length:Int)>0)with
          |true=>exact⟨_,_,rfl,rfl,rfl,fun h=>by cases h⟩
          |false=>exact hnext
       ·obtain⟨x,g1⟩:=e2 hv
        rw[g1]
        simp only[af]
        rw[ak hv]
        cases saved<;>exact⟨_,_,rfl,rfl,rfl,fun h=>by cases h⟩
    ·have hj2:=hj
     rw[hlt]at hj2
     rw[uc.b_eq,ah,aj,ab hj,an j _ hj (by omega),DI _ _ (hsz j hj) hpo.toObjSz,bg]
     simp only[ae,af]
     cases decide ((rd (τ:=cK) (ps.take i) (j:Int)).1.1=p.1.1)<;>cases ry (rd (τ:=cK) (ps.take i) (j:Int)).1 p.1<;>rfl
   ·rw[ak hdep]
    exact⟨_,_,rfl,rfl,rfl,fun h=>by cases h⟩
theorem vr (im:gk) (him:CT im=true) (ps:List IP) (hW:yb ps) (saved:Bool):
  ∃rI rS,uc im ps saved=some rI∧A9 im ps saved=some rS∧rI.2=rS.2∧
   (rI.2=true→(ps.length≤6∧∀j:Nat,j<ps.length→oO (rd (τ:=cK) ps (j:Int)).1=true)∧∃t' P' F' a' b',rI.1=(t',P',aK F' BL,a',b')∧rS.1=(t',a',b',P',aK F' BL)∧xZ ps.length t' P' F' a' b'):=by
 obtain⟨i1,i2,i3⟩:=ou im
 have hI:=i3 him
 obtain⟨n1,n2⟩:=JL im hI.sz
 rw[Hr,NE,i1,him,n2]
 simp only[af,aF,aD,ac]
 rcases Nat.lt_or_ge 6 ps.length with h|h
 ·rw[ab (show(ps.length:Int)>6 by omega)]
  exact⟨_,_,rfl,rfl,rfl,fun h=>by cases h⟩
 ·rw[ak (show¬(ps.length:Int)>6 by omega),n1]
  simp only[af,ac]
  exact Ia ps h hW saved ZI ([],(0,0,0),(0,0,0),[],[]) ps.length 0 (l9 im) (lb im) (F0 im) _ _ (by omega) (JO hI) fun j hj=>by omega
theorem Ib {m:OM} (h:sG m=true):m.1.length≤64∧m.2.2.1.length≤64:=by
 unfold sG at h
 rw[ay,ay]at h
 have h1:=h.1
 have h2:=h.2.1
 unfold iv at h1
 unfold oN at h2
 rw[ay,aV]at h1 h2
 exact⟨h1.1,h2.1⟩
theorem vt (s:SS) (hW:yb s.2.2):∃rI rS,SM s=some rI∧Sr s=some rS∧rI.2=rS.2∧
  (rI.2=true→(s.2.2.length≤6∧sG s.2.1=true∧∀j:Nat,j<s.2.2.length→oO (rd (τ:=cK) s.2.2 (j:Int)).1=true)∧∃t' P' F' a' b',rI.1=(t',P',aK F' BL,a',b')∧rS.1=(t',a',b',P',aK F' BL)∧xZ s.2.2.length t' P' F' a' b'∧BD s.2.1.1 (aK F' BL)=true∧SR s.2.1.2.2.1 t'=true):=by
 obtain⟨i1,i2,i3⟩:=ou s.1
 obtain⟨m1,m2⟩:=ow s.2.1
 rw[P2,NH,i2,m1,m2]
 simp only[af,aF]
 cases him:CT s.1 with
 |false=>
  rw[Hr,i1,him]
  simp only[af,aF,Bool.not_false,ae]
  exact⟨_,_,rfl,rfl,rfl,fun h=>by cases h⟩
 |true=>
  obtain⟨rI,rS,e1,e2,e3,e4⟩:=vr s.1 him s.2.2 hW true
  rw[e1]
  simp only[af,aD,ac]
  cases hm:sG s.2.1 with
  |false=>
   cases h:rI.2 with
   |false=>exact⟨_,_,rfl,rfl,rfl,fun h=>by cases h⟩
   |true=>exact⟨_,_,rfl,rfl,rfl,fun h=>by cases h⟩
  |true=>
   obtain⟨l1,l2⟩:=Ib hm
   simp only[aD,ac]
   rw[e2]
   simp only[af]
   rw[←e3]
   cases h:rI.2 with
   |false=>exact⟨_,_,rfl,rfl,rfl,fun h=>by cases h⟩
   |true=>
    obtain⟨f0,t',P',F',a',b',f1,f2,f3⟩:=e4 h
    rw[f1,f2]
    simp only[aD,ac,ae]
    rw[(BA _ _ (by omega)).1,(BA _ _ (by omega)).2]
    simp only[af]
    cases hq:SR s.2.1.2.2.1 t' with
    |false=>exact⟨_,_,rfl,rfl,rfl,fun h=>by cases h⟩
    |true=>
     simp only[aD,ac,ae]
     rw[(ya _ _ (by omega)).1,(ya _ _ (by omega)).2]
     simp only[af]
     cases hk:BD s.2.1.1 (aK F' BL)with
     |false=>exact⟨_,_,rfl,rfl,rfl,fun h=>by cases h⟩
     |true=>exact⟨_,_,rfl,rfl,rfl,fun _=>⟨⟨f0.1,trivial,f0.2⟩,t',P',F',a',b',rfl,rfl,f3,hk,hq⟩⟩
theorem vu (s:SS) (hW:yb s.2.2):∃rI rS,SM s=some rI∧Sr s=some rS∧rI.2=rS.2∧
  (rI.2=true→(s.2.2.length≤6∧sG s.2.1=true∧∀j:Nat,j<s.2.2.length→oO (rd (τ:=cK) s.2.2 (j:Int)).1=true)∧∃t' P' F' a' b',rI.1=(t',P',aK F' BL,a',b')∧rS.1=(t',a',b',P',aK F' BL)∧xZ s.2.2.length t' P' F' a' b'):=by
 obtain⟨rI,rS,e1,e2,e3,e4⟩:=vt s hW
 exact⟨rI,rS,e1,e2,e3,fun h=>by
  obtain⟨f0,t',P',F',a',b',f1,f2,f3,_⟩:=e4 h
  exact⟨f0,t',P',F',a',b',f1,f2,f3⟩⟩
def yp:(τ:Ty)→τ.den→Prop
 | .list e,l=>List.length l≤1048576∧∀x∈l,yp e x
 | .pair a b,x=>yp a x.1∧yp b x.2
 |_,_=>True
def SP (B:Prop) (left:Int) (v:Option Int):Prop:=∃r,v=some r∧r≤left∧(0≤r→B)
def oG (left:Int):Prop:=0≤left∧left≤1048576
theorem SP.fin {B:Prop} {left:Int} (h:B):SP B left (some left):=⟨left,rfl,Int.le_refl _,fun _=>h⟩
theorem SP.str {B:Prop} {left:Int} (n:Nat) (hn:n≤9223372036854775807) (hl:oG left) (K:Int→Option Int) (hK:∀l',oG l'→l'≤left→n≤1048576→SP B l' (K l')):SP B left (bif decide (IntKind.wrap .i64 (left-(n:Int))<0)then some (-1)else K (IntKind.wrap .i64 (left-(n:Int)))):=by
 obtain⟨h1,h2⟩:=hl
 rw[aT (n:=left-(n:Int)) (by omega) (by omega)]
 by_cases h:left-(n:Int)<0
 ·rw[ab h];exact⟨-1,rfl,by omega,fun h=>absurd h (by decide)⟩
 ·rw[ak h,ac]
  obtain⟨r,e1,e2,e3⟩:=hK (left-(n:Int)) ⟨by omega,by omega⟩ (by omega) (by omega)
  exact⟨r,e1,by omega,e3⟩
theorem SP.call {B B1:Prop} {left:Int} {v:Option Int} (hf:SP B1 left v) (hl:oG left) (K:Int→Option Int) (hK:B1→∀r,oG r→SP B r (K r)):SP B left (v.bind fun r=>bif decide (r<0)then some (-1)else K r):=by
 obtain⟨r,e1,e2,e3⟩:=hf
 rw[e1,af]
 have:=hl.2
 by_cases h:r<0
 ·rw[ab h];exact⟨-1,rfl,by have:=hl.1;omega,fun h=>absurd h (by decide)⟩
 ·rw[ak h,ac]
  obtain⟨r',e4,e5,e6⟩:=hK (e3 (by omega)) r ⟨by omega,by omega⟩
  exact⟨r',e4,by omega,e6⟩
def m7 (τ:Ty) (f:τ.den→Int→Option Int):Prop:=∀x,o6 τ x→∀left,oG left→SP (yp τ x) left (f x left)
theorem JW {τ:Ty} (l:List τ.den) (g:τ.den→Int→Option Int) (hg:m7 τ g) (hw:∀x∈l,o6 τ x) (L:Int→Int→Option Int)
  (hstep:∀left (i:Nat),i<l.length→L left (i:Int)=(g (rd (τ:=τ) l (i:Int)) left).bind fun r1=>bif decide (r1<0)then some (-1)else L r1 ((i+1:Nat):Int)) (hend:∀left,L left (l.length:Int)=some left):
  ∀(k i:Nat),i+k=l.length→∀left,oG left→SP (∀j:Nat,i≤j→j<l.length→yp τ (rd (τ:=τ) l (j:Int))) left (L left (i:Int)):=by
 intro k
 induction k with
 |zero=>
  intro i h left hl
  have:i=l.length:=by omega
  subst this
  rw[hend]
  exact SP.fin fun j h1 h2=>by omega
 |succ k ih=>
  intro i h left hl
  rw[hstep left i (by omega)]
  refine SP.call (hg _ (hw _ (au l i (by omega))) left hl) hl _ fun b r hr=> ?_
  obtain⟨r',e1,e2,e3⟩:=ih (i+1) (by omega) r hr
  exact⟨r',e1,e2,fun h0 j h1 h2=>by
   by_cases e:j=i
   ·rw[e];exact b
   ·exact e3 h0 j (by omega) h2⟩
theorem gp {τ:Ty} (l:List τ.den) (hw:o6 (.list τ) l) (g:τ.den→Int→Option Int) (hg:m7 τ g) (L:Int→Int→Option Int)
  (hstep:l.length≤1048576→∀left (i:Nat),i<l.length→L left (i:Int)=(g (rd (τ:=τ) l (i:Int)) left).bind fun r1=>bif decide (r1<0)then some (-1)else L r1 ((i+1:Nat):Int)) (hend:∀left,L left (l.length:Int)=some left) (left:Int) (hl:oG left):
  SP (yp (.list τ) l) left (bif decide (IntKind.wrap .i64 (left-(l.length:Int))<0)then some (-1)else L (IntKind.wrap .i64 (left-(l.length:Int))) 0):=by
 have hw':List.length l≤9223372036854775807∧∀x∈l,o6 τ x:=hw
 refine SP.str l.length hw'.1 hl (fun r=>L r 0) fun l' h1 h2 h3=> ?_
 obtain⟨r,e1,e2,e3⟩:=JW l g hg hw'.2 L (hstep h3) hend l.length 0 (by omega) l' h1
 refine⟨r,e1,e2,fun h0=> ?_⟩
 show List.length l≤1048576∧∀x∈l,yp τ x
 refine⟨h3,fun x hx=> ?_⟩
 obtain⟨i,hi,hr⟩:=vm hx
 rw[←hr];exact e3 h0 i (Nat.zero_le _) hi
theorem pD {τ:Ty} (l:List τ.den) (hw:o6 (.list τ) l) (hb:∀x,yp τ x) (left:Int) (hl:oG left):
  SP (yp (.list τ) l) left (bif decide (IntKind.wrap .i64 (left-(l.length:Int))<0)then some (-1)else some (IntKind.wrap .i64 (left-(l.length:Int)))):=by
 have hw':List.length l≤9223372036854775807∧∀x∈l,o6 τ x:=hw
 exact SP.str l.length hw'.1 hl some fun l' h1 h2 h3=>SP.fin ⟨h3,fun x _=>hb x⟩
def lD (τ:Ty) (f:τ.den→Option τ.den):Prop:=∀x,o6 τ x→yp τ x→f x=some x
theorem yc {τ:Ty} (l:List τ.den) (L:List τ.den→Int→Option (List τ.den))
  (hstep:∀acc (i:Nat),i<l.length→acc.length=l.length→L acc (i:Int)=L (acc.set i (rd (τ:=τ) l (i:Int))) ((i+1:Nat):Int)) (hend:∀acc,L acc (l.length:Int)=some acc):
  ∀(k i:Nat) (u:List τ.den),i+k=l.length→u.length=k→L (l.take i++u) (i:Int)=some l:=by
 intro k
 induction k with
 |zero=>
  intro i u h hu
  have:i=l.length:=by omega
  subst this
  rw[hend,List.take_length,List.eq_nil_of_length_eq_zero hu,List.append_nil]
 |succ k ih=>
  intro i u h hu
  have hi:i<l.length:=by omega
  rw[hstep _ i hi (by rw[List.length_append,List.length_take];omega)]
  cases u with
  |nil=>simp at hu
  |cons y u=>
   have e:(l.take i++y::u).set i (rd (τ:=τ) l (i:Int))=l.take (i+1)++u:=by
    rw[List.set_append_right _ _ (by rw[List.length_take];omega),List.length_take,show i-min i l.length=0 by omega,List.set_cons_zero,List.take_succ_eq_append_getElem hi,bn,aW l i hi];rfl
   rw[e]
   exact ih (i+1) u (by omega) (by simpa using hu)
theorem dU {τ:Ty} (l:List τ.den) (b:Nat) (hbt:b≤4096) (hb:l.length≤1048576) (z:τ.den) (L:List τ.den→Int→Option (List τ.den))
  (hstep:∀acc (i:Nat),i<l.length→acc.length=l.length→L acc (i:Int)=L (acc.set i (rd (τ:=τ) l (i:Int))) ((i+1:Nat):Int)) (hend:∀acc,L acc (l.length:Int)=some acc):
  (bif decide (0≤(l.length:Int))&&aI (Int.toNat (l.length:Int)) b then L (List.replicate (Int.toNat (l.length:Int)) z) 0 else none)=some l:=by
 have hm:l.length*b≤1048576*4096:=Nat.mul_le_mul hb hbt
 rw[aC,show(decide (0≤(l.length:Int))&&aI l.length b)=true by simp[aI];omega,ae]
 have:=yc l L hstep hend l.length 0 (List.replicate l.length z) (by omega) (by simp)
 simpa using this
def lE (τ:Ty) (f:τ.den→τ.den→Option Bool):Prop:=∀x,o6 τ x→yp τ x→f x x=some true
theorem di (L:Int→Option Bool) (n:Nat) (hstep:∀i:Nat,i<n→L (i:Int)=L ((i+1:Nat):Int)) (hend:L (n:Int)=some true):L 0=some true:=by
 have:∀k i:Nat,i+k=n→L (i:Int)=some true:=by
  intro k
  induction k with
  |zero=>
    intro i h;have:i=n:=by omega
    rw[this];exact hend
  |succ k ih=>intro i h;rw[hstep i (by omega)];exact ih (i+1) (by omega)
 exact this n 0 (by omega)
abbrev Ic:Ty:= .pair .str (.pair .str (.list bA))
abbrev Id:Ty:= .pair (.list aN) (.pair (.list dS) (.pair (.list ba) (.list pp)))
abbrev TSys:Ty:= .pair Ic (.pair Id (.list cK))
theorem DJ:m7 bA Z5:=by
 intro x hw left hl
 show SP _ left (Z5 x left)
 rw[QO]
 refine SP.str (ByteArray.size x.1) hw.1 hl (fun r=>some r) fun l0 h0 _ _=> ?_
 exact SP.fin ⟨trivial,⟨trivial,⟨trivial,⟨trivial,trivial⟩⟩⟩⟩
theorem Am:m7 (.list bA) Z6:=by
 intro x hw left hl
 show SP _ left (Z6 x left)
 rw[QP]
 exact gp x hw Z5 DJ (Z6.a x) (fun hb left i hi=>by
  rw[Z6.a_eq,ah,aj,ab hi,an i _ hi (by omega)];rfl) (fun left=>by
  rw[Z6.a_eq,ah,ak (aA _),ac]) left hl
theorem Ie:m7 ba Ze:=by
 intro x hw left hl
 show SP _ left (Ze x left)
 rw[QX]
 refine SP.str (ByteArray.size x.1) hw.1 hl (fun r=>some r) fun l0 h0 _ _=> ?_
 exact SP.fin ⟨trivial,⟨trivial,⟨trivial,⟨trivial,⟨trivial,trivial⟩⟩⟩⟩⟩
theorem DK:m7 (.list ba) Zf:=by
 intro x hw left hl
 show SP _ left (Zf x left)
 rw[QY]
 exact gp x hw Ze Ie (Zf.a x) (fun hb left i hi=>by
  rw[Zf.a_eq,ah,aj,ab hi,an i _ hi (by omega)];rfl) (fun left=>by
  rw[Zf.a_eq,ah,ak (aA _),ac]) left hl
theorem JX:m7 aN Z8:=by
 intro x hw left hl
 show SP _ left (Z8 x left)
 rw[QR]
 refine SP.str (ByteArray.size x.2.2) hw.2.2 hl (fun r=>some r) fun l0 h0 _ _=> ?_
 exact SP.fin ⟨trivial,⟨trivial,trivial⟩⟩
theorem If:m7 (.list aN) Z9:=by
 intro x hw left hl
 show SP _ left (Z9 x left)
 rw[QS]
 exact gp x hw Z8 JX (Z9.a x) (fun hb left i hi=>by
  rw[Z9.a_eq,ah,aj,ab hi,an i _ hi (by omega)];rfl) (fun left=>by
  rw[Z9.a_eq,ah,ak (aA _),ac]) left hl
theorem vv:m7 aP Zi:=by
 intro x hw left hl
 show SP _ left (Zi x left)
 rw[Q1]
 refine SP.str (ByteArray.size x.1) hw.1 hl (fun r=>bif decide ((IntKind.wrap .i64 (r-(ByteArray.size x.2.2.2:Int)))<0)then some (-1)else(some (IntKind.wrap .i64 (r-(ByteArray.size x.2.2.2:Int))))) fun l0 h0 _ _=> ?_
 refine SP.str (ByteArray.size x.2.2.2) hw.2.2.2 h0 (fun r=>some r) fun l1 h1 _ _=> ?_
 exact SP.fin ⟨trivial,⟨trivial,⟨trivial,trivial⟩⟩⟩
theorem sO:m7 (.list aP) Zj:=by
 intro x hw left hl
 show SP _ left (Zj x left)
 rw[Q2]
 exact gp x hw Zi vv (Zj.a x) (fun hb left i hi=>by
  rw[Zj.a_eq,ah,aj,ab hi,an i _ hi (by omega)];rfl) (fun left=>by
  rw[Zj.a_eq,ah,ak (aA _),ac]) left hl
theorem vw:m7 bD Zk:=by
 intro x hw left hl
 show SP _ left (Zk x left)
 rw[Q3]
 refine SP.str (ByteArray.size x.1) hw.1 hl (fun r=>bif decide ((IntKind.wrap .i64 (r-(ByteArray.size x.2:Int)))<0)then some (-1)else(some (IntKind.wrap .i64 (r-(ByteArray.size x.2:Int))))) fun l0 h0 _ _=> ?_
 refine SP.str (ByteArray.size x.2) hw.2 h0 (fun r=>some r) fun l1 h1 _ _=> ?_
 exact SP.fin ⟨trivial,trivial⟩
theorem sP:m7 (.list bD) Zl:=by
 intro x hw left hl
 show SP _ left (Zl x left)
 rw[Q4]
 exact gp x hw Zk vw (Zl.a x) (fun hb left i hi=>by
  rw[Zl.a_eq,ah,aj,ab hi,an i _ hi (by omega)];rfl) (fun left=>by
  rw[Zl.a_eq,ah,ak (aA _),ac]) left hl
theorem Ig:m7 cA Zm:=by
 intro x hw left hl
 show SP _ left (Zm x left)
 rw[Q5]
 refine SP.str (ByteArray.size x.2.2.2.1) hw.2.2.2.1 hl (fun r=>some r) fun l0 h0 _ _=> ?_
 exact SP.fin ⟨trivial,⟨trivial,⟨trivial,⟨trivial,trivial⟩⟩⟩⟩
theorem DL:m7 (.list cA) Zn:=by
 intro x hw left hl
 show SP _ left (Zn x left)
 rw[Q6]
 exact gp x hw Zm Ig (Zn.a x) (fun hb left i hi=>by
  rw[Zn.a_eq,ah,aj,ab hi,an i _ hi (by omega)];rfl) (fun left=>by
  rw[Zn.a_eq,ah,ak (aA _),ac]) left hl
theorem vz:m7 (.list (.int .i64)) Zb:=by
 intro x hw left hl
 show SP _ left (Zb x left)
 rw[QU]
 exact pD x hw (fun _=>trivial) left hl
theorem Ih:m7 (.list gM) Zs:=by
 intro x hw left hl
 show SP _ left (Zs x left)
 rw[Rb]
 exact pD x hw (fun _=>⟨trivial,trivial⟩) left hl
theorem rz:m7 (.list dT) Zo:=by
 intro x hw left hl
 show SP _ left (Zo x left)
 rw[Q7]
 exact pD x hw (fun _=>⟨trivial,trivial⟩) left hl
theorem An:m7 (.list pp) Zg:=by
 intro x hw left hl
 show SP _ left (Zg x left)
 rw[QZ]
 exact pD x hw (fun _=>⟨trivial,⟨trivial,trivial⟩⟩) left hl
theorem rA:m7 (.list .str) Zq:=by
 intro x hw left hl
 show SP _ left (Zq x left)
 rw[Q9]
 exact gp x hw (fun s left=>bif decide (IntKind.wrap .i64 (left-(ByteArray.size s:Int))<0)then some (-1)else some (IntKind.wrap .i64 (left-(ByteArray.size s:Int)))) (fun s hs left hl=>SP.str (ByteArray.size s) hs hl some fun l' _ _ _=>SP.fin trivial) (Zq.a x) (fun hb left i hi=>by
  rw[Zq.a_eq,ah,aj,ab hi,an i _ hi (by omega)]
  simp only[ae]
  cases hc:decide (IntKind.wrap .i64 (left-(ByteArray.size (rd (τ:= .str) x (i:Int)):Int))<0)with
  |true=>rfl
  |false=>rw[ac,ac,af,hc];rfl) (fun left=>by
  rw[Zq.a_eq,ah,ak (aA _),ac]) left hl
theorem DM:m7 dS Zc:=by
 intro x hw left hl
 show SP _ left (Zc x left)
 rw[QV]
 refine SP.call (vz x.2.2.1 hw.2.2.1 left hl) hl _ fun b0 l0 h0=> ?_
 exact SP.fin ⟨trivial,⟨⟨trivial,trivial⟩,⟨b0,trivial⟩⟩⟩
theorem Ao:m7 (.list dS) Zd:=by
 intro x hw left hl
 show SP _ left (Zd x left)
 rw[QW]
 exact gp x hw Zc DM (Zd.a x) (fun hb left i hi=>by
  rw[Zd.a_eq,ah,aj,ab hi,an i _ hi (by omega)];rfl) (fun left=>by
  rw[Zd.a_eq,ah,ak (aA _),ac]) left hl
theorem Ii:m7 Ic Z7:=by
 intro x hw left hl
 show SP _ left (Z7 x left)
 rw[QQ]
 refine SP.str (ByteArray.size x.1) hw.1 hl (fun r=>bif decide ((IntKind.wrap .i64 (r-(ByteArray.size x.2.1:Int)))<0)then some (-1)else((Z6 x.2.2 (IntKind.wrap .i64 (r-(ByteArray.size x.2.1:Int)))).bind fun q1=>bif decide (q1<0)then some (-1)else(some q1))) fun l0 h0 _ _=> ?_
 refine SP.str (ByteArray.size x.2.1) hw.2.1 h0 (fun r=>(Z6 x.2.2 r).bind fun q2=>bif decide (q2<0)then some (-1)else(some q2)) fun l1 h1 _ _=> ?_
 refine SP.call (Am x.2.2 hw.2.2 l1 h1) h1 _ fun b2 l2 h2=> ?_
 exact SP.fin ⟨trivial,⟨trivial,b2⟩⟩
theorem DN:m7 (.list aN) Za:=by
 intro x hw left hl
 show SP _ left (Za x left)
 rw[QT]
 exact SP.call (If x hw left hl) hl _ fun b l h=>SP.fin b
theorem Ap:m7 Id Zh:=by
 intro x hw left hl
 show SP _ left (Zh x left)
 rw[Q0]
 refine SP.call (DN x.1 hw.1 left hl) hl _ fun b0 l0 h0=> ?_
 refine SP.call (Ao x.2.1 hw.2.1 l0 h0) h0 _ fun b1 l1 h1=> ?_
 refine SP.call (DK x.2.2.1 hw.2.2.1 l1 h1) h1 _ fun b2 l2 h2=> ?_
 refine SP.call (An x.2.2.2 hw.2.2.2 l2 h2) h2 _ fun b3 l3 h3=> ?_
 exact SP.fin ⟨b0,⟨b1,⟨b2,b3⟩⟩⟩
theorem DO:m7 JV Zr:=by
 intro x hw left hl
 show SP _ left (Zr x left)
 rw[Ra]
 refine SP.call (vz x.1 hw.1 left hl) hl _ fun b0 l0 h0=> ?_
 refine SP.call (rA x.2.1 hw.2.1 l0 h0) h0 _ fun b1 l1 h1=> ?_
 refine SP.call (vz x.2.2.1 hw.2.2.1 l1 h1) h1 _ fun b2 l2 h2=> ?_
 refine SP.call (rA x.2.2.2 hw.2.2.2 l2 h2) h2 _ fun b3 l3 h3=> ?_
 exact SP.fin ⟨b0,⟨b1,⟨b2,b3⟩⟩⟩
theorem DP:m7 JU Zp:=by
 intro x hw left hl
 show SP _ left (Zp x left)
 rw[Q8]
 refine SP.str (ByteArray.size x.1) hw.1 hl (fun r=>(Zj x.2.2.1 r).bind fun q3=>bif decide (q3<0)then some (-1)else((Zl x.2.2.2.1 q3).bind fun q4=>bif decide (q4<0)then some (-1)else((Zn x.2.2.2.2.1 q4).bind fun q5=>bif decide (q5<0)then some (-1)else((Zo x.2.2.2.2.2 q5).bind fun q6=>bif decide (q6<0)then some (-1)else(some q6))))) fun l0 h0 _ _=> ?_
 refine SP.call (sO x.2.2.1 hw.2.2.1 l0 h0) h0 _ fun b1 l1 h1=> ?_
 refine SP.call (sP x.2.2.2.1 hw.2.2.2.1 l1 h1) h1 _ fun b2 l2 h2=> ?_
 refine SP.call (DL x.2.2.2.2.1 hw.2.2.2.2.1 l2 h2) h2 _ fun b3 l3 h3=> ?_
 refine SP.call (rz x.2.2.2.2.2 hw.2.2.2.2.2 l3 h3) h3 _ fun b4 l4 h4=> ?_
 exact SP.fin ⟨trivial,⟨trivial,⟨b1,⟨b2,⟨b3,b4⟩⟩⟩⟩⟩
theorem Ij:m7 cK Zt:=by
 intro x hw left hl
 show SP _ left (Zt x left)
 rw[Rc]
 refine SP.call (DP x.1 hw.1 left hl) hl _ fun b0 l0 h0=> ?_
 refine SP.call (DO x.2.1 hw.2.1 l0 h0) h0 _ fun b1 l1 h1=> ?_
 refine SP.call (Ih x.2.2 hw.2.2 l1 h1) h1 _ fun b2 l2 h2=> ?_
 exact SP.fin ⟨b0,⟨b1,b2⟩⟩
theorem DQ:m7 (.list cK) Zu:=by
 intro x hw left hl
 show SP _ left (Zu x left)
 rw[Rd]
 exact gp x hw Zt Ij (Zu.a x) (fun hb left i hi=>by
  rw[Zu.a_eq,ah,aj,ab hi,an i _ hi (by omega)];rfl) (fun left=>by
  rw[Zu.a_eq,ah,ak (aA _),ac]) left hl
theorem DR:m7 TSys Zv:=by
 intro x hw left hl
 show SP _ left (Zv x left)
 rw[Re]
 refine SP.call (Ii x.1 hw.1 left hl) hl _ fun b0 l0 h0=> ?_
 refine SP.call (Ap x.2.1 hw.2.1 l0 h0) h0 _ fun b1 l1 h1=> ?_
 refine SP.call (DQ x.2.2 hw.2.2 l1 h1) h1 _ fun b2 l2 h2=> ?_
 exact SP.fin ⟨b0,⟨b1,b2⟩⟩
theorem DS:lD bA Zw:=by
 intro x _ _
 show Zw x=_
 rw[Rf]
theorem Aq:lD (.list bA) Zx:=by
 intro x hw hb
 show Zx x=_
 rw[Rg]
 exact dU (τ:=bA) x 48 (by omega) hb.1 _ (Zx.a x) (fun acc i hi ha=>by
  rw[Zx.a_eq,ah,aj,ab hi,an i _ hi (by have:=hb.1;omega),DS _ (hw.2 _ (au (τ:=bA) x i hi)) (hb.2 _ (au (τ:=bA) x i hi))]
  simp only[ae,af]
  rw[aj,show decide (i<acc.length)=true from ab (by rw[ha];exact hi),aC];rfl) (fun acc=>by
  rw[Zx.a_eq,ah,ak (aA _),ac])
theorem Ik:lD ba RN:=by
 intro x _ _
 show RN x=_
 rw[KW]
theorem DT:lD (.list ba) ED:=by
 intro x hw hb
 show ED x=_
 rw[KX]
 exact dU (τ:=ba) x 56 (by omega) hb.1 _ (ED.a x) (fun acc i hi ha=>by
  rw[ED.a_eq,ah,aj,ab hi,an i _ hi (by have:=hb.1;omega),Ik _ (hw.2 _ (au (τ:=ba) x i hi)) (hb.2 _ (au (τ:=ba) x i hi))]
  simp only[ae,af]
  rw[aj,show decide (i<acc.length)=true from ab (by rw[ha];exact hi),aC];rfl) (fun acc=>by
  rw[ED.a_eq,ah,ak (aA _),ac])
theorem JY:lD aN Zz:=by
 intro x _ _
 show Zz x=_
 rw[Ri]
theorem Il:lD (.list aN) EB:=by
 intro x hw hb
 show EB x=_
 rw[KP]
 exact dU (τ:=aN) x 32 (by omega) hb.1 _ (EB.a x) (fun acc i hi ha=>by
  rw[EB.a_eq,ah,aj,ab hi,an i _ hi (by have:=hb.1;omega),JY _ (hw.2 _ (au (τ:=aN) x i hi)) (hb.2 _ (au (τ:=aN) x i hi))]
  simp only[ae,af]
  rw[aj,show decide (i<acc.length)=true from ab (by rw[ha];exact hi),aC];rfl) (fun acc=>by
  rw[EB.a_eq,ah,ak (aA _),ac])
theorem DU:lD pp RO:=by
 intro x _ _
 show RO x=_
 rw[KY]
theorem As:lD (.list pp) EE:=by
 intro x hw hb
 show EE x=_
 rw[KZ]
 exact dU (τ:=pp) x 24 (by omega) hb.1 _ (EE.a x) (fun acc i hi ha=>by
  rw[EE.a_eq,ah,aj,ab hi,an i _ hi (by have:=hb.1;omega),DU _ (hw.2 _ (au (τ:=pp) x i hi)) (hb.2 _ (au (τ:=pp) x i hi))]
  simp only[ae,af]
  rw[aj,show decide (i<acc.length)=true from ab (by rw[ha];exact hi),aC];rfl) (fun acc=>by
  rw[EE.a_eq,ah,ak (aA _),ac])
theorem vA:lD aP RQ:=by
 intro x _ _
 show RQ x=_
 rw[K3]
theorem sQ:lD (.list aP) EF:=by
 intro x hw hb
 show EF x=_
 rw[K4]
 exact dU (τ:=aP) x 48 (by omega) hb.1 _ (EF.a x) (fun acc i hi ha=>by
  rw[EF.a_eq,ah,aj,ab hi,an i _ hi (by have:=hb.1;omega),vA _ (hw.2 _ (au (τ:=aP) x i hi)) (hb.2 _ (au (τ:=aP) x i hi))]
  simp only[ae,af]
  rw[aj,show decide (i<acc.length)=true from ab (by rw[ha];exact hi),aC];rfl) (fun acc=>by
  rw[EF.a_eq,ah,ak (aA _),ac])
theorem vB:lD bD RR:=by
 intro x _ _
 show RR x=_
 rw[K5]
theorem sR:lD (.list bD) EG:=by
 intro x hw hb
 show EG x=_
 rw[K6]
 exact dU (τ:=bD) x 32 (by omega) hb.1 _ (EG.a x) (fun acc i hi ha=>by
  rw[EG.a_eq,ah,aj,ab hi,an i _ hi (by have:=hb.1;omega),vB _ (hw.2 _ (au (τ:=bD) x i hi)) (hb.2 _ (au (τ:=bD) x i hi))]
  simp only[ae,af]
  rw[aj,show decide (i<acc.length)=true from ab (by rw[ha];exact hi),aC];rfl) (fun acc=>by
  rw[EG.a_eq,ah,ak (aA _),ac])
theorem Im:lD cA RS:=by
 intro x _ _
 show RS x=_
 rw[K7]
theorem DV:lD (.list cA) EH:=by
 intro x hw hb
 show EH x=_
 rw[K8]
 exact dU (τ:=cA) x 48 (by omega) hb.1 _ (EH.a x) (fun acc i hi ha=>by
  rw[EH.a_eq,ah,aj,ab hi,an i _ hi (by have:=hb.1;omega),Im _ (hw.2 _ (au (τ:=cA) x i hi)) (hb.2 _ (au (τ:=cA) x i hi))]
  simp only[ae,af]
  rw[aj,show decide (i<acc.length)=true from ab (by rw[ha];exact hi),aC];rfl) (fun acc=>by
  rw[EH.a_eq,ah,ak (aA _),ac])
theorem sS:lD dT RT:=by
 intro x _ _
 show RT x=_
 rw[K9]
theorem rB:lD (.list dT) EI:=by
 intro x hw hb
 show EI x=_
 rw[La]
 exact dU (τ:=dT) x 16 (by omega) hb.1 _ (EI.a x) (fun acc i hi ha=>by
  rw[EI.a_eq,ah,aj,ab hi,an i _ hi (by have:=hb.1;omega),sS _ (hw.2 _ (au (τ:=dT) x i hi)) (hb.2 _ (au (τ:=dT) x i hi))]
  simp only[ae,af]
  rw[aj,show decide (i<acc.length)=true from ab (by rw[ha];exact hi),aC];rfl) (fun acc=>by
  rw[EI.a_eq,ah,ak (aA _),ac])
theorem JZ:lD gM RW:=by
 intro x _ _
 show RW x=_
 rw[Lf]
theorem In:lD (.list gM) EJ:=by
 intro x hw hb
 show EJ x=_
 rw[Lg]
 exact dU (τ:=gM) x 16 (by omega) hb.1 _ (EJ.a x) (fun acc i hi ha=>by
  rw[EJ.a_eq,ah,aj,ab hi,an i _ hi (by have:=hb.1;omega),JZ _ (hw.2 _ (au (τ:=gM) x i hi)) (hb.2 _ (au (τ:=gM) x i hi))]
  simp only[ae,af]
  rw[aj,show decide (i<acc.length)=true from ab (by rw[ha];exact hi),aC];rfl) (fun acc=>by
  rw[EJ.a_eq,ah,ak (aA _),ac])
theorem vC:lD (.list (.int .i64)) A4:=by
 intro x hw hb
 show A4 x=_
 rw[KT]
 exact dU (τ:=(.int .i64)) x 8 (by omega) hb.1 _ (A4.a x) (fun acc i hi ha=>by
  rw[A4.a_eq,ah,aj,ab hi,an i _ hi (by have:=hb.1;omega)]
  rw[aj,show decide (i<acc.length)=true from ab (by rw[ha];exact hi),aC];rfl) (fun acc=>by
  rw[A4.a_eq,ah,ak (aA _),ac])
theorem rC:lD (.list .str) Cs:=by
 intro x hw hb
 show Cs x=_
 rw[Lc]
 exact dU (τ:= .str) x 16 (by omega) hb.1 _ (Cs.a x) (fun acc i hi ha=>by
  rw[Cs.a_eq,ah,aj,ab hi,an i _ hi (by have:=hb.1;omega)]
  rw[aj,show decide (i<acc.length)=true from ab (by rw[ha];exact hi),aC];rfl) (fun acc=>by
  rw[Cs.a_eq,ah,ak (aA _),ac])
theorem DW:lD (.arr (.int .i64) 32) A3:=by
 intro x hw hb
 show A3 x=_
 have hl:List.length x=32:=hw.1
 rw[KR]
 have h:=yc (τ:= .int .i64) x (fun acc i=>A3.a x [0,0,0,0,0,0,0,0,0,0,0,0,0,0,0,0,0,0,0,0,0,0,0,0,0,0,0,0,0,0,0,0] acc i) (fun acc i hi ha=>by
  show A3.a x _ acc (i:Int)=_
  rw[A3.a_eq,ab (show(i:Int)<32 by omega),aj,ab (show i<32 by omega),an i 32 (by omega) (by omega),aC];rfl) (fun acc=>by
  show A3.a x _ acc (List.length x:Int)=_
  rw[A3.a_eq,hl];rfl) 32 0 (List.replicate 32 (0:Int)) (by rw[hl]) (by simp)
 exact h
theorem J0:lD He RL:=by
 intro x hw hb
 show RL x=_
 rw[KS,DW x.1 hw.1 hb.1]
 rfl
theorem DX:lD dS RM:=by
 intro x hw hb
 show RM x=_
 rw[KU,J0 x.2.1 hw.2.1 hb.2.1,vC x.2.2.1 hw.2.2.1 hb.2.2.1]
 rfl
theorem At:lD (.list dS) EC:=by
 intro x hw hb
 show EC x=_
 rw[KV]
 exact dU (τ:=dS) x 304 (by omega) hb.1 _ (EC.a x) (fun acc i hi ha=>by
  rw[EC.a_eq,ah,aj,ab hi,an i _ hi (by have:=hb.1;omega),DX _ (hw.2 _ (au (τ:=dS) x i hi)) (hb.2 _ (au (τ:=dS) x i hi))]
  simp only[ae,af]
  rw[aj,show decide (i<acc.length)=true from ab (by rw[ha];exact hi),aC];rfl) (fun acc=>by
  rw[EC.a_eq,ah,ak (aA _),ac])
theorem Io:lD Ic Zy:=by
 intro x hw hb
 show Zy x=_
 rw[Rh,Aq x.2.2 hw.2.2 hb.2.2]
 rfl
theorem DY:lD (.list aN) RK:=by
 intro x hw hb
 show RK x=_
 rw[KQ,Il x hw hb]
 rfl
theorem Au:lD Id RP:=by
 intro x hw hb
 show RP x=_
 rw[K0,DY x.1 hw.1 hb.1,At x.2.1 hw.2.1 hb.2.1,DT x.2.2.1 hw.2.2.1 hb.2.2.1,As x.2.2.2 hw.2.2.2 hb.2.2.2]
 rfl
theorem DZ:lD JV RV:=by
 intro x hw hb
 show RV x=_
 rw[Ld,vC x.1 hw.1 hb.1,rC x.2.1 hw.2.1 hb.2.1,vC x.2.2.1 hw.2.2.1 hb.2.2.1,rC x.2.2.2 hw.2.2.2 hb.2.2.2]
 rfl
theorem Ea:lD JU RU:=by
 intro x hw hb
 show RU x=_
 rw[Lb,sQ x.2.2.1 hw.2.2.1 hb.2.2.1,sR x.2.2.2.1 hw.2.2.2.1 hb.2.2.2.1,DV x.2.2.2.2.1 hw.2.2.2.2.1 hb.2.2.2.2.1,rB x.2.2.2.2.2 hw.2.2.2.2.2 hb.2.2.2.2.2]
 rfl
theorem Ip:lD cK RX:=by
 intro x hw hb
 show RX x=_
 rw[Lh,Ea x.1 hw.1 hb.1,DZ x.2.1 hw.2.1 hb.2.1,In x.2.2 hw.2.2 hb.2.2]
 rfl
theorem Eb:lD (.list cK) EK:=by
 intro x hw hb
 show EK x=_
 rw[Li]
 exact dU (τ:=cK) x 240 (by omega) hb.1 _ (EK.a x) (fun acc i hi ha=>by
  rw[EK.a_eq,ah,aj,ab hi,an i _ hi (by have:=hb.1;omega),Ip _ (hw.2 _ (au (τ:=cK) x i hi)) (hb.2 _ (au (τ:=cK) x i hi))]
  simp only[ae,af]
  rw[aj,show decide (i<acc.length)=true from ab (by rw[ha];exact hi),aC];rfl) (fun acc=>by
  rw[EK.a_eq,ah,ak (aA _),ac])
theorem Ec:lD TSys Lj:=by
 intro x hw hb
 show Lj x=_
 rw[Lk,Io x.1 hw.1 hb.1,Au x.2.1 hw.2.1 hb.2.1,Eb x.2.2 hw.2.2 hb.2.2]
 rfl
theorem Ed:lE bA RY:=by
 intro x _ _
 show RY x x=_
 rw[Ll]
 simp[bg]
theorem Av:lE (.list bA) EL:=by
 intro x hw hb
 show EL x x=_
 have h1:List.length x≤1048576:=hb.1
 rw[Lm,ab (rfl:(List.length x:Int)=(List.length x:Int)),aD,ac]
 refine di (EL.a x x) (List.length x) (fun i hi=> ?_) ?_
 ·rw[EL.a_eq,ah,aj,ab hi,an i _ hi (by omega),Ed _ (hw.2 _ (au (τ:=bA) x i hi)) (hb.2 _ (au (τ:=bA) x i hi))];rfl
 ·rw[EL.a_eq,ah,ak (aA _),ac]
theorem Iq:lE ba R4:=by
 intro x _ _
 show R4 x x=_
 rw[Lx]
 simp[bg]
theorem Ee:lE (.list ba) EP:=by
 intro x hw hb
 show EP x x=_
 have h1:List.length x≤1048576:=hb.1
 rw[Ly,ab (rfl:(List.length x:Int)=(List.length x:Int)),aD,ac]
 refine di (EP.a x x) (List.length x) (fun i hi=> ?_) ?_
 ·rw[EP.a_eq,ah,aj,ab hi,an i _ hi (by omega),Iq _ (hw.2 _ (au (τ:=ba) x i hi)) (hb.2 _ (au (τ:=ba) x i hi))];rfl
 ·rw[EP.a_eq,ah,ak (aA _),ac]
theorem J1:lE aN R0:=by
 intro x _ _
 show R0 x x=_
 rw[Lo]
 simp[bg]
theorem Ir:lE (.list aN) EM:=by
 intro x hw hb
 show EM x x=_
 have h1:List.length x≤1048576:=hb.1
 rw[Lq,ab (rfl:(List.length x:Int)=(List.length x:Int)),aD,ac]
 refine di (EM.a x x) (List.length x) (fun i hi=> ?_) ?_
 ·rw[EM.a_eq,ah,aj,ab hi,an i _ hi (by omega),J1 _ (hw.2 _ (au (τ:=aN) x i hi)) (hb.2 _ (au (τ:=aN) x i hi))];rfl
 ·rw[EM.a_eq,ah,ak (aA _),ac]
theorem Ef:lE pp R5:=by
 intro x _ _
 show R5 x x=_
 rw[Lz]
 simp[]
theorem Aw:lE (.list pp) EQ:=by
 intro x hw hb
 show EQ x x=_
 have h1:List.length x≤1048576:=hb.1
 rw[LB,ab (rfl:(List.length x:Int)=(List.length x:Int)),aD,ac]
 refine di (EQ.a x x) (List.length x) (fun i hi=> ?_) ?_
 ·rw[EQ.a_eq,ah,aj,ab hi,an i _ hi (by omega),Ef _ (hw.2 _ (au (τ:=pp) x i hi)) (hb.2 _ (au (τ:=pp) x i hi))];rfl
 ·rw[EQ.a_eq,ah,ak (aA _),ac]
theorem vD:lE aP R7:=by
 intro x _ _
 show R7 x x=_
 rw[LD]
 simp[bg]
theorem sT:lE (.list aP) ER:=by
 intro x hw hb
 show ER x x=_
 have h1:List.length x≤1048576:=hb.1
 rw[LE,ab (rfl:(List.length x:Int)=(List.length x:Int)),aD,ac]
 refine di (ER.a x x) (List.length x) (fun i hi=> ?_) ?_
 ·rw[ER.a_eq,ah,aj,ab hi,an i _ hi (by omega),vD _ (hw.2 _ (au (τ:=aP) x i hi)) (hb.2 _ (au (τ:=aP) x i hi))];rfl
 ·rw[ER.a_eq,ah,ak (aA _),ac]
theorem vE:lE bD R8:=by
 intro x _ _
 show R8 x x=_
 rw[LF]
 simp[bg]
theorem sU:lE (.list bD) ES:=by
 intro x hw hb
 show ES x x=_
 have h1:List.length x≤1048576:=hb.1
 rw[LG,ab (rfl:(List.length x:Int)=(List.length x:Int)),aD,ac]
 refine di (ES.a x x) (List.length x) (fun i hi=> ?_) ?_
 ·rw[ES.a_eq,ah,aj,ab hi,an i _ hi (by omega),vE _ (hw.2 _ (au (τ:=bD) x i hi)) (hb.2 _ (au (τ:=bD) x i hi))];rfl
 ·rw[ES.a_eq,ah,ak (aA _),ac]
theorem Is:lE cA R9:=by
 intro x _ _
 show R9 x x=_
 rw[LH]
 simp[bg]
theorem Eg:lE (.list cA) ET:=by
 intro x hw hb
 show ET x x=_
 have h1:List.length x≤1048576:=hb.1
 rw[LI,ab (rfl:(List.length x:Int)=(List.length x:Int)),aD,ac]
 refine di (ET.a x x) (List.length x) (fun i hi=> ?_) ?_
 ·rw[ET.a_eq,ah,aj,ab hi,an i _ hi (by omega),Is _ (hw.2 _ (au (τ:=cA) x i hi)) (hb.2 _ (au (τ:=cA) x i hi))];rfl
 ·rw[ET.a_eq,ah,ak (aA _),ac]
theorem sV:lE dT Sa:=by
 intro x _ _
 show Sa x x=_
 rw[LJ]
 simp[]
theorem rD:lE (.list dT) EU:=by
 intro x hw hb
 show EU x x=_
 have h1:List.length x≤1048576:=hb.1
 rw[LL,ab (rfl:(List.length x:Int)=(List.length x:Int)),aD,ac]
 refine di (EU.a x x) (List.length x) (fun i hi=> ?_) ?_
 ·rw[EU.a_eq,ah,aj,ab hi,an i _ hi (by omega),sV _ (hw.2 _ (au (τ:=dT) x i hi)) (hb.2 _ (au (τ:=dT) x i hi))];rfl
 ·rw[EU.a_eq,ah,ak (aA _),ac]
theorem J2:lE gM Sd:=by
 intro x _ _
 show Sd x x=_
 rw[LO]
 simp[]
theorem It:lE (.list gM) EV:=by
 intro x hw hb
 show EV x x=_
 have h1:List.length x≤1048576:=hb.1
 rw[LP,ab (rfl:(List.length x:Int)=(List.length x:Int)),aD,ac]
 refine di (EV.a x x) (List.length x) (fun i hi=> ?_) ?_
 ·rw[EV.a_eq,ah,aj,ab hi,an i _ hi (by omega),J2 _ (hw.2 _ (au (τ:=gM) x i hi)) (hb.2 _ (au (τ:=gM) x i hi))];rfl
 ·rw[EV.a_eq,ah,ak (aA _),ac]
theorem vF:lE (.list (.int .i64)) A5:=by
 intro x hw hb
 show A5 x x=_
 have h1:List.length x≤1048576:=hb.1
 rw[Lu,ab (rfl:(List.length x:Int)=(List.length x:Int)),aD,ac]
 refine di (A5.a x x) (List.length x) (fun i hi=> ?_) ?_
 ·rw[A5.a_eq,ah,aj,ab hi,an i _ hi (by omega),ab (rfl:rd (τ:= .int .i64) x (i:Int)=rd (τ:= .int .i64) x (i:Int))];rfl
 ·rw[A5.a_eq,ah,ak (aA _),ac]
theorem rE:lE (.list .str) tH:=by
 intro x hw hb
 show tH x x=_
 have h1:List.length x≤1048576:=hb.1
 rw[Gd,ab (rfl:(List.length x:Int)=(List.length x:Int)),aD,ac]
 refine di (tH.a x x) (List.length x) (fun i hi=> ?_) ?_
 ·rw[tH.a_eq,ah,aj,ab hi,an i _ hi (by omega),bg,ab (rfl:rd (τ:= .str) x (i:Int)=rd (τ:= .str) x (i:Int))];rfl
 ·rw[tH.a_eq,ah,ak (aA _),ac]
theorem Eh:lE (.arr (.int .i64) 32) EN:=by
 intro x hw hb
 show EN x x=_
 rw[Ls]
 refine di (EN.a x x) 32 (fun i hi=> ?_) ?_
 ·rw[EN.a_eq,ab (show(i:Int)<32 by omega),aj,ab hi,an i 32 hi (by omega),ab (rfl:rd (τ:= .int .i64) x (i:Int)=rd (τ:= .int .i64) x (i:Int))];rfl
 ·rw[EN.a_eq];rfl
theorem J3:lE He R2:=by
 intro x hw hb
 show R2 x x=_
 rw[Lt,Eh x.1 hw.1 hb.1]
 simp[]
theorem Ei:lE dS R3:=by
 intro x hw hb
 show R3 x x=_
 rw[Lv,J3 x.2.1 hw.2.1 hb.2.1,vF x.2.2.1 hw.2.2.1 hb.2.2.1]
 simp[]
theorem Ax:lE (.list dS) EO:=by
 intro x hw hb
 show EO x x=_
 have h1:List.length x≤1048576:=hb.1
 rw[Lw,ab (rfl:(List.length x:Int)=(List.length x:Int)),aD,ac]
 refine di (EO.a x x) (List.length x) (fun i hi=> ?_) ?_
 ·rw[EO.a_eq,ah,aj,ab hi,an i _ hi (by omega),Ei _ (hw.2 _ (au (τ:=dS) x i hi)) (hb.2 _ (au (τ:=dS) x i hi))];rfl
 ·rw[EO.a_eq,ah,ak (aA _),ac]
theorem Iu:lE Ic RZ:=by
 intro x hw hb
 show RZ x x=_
 rw[Ln,Av x.2.2 hw.2.2 hb.2.2]
 simp[bg]
theorem Ej:lE (.list aN) R1:=by
 intro x hw hb
 show R1 x x=_
 rw[Lr,Ir x hw hb]
 rfl
theorem Ay:lE Id R6:=by
 intro x hw hb
 show R6 x x=_
 rw[LC,Ej x.1 hw.1 hb.1,Ax x.2.1 hw.2.1 hb.2.1,Ee x.2.2.1 hw.2.2.1 hb.2.2.1,Aw x.2.2.2 hw.2.2.2 hb.2.2.2]
 simp[]
theorem Ek:lE JV Sc:=by
 intro x hw hb
 show Sc x x=_
 rw[LN,vF x.1 hw.1 hb.1,rE x.2.1 hw.2.1 hb.2.1,vF x.2.2.1 hw.2.2.1 hb.2.2.1,rE x.2.2.2 hw.2.2.2 hb.2.2.2]
 simp[]
theorem El:lE JU Sb:=by
 intro x hw hb
 show Sb x x=_
 rw[LM,sT x.2.2.1 hw.2.2.1 hb.2.2.1,sU x.2.2.2.1 hw.2.2.2.1 hb.2.2.2.1,Eg x.2.2.2.2.1 hw.2.2.2.2.1 hb.2.2.2.2.1,rD x.2.2.2.2.2 hw.2.2.2.2.2 hb.2.2.2.2.2]
 simp[bg]
theorem Iv:lE cK Se:=by
 intro x hw hb
 show Se x x=_
 rw[LQ,El x.1 hw.1 hb.1,Ek x.2.1 hw.2.1 hb.2.1,It x.2.2 hw.2.2 hb.2.2]
 simp[]
theorem Em:lE (.list cK) EW:=by
 intro x hw hb
 show EW x x=_
 have h1:List.length x≤1048576:=hb.1
 rw[LR,ab (rfl:(List.length x:Int)=(List.length x:Int)),aD,ac]
 refine di (EW.a x x) (List.length x) (fun i hi=> ?_) ?_
 ·rw[EW.a_eq,ah,aj,ab hi,an i _ hi (by omega),Iv _ (hw.2 _ (au (τ:=cK) x i hi)) (hb.2 _ (au (τ:=cK) x i hi))];rfl
 ·rw[EW.a_eq,ah,ak (aA _),ac]
theorem Eo:lE TSys Sf:=by
 intro x hw hb
 show Sf x x=_
 rw[LS,Iu x.1 hw.1 hb.1,Ay x.2.1 hw.2.1 hb.2.1,Em x.2.2 hw.2.2 hb.2.2]
 simp[]
theorem Iw {ps:List IP} (h:o6 (.list cK) ps):yb ps:=by
 intro j hj k hk
 have hp:=h.2 _ (au (τ:=cK) ps j hj)
 generalize rd (τ:=cK) ps (j:Int)=p at*
 have hr:=hp.1.2.2.2.2.1.2 _ (au (τ:=cA) p.1.2.2.2.2.1 k hk)
 exact hr.1
theorem RF {n:Int} (h:(31≤n∧n≤40)∨(50≤n∧n≤62)):(bG n).1=8:=by
 obtain⟨k,rfl⟩:=mE (n:=n) (by omega) (by omega)
 revert k
 decide
theorem yd {n d a b i:Int} (f:Int) (hf:(bG n).1=f) (hn:1≤n∧n≤64) (hd:0≤d∧d≤31) (ha:0≤a∧a≤31) (hb:0≤b∧b≤31) (g1:(be f).1=true∨d=0) (g2:(be f).2.1=true∨a=0) (g3:(be f).2.2=true∨b=0) (hi:js f i=true):dw (n,d,a,b,i)=true:=by
 simp only[dw,ay,Bool.or_eq_true,aV,hf]
 exact⟨⟨⟨⟨⟨⟨⟨⟨⟨⟨⟨hn.1,hn.2⟩,hd.1⟩,hd.2⟩,ha.1⟩,ha.2⟩,hb.1⟩,hb.2⟩,g1⟩,g2⟩,g3⟩,hi⟩
theorem TZ {i:Int} (h: -2147483648≤i∧i≤2147479552∧i%4096=0):js 1 i=true:=by simp[js];omega
theorem r1 {a i:Int} (ha:0≤a∧a≤31) (h: -2147483648≤i∧i≤2147479552∧i%4096=0):dw (1,a,0,0,i)=true:=yd 1 rfl (by decide) ha (by decide) (by decide) (.inl rfl) (.inr rfl) (.inr rfl) (TZ h)
theorem r8 {n a b c:Int} (h:(31≤n∧n≤40)∨(50≤n∧n≤62)) (ha:0≤a∧a≤31) (hb:0≤b∧b≤31) (hc:0≤c∧c≤31):dw (n,a,b,c,0)=true:=yd 8 (RF h) (by omega) ha hb hc (.inl rfl) (.inl rfl) (.inl rfl) rfl
theorem Ep (n:Int):mS (IntKind.wrap .i64 n):=Cz n
theorem Er {a b:ByteArray} (h:a.size+b.size≤4194304):decide (a.size+b.size≤9223372036854775807)=true:=ab (by omega)
def MK {α:Type} (m:Int) (C:Nat) (v:Option (Int×α)):Prop:=∃r,v=some r∧m≤r.1∧r.1≤m+C
def vN {α:Type} (τ:Ty) (f:τ.den→Int→Option (Int×α)) (C:Nat):Prop:=∀x,yp τ x→∀m:Int,1≤m→m+C≤4611686018427387904→MK m C (f x m)
theorem MK.bind {α β:Type} {m:Int} {C D E:Nat} {v:Option (Int×α)} (h:MK m C v) (k:Int×α→Option (Int×β)) (hk:∀r,m≤r.1→r.1≤m+C→MK r.1 D (k r)) (hE:C+D≤E):MK m E (v.bind k):=by
 obtain⟨r,e,h1,h2⟩:=h
 obtain⟨q,e',h3,h4⟩:=hk r h1 h2
 rw[e,af]
 exact⟨q,e',by omega,by omega⟩
theorem vG {τ:Ty} (xs:List τ.den) (i j:Nat) (v:τ.den) (h:i≠j):rd (τ:=τ) (xs.set i v) (j:Int)=rd (τ:=τ) xs (j:Int):=by
 unfold rd;rw[aC,List.getD_eq_getElem?_getD,List.getElem?_set_ne h,←List.getD_eq_getElem?_getD]
end Go.Proofs.YtijpmnicihmoaaaGreatDoor.S
