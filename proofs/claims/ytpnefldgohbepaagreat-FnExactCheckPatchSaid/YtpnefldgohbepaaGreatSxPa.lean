import Derived.Test.YtpnefldgohbepaaGreatSxP
namespace Go.Proofs.YtpnefldgohbepaaGreat.S
open Go.Ps
set_option linter.unusedVariables false
set_option maxRecDepth 100000
theorem Ab (t:List dg) (o:bq) (ht:t.length≤64) (hz:ObjSz o):uE t o=some (ia t o):=by
 have h1:=hz.f
 have h2:=hz.d
 rw[Pr]
 rw[jW (L:=uE.a t o) (GE t o) o.2.2.1.length fun i hi=> ?_]
 ·rw[uE.a_eq,ai,ak (aB _),ac]
  rw[jW (L:=uE.b t o) (LN t o) o.2.2.2.1.length fun i hi=> ?_]
  ·rw[uE.b_eq,ai,ak (aB _),ac,yV]
   unfold ia
   split<;>rfl
  ·rw[uE.b_eq,ai,aj,ab hi,an i _ hi (by omega),(dJ t _ (by omega)).2]
   unfold LN
   simp only[ae,af]
   by_cases h:cD t (rd (τ:=bF) o.2.2.2.1 (i:Int)).1≥0
   ·rw[av h,ab h];rfl
   ·rw[ap h,ak h];rfl
 ·rw[uE.a_eq,ai,aj,ab hi,an i _ hi (by omega),(dJ t _ (by omega)).2]
  unfold GE
  simp only[ae,af]
  have hr:=dX t (rd (τ:=aS) o.2.2.1 (i:Int)).1
  generalize cD t (rd (τ:=aS) o.2.2.1 (i:Int)).1=e at*
  cases (rd (τ:=aS) o.2.2.1 (i:Int)).2.1 with
  |false=>
   by_cases h:e≥0
   ·simp only[Bool.false_eq_true,if_false,av h,ab h];rfl
   ·simp only[Bool.false_eq_true,if_false,ap h,ak h];rfl
  |true=>
   rcases hr with h|h
   ·simp only[if_true,av (show e<0 by omega),ab (show e<0 by omega)];rfl
   ·simp only[if_true,ap (show¬e<0 by omega),ak (show¬e<0 by omega),inL_true h.1 h.2]
    by_cases h3:(rd (τ:=bb) t e).2.1=1
    ·simp only[av h3,ab h3];rfl
    ·simp only[ap h3,ak h3];rfl
structure cB (a:bH):Prop where
 base:0≤a.1∧a.1≤1048575∧a.1%8=0
 size:0≤a.2.1∧a.2.1≤1048576-a.1∧a.2.1%8=0
 top:a.1≤a.2.2∧a.2.2≤a.1+a.2.1∧a.2.2%8=0
theorem n7 (n:Int):n.tmod 8=0↔n%8=0:=⟨fun h=>by rw[←Int.dvd_iff_tmod_eq_zero]at h;omega,fun h=>by rw[←Int.dvd_iff_tmod_eq_zero];omega⟩
theorem ug {a:bH}:CB a=true↔cB a:=by
 unfold CB
 simp only[az,bI,aW,n7]
 constructor
 ·rintro⟨⟨⟨⟨⟨h1,h2⟩,h3⟩,h4⟩,h5⟩,h6⟩
  rw[bf (n:=1048576-a.1) (by omega) (by omega)]at h2
  rw[bf (n:=a.1+a.2.1) (by omega) (by omega)]at h3
  exact⟨⟨h1.1,h1.2,h4⟩,⟨h2.1,h2.2,h5⟩,⟨h3.1,h3.2,h6⟩⟩
 ·rintro⟨⟨h1,h2,h3⟩,⟨h4,h5,h6⟩,h7,h8,h9⟩
  rw[bf (n:=1048576-a.1) (by omega) (by omega),bf (n:=a.1+a.2.1) (by omega) (by omega)]
  exact⟨⟨⟨⟨⟨⟨h1,h2⟩,h4,h5⟩,h7,h8⟩,h3⟩,h6⟩,h9⟩
def pw (n:Nat):Nat:=(n+7)/8*8
def aN (a:bH) (n:Nat):bH×Int×Bool:=if(pw n:Int)>a.1+a.2.1-a.2.2 then(a,0,false)else((a.1,a.2.1,a.2.2+(pw n:Int)),a.2.2,true)
theorem dh {a:bH} (h:cB a) (n:Nat):cB (aN a n).1:=by
 unfold aN
 split
 ·exact h
 ·obtain⟨⟨h1,h2,h3⟩,⟨h4,h5,h6⟩,h7,h8,h9⟩:=h
  have:pw n%8=0:=by unfold pw;omega
  refine⟨⟨h1,h2,h3⟩,⟨h4,h5,h6⟩, ?_, ?_, ?_⟩<;>simp only<;>omega
theorem kK (a:bH) (h:cB a) (n:Nat) (hn:n≤256):Z0 a (n:Int)=some (aN a n):=by
 obtain⟨⟨h1,h2,h3⟩,⟨h4,h5,h6⟩,h7,h8,h9⟩:=h
 rw[Sy,bf (n:=(n:Int)+7) (by omega) (by omega),Int.tdiv_eq_ediv_of_nonneg (by omega),bf (n:=((n:Int)+7)/8) (by omega) (by omega),bf (n:=((n:Int)+7)/8*8) (by omega) (by omega),bf (n:=a.1+a.2.1) (by omega) (by omega),bf (n:=a.1+a.2.1-a.2.2) (by omega) (by omega),show((n:Int)+7)/8*8=(pw n:Int) by unfold pw;omega]
 have:pw n≤264:=by unfold pw;omega
 rw[bf (n:=a.2.2+(pw n:Int)) (by omega) (by omega)]
 unfold aN
 by_cases h:(pw n:Int)>a.1+a.2.1-a.2.2
 ·rw[av h,ab h];rfl
 ·rw[ap h,ak h];rfl
theorem pz (a:bH) (h:cB a) (z:bH):∀(k n:Nat),n+k=pw n→n≤256→Ge.a (n:Int) a z=some (aN a n):=by
 obtain⟨⟨h1,h2,h3⟩,⟨h4,h5,h6⟩,h7,h8,h9⟩:=h
 intro k
 induction k with
 |zero=>
  intro n hn hn2
  have h0:n%8=0:=by unfold pw at hn;omega
  have e:decide ((n:Int).tmod 8=0)=true:=ab ((n7 _).2 (by omega))
  rw[Ge.a_eq,e,bf (n:=a.1+a.2.1) (by omega) (by omega),bf (n:=a.1+a.2.1-a.2.2) (by omega) (by omega),bf (n:=a.2.2+(n:Int)) (by omega) (by omega)]
  unfold aN
  rw[←hn,Nat.add_zero]
  by_cases h:(n:Int)>a.1+a.2.1-a.2.2
  ·rw[av h,ab h];rfl
  ·rw[ap h,ak h];rfl
 |succ k ih=>
  intro n hn hn2
  have h0:n%8≠0:=by unfold pw at hn;omega
  have h256:n≠256:=by intro h;subst h;exact h0 rfl
  have e:decide ((n:Int).tmod 8=0)=false:=ak (fun h=>h0 (by have:=(n7 _).1 h;omega))
  have hu:pw (n+1)=pw n:=by unfold pw;omega
  rw[Ge.a_eq,e,bf (n:=(n:Int)+1) (by omega) (by omega)]
  simp only[Bool.not_false,ae]
  rw[show(n:Int)+1=((n+1:Nat):Int) by omega,ih (n+1) (by rw[hu];omega) (by omega)]
  unfold aN
  rw[hu]
theorem kL (a:bH) (h:cB a) (n:Nat) (hn:n≤256):Ge a (n:Int)=some (aN a n):=by
 rw[Pt];exact pz a h _ (pw n-n) n (by unfold pw;omega) hn
def cP (sz:Nat→Nat) (a:bH):Nat→Nat→bH×List Int×Bool
 |_,0=>(a,[],true)
 |i,k+1=>((cP sz (aN a (sz i)).1 (i+1) k).1,(aN a (sz i)).2.1::(cP sz (aN a (sz i)).1 (i+1) k).2.1,(aN a (sz i)).2.2&&(cP sz (aN a (sz i)).1 (i+1) k).2.2)
theorem co (sz:Nat→Nat):∀k i a,(cP sz a i k).2.1.length=k
 |0,_,_=>rfl
 |k+1,i,a=>by rw[cP,List.length_cons,co sz k]
theorem rk (sz:Nat→Nat):∀k i a,cB a→cB (cP sz a i k).1
 |0,_,_,h=>h
 |k+1,i,a,h=>by rw[cP];exact rk sz k (i+1) _ (dh h _)
def ew (o:bq) (i:Nat):Nat:=(rd (τ:=aS) o.2.2.1 (i:Int)).2.2.2.size
def kj (o:bq) (i:Nat):Nat:=(rd (τ:=bF) o.2.2.2.1 (i:Int)).2.size
def lV (o:bq) (i:Nat):ByteArray:=(rd (τ:=aS) o.2.2.1 (i:Int)).2.2.2
def kM (o:bq) (i:Nat):ByteArray:=(rd (τ:=bF) o.2.2.2.1 (i:Int)).2
def after (f:Int) (ok:Bool):Int:=if f=0∧ok=false then 7 else f
theorem kN (f:Int) (a b:Bool):after (after f a) b=after f (a&&b):=by
 unfold after
 cases a<;>cases b<;>by_cases h:f=0<;>simp[h]
theorem Ac (o:bq) (hz:UnitSz o) (x6:bH) (x8:e7) (x9 x10:bH) (r:List dg×bq) (l3:List Int) (l4:List ByteArray):∀(k i:Nat) (a:bH) (ats:List Int) (codes:List ByteArray) (f:Int),i+k=o.2.2.1.length→cB a→ats.length=i→codes.length=i→
  Zb.a a x6 o x8 x9 x10 ((ats,codes,l3,l4),r) f o.2.2.1 (o.2.2.1.length:Int) (i:Int)=
   Zb.b (cP (ew o) a i k).1 x6 o x8 x9 x10 ((ats++(cP (ew o) a i k).2.1,codes++bu (lV o) i k,l3,l4),r) (after f (cP (ew o) a i k).2.2) o.2.2.2.1 (o.2.2.2.1.length:Int) 0:=by
 have h4:=hz.f
 intro k
 induction k with
 |zero=>
  intro i a ats codes f hk ha h1 h2
  have:i=o.2.2.1.length:=by omega
  subst this
  rw[Zb.a_eq,ai,ak (aB _),ac,cP,bu,List.append_nil,List.append_nil]
  simp[after]
 |succ k ih=>
  intro i a ats codes f hk ha h1 h2
  have hi:i<o.2.2.1.length:=by omega
  rw[Zb.a_eq,ai,aj,ab hi,an i _ hi (by omega)]
  rw[kK a ha _ (by have:=hz.fs i hi;omega)]
  simp only[ae,af,aA]
  rw[l7 _ (by simp;omega),k6 _ (by simp;omega)]
  simp only[ae]
  have e:(bif decide (f=0)then bif !(aN a (rd (τ:=aS) o.2.2.1 (i:Int)).2.2.2.size).2.2 then Zb.a (aN a (rd (τ:=aS) o.2.2.1 (i:Int)).2.2.2.size).1 x6 o x8 x9 x10 ((ats++[(aN a (rd (τ:=aS) o.2.2.1 (i:Int)).2.2.2.size).2.1],codes++[(rd (τ:=aS) o.2.2.1 (i:Int)).2.2.2],l3,l4),r) 7 o.2.2.1 (o.2.2.1.length:Int) ((i+1:Nat):Int)
    else Zb.a (aN a (rd (τ:=aS) o.2.2.1 (i:Int)).2.2.2.size).1 x6 o x8 x9 x10 ((ats++[(aN a (rd (τ:=aS) o.2.2.1 (i:Int)).2.2.2.size).2.1],codes++[(rd (τ:=aS) o.2.2.1 (i:Int)).2.2.2],l3,l4),r) f o.2.2.1 (o.2.2.1.length:Int) ((i+1:Nat):Int)
    else bif false then Zb.a (aN a (rd (τ:=aS) o.2.2.1 (i:Int)).2.2.2.size).1 x6 o x8 x9 x10 ((ats++[(aN a (rd (τ:=aS) o.2.2.1 (i:Int)).2.2.2.size).2.1],codes++[(rd (τ:=aS) o.2.2.1 (i:Int)).2.2.2],l3,l4),r) 7 o.2.2.1 (o.2.2.1.length:Int) ((i+1:Nat):Int)
    else Zb.a (aN a (rd (τ:=aS) o.2.2.1 (i:Int)).2.2.2.size).1 x6 o x8 x9 x10 ((ats++[(aN a (rd (τ:=aS) o.2.2.1 (i:Int)).2.2.2.size).2.1],codes++[(rd (τ:=aS) o.2.2.1 (i:Int)).2.2.2],l3,l4),r) f o.2.2.1 (o.2.2.1.length:Int) ((i+1:Nat):Int))=
    Zb.a (aN a (ew o i)).1 x6 o x8 x9 x10 ((ats++[(aN a (ew o i)).2.1],codes++[lV o i],l3,l4),r) (after f (aN a (ew o i)).2.2) o.2.2.1 (o.2.2.1.length:Int) ((i+1:Nat):Int):=by
   unfold after ew lV
   generalize aN a (rd (τ:=aS) o.2.2.1 (i:Int)).2.2.2.size=p
   by_cases h:f=0
   ·rw[ab h]
    cases hp:p.2.2<;>simp[h]
   ·rw[ak h];simp[h]
  rw[e,ih (i+1) _ _ _ _ (by omega) (dh ha _) (by simp;omega) (by simp;omega),cP,bu,kN,bl,bl]
  rfl
theorem Ad (o:bq) (hz:UnitSz o) (x5:bH) (x8:e7) (x9 x10:bH) (r:List dg×bq) (l1:List Int) (l2:List ByteArray):∀(k i:Nat) (a:bH) (ats:List Int) (codes:List ByteArray) (f:Int),i+k=o.2.2.2.1.length→cB a→ats.length=i→codes.length=i→
  Zb.b x5 a o x8 x9 x10 ((l1,l2,ats,codes),r) f o.2.2.2.1 (o.2.2.2.1.length:Int) (i:Int)=
   Zb.c x5 (cP (kj o) a i k).1 o x8 x9 x10 ((l1,l2,ats++(cP (kj o) a i k).2.1,codes++bu (kM o) i k),r) (after f (cP (kj o) a i k).2.2) o.2.2.2.2.1 (o.2.2.2.2.1.length:Int) 0:=by
 have h4:=hz.d
 intro k
 induction k with
 |zero=>
  intro i a ats codes f hk ha h1 h2
  have:i=o.2.2.2.1.length:=by omega
  subst this
  rw[Zb.b_eq,ai,ak (aB _),ac,cP,bu,List.append_nil,List.append_nil]
  simp[after]
 |succ k ih=>
  intro i a ats codes f hk ha h1 h2
  have hi:i<o.2.2.2.1.length:=by omega
  rw[Zb.b_eq,ai,aj,ab hi,an i _ hi (by omega)]
  rw[kK a ha _ (by have:=hz.ds i hi;omega)]
  simp only[ae,af,aA]
  rw[l7 _ (by simp;omega),k6 _ (by simp;omega)]
  simp only[ae]
  have e:(bif decide (f=0)then bif !(aN a (rd (τ:=bF) o.2.2.2.1 (i:Int)).2.size).2.2 then Zb.b x5 (aN a (rd (τ:=bF) o.2.2.2.1 (i:Int)).2.size).1 o x8 x9 x10 ((l1,l2,ats++[(aN a (rd (τ:=bF) o.2.2.2.1 (i:Int)).2.size).2.1],codes++[(rd (τ:=bF) o.2.2.2.1 (i:Int)).2]),r) 7 o.2.2.2.1 (o.2.2.2.1.length:Int) ((i+1:Nat):Int)
    else Zb.b x5 (aN a (rd (τ:=bF) o.2.2.2.1 (i:Int)).2.size).1 o x8 x9 x10 ((l1,l2,ats++[(aN a (rd (τ:=bF) o.2.2.2.1 (i:Int)).2.size).2.1],codes++[(rd (τ:=bF) o.2.2.2.1 (i:Int)).2]),r) f o.2.2.2.1 (o.2.2.2.1.length:Int) ((i+1:Nat):Int)
    else bif false then Zb.b x5 (aN a (rd (τ:=bF) o.2.2.2.1 (i:Int)).2.size).1 o x8 x9 x10 ((l1,l2,ats++[(aN a (rd (τ:=bF) o.2.2.2.1 (i:Int)).2.size).2.1],codes++[(rd (τ:=bF) o.2.2.2.1 (i:Int)).2]),r) 7 o.2.2.2.1 (o.2.2.2.1.length:Int) ((i+1:Nat):Int)
    else Zb.b x5 (aN a (rd (τ:=bF) o.2.2.2.1 (i:Int)).2.size).1 o x8 x9 x10 ((l1,l2,ats++[(aN a (rd (τ:=bF) o.2.2.2.1 (i:Int)).2.size).2.1],codes++[(rd (τ:=bF) o.2.2.2.1 (i:Int)).2]),r) f o.2.2.2.1 (o.2.2.2.1.length:Int) ((i+1:Nat):Int))=
    Zb.b x5 (aN a (kj o i)).1 o x8 x9 x10 ((l1,l2,ats++[(aN a (kj o i)).2.1],codes++[kM o i]),r) (after f (aN a (kj o i)).2.2) o.2.2.2.1 (o.2.2.2.1.length:Int) ((i+1:Nat):Int):=by
   unfold after kj kM
   generalize aN a (rd (τ:=bF) o.2.2.2.1 (i:Int)).2.size=p
   by_cases h:f=0
   ·rw[ab h]
    cases hp:p.2.2<;>simp[h]
   ·rw[ak h];simp[h]
  rw[e,ih (i+1) _ _ _ _ (by omega) (dh ha _) (by simp;omega) (by simp;omega),cP,bu,kN,bl,bl]
  rfl
theorem Ae (o:bq) (hz:UnitSz o) (x4:bH) (x6:e7) (x7 x8:bH) (l3:List Int) (l4:List ByteArray):∀(k i:Nat) (a:bH) (ats:List Int) (codes:List ByteArray),i+k=o.2.2.1.length→cB a→ats.length=i→codes.length=i→
  ((cP (ew o) a i k).2.2=true→rZ.a a x4 o x6 x7 x8 (ats,codes,l3,l4) (i:Int)=rZ.b (cP (ew o) a i k).1 x4 o x6 x7 x8 (ats++(cP (ew o) a i k).2.1,codes++bu (lV o) i k,l3,l4) 0)∧
  ((cP (ew o) a i k).2.2=false→∃r,rZ.a a x4 o x6 x7 x8 (ats,codes,l3,l4) (i:Int)=some r∧r.2.2.2=false):=by
 have h4:=hz.f
 intro k
 induction k with
 |zero=>
  intro i a ats codes hk ha h1 h2
  have:i=o.2.2.1.length:=by omega
  subst this
  rw[rZ.a_eq,ai,ak (aB _),ac,cP,bu,List.append_nil,List.append_nil]
  exact⟨fun _=>rfl,fun h=>by cases h⟩
 |succ k ih=>
  intro i a ats codes hk ha h1 h2
  have hi:i<o.2.2.1.length:=by omega
  rw[rZ.a_eq,ai,aj,ab hi,an i _ hi (by omega)]
  rw[kL a ha _ (by have:=hz.fs i hi;omega)]
  simp only[ae,af]
  rw[l7 _ (by simp;omega),k6 _ (by simp;omega)]
  simp only[ae]
  obtain⟨i1,i2⟩:=ih (i+1) (aN a (ew o i)).1 (ats++[(aN a (ew o i)).2.1]) (codes++[lV o i]) (by omega) (dh ha _) (by simp;omega) (by simp;omega)
  rw[cP,bu]
  rw[show aN a (rd (τ:=aS) o.2.2.1 (i:Int)).2.2.2.size=aN a (ew o i) from rfl]
  cases hp:(aN a (ew o i)).2.2 with
  |false=>exact⟨fun h=>by simp at h,fun _=>⟨_,rfl,rfl⟩⟩
  |true=>
   simp only[Bool.true_and,aH,ac]
   refine⟨fun h=> ?_,fun h=>i2 h⟩
   have:=i1 h
   rw[bl,bl]at this
   exact this
theorem Af (o:bq) (hz:UnitSz o) (x3:bH) (x6:e7) (x7 x8:bH) (l1:List Int) (l2:List ByteArray):∀(k i:Nat) (a:bH) (ats:List Int) (codes:List ByteArray),i+k=o.2.2.2.1.length→cB a→ats.length=i→codes.length=i→
  ((cP (kj o) a i k).2.2=true→rZ.b x3 a o x6 x7 x8 (l1,l2,ats,codes) (i:Int)=some ((l1,l2,ats++(cP (kj o) a i k).2.1,codes++bu (kM o) i k),x3,(cP (kj o) a i k).1,true))∧
  ((cP (kj o) a i k).2.2=false→∃r,rZ.b x3 a o x6 x7 x8 (l1,l2,ats,codes) (i:Int)=some r∧r.2.2.2=false):=by
 have h4:=hz.d
 intro k
 induction k with
 |zero=>
  intro i a ats codes hk ha h1 h2
  have:i=o.2.2.2.1.length:=by omega
  subst this
  rw[rZ.b_eq,ai,ak (aB _),ac,cP,bu,List.append_nil,List.append_nil]
  exact⟨fun _=>rfl,fun h=>by cases h⟩
 |succ k ih=>
  intro i a ats codes hk ha h1 h2
  have hi:i<o.2.2.2.1.length:=by omega
  rw[rZ.b_eq,ai,aj,ab hi,an i _ hi (by omega)]
  rw[kL a ha _ (by have:=hz.ds i hi;omega)]
  simp only[ae,af]
  rw[l7 _ (by simp;omega),k6 _ (by simp;omega)]
  simp only[ae]
  obtain⟨i1,i2⟩:=ih (i+1) (aN a (kj o i)).1 (ats++[(aN a (kj o i)).2.1]) (codes++[kM o i]) (by omega) (dh ha _) (by simp;omega) (by simp;omega)
  rw[cP,bu]
  rw[show aN a (rd (τ:=bF) o.2.2.2.1 (i:Int)).2.size=aN a (kj o i) from rfl]
  cases hp:(aN a (kj o i)).2.2 with
  |false=>exact⟨fun h=>by simp at h,fun _=>⟨_,rfl,rfl⟩⟩
  |true=>
   simp only[Bool.true_and,aH,ac]
   refine⟨fun h=> ?_,fun h=>i2 h⟩
   have:=i1 h
   rw[bl,bl]at this
   exact this
def dm (o:bq) (a b:bH):e7×bH×bH×Bool:=
 (((cP (ew o) a 0 o.2.2.1.length).2.1,bu (lV o) 0 o.2.2.1.length,(cP (kj o) b 0 o.2.2.2.1.length).2.1,bu (kM o) 0 o.2.2.2.1.length),
  (cP (ew o) a 0 o.2.2.1.length).1,(cP (kj o) b 0 o.2.2.2.1.length).1,(cP (ew o) a 0 o.2.2.1.length).2.2&&(cP (kj o) b 0 o.2.2.2.1.length).2.2)
theorem Ho (o:bq) (hz:UnitSz o) (a b:bH) (ha:cB a) (hb:cB b):((dm o a b).2.2.2=true→rZ a b o=some (dm o a b))∧((dm o a b).2.2.2=false→∃r,rZ a b o=some r∧r.2.2.2=false):=by
 rw[Pu]
 obtain⟨f1,f2⟩:=Ae o hz b ([],[],[],[]) (0,0,0) (0,0,0) [] [] o.2.2.1.length 0 a [] [] (by omega) ha rfl rfl
 obtain⟨d1,d2⟩:=Af o hz (cP (ew o) a 0 o.2.2.1.length).1 ([],[],[],[]) (0,0,0) (0,0,0) (cP (ew o) a 0 o.2.2.1.length).2.1 (bu (lV o) 0 o.2.2.1.length) o.2.2.2.1.length 0 b [] [] (by omega) hb rfl rfl
 simp only[List.nil_append]at f1 d1
 unfold dm
 simp only
 cases h1:(cP (ew o) a 0 o.2.2.1.length).2.2 with
 |false=>exact⟨fun h=>(by cases h),fun _=>f2 h1⟩
 |true=>
  rw[Bool.true_and]
  refine⟨fun h=> ?_,fun h=> ?_⟩
  ·rw[h]
   exact(f1 h1).trans (d1 h)
  ·obtain⟨r,h3,h4⟩:=d2 h
   exact⟨r,(f1 h1).trans h3,h4⟩
theorem Hp (o:bq) (hz:UnitSz o) (a b:bH) (ha:cB a) (hb:cB b) (x8:e7) (x9 x10:bH) (t:List dg) (f:Int):
  Zb.a a b o x8 x9 x10 (([],[],[],[]),t,o) f o.2.2.1 (o.2.2.1.length:Int) 0=
   Zb.c (dm o a b).2.1 (dm o a b).2.2.1 o x8 x9 x10 ((dm o a b).1,t,o) (after f (dm o a b).2.2.2) o.2.2.2.2.1 (o.2.2.2.2.1.length:Int) 0:=by
 have h1:=Ac o hz b x8 x9 x10 (t,o) [] [] o.2.2.1.length 0 a [] [] f (by omega) ha rfl rfl
 have h2:=Ad o hz (cP (ew o) a 0 o.2.2.1.length).1 x8 x9 x10 (t,o) (cP (ew o) a 0 o.2.2.1.length).2.1 (bu (lV o) 0 o.2.2.1.length) o.2.2.2.1.length 0 b [] [] (after f (cP (ew o) a 0 o.2.2.1.length).2.2) (by omega) hb rfl rfl
 simp only[List.nil_append]at h1 h2
 rw[kN]at h2
 exact h1.trans h2
def Lx (x:Int):Prop:=0≤x∧x≤1048575∧x%8=0
theorem Do {a:bH} (h:cB a) (n:Nat) (hn:1≤n):Lx (aN a n).2.1:=by
 obtain⟨⟨h1,h2,h3⟩,⟨h4,h5,h6⟩,h7,h8,h9⟩:=h
 unfold aN
 split
 ·exact⟨by simp,by simp,by simp⟩
 ·have:8≤pw n:=by unfold pw;omega
  refine⟨?_, ?_, ?_⟩<;>simp only<;>omega
theorem Ag (sz:Nat→Nat):∀k i a,cB a→(∀j,i≤j→j<i+k→1≤sz j)→∀x∈(cP sz a i k).2.1,Lx x
 |0,_,_,_,_,x,hx=>by cases hx
 |k+1,i,a,h,hs,x,hx=>by
  rw[cP]at hx
  rcases List.mem_cons.1 hx with rfl|hx
  ·exact Do h _ (hs i (Nat.le_refl _) (by omega))
  ·exact Ag sz k (i+1) _ (dh h _) (fun j h1 h2=>hs j (by omega) (by omega)) x hx
structure ft (o:bq) (l:e7):Prop where
 a:l.1.length=o.2.2.1.length
 c:l.2.1.length=o.2.2.1.length
 d:l.2.2.1.length=o.2.2.2.1.length
 b:l.2.2.2.length=o.2.2.2.1.length
 cs:∀i:Nat,i<o.2.2.1.length→(rd (τ:= .str) l.2.1 (i:Int)).size=ew o i
 bs:∀i:Nat,i<o.2.2.2.1.length→(rd (τ:= .str) l.2.2.2 (i:Int)).size=kj o i
 fa:∀i:Nat,i<o.2.2.1.length→Lx (rd (τ:= .int .i64) l.1 (i:Int))
 ds:∀i:Nat,i<o.2.2.2.1.length→Lx (rd (τ:= .int .i64) l.2.2.1 (i:Int))
theorem pQ {τ:Ty} (f:Nat→τ.den) (k j:Nat) (h:j<k):rd (τ:=τ) (bu f 0 k) (j:Int)=f j:=by
 rw[aV _ _ (by rw[aQ];exact h),hJ,Nat.zero_add]
theorem eG.fsz_pos {o:bq} (h:eG o) (i:Nat) (hi:i<o.2.2.1.length):20≤ew o i∧ew o i≤256∧ew o i%4=0:=by
 have:=(jq (h.fun_ i hi)).2.2.2
 unfold bx at this
 unfold ew
 cases h1:ca (rd (τ:=aS) o.2.2.1 (i:Int)).2.2.2.size with
 |false=>rw[h1]at this;cases this
 |true=>
  rw[h1,ae,aW]at this
  have h2:=dw h1
  exact⟨by omega,h2.2,h2.1⟩
theorem eG.dsz_pos {o:bq} (h:eG o) (i:Nat) (hi:i<o.2.2.2.1.length):8≤kj o i∧kj o i≤64∧kj o i%8=0:=po (jr (h.dat i hi)).2.2
theorem xG (o:bq) (h:eG o) (a b:bH) (ha:cB a) (hb:cB b):ft o (dm o a b).1∧cB (dm o a b).2.1∧cB (dm o a b).2.2.1:=by
 refine⟨⟨co _ _ _ _,aQ _ _ _,co _ _ _ _,aQ _ _ _,fun i hi=> ?_,fun i hi=> ?_,fun i hi=> ?_,fun i hi=> ?_⟩,rk _ _ _ _ ha,rk _ _ _ _ hb⟩
 ·show(rd (τ:= .str) (bu (lV o) 0 o.2.2.1.length) (i:Int)).size=_
  rw[pQ (τ:= .str) (lV o) _ _ hi];rfl
 ·show(rd (τ:= .str) (bu (kM o) 0 o.2.2.2.1.length) (i:Int)).size=_
  rw[pQ (τ:= .str) (kM o) _ _ hi];rfl
 ·have hl:=co (ew o) o.2.2.1.length 0 a
  show Lx (rd (τ:= .int .i64) (cP (ew o) a 0 o.2.2.1.length).2.1 (i:Int))
  rw[aV (τ:= .int .i64) _ i (by rw[hl];exact hi)]
  exact Ag _ _ _ _ ha (fun j _ h2=>by have:=h.fsz_pos j (by omega);omega) _ (List.getElem_mem _)
 ·have hl:=co (kj o) o.2.2.2.1.length 0 b
  show Lx (rd (τ:= .int .i64) (cP (kj o) b 0 o.2.2.2.1.length).2.1 (i:Int))
  rw[aV (τ:= .int .i64) _ i (by rw[hl];exact hi)]
  exact Ag _ _ _ _ hb (fun j _ h2=>by have:=h.dsz_pos j (by omega);omega) _ (List.getElem_mem _)
theorem Ke (v:Int) (i:Nat) (hi:i<8):(v%18446744073709551616)/2^(8*i)%256=v/2^(8*i)%256:=by
 match i,hi with
 |0,_=>omega
 |1,_=>omega
 |2,_=>omega
 |3,_=>omega
 |4,_=>omega
 |5,_=>omega
 |6,_=>omega
 |7,_=>omega
theorem S8 (n:Nat) (h:n≤4096):aw n 1=true:=by simp[aw];omega
theorem n8 (v:Int) (n:Nat) (hn:n≤8):∀(k i:Nat) (xs:List Int),i+k=n→xs.length=i→yZ.a v (n:Int) xs (i:Int)=some (aT (xs++iW (v/2^(8*i)) k)):=by
 intro k
 induction k with
 |zero=>
  intro i xs h hx
  have:i=n:=by omega
  subst this
  rw[yZ.a_eq,ai,ak (aB _),ac,iW,List.append_nil]
 |succ k ih=>
  intro i xs h hx
  rw[yZ.a_eq,ai,ab (show i<n by omega),bf (n:=8*(i:Int)) (by omega) (by omega),I0 (n:=8*(i:Int)) (by omega) (by omega),ak (show¬8*(i:Int)<0 by omega),an i n (by omega) (by omega),np,uH (by omega) (by omega),Cz,S8 _ (by simp;omega),ih (i+1) _ (by omega) (by simp;omega),iW,bl]
  have e1:(8*(i:Int)).toNat=8*i:=by omega
  rw[e1,Ke v i (by omega)]
  have e2:v/2^(8*i)/256=v/2^(8*(i+1)):=by
   rw[Int.ediv_ediv_of_nonneg (Int.pow_nonneg (by decide))]
   congr 1
   rw[show 8*(i+1)=8*i+8 by omega,Int.pow_add];rfl
  rw[e2];rfl
theorem kO (v:Int) (n:Nat) (hn:n≤8):yZ v (n:Int)=some (aT (iW v n)):=by
 rw[Pv]
 have:=n8 v n hn n 0 [] (by omega) rfl
 simpa using this
theorem Dp {β:Type} (L:Int→Option β) (p:Nat→Bool) (g:Nat→Option β) (n:Nat) (hstep:∀i:Nat,i<n→L (i:Int)=bif p i then g i else L ((i+1:Nat):Int)):
  ∀k i:Nat,i+k=n→L (i:Int)=if eo p i k<0 then L (n:Int)else g (eo p i k).toNat:=by
 intro k
 induction k with
 |zero=>
   intro i h;have:i=n:=by omega
   subst this;rfl
 |succ k ih=>
  intro i h
  rw[hstep i (by omega),ih (i+1) (by omega),eo]
  cases p i with
  |false=>rfl
  |true=>rw[ae,ae,ap (by omega)];rfl
theorem jF {β:Type} {L:Int→Option β} (p:Nat→Bool) (g:Nat→Option β) (n:Nat) (hstep:∀i:Nat,i<n→L (i:Int)=bif p i then g i else L ((i+1:Nat):Int)):L 0=if eo p 0 n<0 then L (n:Int)else g (eo p 0 n).toNat:=
 Dp L p g n hstep n 0 (by omega)
theorem xH (p:Nat→Bool) (n:Nat) (h:¬eo p 0 n<0):(eo p 0 n).toNat<n:=by
 rcases cr p n 0 with⟨h1,_⟩|⟨j,h1,h2,h3,_⟩
 ·omega
 ·omega
def xI (o:bq) (name:ByteArray):Int:=eo (fun i=>decide ((rd (τ:=aS) o.2.2.1 (i:Int)).1=name)&& !(rd (τ:=aS) o.2.2.1 (i:Int)).2.1) 0 o.2.2.1.length
def xJ (o:bq) (name:ByteArray):Int:=eo (fun i=>decide ((rd (τ:=bF) o.2.2.2.1 (i:Int)).1=name)) 0 o.2.2.2.1.length
def xK (t:List dg) (o:bq) (l:e7) (name:ByteArray):Int×Bool:=
 if xI o name<0 then if xJ o name<0 then if cD t name<0 then(0,false)else((rd (τ:=bb) t (cD t name)).2.2.1,true)
  else(rd (τ:= .int .i64) l.2.2.1 ((xJ o name).toNat:Int),true)
 else(rd (τ:= .int .i64) l.1 ((xI o name).toNat:Int),true)
theorem Hq (t:List dg) (o:bq) (l:e7) (name:ByteArray) (ht:t.length≤64) (hz:ObjSz o) (hl:ft o l):Z1 (l,t,o) name=some (xK t o l name):=by
 have h1:=hz.f
 have h2:=hz.d
 rw[Sz]
 show Z1.a (l,t,o) name o.2.2.1 (o.2.2.1.length:Int) 0=_
 rw[jF (L:=Z1.a (l,t,o) name o.2.2.1 (o.2.2.1.length:Int)) (fun i=>decide ((rd (τ:=aS) o.2.2.1 (i:Int)).1=name)&& !(rd (τ:=aS) o.2.2.1 (i:Int)).2.1) (fun i=>some (rd (τ:= .int .i64) l.1 (i:Int),true)) o.2.2.1.length fun i hi=> ?_]
 ·unfold xK
  show(if xI o name<0 then _ else _)=some (if xI o name<0 then _ else _)
  by_cases hf:xI o name<0
  ·rw[av hf,av hf,Z1.a_eq,ai,ak (aB _),ac]
   show Z1.b (l,t,o) name o.2.2.2.1 (o.2.2.2.1.length:Int) 0=_
   rw[jF (L:=Z1.b (l,t,o) name o.2.2.2.1 (o.2.2.2.1.length:Int)) (fun i=>decide ((rd (τ:=bF) o.2.2.2.1 (i:Int)).1=name)) (fun i=>some (rd (τ:= .int .i64) l.2.2.1 (i:Int),true)) o.2.2.2.1.length fun i hi=> ?_]
   ·show(if xJ o name<0 then _ else _)=some (if xJ o name<0 then _ else _)
    by_cases hd:xJ o name<0
    ·rw[av hd,av hd,Z1.b_eq,ai,ak (aB _),ac,(dJ t _ (by omega)).1]
     simp only[af]
     have hr:=dX t name
     by_cases he:cD t name<0
     ·rw[av he,ab he];rfl
     ·rw[ap he,ak he,inL_true (by omega) (by omega)];rfl
    ·rw[ap hd,ap hd];rfl
   ·rw[Z1.b_eq,ai,aj,ab hi,an i _ hi (by omega),a9,aj,show decide (i<l.2.2.1.length)=true from ab (by rw[hl.d];exact hi)]
    simp only[ae]
  ·rw[ap hf,ap hf];rfl
 ·rw[Z1.a_eq,ai,aj,ab hi,an i _ hi (by omega),a9,aj,show decide (i<l.1.length)=true from ab (by rw[hl.a];exact hi)]
  simp only[ae]
  cases decide ((rd (τ:=aS) o.2.2.1 (i:Int)).1=name)<;>cases (rd (τ:=aS) o.2.2.1 (i:Int)).2.1<;>rfl
theorem Hr (t:List dg) (o:bq) (l:e7) (name:ByteArray) (ht:t.length≤64) (hz:ObjSz o) (hl:ft o l):uF t o l name=some (xK t o l name):=by
 have h1:=hz.f
 have h2:=hz.d
 rw[Pw]
 rw[jF (L:=uF.a t name o l) (fun i=>decide ((rd (τ:=aS) o.2.2.1 (i:Int)).1=name)&& !(rd (τ:=aS) o.2.2.1 (i:Int)).2.1) (fun i=>some (rd (τ:= .int .i64) l.1 (i:Int),true)) o.2.2.1.length fun i hi=> ?_]
 ·unfold xK
  show(if xI o name<0 then _ else _)=some (if xI o name<0 then _ else _)
  by_cases hf:xI o name<0
  ·rw[av hf,av hf,uF.a_eq,ai,ak (aB _),ac]
   rw[jF (L:=uF.b t name o l) (fun i=>decide ((rd (τ:=bF) o.2.2.2.1 (i:Int)).1=name)) (fun i=>some (rd (τ:= .int .i64) l.2.2.1 (i:Int),true)) o.2.2.2.1.length fun i hi=> ?_]
   ·show(if xJ o name<0 then _ else _)=some (if xJ o name<0 then _ else _)
    by_cases hd:xJ o name<0
    ·rw[av hd,av hd,uF.b_eq,ai,ak (aB _),ac,(dJ t _ (by omega)).2]
     simp only[af]
     have hr:=dX t name
     by_cases he:cD t name<0
     ·rw[av he,ab he];rfl
     ·rw[ap he,ak he,inL_true (by omega) (by omega)];rfl
    ·rw[ap hd,ap hd];rfl
   ·rw[uF.b_eq,ai,aj,ab hi,an i _ hi (by omega),a9,aj,show decide (i<l.2.2.1.length)=true from ab (by rw[hl.d];exact hi)]
    simp only[ae]
  ·rw[ap hf,ap hf];rfl
 ·rw[uF.a_eq,ai,aj,ab hi,an i _ hi (by omega),a9,aj,show decide (i<l.1.length)=true from ab (by rw[hl.a];exact hi)]
  simp only[ae]
  cases decide ((rd (τ:=aS) o.2.2.1 (i:Int)).1=name)<;>cases (rd (τ:=aS) o.2.2.1 (i:Int)).2.1<;>rfl
def Dq (t:List dg):Prop:=t.length≤64∧∀i:Nat,i<t.length→dU (rd (τ:=bb) t (i:Int))=true
theorem Ht {e:dg} (h:dU e=true):0≤e.2.2.1∧e.2.2.1≤1048575:=by
 unfold dU at h
 cases h1:cM e.1 with
 |false=>rw[h1]at h;cases h
 |true=>
  cases h2:cf e.2.2.1 with
  |false=>rw[h1,h2]at h;cases h
  |true=>exact fU h2
theorem Ah (t:List dg) (o:bq) (l:e7) (name:ByteArray) (ht:Dq t) (hl:ft o l):0≤(xK t o l name).1∧(xK t o l name).1≤1048575:=by
 unfold xK
 split
 ·split
  ·split
   ·simp
   ·rename_i h1 h2 h3
    have hr:=dX t name
    have:=ht.2 (cD t name).toNat (by omega)
    rw[show(((cD t name).toNat:Nat):Int)=cD t name by omega]at this
    exact Ht this
  ·rename_i h1 h2
   have:=hl.ds _ (xH _ _ h2)
   exact⟨this.1,this.2.1⟩
 ·rename_i h1
  have:=hl.fa _ (xH _ _ h1)
  exact⟨this.1,this.2.1⟩
def ir (t:ByteArray) (i:Nat) (b:ByteArray):ByteArray:=t.extract 0 i++b++t.extract (i+b.size) t.size
theorem mZ (t:ByteArray) (i:Nat) (b:ByteArray) (h:i+b.size≤t.size):(ir t i b).size=t.size:=by
 unfold ir
 simp only[ByteArray.size_append,ByteArray.size_extract]
 omega
theorem oU (t:ByteArray) (i:Nat) (b:ByteArray) (h:i+b.size≤t.size) (ht:t.size≤4096):Z2 t (i:Int) b=some (ir t i b):=by
 rw[SA,bf (n:=(i:Int)+(b.size:Int)) (by omega) (by omega)]
 unfold ir
 rw[show(decide (0≤0)&&decide (0≤(i:Int))&&decide ((i:Int)≤(t.size:Int)))=true by simp;omega,show(decide (0≤(i:Int)+(b.size:Int))&&decide ((i:Int)+(b.size:Int)≤(t.size:Int))&&decide ((t.size:Int)≤(t.size:Int)))=true by simp;omega]
 rw[show(Int.toNat 0)=0 from rfl,aP,show((i:Int)+(b.size:Int)).toNat=i+b.size by omega,aP]
 rw[ab (show(t.extract 0 i).size+b.size≤9223372036854775807 by simp only[ByteArray.size_extract];omega),ab (show(t.extract 0 i++b).size+(t.extract (i+b.size) t.size).size≤9223372036854775807 by simp only[ByteArray.size_append,ByteArray.size_extract];omega)]
 rfl
theorem Hu {τ:Ty} (l:List τ.den) (k:Nat) (x:τ.den) (hk:k<l.length) (i:Nat) (hi:i<l.length):rd (τ:=τ) (l.set k x) (i:Int)=if i=k then x else rd (τ:=τ) l (i:Int):=by
 rw[aV _ _ (by rw[List.length_set];exact hi),aV _ _ hi,List.getElem_set]
 by_cases h:i=k
 ·rw[av h,av h.symm]
 ·rw[ap h,ap (fun e=>h e.symm)]
theorem ft.setB {o:bq} {l:e7} (h:ft o l) (k:Nat) (hk:k<o.2.2.2.1.length) (x:ByteArray) (hx:x.size=kj o k):ft o (l.1,l.2.1,l.2.2.1,l.2.2.2.set k x):=by
 refine⟨h.a,h.c,h.d,by simp only[List.length_set];exact h.b,h.cs,fun i hi=> ?_,h.fa,h.ds⟩
 simp only
 rw[Hu (τ:= .str) l.2.2.2 k x (by rw[h.b];exact hk) i (by rw[h.b];exact hi)]
 split
 ·rename_i e;rw[e];exact hx
 ·exact h.bs i hi
theorem ft.setC {o:bq} {l:e7} (h:ft o l) (k:Nat) (hk:k<o.2.2.1.length) (x:ByteArray) (hx:x.size=ew o k):ft o (l.1,l.2.1.set k x,l.2.2.1,l.2.2.2):=by
 refine⟨h.a,by simp only[List.length_set];exact h.c,h.d,h.b,fun i hi=> ?_,h.bs,h.fa,h.ds⟩
 simp only
 rw[Hu (τ:= .str) l.2.1 k x (by rw[h.c];exact hk) i (by rw[h.c];exact hi)]
 split
 ·rename_i e;rw[e];exact hx
 ·exact h.cs i hi
structure Dr (o:bq) (r:LL):Prop where
 at_:jp o r=true
 kind:1≤r.2.2.1∧r.2.2.1≤9
 word:r.2.2.1=9↔(o.2.2.1.length:Int)≤r.1
 add: -2147483648≤r.2.2.2.2∧r.2.2.2.2≤2147483647
theorem Ds {o:bq} {k:Nat} (h:mF o k=0):Dr o (rd (τ:=cH) o.2.2.2.2.1 (k:Int)):=by
 unfold mF at h
 generalize rd (τ:=cH) o.2.2.2.2.1 (k:Int)=r at*
 split at h
 ·cases h
 split at h
 ·cases h
 split at h
 ·cases h
 split at h
 ·cases h
 rename_i h1 h2 h3 h4
 have h2:(dp r.2.2.1 1 9&&(decide (r.2.2.1=9)==decide (r.1≥(o.2.2.1.length:Int))))=true:=by
  cases h5:(dp r.2.2.1 1 9&&(decide (r.2.2.1=9)==decide (r.1≥(o.2.2.1.length:Int))));exact absurd h5 h2;rfl
 rw[az,bI]at h2
 refine⟨?_,h2.1, ?_, ?_⟩
 ·cases h5:jp o r;exact absurd h5 h1;rfl
 ·have:=h2.2
  rw[beq_iff_eq,decide_eq_decide]at this
  exact this
 ·rw[←bI]
  cases h5:dp r.2.2.2.2 (-2147483648) 2147483647;exact absurd h5 h4;rfl
theorem Dr.data {o:bq} {r:LL} (ho:eG o) (h:Dr o r) (hu:(o.2.2.1.length:Int)≤r.1):∃k j:Nat,r.1-(o.2.2.1.length:Int)=(k:Int)∧k<o.2.2.2.1.length∧r.2.1=(j:Int)∧8*j+8≤kj o k:=by
 have h1:=h.at_
 unfold jp at h1
 rw[az,bI,bI]at h1
 refine⟨(r.1-(o.2.2.1.length:Int)).toNat,r.2.1.toNat,by omega,by omega,by omega, ?_⟩
 have hv:fB o r.1=((kj o (r.1-(o.2.2.1.length:Int)).toNat:Nat):Int)/8:=by
  unfold fB
  rw[ap (by omega),av ⟨hu,by omega⟩,Int.tdiv_eq_ediv_of_nonneg (by omega)]
  unfold kj
  rw[show(((r.1-(o.2.2.1.length:Int)).toNat:Nat):Int)=r.1-(o.2.2.1.length:Int) by omega]
 have:=ho.dsz_pos (r.1-(o.2.2.1.length:Int)).toNat (by omega)
 omega
theorem Dr.code {o:bq} {r:LL} (ho:eG o) (h:Dr o r) (hu:¬(o.2.2.1.length:Int)≤r.1):∃k j:Nat,r.1=(k:Int)∧k<o.2.2.1.length∧r.2.1=(j:Int)∧4*j+4≤ew o k:=by
 have h1:=h.at_
 unfold jp at h1
 rw[az,bI,bI]at h1
 refine⟨r.1.toNat,r.2.1.toNat,by omega,by omega,by omega, ?_⟩
 have hv:fB o r.1=((ew o r.1.toNat:Nat):Int)/4:=by
  unfold fB
  rw[av ⟨by omega,by omega⟩,Int.tdiv_eq_ediv_of_nonneg (by omega)]
  unfold ew
  rw[show((r.1.toNat:Nat):Int)=r.1 by omega]
 have:=ho.fsz_pos r.1.toNat (by omega)
 omega
theorem BZ (n:Nat) (h:n≤4096):aw (0+n) 16=true:=k6 _ (by omega)
theorem Ai (t:List dg) (o:bq) (l:e7) (r:LL) (ht:Dq t) (ho:eG o) (hl:ft o l) (hr:Dr o r):
  ∃l' c,Z9 (l,t,o) r=some (c,l',t,o)∧VI t o l r=some (l',c)∧ft o l'∧(l'.1,l'.2.2.1)=(l.1,l.2.2.1):=by
 have h1:=ho.f
 have h2:=ho.d
 have hs:=Ah t o l r.2.2.2.1 ht hl
 have hadd:=hr.add
 rw[SH,PC,Hq t o l _ ht.1 ho.toObjSz hl,Hr t o l _ ht.1 ho.toObjSz hl]
 simp only[af]
 generalize xK t o l r.2.2.2.1=s at*
 cases hs2:s.2 with
 |false=>exact⟨l,23,rfl,rfl,hl,rfl⟩
 |true=>
  have hat:=hr.at_
  unfold jp at hat
  rw[az,bI,bI]at hat
  rw[bf (n:=r.1-(o.2.2.1.length:Int)) (by omega) (by omega),bf (n:=s.1+r.2.2.2.2) (by omega) (by omega)]
  simp only[aH,ac]
  by_cases hu:(o.2.2.1.length:Int)≤r.1
  ·obtain⟨k,j,e1,hk,e2,hj⟩:=hr.data ho hu
   have hd:=ho.dsz_pos k hk
   have hsz:=hl.bs k hk
   rw[ab (show r.1-(o.2.2.1.length:Int)≥0 by omega),ab (show r.1≥(o.2.2.1.length:Int) from hu),e1,e2,aj,ab (show k<l.2.2.2.length by rw[hl.b];exact hk),bf (n:=8*(j:Int)) (by omega) (by omega),bf (n:=8*(j:Int)+8) (by omega) (by omega),BZ l.2.2.2.length (by rw[hl.b];omega),
    show(8:Int)*(j:Int)=((8*j:Nat):Int) by omega,show ym (s.1+r.2.2.2.2) 8=some (aT (iW (s.1+r.2.2.2.2) 8)) from jS _ 8 (by omega)]
   rw[show yZ (s.1+r.2.2.2.2) 8=some (aT (iW (s.1+r.2.2.2.2) 8)) from kO _ 8 (by omega)]
   simp only[af,ae,letB]
   have hb:(aT (iW (s.1+r.2.2.2.2) 8)).size=8:=by rw[cX,fL]
   generalize aT (iW (s.1+r.2.2.2.2) 8)=b at*
   rw[oU _ _ _ (by rw[hsz,hb];omega) (by rw[hsz];omega)]
   simp only[af]
   generalize rd (τ:= .str) l.2.2.2 (k:Int)=d at*
   refine⟨_,0,rfl, ?_,hl.setB k hk (ir d (8*j) b) (by rw[mZ _ _ _ (by rw[hsz,hb];omega),hsz]),rfl⟩
   rw[show(decide (0≤0)&&decide (0≤((8*j:Nat):Int))&&decide (((8*j:Nat):Int)≤(d.size:Int)))=true by simp;omega,show(decide (0≤((8*j:Nat):Int)+8)&&decide (((8*j:Nat):Int)+8≤(d.size:Int))&&decide ((d.size:Int)≤(d.size:Int)))=true by simp;omega]
   rw[show(Int.toNat 0)=0 from rfl,aP,show(((8*j:Nat):Int)+8).toNat=8*j+8 by omega,aP,aP]
   rw[ab (show(d.extract 0 (8*j)).size+b.size≤9223372036854775807 by simp only[ByteArray.size_extract];omega),ab (show(d.extract 0 (8*j)++b).size+(d.extract (8*j+8) d.size).size≤9223372036854775807 by simp only[ByteArray.size_append,ByteArray.size_extract];omega)]
   unfold ir
   rw[hb]
   rfl
  ·obtain⟨k,j,e1,hk,e2,hj⟩:=hr.code ho hu
   have hd:=ho.fsz_pos k hk
   have hsz:=hl.cs k hk
   have hk8:1≤r.2.2.1∧r.2.2.1≤8:=by
    have:=hr.kind
    have h9:r.2.2.1≠9:=fun e=>hu (hr.word.1 e)
    omega
   have hat2:=hl.fa k hk
   rw[ak (show¬r.1-(o.2.2.1.length:Int)≥0 by omega),ak (show¬r.1≥(o.2.2.1.length:Int) from hu),e1,e2,aj,aj,ab (show k<l.2.1.length by rw[hl.c];exact hk),ab (show k<l.1.length by rw[hl.a];exact hk),bf (n:=4*(j:Int)) (by omega) (by omega),bf (n:=4*(j:Int)+4) (by omega) (by omega),BZ l.2.1.length (by rw[hl.c];omega),
    show(4:Int)*(j:Int)=((4*j:Nat):Int) by omega]
   simp only[ac,ae,letB]
   generalize rd (τ:= .str) l.2.1 (k:Int)=d at*
   obtain⟨a,ha⟩:∃x:Int,rd (τ:= .int .i64) l.1 (k:Int)=x:=⟨_,rfl⟩
   rw[ha]at hat2
   simp only[ha]
   have hat3:0≤a∧a≤1048575:=⟨hat2.1,hat2.2.1⟩
   rw[show(decide (0≤((4*j:Nat):Int))&&decide (((4*j:Nat):Int)≤((4*j:Nat):Int)+4)&&decide (((4*j:Nat):Int)+4≤(d.size:Int)))=true by simp;omega,show(decide (0≤0)&&decide (0≤((4*j:Nat):Int))&&decide (((4*j:Nat):Int)≤(d.size:Int)))=true by simp;omega,show(decide (0≤((4*j:Nat):Int)+4)&&decide (((4*j:Nat):Int)+4≤(d.size:Int))&&decide ((d.size:Int)≤(d.size:Int)))=true by simp;omega]
   rw[show(Int.toNat 0)=0 from rfl,aP,show(((4*j:Nat):Int)+4).toNat=4*j+4 by omega,aP,aP]
   have hx:(d.extract (4*j) (4*j+4)).size=4:=by simp only[ByteArray.size_extract];omega
   rw[c7 _ (by omega),hx,eY d (4*j) (4*j+4) (by omega) 4 0 (by omega),Nat.add_zero]
   rw[show pZ d ((4*j:Nat):Int) 4=some (IntKind.wrap .i64 (ej d (4*j) 4)) from dC d (4*j) 4 (by omega) (by omega)]
   have h4:=UV d (4*j)
   rw[bf (n:=(ej d (4*j) 4:Int)) (by omega) (by omega),bf (n:=a+((4*j:Nat):Int)) (by omega) (by omega)]
   simp only[af,ae]
   obtain⟨q,q1,q2⟩:=tG (ej d (4*j) 4:Int) r.2.2.1 (s.1+r.2.2.2.2) (a+((4*j:Nat):Int)) h4 hk8 ⟨by omega,by omega⟩ ⟨by omega,by omega⟩
   rw[q1,q2]
   simp only[af]
   by_cases hq:q.2=0
   ·rw[ab hq,show ym q.1 4=some (aT (iW q.1 4)) from jS _ 4 (by omega),show yZ q.1 4=some (aT (iW q.1 4)) from kO _ 4 (by omega)]
    have hb:(aT (iW q.1 4)).size=4:=by rw[cX,fL]
    simp only[af,ae,aH,ac]
    generalize aT (iW q.1 4)=b at*
    rw[oU _ _ _ (by omega) (by omega)]
    simp only[af]
    refine⟨_,q.2,rfl, ?_,hl.setC k hk (ir d (4*j) b) (by rw[mZ _ _ _ (by omega),hsz]),rfl⟩
    rw[ab (show(d.extract 0 (4*j)).size+b.size≤9223372036854775807 by simp only[ByteArray.size_extract];omega),ab (show(d.extract 0 (4*j)++b).size+(d.extract (4*j+4) d.size).size≤9223372036854775807 by simp only[ByteArray.size_append,ByteArray.size_extract];omega),hq]
    unfold ir
    rw[hb]
    rfl
   ·rw[ak hq]
    exact⟨l,q.2,rfl,rfl,hl,rfl⟩
def dd {α:Type} (p:Nat→Bool) (f:Nat→α):Nat→Nat→List α
 |_,0=>[]
 |i,k+1=>bif p i then f i::dd p f (i+1) k else dd p f (i+1) k
theorem cE {α:Type} (p:Nat→Bool) (f:Nat→α):∀k i,(dd p f i k).length≤k
 |0,_=>Nat.le_refl _
 |k+1,i=>by
  have:=cE p f k (i+1)
  rw[dd]
  cases p i
  ·rw[ac];omega
  ·rw[ae,List.length_cons];omega
theorem Dt {α β:Type} (L:List α→Int→Option β) (p:Nat→Bool) (f:Nat→α) (n A:Nat) (hstep:∀acc (i:Nat),i<n→acc.length≤A+i→L acc (i:Int)=bif p i then L (acc++[f i]) ((i+1:Nat):Int)else L acc ((i+1:Nat):Int)):
  ∀(k i:Nat) (acc:List α),i+k=n→acc.length≤A+i→L acc (i:Int)=L (acc++dd p f i k) (n:Int):=by
 intro k
 induction k with
 |zero=>
   intro i acc h _;have:i=n:=by omega
   subst this;rw[dd,List.append_nil]
 |succ k ih=>
  intro i acc h ha
  rw[hstep acc i (by omega) ha,dd]
  cases p i with
  |false=>rw[ac,ac,ih (i+1) _ (by omega) (by omega)]
  |true=>rw[ae,ae,ih (i+1) _ (by omega) (by simp;omega),bl];rfl
theorem dR {α β:Type} {L:List α→Int→Option β} (p:Nat→Bool) (f:Nat→α) (n:Nat) (acc:List α) (hstep:∀acc' (i:Nat),i<n→acc'.length≤acc.length+i→L acc' (i:Int)=bif p i then L (acc'++[f i]) ((i+1:Nat):Int)else L acc' ((i+1:Nat):Int)):L acc 0=L (acc++dd p f 0 n) (n:Int):=
 Dt L p f n acc.length hstep n 0 acc (by omega) (by omega)
def n9 (t:List dg) (o:bq) (l:e7):List Int:=
 dd (fun i=>decide ((rd (τ:=bb) t (i:Int)).2.1=1)) (fun i=>(rd (τ:=bb) t (i:Int)).2.2.1) 0 t.length++
  dd (fun i=> !(rd (τ:=aS) o.2.2.1 (i:Int)).2.1) (fun i=>rd (τ:= .int .i64) l.1 (i:Int)) 0 o.2.2.1.length
theorem te (t:List dg) (o:bq) (l:e7) (ht:t.length≤64) (hz:ObjSz o):(n9 t o l).length≤68:=by
 have:=hz.f
 unfold n9
 have h1:=cE (fun i=>decide ((rd (τ:=bb) t (i:Int)).2.1=1)) (fun i=>(rd (τ:=bb) t (i:Int)).2.2.1) t.length 0
 have h2:=cE (fun i=> !(rd (τ:=aS) o.2.2.1 (i:Int)).2.1) (fun i=>rd (τ:= .int .i64) l.1 (i:Int)) o.2.2.1.length 0
 rw[List.length_append];omega
theorem Aj (t:List dg) (o:bq) (l:e7) (ht:t.length≤64) (hz:ObjSz o) (hl:ft o l):Za (l,t,o)=some (n9 t o l):=by
 have h1:=hz.f
 rw[SI]
 show Za.a (l,t,o) [] t (t.length:Int) 0=_
 rw[dR (L:=fun acc i=>Za.a (l,t,o) acc t (t.length:Int) i) (fun i=>decide ((rd (τ:=bb) t (i:Int)).2.1=1)) (fun i=>(rd (τ:=bb) t (i:Int)).2.2.1) t.length [] fun acc i hi ha=> ?_]
 ·rw[Za.a_eq,ai,ak (aB _),ac,List.nil_append]
  have hf:=cE (fun i=>decide ((rd (τ:=bb) t (i:Int)).2.1=1)) (fun i=>(rd (τ:=bb) t (i:Int)).2.2.1) t.length 0
  show Za.b (l,t,o) _ o.2.2.1 (o.2.2.1.length:Int) 0=_
  rw[dR (L:=fun acc i=>Za.b (l,t,o) acc o.2.2.1 (o.2.2.1.length:Int) i) (fun i=> !(rd (τ:=aS) o.2.2.1 (i:Int)).2.1) (fun i=>rd (τ:= .int .i64) l.1 (i:Int)) o.2.2.1.length (dd (fun i=>decide ((rd (τ:=bb) t (i:Int)).2.1=1)) (fun i=>(rd (τ:=bb) t (i:Int)).2.2.1) 0 t.length) fun acc i hi ha=> ?_]
  ·show Za.b (l,t,o) _ o.2.2.1 (o.2.2.1.length:Int) (o.2.2.1.length:Int)=_
   rw[Za.b_eq,ai,ak (aB _),ac];rfl
  ·show Za.b (l,t,o) acc o.2.2.1 (o.2.2.1.length:Int) (i:Int)=_
   rw[Za.b_eq,ai,aj,ab hi,an i _ hi (by omega),aj,show decide (i<l.1.length)=true from ab (by rw[hl.a];exact hi),l7 _ (by simp;omega)]
   cases (rd (τ:=aS) o.2.2.1 (i:Int)).2.1<;>rfl
 ·show Za.a (l,t,o) acc t (t.length:Int) (i:Int)=_
  rw[Za.a_eq,ai,aj,ab hi,an i _ hi (by omega),l7 _ (by simp at ha⊢;omega)]
  cases decide ((rd (τ:=bb) t (i:Int)).2.1=1)<;>rfl
theorem Ak (t:List dg) (o:bq) (l:e7) (ht:t.length≤64) (hz:ObjSz o) (hl:ft o l) (x8:e7) (x9 x10 a b:bH):ib.b t o x8 x9 x10 l a b [] 0=ib.d o x8 x9 x10 l a b (n9 t o l) 0:=by
 have h1:=hz.f
 rw[dR (L:=fun acc i=>ib.b t o x8 x9 x10 l a b acc i) (fun i=>decide ((rd (τ:=bb) t (i:Int)).2.1=1)) (fun i=>(rd (τ:=bb) t (i:Int)).2.2.1) t.length [] fun acc i hi ha=> ?_]
 ·rw[ib.b_eq,ai,ak (aB _),ac,List.nil_append]
  have hf:=cE (fun i=>decide ((rd (τ:=bb) t (i:Int)).2.1=1)) (fun i=>(rd (τ:=bb) t (i:Int)).2.2.1) t.length 0
  rw[dR (L:=fun acc i=>ib.c o x8 x9 x10 l a b acc i) (fun i=> !(rd (τ:=aS) o.2.2.1 (i:Int)).2.1) (fun i=>rd (τ:= .int .i64) l.1 (i:Int)) o.2.2.1.length (dd (fun i=>decide ((rd (τ:=bb) t (i:Int)).2.1=1)) (fun i=>(rd (τ:=bb) t (i:Int)).2.2.1) 0 t.length) fun acc i hi ha=> ?_]
  ·rw[ib.c_eq,ai,ak (aB _),ac];rfl
  ·show ib.c o x8 x9 x10 l a b acc (i:Int)=_
   rw[ib.c_eq,ai,aj,ab hi,an i _ hi (by omega),aj,show decide (i<l.1.length)=true from ab (by rw[hl.a];exact hi),l7 _ (by simp;omega)]
   cases (rd (τ:=aS) o.2.2.1 (i:Int)).2.1<;>rfl
 ·show ib.b t o x8 x9 x10 l a b acc (i:Int)=_
  rw[ib.b_eq,ai,aj,ab hi,an i _ hi (by omega),l7 _ (by simp at ha⊢;omega)]
  cases decide ((rd (τ:=bb) t (i:Int)).2.1=1)<;>rfl
theorem iL (o:bq) (hz:ObjSz o) (x5 x6:bH) (x8:e7) (x9 x10:bH) (s:WU) (c:Int) (hc:c≠0):∀k i:Nat,i+k=o.2.2.2.2.1.length→
  Zb.c x5 x6 o x8 x9 x10 s c o.2.2.2.2.1 (o.2.2.2.2.1.length:Int) (i:Int)=Zb.d x5 x6 x8 x9 x10 s c o.2.2.1 (o.2.2.1.length:Int) 0:=by
 have h1:=hz.r
 intro k
 induction k with
 |zero=>
   intro i h;have:i=o.2.2.2.2.1.length:=by omega
   subst this;rw[Zb.c_eq,ai,ak (aB _),ac]
 |succ k ih=>
  intro i h
  have hi:i<o.2.2.2.2.1.length:=by omega
  rw[Zb.c_eq,ai,aj,ab hi,an i _ hi (by omega),ak hc,ih (i+1) (by omega)];rfl
abbrev ZL:e7:=([],[],[],[])
abbrev ZA:bH:=(0,0,0)
theorem Du (t:List dg) (o:bq) (ht:Dq t) (ho:eG o) (x5 x6:bH) (x8:e7) (x9 x10:bH) (a b:bH):∀(k i:Nat) (l:e7),i+k=o.2.2.2.2.1.length→ft o l→
  ∃l' c,Zb.c x5 x6 o x8 x9 x10 (l,t,o) 0 o.2.2.2.2.1 (o.2.2.2.2.1.length:Int) (i:Int)=Zb.d x5 x6 x8 x9 x10 (l',t,o) c o.2.2.1 (o.2.2.1.length:Int) 0∧
   (c=0→ft o l'∧(l'.1,l'.2.2.1)=(l.1,l.2.2.1)∧ib.a t o ZL ZA ZA l a b (i:Int)=ib.b t o ZL ZA ZA l' a b [] 0)∧(c≠0→ib.a t o ZL ZA ZA l a b (i:Int)=some (ZL,ZA,ZA,c)):=by
 have h1:=ho.r
 intro k
 induction k with
 |zero=>
  intro i l h hl
  have:i=o.2.2.2.2.1.length:=by omega
  subst this
  rw[Zb.c_eq,ai,ak (aB _),ac,ib.a_eq,ai,ak (aB _),ac]
  exact⟨l,0,rfl,fun _=>⟨hl,rfl,rfl⟩,fun h=>absurd rfl h⟩
 |succ k ih=>
  intro i l h hl
  have hi:i<o.2.2.2.2.1.length:=by omega
  obtain⟨l1,c,e1,e2,hl1,hl2⟩:=Ai t o l (rd (τ:=cH) o.2.2.2.2.1 (i:Int)) ht ho hl (Ds (ho.rel i hi))
  rw[Zb.c_eq,ai,aj,ab hi,an i _ hi (by omega),ib.a_eq,ai,aj,ab hi,an i _ hi (by omega),e1,e2]
  simp only[ae,decide_true,af]
  by_cases hc:c=0
  ·subst hc
   obtain⟨l',c',g1,g2,g3⟩:=ih (i+1) l1 (by omega) hl1
   exact⟨l',c',g1,fun h=>⟨(g2 h).1,(g2 h).2.1.trans hl2,(g2 h).2.2⟩,g3⟩
  ·rw[iL o ho.toObjSz x5 x6 x8 x9 x10 (l1,t,o) c hc k (i+1) (by omega),ak hc]
   exact⟨l1,c,rfl,fun h=>absurd h hc,fun _=>rfl⟩
theorem fm (o:bq) (hz:ObjSz o) (x5 x6:bH) (x8:e7) (x9 x10:bH) (s:WU) (c:Int) (hc:c≠0):∀k i:Nat,i+k=o.2.2.1.length→
  Zb.d x5 x6 x8 x9 x10 s c o.2.2.1 (o.2.2.1.length:Int) (i:Int)=some (ZL,ZA,ZA,c):=by
 have h1:=hz.f
 intro k
 induction k with
 |zero=>
   intro i h;have:i=o.2.2.1.length:=by omega
   subst this;rw[Zb.d_eq,ai,ak (aB _),ac,ak hc];rfl
 |succ k ih=>
  intro i h
  have hi:i<o.2.2.1.length:=by omega
  rw[Zb.d_eq,ai,aj,ab hi,an i _ hi (by omega),ak hc,ih (i+1) (by omega)];rfl
theorem Al (t:List dg) (o:bq) (ht:Dq t) (ho:eG o) (x8:e7) (x9 x10:bH) (a b:bH) (l:e7) (hl:ft o l):∀(k i:Nat),i+k=o.2.2.1.length→
  ∃v,Zb.d a b x8 x9 x10 (l,t,o) 0 o.2.2.1 (o.2.2.1.length:Int) (i:Int)=some v∧ib.d o ZL ZA ZA l a b (n9 t o l) (i:Int)=some v∧(v.2.2.2=0→v=(l,a,b,0)∧∀j:Nat,i≤j→j<o.2.2.1.length→ly (rd (τ:= .str) l.2.1 (j:Int))):=by
 have h1:=ho.f
 intro k
 induction k with
 |zero=>
  intro i h
  have:i=o.2.2.1.length:=by omega
  subst this
  rw[Zb.d_eq,ai,ak (aB _),ac,ib.d_eq,ai,ak (aB _),ac]
  exact⟨(l,a,b,0),rfl,rfl,fun _=>⟨rfl,fun j h1 h2=>by omega⟩⟩
 |succ k ih=>
  intro i h
  have hi:i<o.2.2.1.length:=by omega
  have hsz:=hl.cs i hi
  have hfs:=ho.fsz_pos i hi
  have hcl:=te t o l ht.1 ho.toObjSz
  obtain⟨v,e1,e2⟩:=uP (rd (τ:= .str) l.2.1 (i:Int)) (rd (τ:= .int .i64) l.1 (i:Int)) (rd (τ:=aS) o.2.2.1 (i:Int)).2.2.1 (n9 t o l) (by omega) (by omega)
  rw[Zb.d_eq,ai,aj,ab hi,an i _ hi (by omega),ib.d_eq,ai,aj,ab hi,an i _ hi (by omega),Aj t o l ht.1 ho.toObjSz hl]
  rw[aj,aj,show decide (i<l.2.1.length)=true from ab (by rw[hl.c];exact hi),show decide (i<l.1.length)=true from ab (by rw[hl.a];exact hi),ab hi]
  simp only[ae,decide_true,af]
  rw[e1,e2]
  simp only[af]
  by_cases hv:v.2=0
  ·have hdec:=yE e1 hv
   rw[hv]
   obtain⟨u,u1,u2,u3⟩:=ih (i+1) (by omega)
   refine⟨u,u1,u2,fun h=>⟨(u3 h).1,fun j h1 h2=> ?_⟩⟩
   rcases Nat.lt_or_ge i j with hj|hj
   ·exact(u3 h).2 j hj h2
   ·rw[show j=i by omega];exact hdec
  ·rw[fm o ho.toObjSz a b x8 x9 x10 (l,t,o) v.2 hv k (i+1) (by omega),ak hv]
   exact⟨(ZL,ZA,ZA,v.2),rfl,rfl,fun h=>absurd h hv⟩
structure uh (t:List dg) (a b:bH) (o:bq) (v:e7×bH×bH×Int):Prop where
 lnk:ft o v.1
 ea:v.2.1=(dm o a b).2.1
 eb:v.2.2.1=(dm o a b).2.2.1
 ok:(dm o a b).2.2.2=true
 ats:v.1.1=(dm o a b).1.1
 das:v.1.2.2.1=(dm o a b).1.2.2.1
 names:ia t o=0
 dec:∀j:Nat,j<o.2.2.1.length→ly (rd (τ:= .str) v.1.2.1 (j:Int))
theorem xL (f:Int) (hf:f≠0) (ok:Bool):after f ok=f:=by unfold after;rw[ap (fun h=>hf h.1)]
theorem Dv (t:List dg) (a b:bH) (o:bq) (ht:Dq t) (ha:cB a) (hb:cB b) (ho:eG o) (x8:e7) (x9 x10:bH):
  ∃v,Zb.a a b o x8 x9 x10 (([],[],[],[]),t,o) (ia t o) o.2.2.1 (o.2.2.1.length:Int) 0=some v∧ib t a b o=some v∧(v.2.2.2=0→uh t a b o v):=by
 rw[Hp o ho.toUnitSz a b ha hb,PD,Ab t o ht.1 ho.toObjSz]
 simp only[af]
 obtain⟨hl,hA,hB⟩:=xG o ho a b ha hb
 by_cases hn:ia t o=0
 ·rw[hn]
  obtain⟨s1,s2⟩:=Ho o ho.toUnitSz a b ha hb
  cases hok:(dm o a b).2.2.2 with
  |false=>
   obtain⟨r,e1,e2⟩:=s2 hok
   rw[e1]
   simp only[af]
   rw[e2,show after 0 false=7 from rfl]
   refine⟨(ZL,ZA,ZA,7), ?_,rfl,fun h=>by cases h⟩
   rw[show(0:Int)=((0:Nat):Int) from rfl,iL o ho.toObjSz _ _ x8 x9 x10 ((dm o a b).1,t,o) 7 (by decide) o.2.2.2.2.1.length 0 (by omega)]
   exact fm o ho.toObjSz _ _ x8 x9 x10 ((dm o a b).1,t,o) 7 (by decide) o.2.2.1.length 0 (by omega)
  |true=>
   rw[s1 hok]
   simp only[af]
   rw[hok,show after 0 true=0 from rfl]
   obtain⟨l',c,g1,g2,g3⟩:=Du t o ht ho (dm o a b).2.1 (dm o a b).2.2.1 x8 x9 x10 (dm o a b).2.1 (dm o a b).2.2.1 o.2.2.2.2.1.length 0 (dm o a b).1 (by omega) hl
   have g1':Zb.c (dm o a b).2.1 (dm o a b).2.2.1 o x8 x9 x10 ((dm o a b).1,t,o) 0 o.2.2.2.2.1 (o.2.2.2.2.1.length:Int) 0=_:=g1
   rw[g1']
   simp only[decide_true,aH,ac]
   by_cases hc:c=0
   ·subst hc
    obtain⟨hl',hl2,g4⟩:=g2 rfl
    obtain⟨v,e1,e2,e3⟩:=Al t o ht ho x8 x9 x10 (dm o a b).2.1 (dm o a b).2.2.1 l' hl' o.2.2.1.length 0 (by omega)
    have g4':=Ak t o l' ht.1 ho.toObjSz hl' ZL ZA ZA (dm o a b).2.1 (dm o a b).2.2.1
    refine⟨v,e1,g4.trans (g4'.trans e2),fun h=> ?_⟩
    obtain⟨q1,q2⟩:=e3 h
    rw[q1]
    exact⟨hl',rfl,rfl,hok,(Prod.mk.inj hl2).1,(Prod.mk.inj hl2).2,hn,fun j hj=>q2 j (Nat.zero_le _) hj⟩
   ·refine⟨(ZL,ZA,ZA,c), ?_,g3 hc,fun h=>absurd h hc⟩
    exact fm o ho.toObjSz _ _ x8 x9 x10 (l',t,o) c hc o.2.2.1.length 0 (by omega)
 ·rw[ak hn,xL _ hn]
  refine⟨(ZL,ZA,ZA,ia t o), ?_,rfl,fun h=>absurd h hn⟩
  rw[show(0:Int)=((0:Nat):Int) from rfl,iL o ho.toObjSz _ _ x8 x9 x10 ((dm o a b).1,t,o) _ hn o.2.2.2.2.1.length 0 (by omega)]
  exact fm o ho.toObjSz _ _ x8 x9 x10 ((dm o a b).1,t,o) _ hn o.2.2.1.length 0 (by omega)
theorem Kf {t:List dg} (h:pF t=true):Dq t:=by
 unfold pF at h
 rw[az,aW,eF]at h
 refine⟨h.1,fun i hi=> ?_⟩
 have:=h.2 i (Nat.zero_le _) (by omega)
 unfold yJ at this
 cases h1:dU (rd (τ:=bb) t (i:Int))with
 |true=>rfl
 |false=>rw[h1]at this;cases this
theorem uk (t:List dg) (a b:bH) (o:bq) (hr:pn o) (ht:pF t=true) (ha:cB a) (hb:cB b) (ho:lD o=true):
  ∃v,Zb t a b o=some v∧ib t a b o=some v∧(v.2.2.2=0→uh t a b o v):=by
 have hT:=Kf ht
 have hO:=hZ ho
 have:=hT.1
 obtain⟨v,e1,e2,e3⟩:=Dv t a b o hT ha hb hO ([],[],[],[]) (0,0,0) (0,0,0)
 refine⟨v, ?_,e2,e3⟩
 rw[SJ,ak (show¬(t.length:Int)>4096 by omega),(jo t).1,ht,uS a,ug.2 ha,uS b,ug.2 hb,(hY o hr).1,ho]
 simp only[af,aA,aH,ac]
 rw[Bw _ _ _ hT.1 hO.toObjSz]
 exact e1
theorem oV {x:ig} (h:dF x=true):(1≤x.1∧x.1≤64)∧gt x∧((be (bN x.1).1).1=false→x.2.1=0)∧((be (bN x.1).1).2.1=false→x.2.2.1=0)∧((be (bN x.1).1).2.2=false→x.2.2.2.1=0)∧jP (bN x.1).1 x.2.2.2.2=true:=by
 simp only[dF,az,Bool.or_eq_true,aW]at h
 obtain⟨⟨⟨⟨⟨⟨⟨⟨⟨⟨⟨h1,h2⟩,h3⟩,h4⟩,h5⟩,h6⟩,h7⟩,h8⟩,a⟩,b⟩,c⟩,d⟩:=h
 have hf:=gg (n:=x.1) h1 h2
 refine⟨⟨h1,h2⟩,⟨⟨h3,h4⟩,⟨h5,h6⟩,⟨h7,h8⟩, ?_⟩,fun e=> ?_,fun e=> ?_,fun e=> ?_,d⟩
 ·generalize (bN x.1).1=f at d hf
  rcases ga hf with rfl|rfl|rfl|rfl|rfl|rfl|rfl|rfl|rfl<;>simp[jP]at d<;>omega
 ·simpa[e]using a
 ·simpa[e]using b
 ·simpa[e]using c
theorem WV (i:Int) (h:i%2=0):i=2*(i/2%1024+1024*(i/2048%2+2*(i/4096%256+256*(i/1048576%2+2*(i/2097152))))):=by
 have a1:i/2048=i/2/1024:=by omega
 have a2:i/4096=i/2048/2:=by omega
 have a3:i/1048576=i/4096/256:=by omega
 have a4:i/2097152=i/1048576/2:=by omega
 have b0:i=2*(i/2):=by omega
 have b1:=Int.emod_add_mul_ediv (i/2) 1024
 have b2:=Int.emod_add_mul_ediv (i/2048) 2
 have b3:=Int.emod_add_mul_ediv (i/4096) 256
 have b4:=Int.emod_add_mul_ediv (i/1048576) 2
 rw[←a1]at b1;rw[←a2]at b2;rw[←a3]at b3;rw[←a4]at b4
 rw[b4,b3,b2,b1];exact b0
theorem WW (i:Int) (h:i%2=0):i=2*(i/2%16+16*(i/32%64+64*(i/2048%2+2*(i/4096%2+2*(i/8192))))):=by
 have a1:i/32=i/2/16:=by omega
 have a2:i/2048=i/32/64:=by omega
 have a3:i/4096=i/2048/2:=by omega
 have a4:i/8192=i/4096/2:=by omega
 have b0:i=2*(i/2):=by omega
 have b1:=Int.emod_add_mul_ediv (i/2) 16
 have b2:=Int.emod_add_mul_ediv (i/32) 64
 have b3:=Int.emod_add_mul_ediv (i/2048) 2
 have b4:=Int.emod_add_mul_ediv (i/4096) 2
 rw[←a1]at b1;rw[←a2]at b2;rw[←a3]at b3;rw[←a4]at b4
 rw[b4,b3,b2,b1];exact b0
theorem WX (i:Int):i=i%32+32*(i/32%128+128*(i/4096)):=by
 have a1:i/4096=i/32/128:=by omega
 have b0:=Int.emod_add_mul_ediv i 32
 have b1:=Int.emod_add_mul_ediv (i/32) 128
 rw[←a1]at b1
 rw[b1,b0]
theorem m2 (a:Int):0≤a%2∧a%2<2:=by omega
theorem Wn (a:Int):0≤a%16∧a%16<16:=by omega
theorem Wo (a:Int):0≤a%32∧a%32<32:=by omega
theorem Wp (a:Int):0≤a%64∧a%64<64:=by omega
theorem S9 (a:Int):0≤a%128∧a%128<128:=by omega
theorem Ta (a:Int):0≤a%256∧a%256<256:=by omega
theorem Ly (a:Int):0≤a%1024∧a%1024<1024:=by omega
theorem un2 {c d y0 y1 y2 y3:Int} (hc:0≤c∧c<128) (hd:0≤d∧d≤31) (q0:0≤y0∧y0<256) (q1:0≤y1∧y1<2) (q2:0≤y2∧y2<1024) (q3:0≤y3∧y3<2):
  (c+d*128+y0*4096+y1*1048576+y2*2097152+y3*2147483648)/128%32=d∧(c+d*128+y0*4096+y1*1048576+y2*2097152+y3*2147483648)/4096%256=y0∧(c+d*128+y0*4096+y1*1048576+y2*2097152+y3*2147483648)/1048576%2=y1∧(c+d*128+y0*4096+y1*1048576+y2*2097152+y3*2147483648)/2097152%1024=y2∧(c+d*128+y0*4096+y1*1048576+y2*2097152+y3*2147483648)/2147483648%2=y3:=by
 refine⟨?_, ?_, ?_, ?_, ?_⟩<;>omega
theorem WY {c y0 y1 f3 a b y2 y3:Int} (hc:0≤c∧c<128) (hf:0≤f3∧f3<8) (ha:0≤a∧a≤31) (hb:0≤b∧b≤31) (q0:0≤y0∧y0<2) (q1:0≤y1∧y1<16) (q2:0≤y2∧y2<64) (q3:0≤y3∧y3<2):
  (c+y0*128+y1*256+f3*4096+a*32768+b*1048576+y2*33554432+y3*2147483648)/128%2=y0∧(c+y0*128+y1*256+f3*4096+a*32768+b*1048576+y2*33554432+y3*2147483648)/256%16=y1∧(c+y0*128+y1*256+f3*4096+a*32768+b*1048576+y2*33554432+y3*2147483648)/32768%32=a∧(c+y0*128+y1*256+f3*4096+a*32768+b*1048576+y2*33554432+y3*2147483648)/1048576%32=b∧(c+y0*128+y1*256+f3*4096+a*32768+b*1048576+y2*33554432+y3*2147483648)/33554432%64=y2∧(c+y0*128+y1*256+f3*4096+a*32768+b*1048576+y2*33554432+y3*2147483648)/2147483648%2=y3:=by
 refine⟨?_, ?_, ?_, ?_, ?_, ?_⟩<;>omega
theorem WZ {c y0 f3 a b y1:Int} (hc:0≤c∧c<128) (hf:0≤f3∧f3<8) (ha:0≤a∧a≤31) (hb:0≤b∧b≤31) (q0:0≤y0∧y0<32) (q1:0≤y1∧y1<128):
  (c+y0*128+f3*4096+a*32768+b*1048576+y1*33554432)/128%32=y0∧(c+y0*128+f3*4096+a*32768+b*1048576+y1*33554432)/32768%32=a∧(c+y0*128+f3*4096+a*32768+b*1048576+y1*33554432)/1048576%32=b∧(c+y0*128+f3*4096+a*32768+b*1048576+y1*33554432)/33554432%128=y1:=by
 refine⟨?_, ?_, ?_, ?_⟩<;>omega
theorem Dw {f c f3 f7 n d a b i:Int} (hs:uJ (f,c,f3,f7)=true) (hr:gt (n,d,a,b,i)) (hd:(be f).1=false→d=0) (ha:(be f).2.1=false→a=0) (hb:(be f).2.2=false→b=0) (hi:jP f i=true):ef n f (bU (f,c,f3,f7) (n,d,a,b,i))=(n,d,a,b,i):=by
 obtain⟨h1,h2,h3,h4,h5,h6⟩:=dB hs
 obtain⟨⟨d0,d1⟩,⟨a0,a1⟩,⟨b0,b1⟩,_⟩:=hr
 simp only at d0 d1 a0 a1 b0 b1
 clear hs
 rcases ga h1 with rfl|rfl|rfl|rfl|rfl|rfl|rfl|rfl|rfl<;>simp[jP]at hi<;>simp[be]at hd ha hb<;>simp[ef,be,bU,ov,eX,gb,cz]
 ·omega
 ·have e:=WV i (by omega)
  have q1:=Ly (i/2);have q2:=m2 (i/2048);have q3:=Ta (i/4096);have q4:=m2 (i/1048576)
  generalize i/2%1024=y2 at*;generalize i/2048%2=y1 at*;generalize i/4096%256=y0 at*;generalize i/1048576%2=y3 at*
  obtain⟨w1,w2,w3,w4,w5⟩:=un2 h2 ⟨d0,d1⟩ q3 q2 q1 q4
  rw[w1,w2,w3,w4,w5];omega
 ·omega
 ·have e:=WW i (by omega)
  have q1:=Wn (i/2);have q2:=Wp (i/32);have q3:=m2 (i/2048);have q4:=m2 (i/4096)
  generalize i/2%16=y1 at*;generalize i/32%64=y2 at*;generalize i/2048%2=y0 at*;generalize i/4096%2=y3 at*
  obtain⟨w1,w2,w3,w4,w5,w6⟩:=WY h2 h3 ⟨a0,a1⟩ ⟨b0,b1⟩ q3 q1 q2 q4
  rw[w1,w2,w3,w4,w5,w6];omega
 ·have e:=WX i
  have q1:=Wo i;have q2:=S9 (i/32)
  generalize i%32=y0 at*;generalize i/32%128=y1 at*
  obtain⟨w1,w3,w4,w5⟩:=WZ h2 h3 ⟨a0,a1⟩ ⟨b0,b1⟩ q1 q2
  rw[w1,w3,w4,w5];omega
 all_goals omega
theorem lk {f c f3 f7 n d a b i:Int} (hs:uJ (f,c,f3,f7)=true) (hr:gt (n,d,a,b,i)):0≤bU (f,c,f3,f7) (n,d,a,b,i)∧bU (f,c,f3,f7) (n,d,a,b,i)<4294967296∧bU (f,c,f3,f7) (n,d,a,b,i)%128=c∧(3≤f→f≤8→bU (f,c,f3,f7) (n,d,a,b,i)/4096%8=f3)
  ∧(f=6→bU (f,c,f3,f7) (n,d,a,b,i)/67108864=f7/2)∧(f=7∨f=8→bU (f,c,f3,f7) (n,d,a,b,i)/33554432=f7)∧(f=9→bU (f,c,f3,f7) (n,d,a,b,i)/1048576=f7):=by
 obtain⟨h1,h2,h3,h4,h5,h6⟩:=dB hs
 obtain⟨⟨d0,d1⟩,⟨a0,a1⟩,⟨b0,b1⟩,_⟩:=hr
 simp only at d0 d1 a0 a1 b0 b1
 have q1:=Ly (i/2);have q2:=m2 (i/2048);have q3:=Ta (i/4096);have q4:=m2 (i/1048576)
 have q5:=Wn (i/2);have q6:=Wp (i/32);have q7:=m2 (i/4096);have q8:=Wo i;have q9:=S9 (i/32)
 clear hs
 rcases ga h1 with rfl|rfl|rfl|rfl|rfl|rfl|rfl|rfl|rfl<;>simp[bU]
 ·omega
 ·generalize i/2%1024=y2 at*;generalize i/2048%2=y1 at*;generalize i/4096%256=y0 at*;generalize i/1048576%2=y3 at*
  clear q5 q6 q7 q8 q9;omega
 ·omega
 ·generalize i/2%16=y1 at*;generalize i/32%64=y2 at*;generalize i/2048%2=y0 at*;generalize i/4096%2=y3 at*
  clear q1 q3 q4 q8 q9;omega
 ·generalize i%32=y0 at*;generalize i/32%128=y1 at*
  clear q1 q2 q3 q4 q5 q6 q7;omega
 all_goals omega
def B3 (m n:Fin 65):Bool:=
 let s:=bN (m.val:Int);let t:=bN (n.val:Int)
 decide (m.val=0)||decide (n.val=0)||decide (m=n)|| !decide (s.2.1=t.2.1)|| (decide (3≤s.1)&&decide (s.1≤8)&&decide (3≤t.1)&&decide (t.1≤8)&& !decide (s.2.2.1=t.2.2.1))|| (decide (s.1=t.1)&&decide (6≤s.1)&& !decide (s.2.2.2=t.2.2.2))
theorem Hv:∀m n:Fin 65,B3 m n=true:=by decide+kernel
theorem Dx {x y:ig} (hx:gt x) (hy:gt y) (h1:1≤x.1∧x.1≤64) (h2:1≤y.1∧y.1≤64) (e:bU (bN x.1) x=bU (bN y.1) y):x.1=y.1:=by
 obtain⟨n,d,a,b,i⟩:=x
 obtain⟨m,d',a',b',i'⟩:=y
 simp only at h1 h2 e⊢
 have o1:=iP n h1.1 h1.2
 have o2:=iP m h2.1 h2.2
 have f1:=dB (f:=(bN n).1) (c:=(bN n).2.1) (f3:=(bN n).2.2.1) (f7:=(bN n).2.2.2) o1
 have f2:=dB (f:=(bN m).1) (c:=(bN m).2.1) (f3:=(bN m).2.2.1) (f7:=(bN m).2.2.2) o2
 have r1:_∧_:=lk (f:=(bN n).1) (c:=(bN n).2.1) (f3:=(bN n).2.2.1) (f7:=(bN n).2.2.2) o1 hx
 have r2:_∧_:=lk (f:=(bN m).1) (c:=(bN m).2.1) (f3:=(bN m).2.2.1) (f7:=(bN m).2.2.2) o2 hy
 change 0≤bU (bN n) (n,d,a,b,i)∧bU (bN n) (n,d,a,b,i)<4294967296∧bU (bN n) (n,d,a,b,i)%128=_∧(_→_→bU (bN n) (n,d,a,b,i)/4096%8=_)∧(_→bU (bN n) (n,d,a,b,i)/67108864=_)∧(_→bU (bN n) (n,d,a,b,i)/33554432=_)∧(_→bU (bN n) (n,d,a,b,i)/1048576=_)at r1
 change 0≤bU (bN m) (m,d',a',b',i')∧bU (bN m) (m,d',a',b',i')<4294967296∧bU (bN m) (m,d',a',b',i')%128=_∧(_→_→bU (bN m) (m,d',a',b',i')/4096%8=_)∧(_→bU (bN m) (m,d',a',b',i')/67108864=_)∧(_→bU (bN m) (m,d',a',b',i')/33554432=_)∧(_→bU (bN m) (m,d',a',b',i')/1048576=_)at r2
 rw[e]at r1
 obtain⟨k,hk⟩:=nj (n:=n) (by omega) (by omega)
 obtain⟨l,hl⟩:=nj (n:=m) (by omega) (by omega)
 have ha:=Hv k l
 unfold B3 at ha
 rw[←hk,←hl]at ha
 by_cases hkl:k=l
 ·omega
 exfalso
 generalize bU (bN m) (m,d',a',b',i')=w at*
 have k0:k.val≠0:=by omega
 have l0:l.val≠0:=by omega
 simp only[Bool.or_eq_true,az,Bool.not_eq_true',aW,decide_eq_false_iff_not,k0,l0,hkl,false_or]at ha
 clear e hk hl o1 o2
 generalize bN n=s at*
 generalize bN m=t at*
 obtain⟨sf,sc,s3,s7⟩:=s
 obtain⟨tf,tc,t3,t7⟩:=t
 simp only at*
 obtain⟨_,_,u1,u2,u3,u4,u5⟩:=r1
 obtain⟨_,_,v1,v2,v3,v4,v5⟩:=r2
 obtain⟨f1a,_,_,_,f1b,_⟩:=f1
 obtain⟨f2a,_,_,_,f2b,_⟩:=f2
 rcases ha with(ha|⟨⟨⟨⟨ha,hb⟩,hc⟩,hd⟩,he⟩)|⟨⟨ha,hb⟩,hc⟩
 ·exact ha (u1.symm.trans v1)
 ·exact he ((u2 ha hb).symm.trans (v2 hc hd))
 ·subst ha
  have:sf=6∨sf=7∨sf=8∨sf=9:=by omega
  rcases this with h|h|h|h
  ·have:=(u3 h).symm.trans (v3 h);have:=f1b h;have:=f2b h;omega
  ·exact hc ((u4 (.inl h)).symm.trans (v4 (.inl h)))
  ·exact hc ((u4 (.inr h)).symm.trans (v4 (.inr h)))
  ·exact hc ((u5 h).symm.trans (v5 h))
theorem Hw (x:ig) (h:dF x=true):km (bU (bN x.1) x)=some (x,true):=by
 obtain⟨h1,hr,hd,ha,hb,hi⟩:=oV h
 have ho:=iP x.1 h1.1 h1.2
 have er:=lk (f:=(bN x.1).1) (c:=(bN x.1).2.1) (f3:=(bN x.1).2.2.1) (f7:=(bN x.1).2.2.2) (n:=x.1) (d:=x.2.1) (a:=x.2.2.1) (b:=x.2.2.2.1) (i:=x.2.2.2.2) ho hr
 have ee:bU ((bN x.1).1,(bN x.1).2.1,(bN x.1).2.2.1,(bN x.1).2.2.2) (x.1,x.2.1,x.2.2.1,x.2.2.2.1,x.2.2.2.2)=bU (bN x.1) x:=rfl
 rw[ee]at er
 have hdec:ef x.1 (bN x.1).1 (bU (bN x.1) x)=x:=Dw (f:=(bN x.1).1) (c:=(bN x.1).2.1) (f3:=(bN x.1).2.2.1) (f7:=(bN x.1).2.2.2) (n:=x.1) (d:=x.2.1) (a:=x.2.2.1) (b:=x.2.2.2.1) (i:=x.2.2.2.2) ho hr hd ha hb hi
 obtain⟨os,ho',hl,hs⟩:=Je 0 (by decide) (by decide)
 rw[IS,ho']
 simp only[af,hl]
 have hz:km.a (bU (bN x.1) x) (0,0,0,0,0) os 65 0=km.a (bU (bN x.1) x) (0,0,0,0,0) os 65 1:=by
  rw[km.a_eq,hl];rfl
 have key:∀(k n:Nat),(n:Int)+k=x.1→1≤n→km.a (bU (bN x.1) x) (0,0,0,0,0) os 65 (n:Int)=some (x,true):=by
  intro k
  induction k with
  |zero=>
   intro n hn hn1
   have hnx:(n:Int)=x.1:=by omega
   rw[iQ _ er.1 er.2.1 _ os hl hs n hn1 (by omega),hnx,hdec,av ⟨er.2.2.1.symm,rfl⟩]
  |succ k ih=>
   intro n hn hn1
   rw[iQ _ er.1 er.2.1 _ os hl hs n hn1 (by omega),ap,ih (n+1) (by omega) (by omega)]
   rintro⟨_,hc⟩
   have:=Dx (x:=ef (n:Int) (bN n).1 (bU (bN x.1) x)) (y:=x) (ge (gg (n:=n) (by omega) (by omega)) er.1 er.2.1) hr (by simp only[ef];omega) h1 hc
   simp only[ef]at this
   omega
 rw[show(((65:Nat)):Int)=65 by rfl,hz]
 exact key (x.1-1).toNat 1 (by omega) (by omega)
def updF (F:Int→Int) (a:Int) (t:ByteArray) (x:Int):Int:=if a≤x∧x<a+(t.size:Int)then bt t (x-a)else F x
def FR (F:Int→Int):Prop:=∀x,0≤F x∧F x≤255
theorem dS {F:Int→Int} (h:FR F) (a:Int) (t:ByteArray):FR (updF F a t):=by
 intro x
 unfold updF
 split
 ·exact nf _ _
 ·exact h x
def pg (F:Int→Int) (b:Int):ByteArray:=aT (bu (fun i=>F (b+(i:Int))) 0 128)
def cC (F:Int→Int) (q:Int×Int):eh:=(q.1,q.2,pg F q.1)
def aE (F:Int→Int) (L:List (Int×Int)):List eh:=L.map (cC F)
theorem fT (F:Int→Int) (b:Int):(pg F b).size=128:=by unfold pg;rw[cX,aQ]
theorem xM {α:Type} (f:Nat→α) (P:α→Prop) (k i:Nat) (h:∀j,P (f j)):∀x∈bu f i k,P x:=by
 intro x hx
 obtain⟨j,_,_,rfl⟩:=(cg f x k i).1 hx
 exact h j
theorem ul {F:Int→Int} (hF:FR F) (b i:Int) (h:0≤i) (h':i<128):bt (pg F b) i=F (b+i):=by
 obtain⟨n,rfl⟩:∃n:Nat,i=(n:Int):=⟨i.toNat,by omega⟩
 rw[fK]
 unfold pg
 rw[nt _ n (xM _ _ _ _ fun j=>hF _) (by rw[aQ];omega),hJ,Nat.zero_add]
theorem rm (xs:List Int) (h:∀x∈xs,0≤x∧x≤255):gp (aT xs)=xs:=by
 unfold gp aT
 simp only[List.map_map]
 rw[List.map_congr_left (g:=id) fun x hx=> ?_,List.map_id]
 have:=h x hx
 simp only[Function.comp,id]
 rw[UInt8.toNat_ofNat']
 omega
theorem Hx {α:Type} (f:Nat→α) (n i:Nat) (x:α):(bu f 0 n).set i x=bu (fun j=>if j=i then x else f j) 0 n:=by
 apply List.ext_getElem
 ·rw[List.length_set,aQ,aQ]
 ·intro j h1 h2
  rw[List.getElem_set,hJ,hJ,Nat.zero_add]
  by_cases h:j=i
  ·rw[av h.symm,av h]
  ·rw[ap (fun e=>h e.symm),ap h]
theorem eR {α:Type} {f g:Nat→α}:∀(k i:Nat),(∀j,i≤j→j<i+k→f j=g j)→bu f i k=bu g i k
 |0,_,_=>rfl
 |k+1,i,h=>by rw[bu,bu,h i (Nat.le_refl _) (by omega),eR k (i+1) fun j h1 h2=>h j (by omega) (by omega)]
def m4 (F:Int→Int) (a:Int) (t:ByteArray) (b:Int) (i:Nat):List Int:=bu (fun j=>if j<i then updF F a t (b+(j:Int))else F (b+(j:Int))) 0 128
structure fG (L:List (Int×Int)):Prop where
 len:L.length≤64
 base:∀q∈L,0≤q.1∧q.1≤1048575
def Hy (a:Int) (t:ByteArray):Prop:= -1099511627776≤a∧a≤1099511627776∧t.size≤1048576
theorem vD {F:Int→Int} (hF:FR F) (a:Int) (t:ByteArray) (hA:Hy a t) (x6 m:List eh) (k:Nat) (p:eh) (hp:0≤p.1∧p.1≤1048575) (x17 x18:Int) (hk:k<m.length):∀(d i:Nat),i+d=128→
  pb.b a t x6 m (k:Int) p (m4 F a t p.1 i) x17 x18 128 (i:Int)=pb.a a t x6 (m.set k ((rd (τ:=aL) m (k:Int)).1,(rd (τ:=aL) m (k:Int)).2.1,aT (m4 F a t p.1 128))) x17 (IntKind.wrap .i64 (x18+1)):=by
 obtain⟨a1,a2,a3⟩:=hA
 intro d
 induction d with
 |zero=>
  intro i h
  have:i=128:=by omega
  subst this
  rw[pb.b_eq,show decide (((128:Nat):Int)<128)=false by decide,ac,aj,ab hk,aP];rfl
 |succ d ih=>
  intro i h
  have hi:i<128:=by omega
  have hs:m4 F a t p.1 (i+1)=if a≤p.1+(i:Int)∧p.1+(i:Int)<a+(t.size:Int)then(m4 F a t p.1 i).set i (bt t (p.1+(i:Int)-a))else m4 F a t p.1 i:=by
   unfold m4
   split
   ·rename_i hc
    rw[Hx]
    apply eR
    intro j _ _
    by_cases hj:j=i
    ·subst hj
     rw[av (by omega),av rfl]
     unfold updF
     rw[av hc]
    ·rw[ap hj]
     by_cases hj2:j<i
     ·rw[av (by omega),av hj2]
     ·rw[ap (by omega),ap hj2]
   ·rename_i hc
    apply eR
    intro j _ _
    by_cases hj:j=i
    ·subst hj
     rw[av (by omega),ap (by omega)]
     unfold updF
     rw[ap hc]
    ·by_cases hj2:j<i
     ·rw[av (by omega),av hj2]
     ·rw[ap (by omega),ap hj2]
  have hl:(m4 F a t p.1 i).length=128:=by unfold m4;rw[aQ]
  have ih':=ih (i+1) (by omega)
  rw[hs]at ih'
  rw[pb.b_eq,ab (show(i:Int)<128 by omega),bf (n:=p.1+(i:Int)) (by omega) (by omega),bf (n:=p.1+(i:Int)-a) (by omega) (by omega),bf (n:=(t.size:Int)-1) (by omega) (by omega),bf (n:=(i:Int)+1) (by omega) (by omega),show(i:Int)+1=((i+1:Nat):Int) by omega,Ff]
  simp only[ae,af]
  by_cases hc:a≤p.1+(i:Int)∧p.1+(i:Int)<a+(t.size:Int)
  ·rw[bI.2 (show 0≤p.1+(i:Int)-a∧p.1+(i:Int)-a≤(t.size:Int)-1 by omega),inL_true (i:=p.1+(i:Int)-a) (n:=t.size) (by omega) (by omega),aj,hl,ab hi]
   rw[av hc]at ih'
   simp only[ae,letB,aP]
   exact ih'
  ·rw[show dp (p.1+(i:Int)-a) 0 ((t.size:Int)-1)=false by cases h5:dp (p.1+(i:Int)-a) 0 ((t.size:Int)-1);rfl;rw[bI]at h5;omega]
   rw[ap hc]at ih'
   simp only[ac]
   exact ih'
theorem tg {F:Int→Int} (hF:FR F) (a:Int) (t:ByteArray) (hA:Hy a t) (L:List (Int×Int)) (hL:fG L) (x6:List eh):∀(d k:Nat),k+d=L.length→
  pb.a a t x6 (aE (updF F a t) (L.take k)++aE F (L.drop k)) (L.length:Int) (k:Int)=some (aE (updF F a t) L):=by
 have hn:=hL.len
 intro d
 induction d with
 |zero=>
  intro k h
  have:k=L.length:=by omega
  subst this
  rw[pb.a_eq,ai,ak (aB _),ac,List.take_length,List.drop_length]
  simp[aE]
 |succ d ih=>
  intro k h
  have hk:k<L.length:=by omega
  have hml:(aE (updF F a t) (L.take k)++aE F (L.drop k)).length=L.length:=by simp[aE];omega
  have hrd:rd (τ:=aL) (aE (updF F a t) (L.take k)++aE F (L.drop k)) (k:Int)=cC F L[k]:=by
   rw[aV (τ:=aL) _ k (by rw[hml];exact hk),List.getElem_append_right (by simp[aE];omega)]
   simp[aE,List.getElem_drop]
   congr 2
   omega
  have hset:(aE (updF F a t) (L.take k)++aE F (L.drop k)).set k (cC (updF F a t) L[k])=aE (updF F a t) (L.take (k+1))++aE F (L.drop (k+1)):=by
   rw[List.set_append_right _ _ (by simp[aE];omega)]
   have e:k-(aE (updF F a t) (L.take k)).length=0:=by simp[aE];omega
   rw[e]
   unfold aE
   rw[List.drop_eq_getElem_cons hk,List.map_cons,List.set_cons_zero,List.take_succ_eq_append_getElem hk,List.map_append,bl]
   rfl
  have hq:=hL.base L[k] (List.getElem_mem hk)
  rw[pb.a_eq,ai,aj,hml,ab hk,hrd]
  have hint:gp (pg F (L[k]).1)=m4 F a t (L[k]).1 0:=by
   unfold pg
   rw[rm _ (xM _ _ _ _ fun j=>hF _)]
   unfold m4
   apply eR
   intro j _ _
   rw[ap (by omega)]
  show(bif true then bif true then bif decide ((pg F (L[k]).1).size≤9223372036854775807)then pb.b a t x6 _ (k:Int) (cC F L[k]) (gp (pg F (L[k]).1)) (L.length:Int) (k:Int) ((gp (pg F (L[k]).1)).length:Int) 0 else none else none else _)=_
  rw[fT,hint,show(m4 F a t (L[k]).1 0).length=128 by unfold m4;rw[aQ]]
  have hrow:=vD hF a t hA x6 (aE (updF F a t) (L.take k)++aE F (L.drop k)) k (cC F L[k]) hq (L.length:Int) (k:Int) (by rw[hml];exact hk) 128 0 (by omega)
  rw[hrd]at hrow
  have hfin:aT (m4 F a t (cC F L[k]).1 128)=pg (updF F a t) (L[k]).1:=by
   unfold m4 pg
   rw[eR (f:=fun j=>if j<128 then updF F a t ((cC F L[k]).1+(j:Int))else F ((cC F L[k]).1+(j:Int))) (g:=fun j=>updF F a t ((L[k]).1+(j:Int))) 128 0 fun j _ hj=>av (by omega)]
  rw[hfin,an k L.length hk (by omega)]at hrow
  have hset':(aE (updF F a t) (L.take k)++aE F (L.drop k)).set k ((cC F L[k]).1,(cC F L[k]).2.1,pg (updF F a t) (L[k]).1)=aE (updF F a t) (L.take (k+1))++aE F (L.drop (k+1)):=hset
  rw[hset']at hrow
  exact hrow.trans (ih (k+1) (by omega))
theorem rn (m:List eh) (h:m.length≤64):T9 m=some m:=by
 rw[Iz,show aw m.length 32=true by simp[aw];omega];rfl
theorem rp {F:Int→Int} (hF:FR F) (a:Int) (t:ByteArray) (hA:Hy a t) (L:List (Int×Int)) (hL:fG L):pb (aE F L) a t=some (aE (updF F a t) L):=by
 have hml:(aE F L).length=L.length:=by simp[aE]
 have hn:=hL.len
 rw[Rk,IU,rn _ (by omega)]
 simp only[af]
 rw[hml]
 exact tg hF a t hA L hL [] L.length 0 (by omega)
theorem oa (a b:ByteArray) (i:Nat):bt (a++b) (i:Int)=if i<a.size then bt a (i:Int)else bt b ((i-a.size:Nat):Int):=by
 rw[fK,fK,fK]
 have hs:a.size=a.data.size:=rfl
 rw[ByteArray.data_append,Array.getD_eq_getD_getElem?,Array.getD_eq_getD_getElem?,Array.getD_eq_getD_getElem?,Array.getElem?_append,hs]
 split<;>rfl
theorem jG (t:ByteArray) (s e i:Nat) (h:s+i<e) (he:e≤t.size):bt (t.extract s e) (i:Int)=bt t ((s+i:Nat):Int):=by
 rw[fK,fK]
 have hs:t.size=t.data.size:=rfl
 rw[ByteArray.data_extract,Array.getD_eq_getD_getElem?,Array.getD_eq_getD_getElem?,Array.getElem?_extract,av (by omega)]
theorem Hz {a b:ByteArray} (hs:a.size=b.size) (h:∀i:Nat,i<a.size→bt a (i:Int)=bt b (i:Int)):a=b:=by
 apply nu hs
 intro i hi
 have:=h i hi
 rw[fK,fK]at this
 exact UInt8.toNat_inj.1 (by omega)
abbrev gA:Ty:= .pair (.int .i64) (.int .i64)
def dn (b a:Int):Bool:=decide (b≤a)&&decide (a≤b+127)
def c6 (L:List (Int×Int)) (a:Int):Int:=eo (fun i=>dn (rd (τ:=gA) L (i:Int)).1 a) 0 L.length
theorem iM (F:Int→Int) (L:List (Int×Int)) (i:Nat) (h:i<L.length):rd (τ:=aL) (aE F L) (i:Int)=cC F (rd (τ:=gA) L (i:Int)):=by
 rw[aV (τ:=aL) (aE F L) i (by simp[aE];exact h),aV (τ:=gA) L i h]
 simp[aE]
theorem ll {L:List (Int×Int)} (hL:fG L) (i:Nat) (h:i<L.length) {q:Int×Int} (hq:rd (τ:=gA) L (i:Int)=q):0≤q.1∧q.1≤1048575:=by
 rw[aV (τ:=gA) L i h]at hq;rw[←hq];exact hL.base _ (List.getElem_mem h)
def NA (a:Int):Prop:= -1099511627776≤a∧a≤1099511627776
theorem Dy (F:Int→Int) (L:List (Int×Int)) (hL:fG L) (a:Int) (ha:NA a):TB (aE F L) a=some (c6 L a):=by
 have hn:=hL.len
 obtain⟨a1,a2⟩:=ha
 have hml:(aE F L).length=L.length:=by simp[aE]
 rw[IX,IW,hml]
 rw[cq (L:=EN.a a (aE F L) (L.length:Int)) (fun i=>dn (rd (τ:=gA) L (i:Int)).1 a) L.length ?_ fun i hi=> ?_]
 ·rfl
 ·rw[EN.a_eq,ai];simp
 ·rw[EN.a_eq,ai,aj,hml,ab hi,an i _ hi (by omega),iM F L i hi,IV]
  obtain⟨q,hq⟩:∃q:Int×Int,rd (τ:=gA) L (i:Int)=q:=⟨_,rfl⟩
  have hb:=ll hL i hi hq
  rw[hq]
  obtain⟨b,hbe⟩:∃b:Int,q.1=b:=⟨_,rfl⟩
  rw[hbe]at hb⊢
  show(bif true then bif true then(Option.bind (Option.bind (ic a (cC F q).1 (IntKind.wrap .i64 (IntKind.wrap .i64 ((cC F q).1+128)-1))) fun r1=>some r1) _)else none else _)=_
  rw[show(cC F q).1=b from hbe,bf (n:=b+128) (by omega) (by omega),bf (n:=b+128-1) (by omega) (by omega),Ff,show dp a b (b+128-1)=dn b a by unfold dp dn;rw[show b+128-1=b+127 by omega]]
  rfl
theorem ob (F:Int→Int) (L:List (Int×Int)) (hL:fG L) (a:Int) (ha:NA a):tw (aE F L) a=some (c6 L a):=by
 have hn:=hL.len
 obtain⟨a1,a2⟩:=ha
 have hml:(aE F L).length=L.length:=by simp[aE]
 rw[IF]
 refine cq (L:=tw.a a (aE F L)) (fun i=>dn (rd (τ:=gA) L (i:Int)).1 a) L.length ?_ fun i hi=> ?_
 ·rw[tw.a_eq,hml,ai];simp
 ·rw[tw.a_eq,hml,ai,aj,ab hi,an i _ hi (by omega),iM F L i hi]
  obtain⟨q,hq⟩:∃q:Int×Int,rd (τ:=gA) L (i:Int)=q:=⟨_,rfl⟩
  have hb:=ll hL i hi hq
  rw[hq]
  obtain⟨b,hbe⟩:∃b:Int,q.1=b:=⟨_,rfl⟩
  rw[hbe]at hb⊢
  rw[show(cC F q).1=b from hbe,bf (n:=a-b) (by omega) (by omega)]
  unfold dn
  by_cases h1:b≤a
  ·rw[ab h1,show decide (a-b<128)=decide (a≤b+127) by congr 1;apply propext;omega]
   cases decide (a≤b+127)<;>rfl
  ·rw[ak h1];rfl
def Am (L:List (Int×Int)):Prop:=∀(i j:Nat) (a:Int),i<L.length→j<L.length→dn (rd (τ:=gA) L (i:Int)).1 a=true→dn (rd (τ:=gA) L (j:Int)).1 a=true→i=j
theorem iv {L:List (Int×Int)} {a:Int} (h:0≤c6 L a):∃(k:Nat) (q:Int×Int),c6 L a=(k:Int)∧k<L.length∧rd (τ:=gA) L (k:Int)=q∧q.1≤a∧a≤q.1+127:=by
 unfold c6 at h⊢
 rcases cr (fun i=>dn (rd (τ:=gA) L (i:Int)).1 a) L.length 0 with⟨h1,_⟩|⟨j,h1,h2,h3,h4,_⟩
 ·omega
 ·unfold dn at h4
  rw[az,aW,aW]at h4
  exact⟨j,_,h1,by omega,rfl,h4.1,h4.2⟩
theorem Kg (m:List eh) (h:m.length≤64):Vz m=some m:=by
 rw[O8,show aw (0+m.length) 32=true by simp[aw];omega];rfl
theorem vE {F:Int→Int} (hF:FR F) (L:List (Int×Int)) (hL:fG L) (hN:Am L) (a:Int) (ha:NA a) (t:ByteArray) (k:Nat) (hk:c6 L a=(k:Int)) (hkl:k<L.length) {q:Int×Int} (hq:rd (τ:=gA) L (k:Int)=q) (h1:q.1≤a) (h2:a+(t.size:Int)≤q.1+128):
  VA (aE F L) a t=some (aE (updF F a t) L):=by
 have hn:=hL.len
 have hml:(aE F L).length=L.length:=by simp[aE]
 have hb:=ll hL k hkl hq
 rw[O9,Kg _ (by omega),ob F L hL a ha,hk]
 simp only[af]
 rw[aj,hml,ab hkl,iM F L k hkl]
 rw[hq]
 obtain⟨j,hj⟩:∃j:Nat,a-q.1=(j:Int):=⟨(a-q.1).toNat,by omega⟩
 show(bif true then bif true then(bif decide (0≤0)&&decide (0≤IntKind.wrap .i64 (a-q.1))&&decide (IntKind.wrap .i64 (a-q.1)≤((pg F q.1).size:Int))then _ else none)else none else none)=_
 simp only[show(cC F q).1=q.1 from rfl,show(cC F q).2.1=q.2 from rfl,show(cC F q).2.2=pg F q.1 from rfl]
 rw[bf (n:=a-q.1) (by omega) (by omega),hj,fT,bf (n:=(j:Int)+(t.size:Int)) (by omega) (by omega)]
 rw[show(decide (0≤0)&&decide (0≤(j:Int))&&decide ((j:Int)≤((128:Nat):Int)))=true by simp;omega,show(decide (0≤(j:Int)+(t.size:Int))&&decide ((j:Int)+(t.size:Int)≤((128:Nat):Int))&&decide (((128:Nat):Int)≤((128:Nat):Int)))=true by simp;omega]
 rw[show(Int.toNat 0)=0 from rfl,aP,show((j:Int)+(t.size:Int)).toNat=j+t.size by omega,aP,aP]
 have hz1:((pg F q.1).extract 0 j).size=j:=by rw[ByteArray.size_extract,fT];omega
 have hz2:((pg F q.1).extract (j+t.size) 128).size=128-(j+t.size):=by rw[ByteArray.size_extract,fT];omega
 rw[ab (show((pg F q.1).extract 0 j).size+t.size≤9223372036854775807 by rw[hz1];omega),ab (show((pg F q.1).extract 0 j++t).size+((pg F q.1).extract (j+t.size) 128).size≤9223372036854775807 by rw[ByteArray.size_append,hz1,hz2];omega)]
 have hpage:(pg F q.1).extract 0 j++t++(pg F q.1).extract (j+t.size) 128=pg (updF F a t) q.1:=by
  apply Hz
  ·rw[ByteArray.size_append,ByteArray.size_append,hz1,hz2,fT];omega
  ·intro i hi
   rw[ByteArray.size_append,ByteArray.size_append,hz1,hz2]at hi
   rw[ul (dS hF a t) _ _ (by omega) (by omega),oa,ByteArray.size_append,hz1,oa,hz1]
   unfold updF
   by_cases c1:i<j
   ·rw[av (by omega),av c1,ap (by omega),jG _ _ _ _ (by omega) (by rw[fT];omega),ul hF _ _ (by omega) (by omega),Nat.zero_add]
   ·by_cases c2:i<j+t.size
    ·rw[av c2,ap c1,av (by omega),show q.1+(i:Int)-a=((i-j:Nat):Int) by omega]
    ·rw[ap c2,ap (by omega),jG _ _ _ _ (by omega) (by rw[fT];omega),ul hF _ _ (by omega) (by omega)]
     congr 1;omega
 rw[hpage]
 show some ((aE F L).set k (cC (updF F a t) q))=_
 congr 1
 apply List.ext_getElem
 ·simp[aE]
 ·intro i g1 g2
  have hi:i<L.length:=by simpa[aE]using g2
  rw[List.getElem_set]
  have e1:(aE (updF F a t) L)[i]=cC (updF F a t) L[i]:=by simp[aE]
  have e2:(aE F L)[i]'(by simp[aE];exact hi)=cC F L[i]:=by simp[aE]
  rw[e1,e2]
  have hqk:L[k]=q:=by rw[←hq,aV (τ:=gA) L k hkl]
  by_cases c:k=i
  ·subst c
   rw[av rfl,hqk]
  ·rw[ap c]
   unfold cC
   congr 2
   have hpg:∀x:Nat,x<128→F ((L[i]).1+(x:Int))=updF F a t ((L[i]).1+(x:Int)):=by
    intro x hx
    unfold updF
    rw[ap]
    intro hc
    refine c (hN k i ((L[i]).1+(x:Int)) hkl hi ?_ ?_)
    ·rw[hq];unfold dn
     rw[az,aW,aW];omega
    ·rw[aV (τ:=gA) L i hi];unfold dn
     rw[az,aW,aW];omega
   unfold pg
   rw[eR 128 0 fun x _ hx=>hpg x (by omega)]
theorem An (F:Int→Int) (a:Int) (t:ByteArray) (n:Nat) (hn:n≤t.size):updF (updF F a (t.extract 0 n)) (a+(n:Int)) (t.extract n t.size)=updF F a t:=by
 funext x
 have hz1:(t.extract 0 n).size=n:=by rw[ByteArray.size_extract];omega
 have hz2:(t.extract n t.size).size=t.size-n:=by rw[ByteArray.size_extract];omega
 unfold updF
 rw[hz1,hz2]
 by_cases c1:a+(n:Int)≤x∧x<a+(n:Int)+((t.size-n:Nat):Int)
 ·rw[av c1,av (by omega)]
  obtain⟨i,hi⟩:∃i:Nat,x-(a+(n:Int))=(i:Int):=⟨(x-(a+(n:Int))).toNat,by omega⟩
  rw[hi,jG _ _ _ _ (by omega) (Nat.le_refl _)]
  congr 1;omega
 ·rw[ap c1]
  by_cases c2:a≤x∧x<a+(n:Int)
  ·rw[av c2,av (by omega)]
   obtain⟨i,hi⟩:∃i:Nat,x-a=(i:Int):=⟨(x-a).toNat,by omega⟩
   rw[hi,jG _ _ _ _ (by omega) hn]
   congr 1;omega
  ·rw[ap c2,ap (by omega)]
theorem rq (F:Int→Int) (a:Int) (t:ByteArray) (h:t.size=0):updF F a t=F:=by
 funext x
 unfold updF
 rw[ap (by omega)]
theorem HC (L:List (Int×Int)) (hL:fG L) (hN:Am L) (x6:List eh):∀(n:Nat) (F:Int→Int) (a:Int) (t:ByteArray),FR F→t.size≤n→ -1000000000≤a→a+(t.size:Int)≤1000000000→(∀x,a≤x→x<a+(t.size:Int)→0≤c6 L x)→
  yj.a a t (aE F L) x6=some (aE (updF F a t) L):=by
 have hml:∀F,(aE F L).length=L.length:=by intro F;simp[aE]
 intro n
 induction n with
 |zero=>
  intro F a t hF ht h1 h2 hx
  have h0:t.size=0:=by omega
  rw[yj.a_eq,ak (show¬(t.size:Int)>0 by omega),ac,rq F a t h0]
 |succ n ih=>
  intro F a t hF ht h1 h2 hx
  by_cases h0:t.size=0
  ·rw[yj.a_eq,ak (show¬(t.size:Int)>0 by omega),ac,rq F a t h0]
  ·obtain⟨k,q,hk,hkl,hq,hb1,hb2⟩:=iv (hx a (Int.le_refl _) (by omega))
   have hb:=ll hL k hkl hq
   rw[yj.a_eq,ab (show(t.size:Int)>0 by omega),ob F L hL a ⟨by omega,by omega⟩,hk]
   simp only[ae,af]
   rw[aj,hml,ab hkl,iM F L k hkl]
   rw[hq]
   simp only[show(cC F q).1=q.1 from rfl,ae]
   rw[bf (n:=q.1+128) (by omega) (by omega),bf (n:=q.1+128-a) (by omega) (by omega)]
   obtain⟨m,hm⟩:∃m:Nat,(if q.1+128-a< (t.size:Int)then q.1+128-a else(t.size:Int))=(m:Int):=⟨(if q.1+128-a< (t.size:Int)then q.1+128-a else(t.size:Int)).toNat,by split<;>omega⟩
   have hm1:1≤m∧m≤t.size∧a+(m:Int)≤q.1+128:=by split at hm<;>omega
   rw[hm,bf (n:=a+(m:Int)) (by omega) (by omega)]
   rw[show(decide (0≤0)&&decide (0≤(m:Int))&&decide ((m:Int)≤(t.size:Int)))=true by simp;omega,show(decide (0≤(m:Int))&&decide ((m:Int)≤(t.size:Int))&&decide ((t.size:Int)≤(t.size:Int)))=true by simp;omega]
   rw[show(Int.toNat 0)=0 from rfl,aP,aP]
   have hz1:(t.extract 0 m).size=m:=by rw[ByteArray.size_extract];omega
   have hz2:(t.extract m t.size).size=t.size-m:=by rw[ByteArray.size_extract];omega
   rw[vE hF L hL hN a ⟨by omega,by omega⟩ (t.extract 0 m) k hk hkl hq hb1 (by rw[hz1];exact hm1.2.2)]
   simp only[ae,af]
   rw[ih _ _ _ (dS hF _ _) (by omega) (by omega) (by omega) fun x g1 g2=>hx x (by omega) (by omega),An F a t m hm1.2.1]
def vF (F:Int→Int) (a:Int) (n:Nat):ByteArray:=aT (bu (fun i=>F (a+(i:Int))) 0 n)
theorem Dz (F:Int→Int) (a:Int) (n:Nat):(vF F a n).size=n:=by unfold vF;rw[cX,aQ]
theorem HD (n:Nat) (h:n≤8192):aw n 1=true:=by simp[aw];omega
theorem Ao {F:Int→Int} (hF:FR F) (L:List (Int×Int)) (hL:fG L) (a:Int) (n:Nat) (hn:n≤1024) (h1: -1000000000≤a) (h2:a≤1000000000) (hx:∀x,a≤x→x<a+(n:Int)→0≤c6 L x):
  Cr (aE F L) a (n:Int)=some (vF F a n):=by
 have hml:(aE F L).length=L.length:=by simp[aE]
 rw[RJ]
 have key:=cS (L:=fun acc i=>Cr.a a (n:Int) (aE F L) acc (a+i)) (fun i=>F (a+(i:Int))) n ([]:List Int) fun acc i hi ha=> ?_
 ·simp only[Int.add_zero,List.nil_append]at key
  rw[key,Cr.a_eq,bf (n:=a+(n:Int)) (by omega) (by omega),ak (show¬a+(n:Int)<a+(n:Int) by omega)];rfl
 ·simp only[List.length_nil,Nat.zero_add]at ha
  obtain⟨k,q,hk,hkl,hq,hb1,hb2⟩:=iv (hx (a+(i:Int)) (by omega) (by omega))
  have hb:=ll hL k hkl hq
  show Cr.a a (n:Int) (aE F L) acc (a+(i:Int))=Cr.a a (n:Int) (aE F L) (acc++[F (a+(i:Int))]) (a+((i+1:Nat):Int))
  rw[Cr.a_eq,bf (n:=a+(n:Int)) (by omega) (by omega),ab (show a+(i:Int)<a+(n:Int) by omega),Dy F L hL _ ⟨by omega,by omega⟩,hk]
  simp only[ae,af]
  rw[aj,hml,ab hkl,iM F L k hkl,hq]
  simp only[show(cC F q).1=q.1 from rfl,show(cC F q).2.2=pg F q.1 from rfl,ae]
  rw[bf (n:=a+(i:Int)-q.1) (by omega) (by omega),bf (n:=a+(i:Int)+1) (by omega) (by omega),fT,inL_true (i:=a+(i:Int)-q.1) (n:=128) (by omega) (by omega),ul hF _ _ (by omega) (by omega),show q.1+(a+(i:Int)-q.1)=a+(i:Int) by omega,HD _ (by simp;omega),show a+(i:Int)+1=a+((i+1:Nat):Int) by omega]
  rfl
theorem HE {F:Int→Int} (hF:FR F) (L:List (Int×Int)) (hL:fG L) (a:Int) (n:Nat) (hn:n≤1024) (h1: -1000000000≤a) (h2:a≤1000000000) (hx:∀x,a≤x→x<a+(n:Int)→0≤c6 L x):
  Cm (aE F L) a (n:Int)=some (vF F a n):=by
 have hml:(aE F L).length=L.length:=by simp[aE]
 rw[PH]
 rw[cS (L:=fun acc i=>Cm.a a (n:Int) (aE F L) acc i) (fun i=>F (a+(i:Int))) n ([]:List Int) fun acc i hi ha=> ?_]
 ·rw[Cm.a_eq,ai,ak (aB _),ac,List.nil_append];rfl
 ·simp only[List.length_nil,Nat.zero_add]at ha
  obtain⟨k,q,hk,hkl,hq,hb1,hb2⟩:=iv (hx (a+(i:Int)) (by omega) (by omega))
  have hb:=ll hL k hkl hq
  show Cm.a a (n:Int) (aE F L) acc (i:Int)=Cm.a a (n:Int) (aE F L) (acc++[F (a+(i:Int))]) ((i+1:Nat):Int)
  rw[Cm.a_eq,ai,ab hi,bf (n:=a+(i:Int)) (by omega) (by omega),an i n hi (by omega),ob F L hL _ ⟨by omega,by omega⟩,hk]
  simp only[ae,af]
  rw[aj,hml,ab hkl,iM F L k hkl,hq]
  simp only[show(cC F q).1=q.1 from rfl,show(cC F q).2.2=pg F q.1 from rfl,ae]
  rw[bf (n:=a+(i:Int)-q.1) (by omega) (by omega),fT,inL_true (i:=a+(i:Int)-q.1) (n:=128) (by omega) (by omega),ul hF _ _ (by omega) (by omega),show q.1+(a+(i:Int)-q.1)=a+(i:Int) by omega,HD _ (by simp;omega)]
  rfl
def pA (F:Int→Int) (b:Int) (n:Nat):Prop:=∀x,b≤x→x<b+(n:Int)→F x=0
theorem B4 {F:Int→Int} {b:Int} (h:pA F b 128):pg F b=aT (List.replicate 128 (0:Int)):=by
 unfold pg
 rw[eR (g:=fun _=>(0:Int)) 128 0 fun j _ hj=>h _ (by omega) (by omega)]
 rfl
theorem HF:sZ (⟨#[0]⟩:ByteArray) 128=aT (List.replicate 128 (0:Int)):=by decide+kernel
theorem HG {F:Int→Int} (L:List (Int×Int)) (hn:L.length<64) (b p:Int) (hb:∀q∈L,q.1<b) (hz:pA F b 128):EM (aE F L) b p=some (aE F (L++[(b,p)])):=by
 have hml:(aE F L).length=L.length:=by simp[aE]
 rw[Rl]
 have loop:∀(d k:Nat),k+d=L.length→EM.a b p (aE F L) [] (k:Int)=EM.a b p (aE F L) [] (L.length:Int):=by
  intro d
  induction d with
  |zero=>
    intro k h;have:k=L.length:=by omega
    rw[this]
  |succ d ih=>
   intro k h
   have hk:k<L.length:=by omega
   obtain⟨q,hq⟩:∃q:Int×Int,rd (τ:=gA) L (k:Int)=q:=⟨_,rfl⟩
   have hqb:q.1<b:=by rw[aV (τ:=gA) L k hk]at hq;rw[←hq];exact hb _ (List.getElem_mem hk)
   rw[EM.a_eq,hml,ai,aj,ab hk,iM F L k hk,hq]
   simp only[aA,ae]
   rw[show decide ((cC F q).1<b)=true from ab hqb,an k L.length hk (by omega),ae,ih (k+1) (by omega)]
 have h0:=loop L.length 0 (by omega)
 rw[show((0:Nat):Int)=0 from rfl]at h0
 rw[h0,EM.a_eq,hml,ai,ak (aB _)]
 simp only[aA,ac]
 rw[rn _ (by omega),IA]
 simp only[af]
 rw[show(decide (0≤(128:Int))&&decide ((128:Int)≤9223372036854775807)&&decide (ByteArray.size (⟨#[0]⟩:ByteArray)*(128:Int).toNat≤140737488355328))=true by decide,ae,HF,←B4 hz]
 simp only[af]
 rw[NU,hml,show(decide ((L.length:Int)=(L.length:Int))&&aw (L.length+[(b,p,pg F b)].length) 32)=true by simp[aw];omega]
 simp only[ae,af]
 unfold aE
 rw[List.map_append];rfl
theorem HH {F:Int→Int} (L:List (Int×Int)) (hn:L.length<64) (b p:Int) (hb:∀q∈L,q.1<b) (hz:pA F b 128):Cl (aE F L) b p=some (aE F (L++[(b,p)])):=by
 have hml:(aE F L).length=L.length:=by simp[aE]
 rw[Pb]
 have loop:∀(d k:Nat),k+d=L.length→Cl.a b p (aE F L) [] (aE F (L.take k)) false (k:Int)=Cl.a b p (aE F L) [] (aE F L) false (L.length:Int):=by
  intro d
  induction d with
  |zero=>
    intro k h;have:k=L.length:=by omega
    rw[this,List.take_length]
  |succ d ih=>
   intro k h
   have hk:k<L.length:=by omega
   obtain⟨q,hq⟩:∃q:Int×Int,rd (τ:=gA) L (k:Int)=q:=⟨_,rfl⟩
   have hqL:L[k]=q:=by rw[aV (τ:=gA) L k hk]at hq;exact hq
   have hqb:q.1<b:=by rw[←hqL];exact hb _ (List.getElem_mem hk)
   have hlt:(aE F (L.take k)).length=k:=by simp[aE];omega
   rw[Cl.a_eq,hml,ai,aj,ab hk,iM F L k hk,hq]
   simp only[aA,ae,Bool.not_false]
   rw[show decide ((cC F q).1>b)=false from ak (by show¬q.1>b;omega),an k L.length hk (by omega),ac,show aw ((aE F (L.take k)).length+[cC F q].length) 32=true by rw[hlt];simp[aw];omega,ae]
   rw[show aE F (L.take k)++[cC F q]=aE F (L.take (k+1)) by unfold aE;rw[List.take_succ_eq_append_getElem hk,List.map_append,hqL];rfl]
   exact ih (k+1) (by omega)
 have h0:=loop L.length 0 (by omega)
 rw[show((0:Nat):Int)=0 from rfl,show aE F (L.take 0)=[] from rfl]at h0
 rw[h0,Cl.a_eq,hml,ai,ak (aB _)]
 simp only[ac,Bool.not_false,ae]
 rw[show(decide ((0:Nat)≤128)&&aw (Int.toNat 128) 1)=true by decide,show(Int.toNat 128)=128 from rfl,←B4 hz,show aw (L.length+[(b,p,pg F b)].length) 32=true by simp[aw];omega]
 simp only[ae]
 unfold aE
 rw[List.map_append];rfl
def od (b p:Int) (n:Nat):List (Int×Int):=bu (fun i=>(b+128*(i:Int),p)) 0 n
theorem HI (b p:Int):∀n,od b p (n+1)=od b p n++[(b+128*(n:Int),p)]:=by
 intro n
 unfold od
 have:∀(k i:Nat),bu (fun i=>(b+128*(i:Int),p)) i (k+1)=bu (fun i=>(b+128*(i:Int),p)) i k++[(b+128*((i+k:Nat):Int),p)]:=by
  intro k
  induction k with
  |zero=>intro i;rfl
  |succ k ih=>intro i;rw[bu,ih (i+1),bu,show i+1+k=i+(k+1) by omega];rfl
 rw[this n 0,Nat.zero_add]
theorem rt (b p:Int) (n:Nat):(od b p n).length=n:=aQ _ _ _
theorem B5 {b p:Int} {n:Nat} {q:Int×Int} (h:q∈od b p n):b≤q.1∧q.1+128≤b+128*(n:Int):=by
 obtain⟨j,_,hj,rfl⟩:=(cg _ _ _ _).1 h
 simp only;omega
theorem xN {F:Int→Int} (A:List eh→Int→Int→Option (List eh)) (hA:∀(L:List (Int×Int)) (b p:Int),L.length<64→(∀q∈L,q.1<b)→pA F b 128→A (aE F L) b p=some (aE F (L++[(b,p)])))
  (X:List eh→Int→Option (List eh)) (L:List (Int×Int)) (b p:Int) (n:Nat) (hn:L.length+n≤64) (hb:∀q∈L,q.1<b) (hb0:0≤b∧b≤1048575) (hz:pA F b (128*n))
  (hX:∀m (i:Nat),i<n→X m (128*(i:Int))=(A m (b+128*(i:Int)) p).bind fun r=>X r (128*((i+1:Nat):Int))):
  ∀(d k:Nat),k+d=n→X (aE F (L++od b p k)) (128*(k:Int))=X (aE F (L++od b p n)) (128*(n:Int)):=by
 intro d
 induction d with
 |zero=>
   intro k h;have:k=n:=by omega
   rw[this]
 |succ d ih=>
  intro k h
  rw[hX _ k (by omega),hA _ _ _ (by rw[List.length_append,rt];omega) (fun q hq=> ?_) (fun x h1 h2=>hz x (by omega) (by omega))]
  ·simp only[af]
   rw[bl,←HI]
   exact ih (k+1) (by omega)
  ·rcases List.mem_append.1 hq with hq|hq
   ·have:=hb q hq;omega
   ·have:=B5 hq;omega
def iN (t:ByteArray) (n:Nat):ByteArray:=t++sZ (⟨#[0]⟩:ByteArray) ((n-t.size:Nat):Int)
theorem B6:∀k:Nat,(Lib.repeatL [(0:UInt8)] k)=List.replicate k 0
 |0=>rfl
 |k+1=>by rw[Lib.repeatL,B6 k];rfl
theorem um (k:Nat):(sZ (⟨#[0]⟩:ByteArray) (k:Int)).data=(List.replicate k (0:UInt8)).toArray:=by
 unfold sZ
 rw[aP]
 show(Lib.repeatL [(0:UInt8)] k).toArray=_
 rw[B6]
theorem uq (k:Nat):(sZ (⟨#[0]⟩:ByteArray) (k:Int)).size=k:=by
 show(sZ (⟨#[0]⟩:ByteArray) (k:Int)).data.size=k
 rw[um];simp
theorem Kh (k i:Nat):bt (sZ (⟨#[0]⟩:ByteArray) (k:Int)) (i:Int)=0:=by
 rw[fK,um]
 simp only[Array.getD,List.size_toArray,List.length_replicate]
 split
 ·simp
 ·rfl
theorem fH (t:ByteArray) (n:Nat) (h:t.size≤n):(iN t n).size=n:=by
 unfold iN
 rw[ByteArray.size_append,uq];omega
theorem Ki (t:ByteArray) (n i:Nat):bt (iN t n) (i:Int)=if i<t.size then bt t (i:Int)else 0:=by
 unfold iN
 rw[oa]
 split
 ·rfl
 ·exact Kh _ _
theorem gT (t:ByteArray) (n:Nat) (h:t.size≤n) (hn:n≤1048576):GC t (n:Int)=some (iN t n):=by
 have hz:=fH t n h
 rw[Rn,bf (n:=(n:Int)-(t.size:Int)) (by omega) (by omega),show(n:Int)-(t.size:Int)=((n-t.size:Nat):Int) by omega,IA]
 rw[show(decide (0≤((n-t.size:Nat):Int))&&decide (((n-t.size:Nat):Int)≤9223372036854775807)&&decide (ByteArray.size (⟨#[0]⟩:ByteArray)*(((n-t.size:Nat):Int)).toNat≤140737488355328))=true by
  rw[show ByteArray.size (⟨#[0]⟩:ByteArray)=1 from rfl];simp;omega]
 simp only[ae,af]
 rw[uq,ab (show t.size+(n-t.size)≤9223372036854775807 by omega)];rfl
theorem ru {F:Int→Int} (b:Int) (t:ByteArray) (n:Nat) (h:t.size≤n) (hz:pA F b n):updF F b (iN t n)=updF F b t:=by
 funext x
 unfold updF
 rw[fH t n h]
 by_cases c:b≤x∧x<b+(n:Int)
 ·rw[av c]
  obtain⟨i,hi⟩:∃i:Nat,x-b=(i:Int):=⟨(x-b).toNat,by omega⟩
  rw[hi,Ki]
  by_cases c2:i<t.size
  ·rw[av c2,av (by omega)]
  ·rw[ap c2,ap (by omega),hz x c.1 c.2]
 ·rw[ap c,ap (by omega)]
theorem jh {F:Int→Int} (hF:FR F) (L:List (Int×Int)) (hL:fG L) (b p:Int) (n:Nat) (t:ByteArray) (hn:L.length+n≤64) (hb:∀q∈L,q.1<b) (hb0:0≤b∧b+128*(n:Int)≤1048575) (hz:pA F b (128*n)) (ht:t.size=128*n):
  sP (aE F L) b p t=some (aE (updF F b t) (L++od b p n)):=by
 rw[Rm]
 have hL':fG (L++od b p n):=⟨by rw[List.length_append,rt];omega,fun q hq=>by
  rcases List.mem_append.1 hq with hq|hq
  ·exact hL.base q hq
  ·have:=B5 hq;omega⟩
 have h:=xN (F:=F) EM (fun L b p h1 h2 h3=>HG L h1 b p h2 h3) (fun m i=>sP.a b p t m [] i) L b p n hn hb ⟨by omega,by omega⟩ hz (fun m i hi=>by
  show sP.a b p t m [] (128*(i:Int))=_
  rw[sP.a_eq,ht,ab (show 128*(i:Int)< ((128*n:Nat):Int) by omega),ae,bf (n:=b+128*(i:Int)) (by omega) (by omega),bf (n:=128*(i:Int)+128) (by omega) (by omega),show 128*(i:Int)+128=128*((i+1:Nat):Int) by omega]) n 0 (by omega)
 have h':sP.a b p t (aE F (L++od b p 0)) [] (128*((0:Nat):Int))=sP.a b p t (aE F (L++od b p n)) [] (128*(n:Int)):=h
 rw[show od b p 0=[] from rfl,List.append_nil,show 128*((0:Nat):Int)=0 from rfl]at h'
 rw[h',sP.a_eq,ht,ak (show¬128*(n:Int)< ((128*n:Nat):Int) by omega),ac,rp hF b t ⟨by omega,by omega,by omega⟩ _ hL'];rfl
theorem gU {F:Int→Int} (L:List (Int×Int)) (b p:Int) (n:Nat) (hn:L.length+n≤64) (hb:∀q∈L,q.1<b) (hb0:0≤b∧b+128*(n:Int)≤1048575) (hz:pA F b (128*n)):
  rY (aE F L) b (128*(n:Int)) p=some (aE F (L++od b p n)):=by
 rw[Pd]
 have h:=xN (F:=F) Cl (fun L b p h1 h2 h3=>HH L h1 b p h2 h3) (fun m i=>rY.a b (128*(n:Int)) p m [] i) L b p n hn hb ⟨by omega,by omega⟩ hz (fun m i hi=>by
  show rY.a b (128*(n:Int)) p m [] (128*(i:Int))=_
  rw[rY.a_eq,ab (show 128*(i:Int)<128*(n:Int) by omega),ae,bf (n:=b+128*(i:Int)) (by omega) (by omega),bf (n:=128*(i:Int)+128) (by omega) (by omega),show 128*(i:Int)+128=128*((i+1:Nat):Int) by omega]) n 0 (by omega)
 have h':rY.a b (128*(n:Int)) p (aE F (L++od b p 0)) [] (128*((0:Nat):Int))=rY.a b (128*(n:Int)) p (aE F (L++od b p n)) [] (128*(n:Int)):=h
 rw[show od b p 0=[] from rfl,List.append_nil,show 128*((0:Nat):Int)=0 from rfl]at h'
 rw[h',rY.a_eq,ak (show¬128*(n:Int)<128*(n:Int) by omega),ac]
def L1:List (Int×Int):=od 4096 4 8
def L2:List (Int×Int):=L1++od 8192 4 8
def L3:List (Int×Int):=L2++od 16384 3 2
def L4:List (Int×Int):=L3++od 20480 3 2
def L5:List (Int×Int):=L4++od 32768 11 4
def L6:List (Int×Int):=L5++od 33792 11 4
def L7:List (Int×Int):=L6++od 34816 11 4
def BL:List (Int×Int):=L7++od 35840 11 4
def FV (L:List (Int×Int)) (m:Int):Bool:=decide (L.length≤64)&&L.all fun q=>decide (0≤q.1)&&decide (q.1≤1048575)&&decide (q.1<m)
theorem du {L:List (Int×Int)} {m:Int} (h:FV L m=true):fG L∧∀q∈L,q.1<m:=by
 unfold FV at h
 rw[az,aW,List.all_eq_true]at h
 refine⟨⟨h.1,fun q hq=> ?_⟩,fun q hq=> ?_⟩
 ·have:=h.2 q hq;simp only[az,aW]at this;exact this.1
 ·have:=h.2 q hq;simp only[az,aW]at this;exact this.2
theorem b1:FV L1 8192=true:=by decide
theorem b2:FV L2 16384=true:=by decide
theorem b3:FV L3 20480=true:=by decide
theorem b4:FV L4 32768=true:=by decide
theorem b5:FV L5 33792=true:=by decide
theorem b6:FV L6 34816=true:=by decide
theorem b7:FV L7 35840=true:=by decide
theorem b8:FV BL 40000=true:=by decide
def zF:Int→Int:=fun _=>0
def lW (im:gE):Int→Int:=updF zF 4096 im.1
def F0 (im:gE):Int→Int:=updF (lW im) 16384 im.2.1
theorem rv:FR zF:=fun _=>⟨Int.le_refl 0,show(0:Int)≤255 by omega⟩
theorem iw (im:gE):FR (lW im):=dS rv _ _
theorem rx (im:gE):FR (F0 im):=dS (iw im) _ _
theorem gW {im:gE} (h:im.1.size≤1024) (b:Int) (n:Nat) (hb:5120≤b):pA (lW im) b n:=by
 intro x h1 h2
 unfold lW updF
 rw[ap (by omega)];rfl
theorem pR {im:gE} (h:im.1.size≤1024) (h':im.2.1.size≤256) (b:Int) (n:Nat) (hb:16640≤b):pA (F0 im) b n:=by
 intro x h1 h2
 unfold F0 updF
 rw[ap (by omega)]
 exact gW h b n (by omega) x h1 h2
theorem jH (b:Int) (n:Nat):pA zF b n:=fun _ _ _=>rfl
theorem vG {F:Int→Int} (b:Int) (n:Nat) (hz:pA F b n):updF F b (iN ⟨#[]⟩ n)=F:=by
 rw[ru b _ n (by show(0:Nat)≤n;omega) hz,rq _ _ _ rfl]
theorem jIq (im:gE) (hc:im.1.size≤1024) (hd:im.2.1.size≤256) (L:List (Int×Int)) (i:Nat) (hi:i<4) (m:Int) (hL:FV L m=true) (hm:m=32768+1024*(i:Int)) (hn:L.length+4≤64):
  GD.a [] (aE (F0 im) L) (i:Int)=GD.a [] (aE (F0 im) (L++od m 11 4)) ((i+1:Nat):Int):=by
 obtain⟨h1,h2⟩:=du hL
 rw[GD.a_eq,ab (show(i:Int)<4 by omega),show GC (⟨#[]⟩:ByteArray) 512=some (iN ⟨#[]⟩ 512) from gT _ 512 (by show(0:Nat)≤512;omega) (by omega),bf (n:=1024*(i:Int)) (by omega) (by omega),bf (n:=32768+1024*(i:Int)) (by omega) (by omega),bf (n:=(i:Int)+1) (by omega) (by omega),←hm]
 simp only[ae,af]
 rw[jh (rx im) L h1 m 11 4 (iN ⟨#[]⟩ 512) hn h2 (by omega) (pR hc hd m 512 (by omega)) (fH _ 512 (by show(0:Nat)≤512;omega)),vG m 512 (pR hc hd m 512 (by omega))]
 simp only[af]
 rw[show(i:Int)+1=((i+1:Nat):Int) by omega]
theorem xO (im:gE) (hc:im.1.size≤1024) (hd:im.2.1.size≤256):GD im=some (aE (F0 im) BL):=by
 have e0:(0:Nat)≤1024:=by omega
 rw[Ro,show GC im.1 1024=some (iN im.1 1024) from gT _ 1024 hc (by omega),show GC (⟨#[]⟩:ByteArray) 1024=some (iN ⟨#[]⟩ 1024) from gT _ 1024 (by show(0:Nat)≤1024;omega) (by omega),
  show GC im.2.1 256=some (iN im.2.1 256) from gT _ 256 hd (by omega),show GC (⟨#[]⟩:ByteArray) 256=some (iN ⟨#[]⟩ 256) from gT _ 256 (by show(0:Nat)≤256;omega) (by omega)]
 simp only[af]
 have a1:=jh rv [] ⟨by simp,fun q hq=>by cases hq⟩ 4096 4 8 (iN im.1 1024) (by simp) (fun q hq=>by cases hq) (by omega) (jH _ _) (fH _ 1024 hc)
 rw[ru 4096 im.1 1024 hc (jH _ _),List.nil_append]at a1
 rw[show sP [] 4096 4 (iN im.1 1024)=some (aE (lW im) L1) from a1]
 simp only[af]
 have a2:=jh (iw im) L1 (du b1).1 8192 4 8 (iN ⟨#[]⟩ 1024) (by decide) (du b1).2 (by omega) (gW hc _ _ (by omega)) (fH _ 1024 (by show(0:Nat)≤1024;omega))
 rw[vG 8192 1024 (gW hc _ _ (by omega))]at a2
 rw[show sP (aE (lW im) L1) 8192 4 (iN ⟨#[]⟩ 1024)=some (aE (lW im) L2) from a2]
 simp only[af]
 have a3:=jh (iw im) L2 (du b2).1 16384 3 2 (iN im.2.1 256) (by decide) (du b2).2 (by omega) (gW hc _ _ (by omega)) (fH _ 256 hd)
 rw[ru 16384 im.2.1 256 hd (gW hc _ _ (by omega))]at a3
 rw[show sP (aE (lW im) L2) 16384 3 (iN im.2.1 256)=some (aE (F0 im) L3) from a3]
 simp only[af]
 have a4:=jh (rx im) L3 (du b3).1 20480 3 2 (iN ⟨#[]⟩ 256) (by decide) (du b3).2 (by omega) (pR hc hd _ _ (by omega)) (fH _ 256 (by show(0:Nat)≤256;omega))
 rw[vG 20480 256 (pR hc hd _ _ (by omega))]at a4
 rw[show sP (aE (F0 im) L3) 20480 3 (iN ⟨#[]⟩ 256)=some (aE (F0 im) L4) from a4]
 simp only[af]
 have s0:=jIq im hc hd L4 0 (by omega) 32768 b4 (by omega) (by decide)
 have s1:=jIq im hc hd L5 1 (by omega) 33792 b5 (by omega) (by decide)
 have s2:=jIq im hc hd L6 2 (by omega) 34816 b6 (by omega) (by decide)
 have s3:=jIq im hc hd L7 3 (by omega) 35840 b7 (by omega) (by decide)
 refine s0.trans (s1.trans (s2.trans (s3.trans ?_)))
 rw[GD.a_eq,show decide (((3+1:Nat):Int)<4)=false by decide,ac];rfl
theorem jJ (L:List (Int×Int)) (i:Nat) (hi:i<4) (m:Int) (hL:FV L m=true) (hm:m=32768+1024*(i:Int)) (hn:L.length+4≤64):
  Ga.a [] (aE zF L) (i:Int)=Ga.a [] (aE zF (L++od m 11 4)) ((i+1:Nat):Int):=by
 obtain⟨h1,h2⟩:=du hL
 rw[Ga.a_eq,ab (show(i:Int)<4 by omega),bf (n:=1024*(i:Int)) (by omega) (by omega),bf (n:=32768+1024*(i:Int)) (by omega) (by omega),bf (n:=(i:Int)+1) (by omega) (by omega),←hm]
 rw[show rY (aE zF L) m 512 11=some (aE zF (L++od m 11 4)) from gU L m 11 4 hn h2 (by omega) (jH _ _)]
 simp only[af,ae]
 rw[show(i:Int)+1=((i+1:Nat):Int) by omega]
theorem Ap:Ga=some (aE zF BL):=by
 rw[Pe]
 rw[show rY [] 4096 1024 4=some (aE zF L1) from gU (F:=zF) [] 4096 4 8 (by simp) (fun q hq=>by cases hq) (by omega) (jH _ _)]
 simp only[af]
 rw[show rY (aE zF L1) 8192 1024 4=some (aE zF L2) from gU L1 8192 4 8 (by decide) (du b1).2 (by omega) (jH _ _)]
 simp only[af]
 rw[show rY (aE zF L2) 16384 256 3=some (aE zF L3) from gU L2 16384 3 2 (by decide) (du b2).2 (by omega) (jH _ _)]
 simp only[af]
 rw[show rY (aE zF L3) 20480 256 3=some (aE zF L4) from gU L3 20480 3 2 (by decide) (du b3).2 (by omega) (jH _ _)]
 simp only[af]
 have s0:=jJ L4 0 (by omega) 32768 b4 (by omega) (by decide)
 have s1:=jJ L5 1 (by omega) 33792 b5 (by omega) (by decide)
 have s2:=jJ L6 2 (by omega) 34816 b6 (by omega) (by decide)
 have s3:=jJ L7 3 (by omega) 35840 b7 (by omega) (by decide)
 refine s0.trans (s1.trans (s2.trans (s3.trans ?_)))
 rw[Ga.a_eq,show decide (((3+1:Nat):Int)<4)=false by decide,ac];rfl
theorem HJ:fG BL:=(du b8).1
theorem jK:BL.length=36:=by decide
def yW (i:Nat):Int:=(BL.getD i (0,0)).1
theorem B7 (i:Nat):(rd (τ:=gA) BL (i:Int)).1=yW i:=by
 unfold rd yW
 rw[aP];rfl
theorem HK:∀i j:Fin 36,i<j→yW i+128≤yW j:=by decide+kernel
theorem B8:Am BL:=by
 intro i j a hi hj h1 h2
 rw[jK]at hi hj
 rw[B7]at h1 h2
 unfold dn at h1 h2
 rw[az,aW,aW]at h1 h2
 rcases Nat.lt_trichotomy i j with h|h|h
 ·have:=HK ⟨i,hi⟩ ⟨j,hj⟩ h
  simp only at this;omega
 ·exact h
 ·have:=HK ⟨j,hj⟩ ⟨i,hi⟩ h
  simp only at this;omega
theorem m5 (i:Nat) (hi:i<36) (x:Int) (h1:yW i≤x) (h2:x≤yW i+127):0≤c6 BL x:=by
 unfold c6
 rcases cr (fun i=>dn (rd (τ:=gA) BL (i:Int)).1 x) BL.length 0 with⟨g1,g2⟩|⟨j,g1,_⟩
 ·have:=g2 i (Nat.zero_le _) (by rw[jK];omega)
  rw[B7]at this
  unfold dn at this
  rw[ab h1,ab h2]at this
  cases this
 ·rw[g1];omega
theorem Kj:∀i:Fin 8,yW i=4096+128*((i:Nat):Int):=by decide+kernel
theorem HL:∀i:Fin 8,yW (8+i)=8192+128*((i:Nat):Int):=by decide+kernel
theorem Kk:∀i:Fin 2,yW (16+i)=16384+128*((i:Nat):Int):=by decide+kernel
theorem ur {x:Int} (h1:4096≤x) (h2:x<5120):0≤c6 BL x:=by
 have:=Kj ⟨((x-4096)/128).toNat,by omega⟩
 simp only at this
 exact m5 ((x-4096)/128).toNat (by omega) x (by omega) (by omega)
theorem Aq {x:Int} (h1:8192≤x) (h2:x<9216):0≤c6 BL x:=by
 have:=HL ⟨((x-8192)/128).toNat,by omega⟩
 simp only at this
 exact m5 (8+((x-8192)/128).toNat) (by omega) x (by omega) (by omega)
theorem DA {x:Int} (h1:16384≤x) (h2:x<16640):0≤c6 BL x:=by
 have:=Kk ⟨((x-16384)/128).toNat,by omega⟩
 simp only at this
 exact m5 (16+((x-16384)/128).toNat) (by omega) x (by omega) (by omega)
theorem lm {F:Int→Int} (hF:FR F) (a:Int) (t:ByteArray) (h1: -1000000000≤a) (h2:a+(t.size:Int)≤1000000000) (hx:∀x,a≤x→x<a+(t.size:Int)→0≤c6 BL x):yj (aE F BL) a t=some (aE (updF F a t) BL):=by
 rw[Pa];exact HC BL HJ B8 [] t.size F a t hF (Nat.le_refl _) h1 h2 hx
theorem DB (im:gE) (hc:im.1.size≤1024) (hd:im.2.1.size≤256):VB im=some (aE (F0 im) BL):=by
 rw[Pf,Ap]
 simp only[af]
 rw[lm rv 4096 im.1 (by omega) (by omega) fun x h1 h2=>ur h1 (by omega)]
 simp only[af]
 rw[show updF zF 4096 im.1=lW im from rfl,lm (iw im) 16384 im.2.1 (by omega) (by omega) fun x h1 h2=>DA h1 (by omega)]
 rfl
theorem au {τ:Ty} (l:List τ.den) (i:Nat) (h:i<l.length):rd (τ:=τ) l (i:Int)∈l:=by rw[aV l i h];exact List.getElem_mem h
theorem oe {τ:Ty} {l:List τ.den} {x:τ.den} (h:x∈l):∃i:Nat,i<l.length∧rd (τ:=τ) l (i:Int)=x:=by
 obtain⟨i,hi,e⟩:=List.mem_iff_getElem.1 h
 exact⟨i,hi,by rw[aV l i hi];exact e⟩
theorem m6 {t:List dg} {n:ByteArray}:cD t n<0↔∀e∈t,e.1≠n:=by
 unfold cD
 rcases cr (fun i=>decide ((rd (τ:=bb) t (i:Int)).1=n)) t.length 0 with⟨h1,h2⟩|⟨j,h1,h2,h3,h4,_⟩
 ·refine⟨fun _ e he hn=> ?_,fun _=>by rw[h1];decide⟩
  obtain⟨i,hi,hr⟩:=oe (τ:=bb) he
  have:=h2 i (Nat.zero_le _) (by omega)
  rw[decide_eq_false_iff_not,hr]at this
  exact this hn
 ·refine⟨fun h=>by rw[h1]at h;omega,fun h=> ?_⟩
  rw[aW]at h4
  exact absurd h4 (h _ (au (τ:=bb) t j (by omega)))
structure ry (t:List dg):Prop where
 len:t.length≤64
 ent:∀e∈t,dU e=true
 dis:t.Pairwise fun a b=>a.1≠b.1
theorem rz {t:List dg}:pF t=true↔ry t:=by
 unfold pF
 rw[az,aW,eF]
 have key:∀i:Nat,i<t.length→(yJ t i=true↔dU (rd (τ:=bb) t (i:Int))=true∧∀e∈t.take i,e.1≠(rd (τ:=bb) t (i:Int)).1):=by
  intro i hi
  unfold yJ
  rw[←m6]
  cases dU (rd (τ:=bb) t (i:Int))<;>simp
 constructor
 ·rintro⟨h1,h2⟩
  refine⟨h1,fun e he=> ?_, ?_⟩
  ·obtain⟨i,hi,hr⟩:=oe (τ:=bb) he
   rw[←hr];exact((key i hi).1 (h2 i (Nat.zero_le _) (by omega))).1
  ·rw[List.pairwise_iff_getElem]
   intro i j hi hj hij
   have:=((key j hj).1 (h2 j (Nat.zero_le _) (by omega))).2 t[i] (by rw[List.mem_take_iff_getElem];exact⟨i,by omega,rfl⟩)
   rw[aV (τ:=bb) t j hj]at this
   exact this
 ·rintro⟨h1,h2,h3⟩
  refine⟨h1,fun i _ hi=>(key i (by omega)).2 ⟨h2 _ (au (τ:=bb) t i (by omega)),fun e he=> ?_⟩⟩
  obtain⟨j,hj,rfl⟩:=List.mem_take_iff_getElem.1 he
  rw[aV (τ:=bb) t i (by omega)]
  exact(List.pairwise_iff_getElem.1 h3) j i (by omega) (by omega) (by omega)
def m7 (o:bq) (l:e7) (owner:Int) (i:Nat):dg:=((rd (τ:=aS) o.2.2.1 (i:Int)).1,1,rd (τ:= .int .i64) l.1 (i:Int),(ew o i:Int),(rd (τ:=aS) o.2.2.1 (i:Int)).2.2.1,owner)
def vH (o:bq) (l:e7) (owner:Int) (i:Nat):dg:=((rd (τ:=bF) o.2.2.2.1 (i:Int)).1,2,rd (τ:= .int .i64) l.2.2.1 (i:Int),(kj o i:Int),0,owner)
def fu (t:List dg) (o:bq) (l:e7) (owner:Int):List dg:=
 (t++dd (fun i=> !(rd (τ:=aS) o.2.2.1 (i:Int)).2.1) (m7 o l owner) 0 o.2.2.1.length)++bu (vH o l owner) 0 o.2.2.2.1.length
theorem kP (n:Nat) (h:n≤4096):aw n 56=true:=by simp[aw];omega
theorem rA (n:Nat) (h:n≤4096):aw n 40=true:=by simp[aw];omega
theorem mu (t:List dg) (o:bq) (l:e7) (owner:Int) (ht:t.length≤64) (hz:ObjSz o) (hl:ft o l):Zd t o l owner=some (fu t o l owner):=by
 have h1:=hz.f
 have h2:=hz.d
 have hf:=cE (fun i=> !(rd (τ:=aS) o.2.2.1 (i:Int)).2.1) (m7 o l owner) o.2.2.1.length 0
 rw[SL,AQ,kP _ (by omega)]
 simp only[ae,af]
 rw[dR (L:=fun acc i=>Zd.a owner o l acc o.2.2.1 (o.2.2.1.length:Int) i) (fun i=> !(rd (τ:=aS) o.2.2.1 (i:Int)).2.1) (m7 o l owner) o.2.2.1.length t fun acc i hi ha=> ?_]
 ·show Zd.a owner o l _ o.2.2.1 (o.2.2.1.length:Int) (o.2.2.1.length:Int)=_
  rw[Zd.a_eq,ai,ak (aB _),ac]
  rw[cS (L:=fun acc i=>Zd.b owner l acc o.2.2.2.1 (o.2.2.2.1.length:Int) i) (vH o l owner) o.2.2.2.1.length (t++dd (fun i=> !(rd (τ:=aS) o.2.2.1 (i:Int)).2.1) (m7 o l owner) 0 o.2.2.1.length) fun acc i hi ha=> ?_]
  ·show Zd.b owner l _ o.2.2.2.1 (o.2.2.2.1.length:Int) (o.2.2.2.1.length:Int)=_
   rw[Zd.b_eq,ai,ak (aB _),ac];rfl
  ·show Zd.b owner l acc o.2.2.2.1 (o.2.2.2.1.length:Int) (i:Int)=_
   rw[List.length_append]at ha
   rw[Zd.b_eq,ai,aj,ab hi,an i _ hi (by omega),aj,show decide (i<l.2.2.1.length)=true from ab (by rw[hl.d];exact hi),kP _ (by simp;omega)];rfl
 ·show Zd.a owner o l acc o.2.2.1 (o.2.2.1.length:Int) (i:Int)=_
  rw[Zd.a_eq,ai,aj,ab hi,an i _ hi (by omega),aj,show decide (i<l.1.length)=true from ab (by rw[hl.a];exact hi),kP _ (by simp;omega)]
  cases (rd (τ:=aS) o.2.2.1 (i:Int)).2.1<;>rfl
theorem lX (t:List dg) (o:bq) (l:e7) (owner:Int) (ht:t.length≤64) (hz:ObjSz o) (hl:ft o l):sd t o l owner=some (fu t o l owner):=by
 have h1:=hz.f
 have h2:=hz.d
 have hf:=cE (fun i=> !(rd (τ:=aS) o.2.2.1 (i:Int)).2.1) (m7 o l owner) o.2.2.1.length 0
 rw[PJ,kP _ (by omega)]
 simp only[ae]
 rw[dR (L:=fun acc i=>sd.a owner o l acc i) (fun i=> !(rd (τ:=aS) o.2.2.1 (i:Int)).2.1) (m7 o l owner) o.2.2.1.length t fun acc i hi ha=> ?_]
 ·rw[sd.a_eq,ai,ak (aB _),ac]
  rw[cS (L:=fun acc i=>sd.b owner o l acc i) (vH o l owner) o.2.2.2.1.length (t++dd (fun i=> !(rd (τ:=aS) o.2.2.1 (i:Int)).2.1) (m7 o l owner) 0 o.2.2.1.length) fun acc i hi ha=> ?_]
  ·rw[sd.b_eq,ai,ak (aB _),ac];rfl
  ·show sd.b owner o l acc (i:Int)=_
   rw[List.length_append]at ha
   rw[sd.b_eq,ai,aj,ab hi,an i _ hi (by omega),aj,aj,show decide (i<l.2.2.1.length)=true from ab (by rw[hl.d];exact hi),show decide (i<l.2.2.2.length)=true from ab (by rw[hl.b];exact hi),kP _ (by simp;omega),hl.bs i hi];rfl
 ·show sd.a owner o l acc (i:Int)=_
  rw[sd.a_eq,ai,aj,ab hi,an i _ hi (by omega),aj,aj,show decide (i<l.1.length)=true from ab (by rw[hl.a];exact hi),show decide (i<l.2.1.length)=true from ab (by rw[hl.c];exact hi),kP _ (by simp;omega),hl.cs i hi]
  cases (rd (τ:=aS) o.2.2.1 (i:Int)).2.1<;>rfl
theorem th (o:bq) (l:e7) (hz:ObjSz o) (hl:ft o l):Zc l o=some true:=by
 have h1:=hz.f
 have h2:=hz.d
 rw[SK,hl.a,hl.c,hl.d,hl.b]
 simp only[decide_true,aH,ac]
 rw[dD (L:=Zc.a l o o.2.2.1 (o.2.2.1.length:Int)) (fun _=>true) o.2.2.1.length ?_ fun i hi=> ?_]
 ·rw[(eF _ _ _).2 fun _ _ _=>rfl]
 ·rw[Zc.a_eq,ai,ak (aB _),ac]
  rw[dD (L:=Zc.b l o.2.2.2.1 (o.2.2.2.1.length:Int)) (fun _=>true) o.2.2.2.1.length ?_ fun i hi=> ?_]
  ·rw[(eF _ _ _).2 fun _ _ _=>rfl]
  ·rw[Zc.b_eq,ai,ak (aB _),ac]
  ·rw[Zc.b_eq,ai,aj,ab hi,an i _ hi (by omega),aj,show decide (i<l.2.2.2.length)=true from ab (by rw[hl.b];exact hi),hl.bs i hi,show decide ((kj o i:Int)=((rd (τ:=bF) o.2.2.2.1 (i:Int)).2.size:Int))=true from ab rfl];rfl
 ·rw[Zc.a_eq,ai,aj,ab hi,an i _ hi (by omega),aj,show decide (i<l.2.1.length)=true from ab (by rw[hl.c];exact hi),hl.cs i hi,show decide ((ew o i:Int)=((rd (τ:=aS) o.2.2.1 (i:Int)).2.2.2.size:Int))=true from ab rfl];rfl
theorem cG {α:Type} (p:Nat→Bool) (f:Nat→α) (x:α):∀k i,x∈dd p f i k→∃j,i≤j∧j<i+k∧p j=true∧f j=x
 |0,i,h=>by cases h
 |k+1,i,h=>by
  rw[dd]at h
  cases hp:p i with
  |false=>
   rw[hp,ac]at h
   obtain⟨j,h1,h2,h3⟩:=cG p f x k (i+1) h
   exact⟨j,by omega,by omega,h3⟩
  |true=>
   rw[hp,ae]at h
   rcases List.mem_cons.1 h with rfl|h
   ·exact⟨i,Nat.le_refl _,by omega,hp,rfl⟩
   ·obtain⟨j,h1,h2,h3⟩:=cG p f x k (i+1) h
    exact⟨j,by omega,by omega,h3⟩
theorem rB {α:Type} (p:Nat→Bool) (f:Nat→α) (R:α→α→Prop):∀k i,(∀a b,i≤a→a<b→b<i+k→R (f a) (f b))→(dd p f i k).Pairwise R
 |0,_,_=>List.Pairwise.nil
 |k+1,i,h=>by
  have ih:=rB p f R k (i+1) fun a b h1 h2 h3=>h a b (by omega) h2 (by omega)
  rw[dd]
  cases p i with
  |false=>exact ih
  |true=>
   rw[ae]
   refine List.Pairwise.cons (fun x hx=> ?_) ih
   obtain⟨j,h1,h2,_,rfl⟩:=cG p f x k (i+1) hx
   exact h i j (Nat.le_refl _) (by omega) (by omega)
theorem lq {α:Type} (f:Nat→α) (R:α→α→Prop):∀k i,(∀a b,i≤a→a<b→b<i+k→R (f a) (f b))→(bu f i k).Pairwise R
 |0,_,_=>List.Pairwise.nil
 |k+1,i,h=>by
  have ih:=lq f R k (i+1) fun a b h1 h2 h3=>h a b (by omega) h2 (by omega)
  rw[bu]
  refine List.Pairwise.cons (fun x hx=> ?_) ih
  obtain⟨j,h1,h2,rfl⟩:=(cg f x k (i+1)).1 hx
  exact h i j (Nat.le_refl _) (by omega) (by omega)
theorem eG.dis_ff {o:bq} (h:eG o) (a b:Nat) (hab:a<b) (hb:b<o.2.2.1.length):(rd (τ:=aS) o.2.2.1 (a:Int)).1≠(rd (τ:=aS) o.2.2.1 (b:Int)).1:=by
 have:=(jq (h.fun_ b hb)).2.1
 rw[ny o b (by omega)]at this
 intro e
 have:iS (bu (fun i=>(rd (τ:=aS) o.2.2.1 (i:Int)).1) 0 b) (rd (τ:=aS) o.2.2.1 (b:Int)).1=true:=k7.2 ((cg _ _ _ _).2 ⟨a,Nat.zero_le _,by omega,e⟩)
 simp_all
theorem eG.dis_fd {o:bq} (h:eG o) (a b:Nat) (ha:a<o.2.2.1.length) (hb:b<o.2.2.2.1.length):(rd (τ:=aS) o.2.2.1 (a:Int)).1≠(rd (τ:=bF) o.2.2.2.1 (b:Int)).1:=by
 have:=(jr (h.dat b hb)).2.1
 rw[jV o b (by omega),sI,Bool.or_eq_false_iff]at this
 intro e
 have h2:iS (bu (fun i=>(rd (τ:=aS) o.2.2.1 (i:Int)).1) 0 o.2.2.1.length) (rd (τ:=bF) o.2.2.2.1 (b:Int)).1=true:=k7.2 ((cg _ _ _ _).2 ⟨a,Nat.zero_le _,by omega,e⟩)
 rw[h2]at this
 exact absurd this.1 (by decide)
theorem eG.dis_dd {o:bq} (h:eG o) (a b:Nat) (hab:a<b) (hb:b<o.2.2.2.1.length):(rd (τ:=bF) o.2.2.2.1 (a:Int)).1≠(rd (τ:=bF) o.2.2.2.1 (b:Int)).1:=by
 have:=(jr (h.dat b hb)).2.1
 rw[jV o b (by omega),sI,Bool.or_eq_false_iff]at this
 intro e
 have h2:iS (bu (fun i=>(rd (τ:=bF) o.2.2.2.1 (i:Int)).1) 0 b) (rd (τ:=bF) o.2.2.2.1 (b:Int)).1=true:=k7.2 ((cg _ _ _ _).2 ⟨a,Nat.zero_le _,by omega,e⟩)
 rw[h2]at this
 exact absurd this.2 (by decide)
theorem kQ {t:List dg} {o:bq} (h:ia t o=0):(∀i,i<o.2.2.1.length→GE t o i=0)∧(∀i,i<o.2.2.2.1.length→LN t o i=0):=by
 unfold ia at h
 by_cases h1:(bB (GE t o) 0 o.2.2.1.length).2=0
 ·rw[av h1]at h
  exact⟨fun i hi=>(dW _ _ _).1 h1 i (Nat.zero_le _) (by omega),fun i hi=>(dW _ _ _).1 h i (Nat.zero_le _) (by omega)⟩
 ·rw[ap h1]at h;exact absurd h h1
theorem Kl {t:List dg} {o:bq} {i:Nat} (h:GE t o i=0) (hr:(rd (τ:=aS) o.2.2.1 (i:Int)).2.1=false):cD t (rd (τ:=aS) o.2.2.1 (i:Int)).1<0:=by
 unfold GE at h
 rw[hr]at h
 simp only[Bool.false_eq_true,if_false]at h
 split at h
 ·cases h
 ·omega
theorem B9 {t:List dg} {o:bq} {i:Nat} (h:GE t o i=0) (hr:(rd (τ:=aS) o.2.2.1 (i:Int)).2.1=true):0≤cD t (rd (τ:=aS) o.2.2.1 (i:Int)).1∧(rd (τ:=bb) t (cD t (rd (τ:=aS) o.2.2.1 (i:Int)).1)).2.1=1:=by
 unfold GE at h
 rw[hr]at h
 simp only[if_true]at h
 split at h
 ·cases h
 ·split at h
  ·rename_i h1 h2;exact⟨by omega,h2⟩
  ·cases h
theorem Km {t:List dg} {o:bq} {i:Nat} (h:LN t o i=0):cD t (rd (τ:=bF) o.2.2.2.1 (i:Int)).1<0:=by
 unfold LN at h
 split at h
 ·cases h
 ·omega
theorem og {x:Int} (h:Lx x):cf x=true:=by
 unfold cf
 obtain⟨h1,h2,h3⟩:=h
 rw[show(decide (0≤x)&&decide (x≤1048575))=true by simp;omega,ae,aW,Int.tmod_eq_emod_of_nonneg h1];omega
theorem oW (t:List dg) (o:bq) (l:e7) (owner:Int) (hz:ObjSz o):(fu t o l owner).length≤t.length+8:=by
 have h1:=hz.f
 have h2:=hz.d
 have hf:=cE (fun i=> !(rd (τ:=aS) o.2.2.1 (i:Int)).2.1) (m7 o l owner) o.2.2.1.length 0
 unfold fu
 rw[List.length_append,List.length_append,aQ];omega
theorem Kn {t:List dg} {o:bq} {l:e7} {owner:Int} (ht:ry t) (ho:eG o) (hl:ft o l) (hn:ia t o=0) (how:1≤owner∧owner≤6) (hlen:t.length≤56):ry (fu t o l owner):=by
 obtain⟨n1,n2⟩:=kQ hn
 refine⟨by have:=oW t o l owner ho.toObjSz;omega,fun e he=> ?_, ?_⟩
 ·unfold fu at he
  rcases List.mem_append.1 he with he|he
  ·rcases List.mem_append.1 he with he|he
   ·exact ht.ent e he
   ·obtain⟨j,_,hj,_,rfl⟩:=cG _ _ _ _ _ he
    have hf:=jq (ho.fun_ j (by omega))
    have hs:=ho.fsz_pos j (by omega)
    have ha:=hl.fa j (by omega)
    unfold dU m7
    simp only
    rw[hf.1,og ha,bI.2 (show(1:Int)≤(ew o j:Int)∧(ew o j:Int)≤1024 by omega),bI.2 (show 0≤owner∧owner≤6 by omega)]
    unfold yH
    rw[hf.2.2.1];rfl
  ·obtain⟨j,_,hj,rfl⟩:=(cg _ _ _ _).1 he
   have hf:=jr (ho.dat j (by omega))
   have hs:=ho.dsz_pos j (by omega)
   have ha:=hl.ds j (by omega)
   unfold dU vH
   simp only
   rw[hf.1,og ha,bI.2 (show(1:Int)≤(kj o j:Int)∧(kj o j:Int)≤1024 by omega),bI.2 (show 0≤owner∧owner≤6 by omega)]
   rfl
 ·unfold fu
  rw[List.pairwise_append,List.pairwise_append]
  refine⟨⟨ht.dis,rB _ _ _ _ _ fun a b _ h2 h3=>ho.dis_ff a b h2 (by omega),fun a ha b hb=> ?_⟩,lq _ _ _ _ fun a b _ h2 h3=>ho.dis_dd a b h2 (by omega),fun a ha b hb=> ?_⟩
  ·obtain⟨j,_,hj,hp,rfl⟩:=cG _ _ _ _ _ hb
   have:=Kl (n1 j (by omega)) (by simpa using hp)
   exact m6.1 this a ha
  ·obtain⟨k,_,hk,rfl⟩:=(cg _ _ _ _).1 hb
   rcases List.mem_append.1 ha with ha|ha
   ·exact m6.1 (Km (n2 k (by omega))) a ha
   ·obtain⟨j,_,hj,hp,rfl⟩:=cG _ _ _ _ _ ha
    exact ho.dis_fd j k (by omega) (by omega)
theorem oX (a:bH) (n:Nat):(aN a n).1.1=a.1∧(aN a n).1.2.1=a.2.1:=by
 unfold aN;split<;>exact⟨rfl,rfl⟩
theorem ji (sz:Nat→Nat):∀k i a,(cP sz a i k).1.1=a.1∧(cP sz a i k).1.2.1=a.2.1
 |0,_,_=>⟨rfl,rfl⟩
 |k+1,i,a=>by
  have h:=ji sz k (i+1) (aN a (sz i)).1
  have h2:=oX a (sz i)
  rw[cP];exact⟨h.1.trans h2.1,h.2.trans h2.2⟩
theorem DC {a:bH} (h:cB a) (n:Nat) (ok:(aN a n).2.2=true):a.1≤(aN a n).2.1∧(aN a n).2.1+(n:Int)≤a.1+a.2.1:=by
 obtain⟨⟨h1,h2,h3⟩,⟨h4,h5,h6⟩,h7,h8,h9⟩:=h
 unfold aN at ok⊢
 split at ok
 ·cases ok
 ·rename_i hc
  rw[ap hc]
  have:n≤pw n:=by unfold pw;omega
  exact⟨h7,by simp only;omega⟩
theorem As (sz:Nat→Nat):∀k i a,cB a→(cP sz a i k).2.2=true→∀j (hj:j< (cP sz a i k).2.1.length),a.1≤(cP sz a i k).2.1[j]∧(cP sz a i k).2.1[j]+(sz (i+j):Int)≤a.1+a.2.1
 |0,_,_,_,_,j,hj=>by simp[cP]at hj
 |k+1,i,a,h,ok,j,hj=>by
  have e:cP sz a i (k+1)=((cP sz (aN a (sz i)).1 (i+1) k).1,(aN a (sz i)).2.1::(cP sz (aN a (sz i)).1 (i+1) k).2.1,(aN a (sz i)).2.2&&(cP sz (aN a (sz i)).1 (i+1) k).2.2):=rfl
  rw[e,az]at ok
  have hb:=oX a (sz i)
  cases j with
  |zero=>exact DC h _ ok.1
  |succ j=>
   have:=As sz k (i+1) _ (dh h (sz i)) ok.2 j (by rw[co]at hj⊢;omega)
   rw[hb.1,hb.2]at this
   rw[show i+(j+1)=i+1+j by omega]
   exact this
def pS (o:bq) (l:e7):Prop:=∀i:Nat,i<o.2.2.1.length→∃x:Int,rd (τ:= .int .i64) l.1 (i:Int)=x∧8192≤x∧x+(ew o i:Int)≤9216∧x%8=0
theorem rC {t:List dg} {a b:bH} {o:bq} {v:e7×bH×bH×Int} (h:uh t a b o v) (ha:cB a) (h1:a.1=8192) (h2:a.2.1=1024):pS o v.1:=by
 intro i hi
 rw[h.ats]
 have hl:=co (ew o) o.2.2.1.length 0 a
 have hok:=h.ok
 unfold dm at hok
 simp only[az]at hok
 have:=As (ew o) o.2.2.1.length 0 a ha hok.1 i (by rw[hl];exact hi)
 have h8:=h.lnk.fa i hi
 rw[h.ats]at h8
 have e:(rd (τ:= .int .i64) (dm o a b).1.1 (i:Int):Int)=(cP (ew o) a 0 o.2.2.1.length).2.1[i]'(by rw[hl];exact hi):=aV (τ:= .int .i64) _ i (by show i< (cP (ew o) a 0 o.2.2.1.length).2.1.length;rw[hl];exact hi)
 have h8':Lx ((cP (ew o) a 0 o.2.2.1.length).2.1[i]'(by rw[hl];exact hi)):=by rw[←e];exact h8
 rw[Nat.zero_add,h1,h2]at this
 exact⟨_,e,this.1,this.2,h8'.2.2⟩
def oh (x:Int) (n:Int):Prop:=(4096≤x∧x+n≤5120)∨(8192≤x∧x+n≤9216)
theorem oh.page {x n:Int} (h:oh x n):∀y,x≤y→y<x+n→0≤c6 BL y:=by
 intro y h1 h2
 rcases h with h|h
 ·exact ur (by omega) (by omega)
 ·exact Aq (by omega) (by omega)
theorem oh.range {x n:Int} (h:oh x n):4096≤x∧x+n≤9216:=by
 rcases h with h|h<;>omega
theorem xP {F:Int→Int} (hF:FR F) (a:Int) (t:ByteArray) (h:oh a (t.size:Int)):pb (aE F BL) a t=some (aE (updF F a t) BL)∧yj (aE F BL) a t=some (aE (updF F a t) BL):=by
 have hr:=h.range
 exact⟨rp hF a t ⟨by omega,by omega,by omega⟩ BL HJ,lm hF a t (by omega) (by omega) h.page⟩
def oY (F:Int→Int) (a:Int):Int:=F a+256*(F (a+1)+256*(F (a+2)+256*F (a+3)))
def fA (F:Int→Int) (a n:Int):Prop:=∀i:Nat,4*(i:Int)+4≤n→Bh (oY F (a+4*(i:Int)))
theorem ol {F:Int→Int} {a x:Int} {t:ByteArray} (h:x+4≤a∨a+(t.size:Int)≤x):oY (updF F a t) x=oY F x:=by
 unfold oY updF
 rw[ap (by omega),ap (by omega),ap (by omega),ap (by omega)]
theorem xQ {F:Int→Int} {a:Int} {t:ByteArray} (i:Nat) (h:4*i+4≤t.size):oY (updF F a t) (a+4*(i:Int))=((ej t (4*i) 4:Nat):Int):=by
 unfold oY updF
 rw[av (by omega),av (by omega),av (by omega),av (by omega)]
 have e:∀k:Nat,bt t (a+4*(i:Int)+(k:Int)-a)=((t.data.getD (4*i+k) 0).toNat:Int):=fun k=>by
  rw[show a+4*(i:Int)+(k:Int)-a=((4*i+k:Nat):Int) by omega,fK]
 have e0:=e 0
 have e1:=e 1
 have e2:=e 2
 have e3:=e 3
 rw[show a+4*(i:Int)+((0:Nat):Int)-a=a+4*(i:Int)-a by omega]at e0
 rw[show a+4*(i:Int)+((1:Nat):Int)-a=a+4*(i:Int)+1-a by omega]at e1
 rw[show a+4*(i:Int)+((2:Nat):Int)-a=a+4*(i:Int)+2-a by omega]at e2
 rw[show a+4*(i:Int)+((3:Nat):Int)-a=a+4*(i:Int)+3-a by omega]at e3
 rw[e0,e1,e2,e3]
 have:ej t (4*i) 4=(t.data.getD (4*i+0) 0).toNat+256*((t.data.getD (4*i+1) 0).toNat+256*((t.data.getD (4*i+2) 0).toNat+256*((t.data.getD (4*i+3) 0).toNat+256*0))):=rfl
 rw[this]
 omega
theorem fA.out {F:Int→Int} {a n b:Int} {t:ByteArray} (h:fA F a n) (hd:a+n≤b∨b+(t.size:Int)≤a):fA (updF F b t) a n:=fun i hi=>by
 rw[ol (by omega)];exact h i hi
theorem fA.self {F:Int→Int} (a:Int) {t:ByteArray} (h:ly t):fA (updF F a t) a (t.size:Int):=fun i hi=>by
 rw[xQ i (by omega)];exact h i (by omega)
theorem fA.head {F:Int→Int} {a n:Int} {t:ByteArray} (h:fA F a n) (ht:t.size=4) (hw:Bh ((ej t 0 4:Nat):Int)):fA (updF F a t) a n:=fun i hi=>by
 rcases Nat.eq_zero_or_pos i with rfl|hp
 ·have:=xQ (F:=F) (a:=a) (t:=t) 0 (by omega)
  rw[this];exact hw
 ·rw[ol (by omega)];exact h i hi
theorem HM (d w:Int) (h: -1000000≤d∧d≤1000000) (h4:d%2=0) (e:yl (3,0,0,0,d)=some w):Bh ((ej (aT (iW w 4)) 0 4:Nat):Int):=by
 have hr:dF (3,0,0,0,d)=true:=by
  unfold dF jP
  simp only[show(bN 3).1=2 from rfl]
  simp
  omega
 have hd:=Hw _ hr
 have hRg:=(oV hr).2.1
 rw[eL (3,0,0,0,d) (by simp) (by simp) hRg]at e
 have e':=Option.some.inj e
 have er:=lk (f:=(bN 3).1) (c:=(bN 3).2.1) (f3:=(bN 3).2.2.1) (f7:=(bN 3).2.2.2) (n:=3) (d:=0) (a:=0) (b:=0) (i:=d) (iP 3 (by decide) (by decide)) hRg
 have er1:0≤w∧w<4294967296:=by rw[←e'];exact⟨er.1,er.2.1⟩
 have hl:=CA 4 w [] er1.1 (fun x hx=>by cases hx)
 rw[List.nil_append,List.length_nil]at hl
 rw[hl,show w%256^4=w by omega]
 exact⟨_,by rw[←e'];exact hd⟩
def gX (F:Int→Int) (l:e7):Nat→Nat→(Int→Int)
 |_,0=>F
 |i,k+1=>gX (updF F (rd (τ:= .int .i64) l.1 (i:Int)) (rd (τ:= .str) l.2.1 (i:Int))) l (i+1) k
theorem jL (l:e7):∀k i F,FR F→FR (gX F l i k)
 |0,_,_,h=>h
 |k+1,i,F,h=>jL l k (i+1) _ (dS h _ _)
theorem rD (o:bq) (l:e7) (t:List dg) (hz:ObjSz o) (hl:ft o l) (hp:pS o l) (x8:List (Int×Int)):∀(k i:Nat) (F:Int→Int),FR F→i+k=o.2.2.1.length→
  qa.a t (aE F BL) o l [] x8 (o.2.2.1.length:Int) (i:Int)=qa.b t (aE (gX F l i k) BL) l [] x8 o.2.2.1 (o.2.2.1.length:Int) 0∧
  p7.a t (aE F BL) o l [] (i:Int)=p7.b t (aE (gX F l i k) BL) o l [] [] 0:=by
 have h1:=hz.f
 intro k
 induction k with
 |zero=>
  intro i F hF h
  have:i=o.2.2.1.length:=by omega
  subst this
  rw[qa.a_eq,ai,ak (aB _),ac,p7.a_eq,ai,ak (aB _),ac]
  exact⟨rfl,rfl⟩
 |succ k ih=>
  intro i F hF h
  have hi:i<o.2.2.1.length:=by omega
  obtain⟨x,hx,hpi⟩:=hp i hi
  have hsz:=hl.cs i hi
  obtain⟨p1,p2⟩:=xP hF x (rd (τ:= .str) l.2.1 (i:Int)) (.inr ⟨hpi.1,by rw[hsz];exact hpi.2.1⟩)
  rw[←hx]at p1 p2
  rw[qa.a_eq,ai,aj,aj,ab hi,an i _ hi (by omega),show decide (i<l.1.length)=true from ab (by rw[hl.a];exact hi),show decide (i<l.2.1.length)=true from ab (by rw[hl.c];exact hi),p1,
   p7.a_eq,ai,aj,aj,ab hi,an i _ hi (by omega),show decide (i<l.1.length)=true from ab (by rw[hl.a];exact hi),show decide (i<l.2.1.length)=true from ab (by rw[hl.c];exact hi),p2]
  simp only[ae,af]
  exact ih (i+1) _ (dS hF _ _) (by omega)
def Ca (t:List dg):Prop:=∀i:Nat,i<t.length→(rd (τ:=bb) t (i:Int)).2.1=1→oh (rd (τ:=bb) t (i:Int)).2.2.1 4
theorem HN (d:Int) (h: -2147483648≤d∧d≤2147483647):∃w,yl (3,0,0,0,d)=some w∧iV (3,0,0,0,d)=some w:=by
 have hR:gt (3,0,0,0,d):=⟨⟨by simp,by simp⟩,⟨by simp,by simp⟩,⟨by simp,by simp⟩,⟨by simp only;omega,by simp only;omega⟩⟩
 exact⟨_,eL (3,0,0,0,d) (by simp) (by simp) hR,gu (3,0,0,0,d) (by simp) (by simp) hR fun h=>by have h':(bN 3).1=1:=h;exact absurd h' (by decide)⟩
theorem rE (o:bq) (l:e7) (t:List dg) (ht:t.length≤64) (hz:ObjSz o) (hl:ft o l) (hp:pS o l) (hf:Ca t) (hn:∀i:Nat,i<o.2.2.1.length→(rd (τ:=aS) o.2.2.1 (i:Int)).2.1=true→0≤cD t (rd (τ:=aS) o.2.2.1 (i:Int)).1∧(rd (τ:=bb) t (cD t (rd (τ:=aS) o.2.2.1 (i:Int)).1)).2.1=1)
  (h4:∀i:Nat,i<t.length→(rd (τ:=bb) t (i:Int)).2.1=1→∃x:Int,(rd (τ:=bb) t (i:Int)).2.2.1=x∧x%4=0)
  (I:(Int→Int)→Prop) (hI:∀(F:Int→Int) (q:Nat) (b:ByteArray),I F→q<t.length→(rd (τ:=bb) t (q:Int)).2.1=1→b.size=4→Bh ((ej b 0 4:Nat):Int)→I (updF F (rd (τ:=bb) t (q:Int)).2.2.1 b)):
  ∀(k i:Nat) (F:Int→Int) (sv:List (Int×Int)),FR F→i+k=o.2.2.1.length→sv.length≤i→∃F' sv',FR F'∧(I F→I F')∧sv'.length≤o.2.2.1.length∧
  qa.b t (aE F BL) l [] sv o.2.2.1 (o.2.2.1.length:Int) (i:Int)=some (aE F' BL,sv')∧p7.b t (aE F BL) o l [] sv (i:Int)=some (aE F' BL,sv'):=by
 have h1:=hz.f
 intro k
 induction k with
 |zero=>
  intro i F sv hF h hs
  have:i=o.2.2.1.length:=by omega
  subst this
  rw[qa.b_eq,ai,ak (aB _),ac,p7.b_eq,ai,ak (aB _),ac]
  exact⟨F,sv,hF,fun h=>h,hs,rfl,rfl⟩
 |succ k ih=>
  intro i F sv hF h hs
  have hi:i<o.2.2.1.length:=by omega
  rw[qa.b_eq,ai,aj,ab hi,an i _ hi (by omega),p7.b_eq,ai,ab hi,an i _ hi (by omega)]
  simp only[aj,ab hi,ae]
  cases hr:(rd (τ:=aS) o.2.2.1 (i:Int)).2.1 with
  |false=>exact ih (i+1) F sv hF (by omega) (by omega)
  |true=>
   obtain⟨e1,e2⟩:=hn i hi hr
   have er:=dX t (rd (τ:=aS) o.2.2.1 (i:Int)).1
   rw[(dJ t _ (by omega)).1,(dJ t _ (by omega)).2]
   simp only[aH,ac,af]
   obtain⟨q,hq⟩:∃q:Nat,cD t (rd (τ:=aS) o.2.2.1 (i:Int)).1=(q:Int):=⟨(cD t (rd (τ:=aS) o.2.2.1 (i:Int)).1).toNat,by omega⟩
   rw[hq]at e2 er⊢
   have hqt:q<t.length:=by omega
   have hat:=hf q hqt e2
   obtain⟨x4,hx4,hx4'⟩:=h4 q hqt e2
   have hIq:=fun(F:Int→Int) (b:ByteArray) (h:I F)=>hI F q b h hqt e2
   obtain⟨at_,hA⟩:∃x:Int,(rd (τ:=bb) t (q:Int)).2.2.1=x:=⟨_,rfl⟩
   rw[hA]at hat hx4 hIq⊢
   subst hx4
   have hr4:=hat.range
   have hg:=hat.page
   obtain⟨to,hT,hpi⟩:=hp i hi
   simp only[hT]
   rw[aj,ab hqt,show decide (i<l.1.length)=true from ab (by rw[hl.a];exact hi)]
   rw[show Cr (aE F BL) at_ 4=some (vF F at_ 4) from Ao hF BL HJ at_ 4 (by omega) (by omega) (by omega) hg,show Cm (aE F BL) at_ 4=some (vF F at_ 4) from HE hF BL HJ at_ 4 (by omega) (by omega) (by omega) hg]
   have hgz:=Dz F at_ 4
   simp only[ae,af]
   rw[c7 _ (by omega),hgz,show pZ (vF F at_ 4) 0 4=some (IntKind.wrap .i64 (ej (vF F at_ 4) 0 4)) from dC (vF F at_ 4) 0 4 (by omega) (by omega)]
   simp only[af]
   rw[k6 _ (by simp;omega),PI,bf (n:=to-at_) (by omega) (by omega)]
   obtain⟨w,w1,w2⟩:=HN (to-at_) ⟨by omega,by omega⟩
   simp only[ae,af]
   rw[w1,w2]
   simp only[af]
   rw[show ym w 4=some (aT (iW w 4)) from jS w 4 (by omega),show yZ w 4=some (aT (iW w 4)) from kO w 4 (by omega)]
   have hb:(aT (iW w 4)).size=4:=by rw[cX,fL]
   obtain⟨p1,p2⟩:=xP hF at_ (aT (iW w 4)) (by rw[hb];exact hat)
   simp only[af]
   rw[p1,p2]
   simp only[af]
   have hdw:=HM (to-at_) w ⟨by omega,by omega⟩ (by omega) w1
   obtain⟨G,sv',g1,g2,g3,g4,g5⟩:=ih (i+1) (updF F at_ (aT (iW w 4))) (sv++[_]) (dS hF _ _) (by omega) (by rw[List.length_append];simp only[List.length_cons,List.length_nil];omega)
   exact⟨G,sv',g1,fun h=>g2 (hIq F _ h hb hdw),g3,g4,g5⟩
abbrev Pc:Type:=Int×Int×Int×Int×Int
def ut (s:ns):Int:=bif decide (s.2.1=1)then IntKind.wrap .i64 (4096+s.2.2.1)else IntKind.wrap .i64 (16384+s.2.2.1)
theorem pT (s:ns):QR s=some (ut s)∧Ot s=some (ut s):=by
 rw[AV,IB]
 unfold ut
 cases decide (s.2.1=1)<;>exact⟨rfl,rfl⟩
def xR (im:gE) (i:Nat):dg:=((rd (τ:=bE) im.2.2 (i:Int)).1,(rd (τ:=bE) im.2.2 (i:Int)).2.1,ut (rd (τ:=bE) im.2.2 (i:Int)),(rd (τ:=bE) im.2.2 (i:Int)).2.2.2.1,(rd (τ:=bE) im.2.2 (i:Int)).2.2.2.2,0)
def mw (im:gE):List dg:=bu (xR im) 0 im.2.2.length
def lC (im:gE):List Pc:=dd (fun i=>decide ((rd (τ:=bE) im.2.2 (i:Int)).2.1=1)) (fun i=>((i:Int),0,ut (rd (τ:=bE) im.2.2 (i:Int)),(rd (τ:=bE) im.2.2 (i:Int)).2.2.2)) 0 im.2.2.length
theorem DD (im:gE) (hn:im.2.2.length≤16):GB im=some (mw im):=by
 rw[Ri,cS (L:=fun acc i=>GB.a acc im.2.2 (im.2.2.length:Int) i) (xR im) im.2.2.length [] fun acc i hi ha=> ?_]
 ·rw[GB.a_eq,ai,ak (aB _),ac,List.nil_append];rfl
 ·show GB.a acc im.2.2 (im.2.2.length:Int) (i:Int)=_
  rw[GB.a_eq,ai,aj,ab hi,an i _ hi (by omega),(pT _).1]
  simp only[ae,af]
  rw[kP _ (by simp at ha⊢;omega)];rfl
theorem DE (im:gE) (hn:im.2.2.length≤16):F9 im=some (mw im):=by
 rw[O6,cS (L:=fun acc i=>F9.a im acc i) (xR im) im.2.2.length [] fun acc i hi ha=> ?_]
 ·rw[F9.a_eq,ai,ak (aB _),ac,List.nil_append];rfl
 ·show F9.a im acc (i:Int)=_
  rw[F9.a_eq,ai,aj,ab hi,an i _ hi (by omega),(pT _).2]
  simp only[ae,af]
  rw[kP _ (by simp at ha⊢;omega)];rfl
theorem DF (im:gE) (hn:im.2.2.length≤16):EL im=some (lC im):=by
 rw[Rj,dR (L:=fun acc i=>EL.a acc im.2.2 (im.2.2.length:Int) i) (fun i=>decide ((rd (τ:=bE) im.2.2 (i:Int)).2.1=1)) (fun i=>(((i:Int),0,ut (rd (τ:=bE) im.2.2 (i:Int)),(rd (τ:=bE) im.2.2 (i:Int)).2.2.2):Pc)) im.2.2.length [] fun acc i hi ha=> ?_]
 ·rw[EL.a_eq,ai,ak (aB _),ac,List.nil_append];rfl
 ·show EL.a acc im.2.2 (im.2.2.length:Int) (i:Int)=_
  rw[EL.a_eq,ai,aj,ab hi,an i _ hi (by omega),(pT _).1]
  simp only[ae,af]
  rw[rA _ (by simp at ha⊢;omega)]
  cases decide ((rd (τ:=bE) im.2.2 (i:Int)).2.1=1)<;>rfl
theorem DG (im:gE) (hn:im.2.2.length≤16):EI im=some (lC im):=by
 rw[O7,dR (L:=fun acc i=>EI.a im acc i) (fun i=>decide ((rd (τ:=bE) im.2.2 (i:Int)).2.1=1)) (fun i=>(((i:Int),0,ut (rd (τ:=bE) im.2.2 (i:Int)),(rd (τ:=bE) im.2.2 (i:Int)).2.2.2):Pc)) im.2.2.length [] fun acc i hi ha=> ?_]
 ·rw[EI.a_eq,ai,ak (aB _),ac,List.nil_append];rfl
 ·show EI.a im acc (i:Int)=_
  rw[EI.a_eq,ai,aj,ab hi,an i _ hi (by omega),(pT _).2]
  simp only[ae,af]
  rw[rA _ (by simp at ha⊢;omega)]
  cases decide ((rd (τ:=bE) im.2.2 (i:Int)).2.1=1)<;>rfl
abbrev Ko:Type:=List dg×List Pc×List eh×bH×bH
abbrev Kp:Type:=List dg×bH×bH×List Pc×List eh
theorem Kq (im:gE) (hz:l6 im):V0 im=some ((mw im,lC im,aE (F0 im) BL,(8192,1024,8192),(20480,256,20480)):Ko)∧VC im=some ((mw im,(8192,1024,8192),(20480,256,20480),lC im,aE (F0 im) BL):Kp):=by
 rw[Rp,Pg,DD im hz.n,DE im hz.n,DF im hz.n,DG im hz.n,xO im hz.c hz.d,DB im hz.c hz.d]
 exact⟨rfl,rfl⟩
theorem Cb {n:Nat} (h:bx n=true):20≤n:=by
 unfold bx at h
 cases h1:ca n with
 |false=>rw[h1]at h;cases h
 |true=>rw[h1,ae,aW]at h;omega
theorem sD.sym {im:gE} (h:sD im) (i:Nat) (hi:i<im.2.2.length):sC im (rd (τ:=bE) im.2.2 (i:Int))∧Jp (rd (τ:=bE) im.2.2 (i:Int)):=by
 obtain⟨E,hE,_⟩:=h.chain
 rw[aV (τ:=bE) im.2.2 i hi]
 exact⟨(ox hE i hi).1,h.funs i hi⟩
theorem m8 {im:gE} {s:ns} (hz:l6 im) (h:sC im s) (hk:s.2.1=1):ut s=4096+s.2.2.1:=by
 have:=h.func hk;have:=h.at0;have:=h.size;have:=hz.c
 unfold ut
 rw[ab hk,ae,bf (by omega) (by omega)]
theorem Kr {im:gE} {s:ns} (hz:l6 im) (h:sC im s) (hk:s.2.1=2):ut s=16384+s.2.2.1:=by
 have:=h.data hk;have:=h.at0;have:=h.size;have:=hz.d
 unfold ut
 rw[ak (by omega),ac,bf (by omega) (by omega)]
theorem rF {α:Type} (p:Nat→Bool) (f:Nat→α):∀(k i j:Nat),i≤j→j<i+k→p j=true→f j∈dd p f i k
 |0,i,j,h1,h2,_=>by omega
 |k+1,i,j,h1,h2,hp=>by
  rw[dd]
  by_cases e:j=i
  ·subst e;rw[hp,ae];exact List.mem_cons_self ..
  ·have:=rF p f k (i+1) j (by omega) (by omega) hp
   cases p i
   ·exact this
   ·exact List.mem_cons_of_mem _ this
theorem oZ {α:Type} (p:Nat→Bool) (f:Nat→α) (R:α→α→Prop):∀k i,(∀a b,i≤a→a<b→b<i+k→p a=true→p b=true→R (f a) (f b))→(dd p f i k).Pairwise R
 |0,_,_=>List.Pairwise.nil
 |k+1,i,h=>by
  have ih:=oZ p f R k (i+1) fun a b h1 h2 h3=>h a b (by omega) h2 (by omega)
  rw[dd]
  cases hp:p i with
  |false=>exact ih
  |true=>
   rw[ae]
   refine List.Pairwise.cons (fun x hx=> ?_) ih
   obtain⟨j,h1,h2,hj,rfl⟩:=cG p f x k (i+1) hx
   exact h i j (Nat.le_refl _) (by omega) (by omega) hp hj
structure Ks (p:Pc):Prop where
 sy:0≤p.1∧p.1≤63
 pa:0≤p.2.1∧p.2.1≤6
 pc:cf p.2.2.1=true
 sz:p.2.2.2.1%4=0∧20≤p.2.2.2.1∧p.2.2.2.1≤256
 fr:dT p.2.2.2.2=true
def vJ (p q:Pc):Prop:=p.2.2.1+p.2.2.2.1≤q.2.2.1∨q.2.2.1+q.2.2.2.1≤p.2.2.1
structure gY (P:List Pc) (top:Int):Prop where
 ok:∀p∈P,Ks p
 dis:P.Pairwise vJ
 ins:∀p∈P,(4096≤p.2.2.1∧p.2.2.1+p.2.2.2.1≤5120)∨(8192≤p.2.2.1∧p.2.2.1+p.2.2.2.1≤top)
theorem xS {n:Nat} (h:bx n=true):n%4=0∧20≤n∧n≤256:=by
 have h2:=Cb h
 unfold bx at h
 cases h1:ca n with
 |false=>rw[h1]at h;cases h
 |true=>have:=dw h1;omega
theorem my {im:gE} {i:Nat} {s:ns} {e e':Int×Int} (h:fo im i s e=(0,e')):e.1≤e'.1∧(s.2.1=1→s.2.2.1=e.1∧e'.1=s.2.2.1+s.2.2.2.1):=by
 unfold fo at h
 split at h
 ·cases h
 split at h
 ·cases h
 split at h
 ·split at h
  ·rename_i hk hc
   have h2:=(Prod.mk.inj h).2
   rw[←h2]
   exact⟨by show e.1≤s.2.2.1+s.2.2.2.1;omega,fun _=>⟨hc.1,rfl⟩⟩
  ·cases h
 ·rename_i hk
  split at h
  ·split at h
   ·split at h
    ·have h2:=(Prod.mk.inj h).2
     rw[←h2]
     exact⟨Int.le_refl _,fun h=>absurd h hk⟩
    ·cases h
   ·cases h
  ·cases h
theorem At {im:gE} {n:Nat} {E:Nat→Int×Int} (h:jR im n E) (hn:n≤im.2.2.length):∀k i,i+k≤n→(E i).1≤(E (i+k)).1:=by
 intro k
 induction k with
 |zero=>intro i _;exact Int.le_refl _
 |succ k ih=>
  intro i hi
  have h1:=(my (h.2.2 i (by omega) (by omega))).1
  have h2:=ih (i+1) (by omega)
  rw[show i+(k+1)=i+1+k by omega];omega
theorem Kt {im:gE} (h:sD im):gY (lC im) 8192:=by
 have hz:=h.sz
 have hc:=hz.c
 have hn:=hz.n
 have one:∀j:Nat,j<im.2.2.length→(rd (τ:=bE) im.2.2 (j:Int)).2.1=1→Ks ((j:Int),0,ut (rd (τ:=bE) im.2.2 (j:Int)),(rd (τ:=bE) im.2.2 (j:Int)).2.2.2)∧ut (rd (τ:=bE) im.2.2 (j:Int))=4096+(rd (τ:=bE) im.2.2 (j:Int)).2.2.1∧0≤(rd (τ:=bE) im.2.2 (j:Int)).2.2.1∧(rd (τ:=bE) im.2.2 (j:Int)).2.2.1+(rd (τ:=bE) im.2.2 (j:Int)).2.2.2.1≤(im.1.size:Int):=by
  intro j hj hk
  obtain⟨hS,hG⟩:=h.sym j hj
  obtain⟨s,hs⟩:∃s:ns,rd (τ:=bE) im.2.2 (j:Int)=s:=⟨_,rfl⟩
  rw[hs]at hS hG hk⊢
  obtain⟨g1,g2,g3⟩:=hG hk
  have g4:=xS g3
  have h1:=hS.size
  have e:=m8 hz hS hk
  have g5:s.2.2.2.1%4=0∧20≤s.2.2.2.1∧s.2.2.2.1≤256:=by omega
  exact⟨⟨⟨by simp only;omega,by simp only;omega⟩,⟨by simp only;omega,by simp only;omega⟩,by rw[e];exact g1,g5,g2⟩,e,hS.at0,hS.func hk⟩
 refine⟨fun p hp=> ?_, ?_,fun p hp=> ?_⟩
 ·unfold lC at hp
  obtain⟨j,_,hj,hk,rfl⟩:=cG _ _ _ _ _ hp
  exact(one j (by omega) (of_decide_eq_true hk)).1
 ·unfold lC
  refine oZ _ _ _ _ _ fun a b _ hab hb ha hbk=> ?_
  have hb':b<im.2.2.length:=by omega
  have ha':a<im.2.2.length:=by omega
  have ka:=of_decide_eq_true ha
  have kb:=of_decide_eq_true hbk
  obtain⟨E,hE,_⟩:=h.chain
  have sa:=(my (hE.2.2 a ha' ha')).2
  have sb:=(my (hE.2.2 b hb' hb')).2
  rw[←aV (τ:=bE) im.2.2 a ha']at sa
  rw[←aV (τ:=bE) im.2.2 b hb']at sb
  have m:=At hE (Nat.le_refl _) (b-(a+1)) (a+1) (by omega)
  rw[show a+1+(b-(a+1))=b by omega]at m
  have ea:=(one a ha' ka).2.1
  have eb:=(one b hb' kb).2.1
  have sa':=(sa ka).2
  have sb':=(sb kb).1
  left
  show ut (rd (τ:=bE) im.2.2 (a:Int))+(rd (τ:=bE) im.2.2 (a:Int)).2.2.2.1≤ut (rd (τ:=bE) im.2.2 (b:Int))
  omega
 ·unfold lC at hp
  obtain⟨j,_,hj,hk,rfl⟩:=cG _ _ _ _ _ hp
  obtain⟨_,e,e0,e1⟩:=one j (by omega) (of_decide_eq_true hk)
  left
  show 4096≤ut (rd (τ:=bE) im.2.2 (j:Int))∧ut (rd (τ:=bE) im.2.2 (j:Int))+(rd (τ:=bE) im.2.2 (j:Int)).2.2.2.1≤5120
  generalize (rd (τ:=bE) im.2.2 (j:Int))=s at e e0 e1⊢
  rw[e]
  obtain⟨x,hx⟩:∃x:Int,s.2.2.1=x:=⟨_,rfl⟩
  obtain⟨y,hy⟩:∃y:Int,s.2.2.2.1=y:=⟨_,rfl⟩
  have e0':(0:Int)≤x:=by rw[←hx];exact e0
  have e1':x+y≤(im.1.size:Int):=by rw[←hx,←hy];exact e1
  show 4096≤4096+s.2.2.1∧4096+s.2.2.1+s.2.2.2.1≤5120
  rw[hx,hy]
  show(4096:Int)≤4096+x∧(4096:Int)+x+y≤5120
  exact⟨by omega,by omega⟩
def HO (t:List dg) (P:List Pc):Prop:=∀k:Nat,k<t.length→(rd (τ:=bb) t (k:Int)).2.1=1→∃p∈P,p.1=(k:Int)∧p.2.2.1=(rd (τ:=bb) t (k:Int)).2.2.1
theorem HP {im:gE}:HO (mw im) (lC im):=by
 intro k hk h1
 unfold mw at hk h1⊢
 rw[aQ]at hk
 rw[pQ (τ:=bb) (xR im) _ _ hk]at h1⊢
 refine⟨((k:Int),0,ut (rd (τ:=bE) im.2.2 (k:Int)),(rd (τ:=bE) im.2.2 (k:Int)).2.2.2), ?_,rfl,rfl⟩
 unfold lC
 have hk1:(rd (τ:=bE) im.2.2 (k:Int)).2.1=1:=h1
 exact rF (fun i=>decide ((rd (τ:=bE) im.2.2 (i:Int)).2.1=1)) (fun i=>((i:Int),0,ut (rd (τ:=bE) im.2.2 (i:Int)),(rd (τ:=bE) im.2.2 (i:Int)).2.2.2)) _ _ k (Nat.zero_le _) (by omega) (ab hk1)
theorem DH {im:gE} (h:sD im):∀p∈lC im,fA (F0 im) p.2.2.1 p.2.2.2.1:=by
 intro p hp
 have hz:=h.sz
 have hc:=hz.c
 unfold lC at hp
 obtain⟨j,_,hj,hk,rfl⟩:=cG _ _ _ _ _ hp
 have hj':j<im.2.2.length:=by omega
 have hk':=of_decide_eq_true hk
 have hL:=h.lin j hj'
 rw[←aV (τ:=bE) im.2.2 j hj']at hL
 obtain⟨hS,hG⟩:=h.sym j hj'
 have e:=m8 hz hS hk'
 have h0:=hS.at0
 have h1:=hS.size
 have hf:=hS.func hk'
 have hL':=hL hk'
 obtain⟨s,hs⟩:∃s:ns,rd (τ:=bE) im.2.2 (j:Int)=s:=⟨_,rfl⟩
 rw[hs]at e h0 h1 hf hL'⊢
 obtain⟨nm,kd,off,sz,fr⟩:=s
 simp only at e h0 h1 hf hL'⊢
 rw[e]
 obtain⟨x,rfl⟩:∃x:Nat,off=(x:Int):=⟨off.toNat,by omega⟩
 obtain⟨y,rfl⟩:∃y:Nat,sz=(y:Int):=⟨sz.toNat,by omega⟩
 have hb:((x:Int)).toNat=x:=aP x
 have he:((x:Int)+(y:Int)).toNat=x+y:=by omega
 rw[hb,he]at hL'
 have hsz:(im.1.extract x (x+y)).size=y:=by rw[ByteArray.size_extract];omega
 intro i hi
 have hd:=hL' i (by omega)
 rw[eY im.1 x (x+y) (by omega) 4 (4*i) (by omega)]at hd
 have:oY (F0 im) (4096+(x:Int)+4*(i:Int))=((ej im.1 (x+4*i) 4:Nat):Int):=by
  unfold F0
  rw[ol (by omega)]
  unfold lW oY updF
  rw[av (by omega),av (by omega),av (by omega),av (by omega)]
  have e:∀k:Nat,bt im.1 (4096+(x:Int)+4*(i:Int)+(k:Int)-4096)=((im.1.data.getD (x+4*i+k) 0).toNat:Int):=fun k=>by
   rw[show 4096+(x:Int)+4*(i:Int)+(k:Int)-4096=((x+4*i+k:Nat):Int) by omega,fK]
  have e0:=e 0
  have e1:=e 1
  have e2:=e 2
  have e3:=e 3
  rw[show 4096+(x:Int)+4*(i:Int)+((0:Nat):Int)-4096=4096+(x:Int)+4*(i:Int)-4096 by omega]at e0
  rw[show 4096+(x:Int)+4*(i:Int)+((1:Nat):Int)-4096=4096+(x:Int)+4*(i:Int)+1-4096 by omega]at e1
  rw[show 4096+(x:Int)+4*(i:Int)+((2:Nat):Int)-4096=4096+(x:Int)+4*(i:Int)+2-4096 by omega]at e2
  rw[show 4096+(x:Int)+4*(i:Int)+((3:Nat):Int)-4096=4096+(x:Int)+4*(i:Int)+3-4096 by omega]at e3
  rw[e0,e1,e2,e3]
  have:ej im.1 (x+4*i) 4=(im.1.data.getD (x+4*i+0) 0).toNat+256*((im.1.data.getD (x+4*i+1) 0).toNat+256*((im.1.data.getD (x+4*i+2) 0).toNat+256*((im.1.data.getD (x+4*i+3) 0).toNat+256*0))):=rfl
  rw[this]
  omega
 rw[this]
 exact hd
structure vK (n:Nat) (t:List dg) (P:List Pc) (F:Int→Int) (a b:bH):Prop where
 tab:ry t
 len:t.length≤16+8*n
 fin:Ca t
 pl:P.length≤16+4*n
 fr:FR F
 aR:cB a
 a1:a.1=8192
 a2:a.2.1=1024
 bR:cB b
 b1:b.1=20480
 b2:b.2.1=256
 pcs:∀p∈P,0≤p.1∧p.1< (t.length:Int)∧0≤p.2.2.1∧p.2.2.1≤1048575∧1≤p.2.2.2.1∧p.2.2.2.1≤1024∧0≤p.2.1∧p.2.1≤6
 pk:gY P a.2.2
 hs:HO t P
 cd:∀p∈P,fA F p.2.2.1 p.2.2.2.1
theorem Ku {im:gE} (h:sD im):vK 0 (mw im) (lC im) (F0 im) (8192,1024,8192) (20480,256,20480):=by
 have hz:=h.sz
 have hn:=hz.n
 have hc:=hz.c
 have hd:=hz.d
 refine⟨⟨by unfold mw;rw[aQ];omega,fun e he=> ?_, ?_⟩,by unfold mw;rw[aQ];omega,fun i hi hk=> ?_, ?_,rx im,⟨⟨by decide,by decide,by decide⟩,⟨by decide,by decide,by decide⟩,by decide,by decide,by decide⟩,rfl,rfl,⟨⟨by decide,by decide,by decide⟩,⟨by decide,by decide,by decide⟩,by decide,by decide,by decide⟩,rfl,rfl,fun p hp=> ?_,Kt h,HP,DH h⟩
 ·unfold mw at he
  obtain⟨i,_,hi,rfl⟩:=(cg _ _ _ _).1 he
  obtain⟨hS,hG⟩:=h.sym i (by omega)
  unfold xR
  obtain⟨s,hs⟩:∃s:ns,rd (τ:=bE) im.2.2 (i:Int)=s:=⟨_,rfl⟩
  rw[hs]at hS hG⊢
  have h0:=hS.at0
  have h1:=hS.size
  unfold dU
  simp only
  rw[hS.name]
  rcases hS.kind with hk|hk
  ·obtain⟨g1,g2,g3⟩:=hG hk
   have hf:=hS.func hk
   rw[m8 hz hS hk,g1,bI.2 (show 1≤s.2.2.2.1∧s.2.2.2.1≤1024 by omega)]
   unfold yH
   rw[ab hk,g2];rfl
  ·have hf:=hS.data hk
   rw[Kr hz hS hk,bI.2 (show 1≤s.2.2.2.1∧s.2.2.2.1≤1024 by omega)]
   have hcode:cf (16384+s.2.2.1)=true:=by
    unfold cf
    rw[show(decide (0≤16384+s.2.2.1)&&decide (16384+s.2.2.1≤1048575))=true by simp;omega,ae,aW,Int.tmod_eq_emod_of_nonneg (by omega)];omega
   rw[hcode]
   unfold yH
   rw[ab hk,ab hf.2.2.2,ak (show¬s.2.1=1 by omega)];rfl
 ·unfold mw
  refine lq _ _ _ _ fun a b _ hab hb=> ?_
  obtain⟨E,hE,_⟩:=h.chain
  have:=(ox hE b (by omega)).2
  intro e
  unfold xR at e
  simp only at e
  rw[aV (τ:=bE) im.2.2 a (by omega),aV (τ:=bE) im.2.2 b (by omega)]at e
  unfold mE at this
  have h2:(im.2.2.take b).any (fun y=>decide (y.1=(im.2.2[b]'(by omega)).1))=true:=List.any_eq_true.2 ⟨im.2.2[a]'(by omega),List.mem_take_iff_getElem.2 ⟨a,by omega,rfl⟩,ab e⟩
  rw[h2]at this
  cases this
 ·unfold mw at hi hk⊢
  rw[aQ]at hi
  rw[pQ (τ:=bb) (xR im) _ _ hi]at hk⊢
  obtain⟨hS,hG⟩:=h.sym i hi
  unfold xR at hk⊢
  simp only at hk⊢
  obtain⟨s,hs⟩:∃s:ns,rd (τ:=bE) im.2.2 (i:Int)=s:=⟨_,rfl⟩
  rw[hs]at hS hG hk⊢
  have h0:=hS.at0
  have h1:=hS.size
  have hf:=hS.func hk
  have h20:=Cb (hG hk).2.2
  rw[m8 hz hS hk]
  exact .inl ⟨by omega,by omega⟩
 ·unfold lC
  have:=cE (fun i=>decide ((rd (τ:=bE) im.2.2 (i:Int)).2.1=1)) (fun i=>(((i:Int),0,ut (rd (τ:=bE) im.2.2 (i:Int)),(rd (τ:=bE) im.2.2 (i:Int)).2.2.2):Pc)) im.2.2.length 0
  omega
 ·unfold lC at hp
  obtain⟨j,_,hj,hk,rfl⟩:=cG _ _ _ _ _ hp
  have hj':j<im.2.2.length:=by omega
  obtain⟨hS,hG⟩:=h.sym j hj'
  have hk':=of_decide_eq_true hk
  obtain⟨s,hs⟩:∃s:ns,rd (τ:=bE) im.2.2 (j:Int)=s:=⟨_,rfl⟩
  simp only[hs]at hS hG hk'⊢
  have h0:=hS.at0
  have h1:=hS.size
  have hf:=hS.func hk'
  rw[m8 hz hS hk']
  have hl:(mw im).length=im.2.2.length:=by unfold mw;rw[aQ]
  rw[hl]
  refine⟨by omega,by omega,by omega,by omega,h1,by omega⟩
def yX (t:List dg) (o:bq) (l:e7) (owner:Int) (i:Nat):Pc:=(cD t (rd (τ:=aS) o.2.2.1 (i:Int)).1,owner,rd (τ:= .int .i64) l.1 (i:Int),(ew o i:Int),(rd (τ:=aS) o.2.2.1 (i:Int)).2.2.1)
theorem HQ {t u:List dg} {n:ByteArray} (h:0≤cD t n):cD (t++u) n=cD t n∧rd (τ:=bb) (t++u) (cD t n)=rd (τ:=bb) t (cD t n):=by
 have hrd:∀i:Nat,i<t.length→rd (τ:=bb) (t++u) (i:Int)=rd (τ:=bb) t (i:Int):=fun i hi=>by
  rw[aV (τ:=bb) (t++u) i (by rw[List.length_append];omega),aV (τ:=bb) t i hi,List.getElem_append_left hi]
 unfold cD at h⊢
 rcases cr (fun i=>decide ((rd (τ:=bb) t (i:Int)).1=n)) t.length 0 with⟨h1,h2⟩|⟨j,h1,h2,h3,h4,h5⟩
 ·rw[h1]at h;exact absurd h (by decide)
 ·rw[h1]
  rcases cr (fun i=>decide ((rd (τ:=bb) (t++u) (i:Int)).1=n)) (t++u).length 0 with⟨g1,g2⟩|⟨k,g1,g2,g3,g4,g5⟩
  ·have:=g2 j (Nat.zero_le _) (by rw[List.length_append];omega)
   rw[hrd j (by omega),h4]at this;cases this
  ·have:k=j:=by
    rcases Nat.lt_trichotomy k j with c|c|c
    ·have:=h5 k (Nat.zero_le _) c
     rw[hrd k (by omega)]at g4
     rw[this]at g4;cases g4
    ·exact c
    ·have:=g5 j (Nat.zero_le _) c
     rw[hrd j (by omega),h4]at this;cases this
   rw[g1,this]
   exact⟨rfl,hrd j (by omega)⟩
theorem HR {t:List dg} {o:bq} {l:e7} {owner:Int} (hf:Ca t) (ho:eG o) (hp:pS o l):Ca (fu t o l owner):=by
 intro i hi hk
 have hm:=au (τ:=bb) (fu t o l owner) i hi
 generalize rd (τ:=bb) (fu t o l owner) (i:Int)=e at*
 unfold fu at hm
 rcases List.mem_append.1 hm with hm|hm
 ·rcases List.mem_append.1 hm with hm|hm
  ·obtain⟨j,hj,rfl⟩:=oe (τ:=bb) hm
   exact hf j hj hk
  ·obtain⟨j,_,hj,_,rfl⟩:=cG _ _ _ _ _ hm
   obtain⟨x,hx,h1,h2,h3⟩:=hp j (by omega)
   have:=ho.fsz_pos j (by omega)
   unfold m7
   simp only[hx]
   exact .inr ⟨h1,by omega⟩
 ·obtain⟨j,_,hj,rfl⟩:=(cg _ _ _ _).1 hm
  unfold vH at hk
  exact absurd hk (show¬((2:Int)=1) by decide)
theorem HT (t:List dg) (o:bq) (l:e7) (owner:Int) (ht:t.length≤64) (hz:ObjSz o) (hl:ft o l) (P:List Pc) (hP:P.length≤100) (r:List eh×bH×bH) (x6:e7):
  Zf.a (t,P,r) owner o x6 l o.2.2.1 (o.2.2.1.length:Int) 0=(qa r.1 t o l).bind fun r3=>some (l,r3.2,0,t,P++bu (yX t o l owner) 0 o.2.2.1.length,r3.1,r.2):=by
 have h1:=hz.f
 rw[cS (L:=fun acc i=>Zf.a (t,acc,r) owner o x6 l o.2.2.1 (o.2.2.1.length:Int) i) (yX t o l owner) o.2.2.1.length P fun acc i hi ha=> ?_]
 ·rw[Zf.a_eq,ai,ak (aB _),ac]
 ·show Zf.a (t,acc,r) owner o x6 l o.2.2.1 (o.2.2.1.length:Int) (i:Int)=_
  rw[Zf.a_eq,ai,aj,ab hi,an i _ hi (by omega),(dJ t _ (by omega)).1]
  simp only[ae,af]
  rw[aj,show decide (i<l.1.length)=true from ab (by rw[hl.a];exact hi),rA _ (by simp;omega)];rfl
theorem HU (t:List dg) (o:bq) (l:e7) (owner:Int) (ht:t.length≤64) (hz:ObjSz o) (hl:ft o l) (P:List Pc) (hP:P.length≤100) (y:Kp) (a b:bH) (x12:Kp):
  EJ.a owner y o l a b x12 t P 0=(p7 y.2.2.2.2 t o l).bind fun r2=>some ((t,a,b,P++bu (yX t o l owner) 0 o.2.2.1.length,r2.1),r2.2):=by
 have h1:=hz.f
 rw[cS (L:=fun acc i=>EJ.a owner y o l a b x12 t acc i) (yX t o l owner) o.2.2.1.length P fun acc i hi ha=> ?_]
 ·rw[EJ.a_eq,ai,ak (aB _),ac]
 ·show EJ.a owner y o l a b x12 t acc (i:Int)=_
  rw[EJ.a_eq,ai,aj,ab hi,an i _ hi (by omega),(dJ t _ (by omega)).2]
  simp only[ae,af]
  rw[aj,aj,show decide (i<l.1.length)=true from ab (by rw[hl.a];exact hi),show decide (i<l.2.1.length)=true from ab (by rw[hl.c];exact hi),hl.cs i hi,rA _ (by simp;omega)];rfl
theorem pU (sz:Nat→Nat):∀k i a,cB a→(cP sz a i k).2.2=true→
  a.2.2≤(cP sz a i k).1.2.2∧(∀j (hj:j< (cP sz a i k).2.1.length),a.2.2≤(cP sz a i k).2.1[j]∧(cP sz a i k).2.1[j]+(sz (i+j):Int)≤(cP sz a i k).1.2.2)∧
  (∀j j' (hj:j<j') (hj':j'< (cP sz a i k).2.1.length),(cP sz a i k).2.1[j]+(sz (i+j):Int)≤(cP sz a i k).2.1[j'])
 |0,_,a,_,_=>⟨Int.le_refl _,fun j hj=>by simp[cP]at hj,fun j j' _ hj=>by simp[cP]at hj⟩
 |k+1,i,a,h,ok=>by
  have e:cP sz a i (k+1)=((cP sz (aN a (sz i)).1 (i+1) k).1,(aN a (sz i)).2.1::(cP sz (aN a (sz i)).1 (i+1) k).2.1,(aN a (sz i)).2.2&&(cP sz (aN a (sz i)).1 (i+1) k).2.2):=rfl
  rw[e,az]at ok
  obtain⟨h1,h2,h3⟩:=pU sz k (i+1) _ (dh h (sz i)) ok.2
  have hp:(aN a (sz i)).2.1=a.2.2∧a.2.2+(sz i:Int)≤(aN a (sz i)).1.2.2:=by
   have:=ok.1
   unfold aN at this⊢
   split at this
   ·cases this
   ·rename_i hc
    rw[ap hc]
    have:sz i≤pw (sz i):=by unfold pw;omega
    exact⟨rfl,by show a.2.2+(sz i:Int)≤a.2.2+(pw (sz i):Int);omega⟩
  refine⟨?_,fun j hj=> ?_,fun j j' hj hj'=> ?_⟩
  ·show a.2.2≤(cP sz (aN a (sz i)).1 (i+1) k).1.2.2
   omega
  ·cases j with
   |zero=>
    show a.2.2≤(aN a (sz i)).2.1∧(aN a (sz i)).2.1+(sz i:Int)≤(cP sz (aN a (sz i)).1 (i+1) k).1.2.2
    omega
   |succ j=>
    have hl:j< (cP sz (aN a (sz i)).1 (i+1) k).2.1.length:=by rw[co]at hj⊢;omega
    have:=h2 j hl
    rw[show i+1+j=i+(j+1) by omega]at this
    show a.2.2≤(cP sz (aN a (sz i)).1 (i+1) k).2.1[j]∧(cP sz (aN a (sz i)).1 (i+1) k).2.1[j]+(sz (i+(j+1)):Int)≤(cP sz (aN a (sz i)).1 (i+1) k).1.2.2
    omega
  ·cases j' with
   |zero=>omega
   |succ j'=>
    have hl':j'< (cP sz (aN a (sz i)).1 (i+1) k).2.1.length:=by rw[co]at hj'⊢;omega
    cases j with
    |zero=>
     have:=h2 j' hl'
     show(aN a (sz i)).2.1+(sz i:Int)≤(cP sz (aN a (sz i)).1 (i+1) k).2.1[j']
     omega
    |succ j=>
     have:=h3 j j' (by omega) hl'
     rw[show i+1+j=i+(j+1) by omega]at this
     exact this
theorem Kv {t T:List dg} {P:List Pc} {a b:bH} {o:bq} {v:e7×bH×bH×Int} (hP:gY P a.2.2) (h:uh t a b o v) (ho:eG o) (ha:cB a) (h1:a.1=8192) (owner:Int) (how:1≤owner∧owner≤6) (hT:T.length≤64)
  (hs:∀i:Nat,i<o.2.2.1.length→0≤cD T (rd (τ:=aS) o.2.2.1 (i:Int)).1):gY (P++bu (yX T o v.1 owner) 0 o.2.2.1.length) v.2.1.2.2:=by
 have hok:=h.ok
 unfold dm at hok
 simp only[az]at hok
 have hl:=co (ew o) o.2.2.1.length 0 a
 obtain⟨p1,p2,p3⟩:=pU (ew o) o.2.2.1.length 0 a ha hok.1
 have e0:v.2.1=(cP (ew o) a 0 o.2.2.1.length).1:=h.ea
 rw[e0]
 have at_:∀i (hi:i<o.2.2.1.length),(rd (τ:= .int .i64) v.1.1 (i:Int):Int)=(cP (ew o) a 0 o.2.2.1.length).2.1[i]'(by rw[hl];exact hi):=fun i hi=>by
  rw[h.ats]
  exact aV (τ:= .int .i64) _ i (by show i< (cP (ew o) a 0 o.2.2.1.length).2.1.length;rw[hl];exact hi)
 have hbase:=(ji (ew o) o.2.2.1.length 0 a)
 have htop:=ha.top
 have one:∀i,i<o.2.2.1.length→Ks (yX T o v.1 owner i)∧a.2.2≤(yX T o v.1 owner i).2.2.1∧(yX T o v.1 owner i).2.2.1+(yX T o v.1 owner i).2.2.2.1≤(cP (ew o) a 0 o.2.2.1.length).1.2.2:=by
  intro i hi
  obtain⟨f1,f2,f3,f4⟩:=jq (ho.fun_ i hi)
  have g4:=xS f4
  have q:=p2 i (by rw[hl];exact hi)
  rw[←at_ i hi,Nat.zero_add]at q
  have her:=dX T (rd (τ:=aS) o.2.2.1 (i:Int)).1
  have h0:=hs i hi
  unfold yX
  refine⟨⟨⟨h0,by simp only;omega⟩,⟨by simp only;omega,by simp only;omega⟩, ?_, ?_,f3⟩,q.1,q.2⟩
  ·exact og (h.lnk.fa i hi)
  ·show(ew o i:Int)%4=0∧20≤(ew o i:Int)∧(ew o i:Int)≤256
   unfold ew
   omega
 refine⟨fun p hp=> ?_, ?_,fun p hp=> ?_⟩
 ·rcases List.mem_append.1 hp with hp|hp
  ·exact hP.ok p hp
  ·obtain⟨j,_,hj,rfl⟩:=(cg _ _ _ _).1 hp
   exact(one j (by omega)).1
 ·rw[List.pairwise_append]
  refine⟨hP.dis,lq _ _ _ _ fun x y _ hxy hy=> ?_,fun p hp q hq=> ?_⟩
  ·left
   have q:=p3 x y hxy (by rw[hl];omega)
   rw[←at_ x (by omega),←at_ y (by omega),Nat.zero_add]at q
   exact q
  ·obtain⟨j,_,hj,rfl⟩:=(cg _ _ _ _).1 hq
   have:=(one j (by omega)).2.1
   left
   rcases hP.ins p hp with g|g<;>omega
 ·rcases List.mem_append.1 hp with hp|hp
  ·rcases hP.ins p hp with g|g
   ·exact .inl g
   ·exact .inr (by omega)
  ·obtain⟨j,_,hj,rfl⟩:=(cg _ _ _ _).1 hp
   have:=(one j (by omega)).2
   exact .inr (by omega)
theorem gY.pair {P:List Pc} {top:Int} (h:gY P top) {p q:Pc} (hp:p∈P) (hq:q∈P):p=q∨vJ p q:=by
 obtain⟨i,hi,rfl⟩:=List.getElem_of_mem hp
 obtain⟨j,hj,rfl⟩:=List.getElem_of_mem hq
 rcases Nat.lt_trichotomy i j with c|c|c
 ·exact .inr (List.pairwise_iff_getElem.1 h.dis i j hi hj c)
 ·subst c;exact .inl rfl
 ·have:=List.pairwise_iff_getElem.1 h.dis j i hj hi c
  unfold vJ at this⊢
  exact .inr (this.elim .inr .inl)
theorem kR (l:e7):∀(k i:Nat) (F:Int→Int) (a n:Int),(∀j:Nat,i≤j→j<i+k→a+n≤(rd (τ:= .int .i64) l.1 (j:Int):Int)∨(rd (τ:= .int .i64) l.1 (j:Int):Int)+((rd (τ:= .str) l.2.1 (j:Int)).size:Int)≤a)→fA F a n→fA (gX F l i k) a n
 |0,_,_,_,_,_,h=>h
 |k+1,i,F,a,n,hd,h=>by
  rw[gX]
  refine kR l k (i+1) _ a n (fun j h1 h2=>hd j (by omega) (by omega)) ?_
  exact h.out (hd i (Nat.le_refl _) (by omega))
theorem rG (l:e7):∀(k i:Nat) (F:Int→Int),(∀j:Nat,i≤j→j<i+k→ly (rd (τ:= .str) l.2.1 (j:Int)))→(∀j j':Nat,i≤j→j<j'→j'<i+k→(rd (τ:= .int .i64) l.1 (j:Int):Int)+((rd (τ:= .str) l.2.1 (j:Int)).size:Int)≤(rd (τ:= .int .i64) l.1 (j':Int):Int))→
  ∀j:Nat,i≤j→j<i+k→fA (gX F l i k) (rd (τ:= .int .i64) l.1 (j:Int)) ((rd (τ:= .str) l.2.1 (j:Int)).size:Int)
 |0,i,_,_,_,j,h1,h2=>by omega
 |k+1,i,F,hc,hd,j,h1,h2=>by
  rw[gX]
  rcases Nat.lt_or_ge i j with hj|hj
  ·exact rG l k (i+1) _ (fun j h1 h2=>hc j (by omega) (by omega)) (fun j j' h1 h2 h3=>hd j j' (by omega) h2 (by omega)) j hj (by omega)
  ·obtain rfl:j=i:=by omega
   exact kR l k (j+1) _ _ _ (fun j' h1 h2=> .inl (hd j j' (Nat.le_refl _) h1 (by omega))) (fA.self _ (hc j (Nat.le_refl _) (by omega)))
theorem Kw {T:List dg} (h:ry T) (k:Nat) (hk:k<T.length):cD T (rd (τ:=bb) T (k:Int)).1=(k:Int):=by
 unfold cD
 rcases cr (fun i=>decide ((rd (τ:=bb) T (i:Int)).1=(rd (τ:=bb) T (k:Int)).1)) T.length 0 with⟨_,h2⟩|⟨j,h1,_,h3,h4,h5⟩
 ·have:=h2 k (Nat.zero_le _) (by omega)
  rw[ab rfl]at this;cases this
 ·rw[h1]
  have hjl:j<T.length:=by omega
  have e:=of_decide_eq_true h4
  rcases Nat.lt_trichotomy j k with c|c|c
  ·have:=List.pairwise_iff_getElem.1 h.dis j k hjl hk c
   rw[aV (τ:=bb) T j hjl,aV (τ:=bb) T k hk]at e
   exact absurd e this
  ·rw[c]
  ·have:=h5 k (Nat.zero_le _) c
   rw[ab rfl]at this;cases this
theorem Kx {τ:Ty} (A B:List τ.den) (k:Nat) (h:k<A.length):rd (τ:=τ) (A++B) (k:Int)=rd (τ:=τ) A (k:Int):=by
 rw[aV (τ:=τ) (A++B) k (by rw[List.length_append];omega),aV (τ:=τ) A k h,List.getElem_append_left h]
theorem Ky {τ:Ty} (A B:List τ.den) (k:Nat) (h:k< (A++B).length) (h':A.length≤k):rd (τ:=τ) (A++B) (k:Int)∈B:=by
 rw[aV (τ:=τ) (A++B) k h,List.getElem_append_right h']
 exact List.getElem_mem _
theorem Kz {t:List dg} {P:List Pc} {o:bq} {l:e7} {owner:Int} (h:HO t P) (hT:ry (fu t o l owner)):HO (fu t o l owner) (P++bu (yX (fu t o l owner) o l owner) 0 o.2.2.1.length):=by
 intro k hk h1
 rcases Nat.lt_or_ge k t.length with hlt|hge
 ·have e:rd (τ:=bb) (fu t o l owner) (k:Int)=rd (τ:=bb) t (k:Int):=by
   unfold fu
   rw[bl]
   exact Kx (τ:=bb) t _ k hlt
  rw[e]at h1⊢
  obtain⟨p,p1,p2,p3⟩:=h k hlt h1
  exact⟨p,List.mem_append_left _ p1,p2,p3⟩
 ·have hm:rd (τ:=bb) (fu t o l owner) (k:Int)∈dd (fun i=> !(rd (τ:=aS) o.2.2.1 (i:Int)).2.1) (m7 o l owner) 0 o.2.2.1.length++bu (vH o l owner) 0 o.2.2.2.1.length:=by
   have e:fu t o l owner=t++(dd (fun i=> !(rd (τ:=aS) o.2.2.1 (i:Int)).2.1) (m7 o l owner) 0 o.2.2.1.length++bu (vH o l owner) 0 o.2.2.2.1.length):=by unfold fu;rw[bl]
   have hk':=hk
   rw[e]at hk'⊢
   exact Ky (τ:=bb) t _ k hk' hge
  have hat:=Kw hT k hk
  generalize hE:rd (τ:=bb) (fu t o l owner) (k:Int)=e at hm h1 hat⊢
  rcases List.mem_append.1 hm with hm|hm
  ·obtain⟨j,_,hj,_,rfl⟩:=cG _ _ _ _ _ hm
   refine⟨yX (fu t o l owner) o l owner j,List.mem_append_right _ ((cg _ _ _ _).2 ⟨j,Nat.zero_le _,hj,rfl⟩),hat,rfl⟩
  ·obtain⟨j,_,hj,rfl⟩:=(cg _ _ _ _).1 hm
   unfold vH at h1
   exact absurd h1 (show¬((2:Int)=1) by decide)
theorem DI {T:List dg} {P:List Pc} {top:Int} (hP:gY P top) (hH:HO T P) (F:Int→Int) (q:Nat) (b:ByteArray) (hF:∀p∈P,fA F p.2.2.1 p.2.2.2.1) (hq:q<T.length) (h1:(rd (τ:=bb) T (q:Int)).2.1=1) (hb:b.size=4) (hd:Bh ((ej b 0 4:Nat):Int)):
  ∀p∈P,fA (updF F (rd (τ:=bb) T (q:Int)).2.2.1 b) p.2.2.1 p.2.2.2.1:=by
 intro p hp
 obtain⟨p0,m0,_,e0⟩:=hH q hq h1
 rw[←e0]
 rcases hP.pair hp m0 with rfl|g
 ·exact(hF p hp).head hb hd
 ·have hz:=(hP.ok p0 m0).sz
  refine(hF p hp).out ?_
  unfold vJ at g
  omega
theorem HV {T:List dg} (h:ry T) (i:Nat) (hi:i<T.length):∃x:Int,(rd (τ:=bb) T (i:Int)).2.2.1=x∧x%4=0:=by
 have h1:=h.ent _ (au (τ:=bb) T i hi)
 generalize rd (τ:=bb) T (i:Int)=e at h1
 refine⟨e.2.2.1,rfl, ?_⟩
 unfold dU at h1
 cases h2:cM e.1 with
 |false=>rw[h2]at h1;cases h1
 |true=>
  rw[h2,ae]at h1
  cases h3:cf e.2.2.1 with
  |false=>rw[h3]at h1;cases h1
  |true=>
   have hr:=fU h3
   unfold cf at h3
   rw[show(decide (0≤e.2.2.1)&&decide (e.2.2.1≤1048575))=true by simp;omega,ae,aW,Int.tmod_eq_emod_of_nonneg hr.1]at h3
   exact h3
theorem xT (n:Nat) (hn:n≤5) (t:List dg) (P:List Pc) (F:Int→Int) (a b:bH) (hL:vK n t P F a b) (o:bq) (hr:pn o) (ho:lD o=true):
  ∃v,ib t a b o=some v∧(v.2.2.2≠0→∃x,Zf (t,P,aE F BL,a,b) o ((n+1:Nat):Int)=some (x,[],v.2.2.2,(t,P,aE F BL,a,b)))∧
   (v.2.2.2=0→∃(t':List dg) (P':List Pc) (F':Int→Int) (sv:List (Int×Int)),sv.length≤4∧vK (n+1) t' P' F' v.2.1 v.2.2.1∧ft o v.1∧
    Zf (t,P,aE F BL,a,b) o ((n+1:Nat):Int)=some (v.1,sv,0,(t',P',aE F' BL,v.2.1,v.2.2.1))∧
    EJ (t,a,b,P,aE F BL) o v.1 v.2.1 v.2.2.1 ((n+1:Nat):Int)=some ((t',v.2.1,v.2.2.1,P',aE F' BL),sv)):=by
 have hO:=hZ ho
 have hlen:=hL.len
 have hpl:=hL.pl
 have htab:=rz.2 hL.tab
 obtain⟨v,e1,e2,e3⟩:=uk t a b o hr htab hL.aR hL.bR ho
 refine⟨v,e2,fun hv=> ?_,fun hv=> ?_⟩
 ·rw[Lr]
  simp only
  rw[e1]
  simp only[af]
  rw[ak hv]
  exact⟨_,rfl⟩
 ·have hR:=e3 hv
  have hl:=hR.lnk
  have hp:=rC hR hL.aR hL.a1 hL.a2
  obtain⟨n1,n2⟩:=kQ hR.names
  have hT:=Kn (owner:=((n+1:Nat):Int)) hL.tab hO hl hR.names (by omega) (by omega)
  have hTf:=HR (owner:=((n+1:Nat):Int)) hL.fin hO hp
  have hTl:=oW t o v.1 ((n+1:Nat):Int) hO.toObjSz
  have hTr:∀i:Nat,i<o.2.2.1.length→(rd (τ:=aS) o.2.2.1 (i:Int)).2.1=true→0≤cD (fu t o v.1 ((n+1:Nat):Int)) (rd (τ:=aS) o.2.2.1 (i:Int)).1∧(rd (τ:=bb) (fu t o v.1 ((n+1:Nat):Int)) (cD (fu t o v.1 ((n+1:Nat):Int)) (rd (τ:=aS) o.2.2.1 (i:Int)).1)).2.1=1:=by
   intro i hi hrr
   obtain⟨g1,g2⟩:=B9 (n1 i hi) hrr
   unfold fu
   rw[bl]
   obtain⟨f1,f2⟩:=HQ (u:=dd (fun i=> !(rd (τ:=aS) o.2.2.1 (i:Int)).2.1) (m7 o v.1 ((n+1:Nat):Int)) 0 o.2.2.1.length++bu (vH o v.1 ((n+1:Nat):Int)) 0 o.2.2.2.1.length) g1
   rw[f1,f2];exact⟨g1,g2⟩
  have hHas:=Kz (o:=o) (l:=v.1) (owner:=((n+1:Nat):Int)) hL.hs hT
  generalize hTn:fu t o v.1 ((n+1:Nat):Int)=T at*
  have hsy:∀i:Nat,i<o.2.2.1.length→0≤cD T (rd (τ:=aS) o.2.2.1 (i:Int)).1:=by
   intro j hj'
   have hnn:¬cD T (rd (τ:=aS) o.2.2.1 (j:Int)).1<0:=by
    cases hrep:(rd (τ:=aS) o.2.2.1 (j:Int)).2.1 with
    |true=>have:=(hTr j hj' hrep).1;omega
    |false=>
     rw[m6]
     intro hall
     refine hall (m7 o v.1 ((n+1:Nat):Int) j) ?_ rfl
     rw[←hTn];unfold fu
     exact List.mem_append_left _ (List.mem_append_right _ (rF _ _ _ _ j (Nat.zero_le _) (by omega) (by rw[hrep];rfl)))
   omega
  have hPk:=Kv hL.pk hR hO hL.aR hL.a1 ((n+1:Nat):Int) (by omega) hT.len hsy
  have hCd:∀p∈P++bu (yX T o v.1 ((n+1:Nat):Int)) 0 o.2.2.1.length,fA (gX F v.1 0 o.2.2.1.length) p.2.2.1 p.2.2.2.1:=by
   have hap:∀i j:Nat,i<j→j<o.2.2.1.length→(rd (τ:= .int .i64) v.1.1 (i:Int):Int)+(ew o i:Int)≤(rd (τ:= .int .i64) v.1.1 (j:Int):Int)∧a.2.2≤(rd (τ:= .int .i64) v.1.1 (i:Int):Int):=by
    intro i j hij hj
    have hok:=hR.ok
    unfold dm at hok
    simp only[az]at hok
    have hlen:=co (ew o) o.2.2.1.length 0 a
    obtain⟨_,q2,q3⟩:=pU (ew o) o.2.2.1.length 0 a hL.aR hok.1
    have at_:∀i (hi:i<o.2.2.1.length),(rd (τ:= .int .i64) v.1.1 (i:Int):Int)=(cP (ew o) a 0 o.2.2.1.length).2.1[i]'(by rw[hlen];exact hi):=fun i hi=>by
     rw[hR.ats]
     exact aV (τ:= .int .i64) _ i (by show i< (cP (ew o) a 0 o.2.2.1.length).2.1.length;rw[hlen];exact hi)
    have r3:=q3 i j hij (by rw[hlen];exact hj)
    have r2:=(q2 i (by rw[hlen];omega)).1
    rw[←at_ i (by omega),←at_ j hj,Nat.zero_add]at r3
    rw[←at_ i (by omega)]at r2
    exact⟨r3,r2⟩
   have htop:∀i:Nat,i<o.2.2.1.length→a.2.2≤(rd (τ:= .int .i64) v.1.1 (i:Int):Int):=by
    intro i hi
    have hok:=hR.ok
    unfold dm at hok
    simp only[az]at hok
    have hlen:=co (ew o) o.2.2.1.length 0 a
    obtain⟨_,q2,_⟩:=pU (ew o) o.2.2.1.length 0 a hL.aR hok.1
    have r2:=(q2 i (by rw[hlen];omega)).1
    have at_:(rd (τ:= .int .i64) v.1.1 (i:Int):Int)=(cP (ew o) a 0 o.2.2.1.length).2.1[i]'(by rw[hlen];exact hi):=by
     rw[hR.ats]
     exact aV (τ:= .int .i64) _ i (by show i< (cP (ew o) a 0 o.2.2.1.length).2.1.length;rw[hlen];exact hi)
    rw[←at_]at r2;exact r2
   have hcs:=hl.cs
   intro p hp
   rcases List.mem_append.1 hp with hp|hp
   ·refine kR v.1 o.2.2.1.length 0 F _ _ (fun j _ h2=> .inl ?_) (hL.cd p hp)
    have h3:=htop j (by omega)
    have h4:=hL.aR.top
    rcases hL.pk.ins p hp with g|g
    ·have:=hL.a1;omega
    ·omega
   ·obtain⟨j,_,hj,rfl⟩:=(cg _ _ _ _).1 hp
    have:=rG v.1 o.2.2.1.length 0 F (fun j _ h2=>hR.dec j (by omega)) (fun i j _ h2 h3=>by
     rw[hcs i (by omega)]
     exact(hap i j h2 (by omega)).1) j (Nat.zero_le _) hj
    rw[hcs j (by omega)]at this
    exact this
  obtain⟨c1,c2⟩:=rD o v.1 T hO.toObjSz hl hp [] o.2.2.1.length 0 F hL.fr (by omega)
  obtain⟨F',sv,hF',hCd',hsv,j1,j2⟩:=rE o v.1 T hT.len hO.toObjSz hl hp hTf hTr (fun i hi _=>HV hT i hi) (fun F=>∀p∈P++bu (yX T o v.1 ((n+1:Nat):Int)) 0 o.2.2.1.length,fA F p.2.2.1 p.2.2.2.1) (fun F q b hF hq h1 hb hd=>DI hPk hHas F q b hF hq h1 hb hd) o.2.2.1.length 0 (gX F v.1 0 o.2.2.1.length) [] (jL v.1 _ _ F hL.fr) (by omega) (by simp)
  have hi:qa (aE F BL) T o v.1=some (aE F' BL,sv):=by rw[IY];exact c1.trans j1
  have hs:p7 (aE F BL) T o v.1=some (aE F' BL,sv):=by rw[IG];exact c2.trans j2
  have hf4:=hO.f
  obtain⟨_,hA,hB⟩:=xG o hO a b hL.aR hL.bR
  refine⟨T,P++bu (yX T o v.1 ((n+1:Nat):Int)) 0 o.2.2.1.length,F',sv,by omega,⟨hT,by omega,hTf,by rw[List.length_append,aQ];omega,hF',by rw[hR.ea];exact hA, ?_, ?_,by rw[hR.eb];exact hB,by rw[hR.eb];exact(ji _ _ _ _).1.trans hL.b1,by rw[hR.eb];exact(ji _ _ _ _).2.trans hL.b2,fun p hp=> ?_,hPk,hHas,hCd' hCd⟩,hl, ?_, ?_⟩
  ·rw[hR.ea];exact(ji _ _ _ _).1.trans hL.a1
  ·rw[hR.ea];exact(ji _ _ _ _).2.trans hL.a2
  ·have hTlen:t.length≤T.length:=by rw[←hTn];unfold fu;simp only[List.length_append];omega
   rcases List.mem_append.1 hp with hp|hp
   ·have:=hL.pcs p hp
    omega
   ·obtain⟨j,_,hj,rfl⟩:=(cg _ _ _ _).1 hp
    have hj':j<o.2.2.1.length:=by omega
    have hfs:=hO.fsz_pos j hj'
    have hat:=hl.fa j hj'
    have her:=dX T (rd (τ:=aS) o.2.2.1 (j:Int)).1
    have hnn:=hsy j hj'
    unfold yX
    simp only
    exact⟨by omega,by omega,hat.1,hat.2.1,by omega,by omega,by omega,by omega⟩
  ·rw[Lr]
   simp only
   rw[e1]
   simp only[af]
   rw[hv,SM,ak (show¬(t.length:Int)>4096 by omega),(jo t).1,htab,(hY o hr).1,ho,th o v.1 hO.toObjSz hl,(bW _ _ _).1,bI.2 (show 1≤((n+1:Nat):Int)∧((n+1:Nat):Int)≤6 by omega),mu t o v.1 _ (by omega) hO.toObjSz hl,hTn]
   simp only[decide_true,aH,ac,af,aA]
   rw[(jo T).1,rz.2 hT]
   simp only[decide_true,aH,ac,af]
   rw[HT T o v.1 _ hT.len hO.toObjSz hl P (by omega)]
   simp only
   rw[hi];rfl
  ·rw[PL]
   simp only
   rw[lX t o v.1 _ (by omega) hO.toObjSz hl,hTn]
   simp only[af]
   rw[rA _ (by omega),ae,HU T o v.1 _ hT.len hO.toObjSz hl P (by omega)]
   simp only
   rw[hs];rfl
theorem dA {L:Int→Option Bool} {n m:Nat} (p:Nat→Bool) (hend:n=m→L (n:Int)=some true) (hstep:n=m→∀i:Nat,i<n→L (i:Int)=bif p i then L ((i+1:Nat):Int)else some false):
  (bif (!decide ((n:Int)=(m:Int)))then some false else L 0)=some (decide (n=m)&&iR p 0 n):=by
 by_cases h:n=m
 ·rw[ab (show(n:Int)=(m:Int) by omega),ab h,dD p n (hend h) (hstep h)];rfl
 ·rw[ak (show¬(n:Int)=(m:Int) by omega),ak h];rfl
def Sb (a b:List Int):Bool:=decide (a.length=b.length)&&iR (fun i=>decide ((rd (τ:= .int .i64) a (i:Int):Int)=rd (τ:= .int .i64) b (i:Int))) 0 a.length
def Tb (a b:List ByteArray):Bool:=decide (a.length=b.length)&&iR (fun i=>decide ((rd (τ:= .str) a (i:Int):ByteArray)=rd (τ:= .str) b (i:Int))) 0 a.length
theorem pV (a b:List Int) (h:a.length≤1048576):Zg a b=some (Sb a b)∧Gf a b=some (Sb a b):=by
 rw[SN,PE]
 constructor
 ·refine dA (L:=Zg.a a b (a.length:Int)) _ (fun _=> ?_) fun hl i hi=> ?_
  ·rw[Zg.a_eq,ai,ak (aB _),ac]
  ·rw[Zg.a_eq,ai,aj,aj,ab hi,ab (show i<b.length by omega),an i _ hi (by omega)]
   simp only[ae]
   cases decide ((rd (τ:= .int .i64) a (i:Int):Int)=rd (τ:= .int .i64) b (i:Int))<;>rfl
 ·refine dA (L:=Gf.a a b) _ (fun _=> ?_) fun hl i hi=> ?_
  ·rw[Gf.a_eq,ai,ak (aB _),ac]
  ·rw[Gf.a_eq,ai,aj,aj,ab hi,ab (show i<b.length by omega),an i _ hi (by omega)]
   simp only[ae]
   cases decide ((rd (τ:= .int .i64) a (i:Int):Int)=rd (τ:= .int .i64) b (i:Int))<;>rfl
theorem pW (a b:List ByteArray) (h:a.length≤1048576):Zh a b=some (Tb a b)∧Gg a b=some (Tb a b):=by
 rw[SO,PF]
 constructor
 ·refine dA (L:=Zh.a a b (a.length:Int)) _ (fun _=> ?_) fun hl i hi=> ?_
  ·rw[Zh.a_eq,ai,ak (aB _),ac]
  ·rw[Zh.a_eq,ai,aj,aj,ab hi,ab (show i<b.length by omega),an i _ hi (by omega),a9]
   simp only[ae]
   cases decide ((rd (τ:= .str) a (i:Int):ByteArray)=rd (τ:= .str) b (i:Int))<;>rfl
 ·refine dA (L:=Gg.a a b) _ (fun _=> ?_) fun hl i hi=> ?_
  ·rw[Gg.a_eq,ai,ak (aB _),ac]
  ·rw[Gg.a_eq,ai,aj,aj,ab hi,ab (show i<b.length by omega),an i _ hi (by omega),a9]
   simp only[ae]
   cases decide ((rd (τ:= .str) a (i:Int):ByteArray)=rd (τ:= .str) b (i:Int))<;>rfl
def m9 (a b:e7):Bool:=Sb a.1 b.1&&(Tb a.2.1 b.2.1&&(Sb a.2.2.1 b.2.2.1&&Tb a.2.2.2 b.2.2.2))
theorem Au (a b:e7) (h1:a.1.length≤1048576) (h2:a.2.1.length≤1048576) (h3:a.2.2.1.length≤1048576) (h4:a.2.2.2.length≤1048576):Zi a b=some (m9 a b)∧VJ a b=some (m9 a b):=by
 rw[SQ,PG,(pV _ _ h1).1,(pV _ _ h1).2,(pW _ _ h2).1,(pW _ _ h2).2,(pV _ _ h3).1,(pV _ _ h3).2,(pW _ _ h4).1,(pW _ _ h4).2]
 unfold m9
 simp only[af]
 cases Sb a.1 b.1<;>cases Tb a.2.1 b.2.1<;>cases Sb a.2.2.1 b.2.2.1<;>exact⟨rfl,rfl⟩
abbrev Sv:Type:=Int×Int
def HW (a b:List Sv):Bool:=decide (a.length=b.length)&&iR (fun i=>li gA (rd (τ:=gA) a (i:Int)) (rd (τ:=gA) b (i:Int))) 0 a.length
theorem rH (a b:List Sv) (h:a.length≤1048576):Zj a b=some (HW a b)∧IH a b=some (HW a b):=by
 rw[SR,PM]
 constructor
 ·refine dA (L:=Zj.a a b (a.length:Int)) _ (fun _=> ?_) fun hl i hi=> ?_
  ·rw[Zj.a_eq,ai,ak (aB _),ac]
  ·rw[Zj.a_eq,ai,aj,aj,ab hi,ab (show i<b.length by omega),an i _ hi (by omega)]
   simp only[ae]
   cases li gA (rd (τ:=gA) a (i:Int)) (rd (τ:=gA) b (i:Int))<;>rfl
 ·refine dA (L:=IH.a a b) _ (fun _=> ?_) fun hl i hi=> ?_
  ·rw[IH.a_eq,ai,ak (aB _),ac]
  ·rw[IH.a_eq,ai,aj,aj,ab hi,ab (show i<b.length by omega),an i _ hi (by omega)]
   simp only[ae]
   cases li gA (rd (τ:=gA) a (i:Int)) (rd (τ:=gA) b (i:Int))<;>rfl
def T6 (a b:List dg):Bool:=decide (a.length=b.length)&&iR (fun i=>li bb (rd (τ:=bb) a (i:Int)) (rd (τ:=bb) b (i:Int))) 0 a.length
theorem Cc (a b:List dg) (h:a.length≤1048576):Hh a b=some (T6 a b)∧II a b=some (T6 a b):=by
 rw[L9,PO]
 constructor
 ·refine dA (L:=Hh.a a b (a.length:Int)) _ (fun _=> ?_) fun hl i hi=> ?_
  ·rw[Hh.a_eq,ai,ak (aB _),ac]
  ·rw[Hh.a_eq,ai,aj,aj,ab hi,ab (show i<b.length by omega),an i _ hi (by omega)]
   simp only[ae]
   cases li bb (rd (τ:=bb) a (i:Int)) (rd (τ:=bb) b (i:Int))<;>rfl
 ·refine dA (L:=II.a a b) _ (fun _=> ?_) fun hl i hi=> ?_
  ·rw[II.a_eq,ai,ak (aB _),ac]
  ·rw[II.a_eq,ai,aj,aj,ab hi,ab (show i<b.length by omega),an i _ hi (by omega)]
   simp only[ae]
   cases li bb (rd (τ:=bb) a (i:Int)) (rd (τ:=bb) b (i:Int))<;>rfl
def xU (a b:eh):Bool:=decide (a.1=b.1)&&(decide (a.2.1=b.2.1)&&(!decide (a.2.1=4)||decide (a.2.2=b.2.2)))
def rJ (a b:List eh):Bool:=decide (a.length=b.length)&&iR (fun i=>xU (rd (τ:=aL) a (i:Int)) (rd (τ:=aL) b (i:Int))) 0 a.length
theorem xV (a b:List eh) (h:a.length≤1048576):U4 a b=some (rJ a b)∧Gi a b=some (rJ a b):=by
 rw[Mc,Mb,PP]
 constructor
 ·rw[dA (L:=JI.a b a (a.length:Int)) (fun i=>xU (rd (τ:=aL) a (i:Int)) (rd (τ:=aL) b (i:Int))) (fun _=> ?_) fun hl i hi=> ?_]
  ·rfl
  ·rw[JI.a_eq,ai,ak (aB _),ac]
  ·rw[JI.a_eq,ai,aj,aj,ab hi,ab (show i<b.length by omega),an i _ hi (by omega),Ma,a9]
   unfold xU
   simp only[ae]
   generalize rd (τ:=aL) a (i:Int)=x
   generalize rd (τ:=aL) b (i:Int)=y
   cases decide (x.1=y.1)<;>cases decide (x.2.1=y.2.1)<;>cases decide (x.2.1=4)<;>cases decide (x.2.2=y.2.2)<;>rfl
 ·refine dA (L:=Gi.a a b) _ (fun _=> ?_) fun hl i hi=> ?_
  ·rw[Gi.a_eq,ai,ak (aB _),ac]
  ·rw[Gi.a_eq,ai,aj,aj,ab hi,ab (show i<b.length by omega),an i _ hi (by omega),a9]
   unfold xU
   simp only[ae]
   generalize rd (τ:=aL) a (i:Int)=x
   generalize rd (τ:=aL) b (i:Int)=y
   cases decide (x.1=y.1)<;>cases decide (x.2.1=y.2.1)<;>cases decide (x.2.1=4)<;>cases decide (x.2.2=y.2.2)<;>rfl
def uu (o:bq) (id:Int):Bool:=gk (fun k=>decide ((rd (τ:=et) o.2.2.2.2.2 (k:Int)).1=id)) 0 o.2.2.2.2.2.length
def oo (q o:bq):Bool:=gk (fun i=>uu o (rd (τ:=et) q.2.2.2.2.2 (i:Int)).1) 0 q.2.2.2.2.2.length
theorem HX (o:bq) (hz:ObjSz o) (id:Int):V5 o id=some (uu o id):=by
 have h:=hz.s
 rw[RB,RA,Rz]
 rw[cq (L:=JQ.a id o.2.2.2.2.2 (o.2.2.2.2.2.length:Int)) (fun k=>decide ((rd (τ:=et) o.2.2.2.2.2 (k:Int)).1=id)) o.2.2.2.2.2.length ?_ fun i hi=> ?_]
 ·simp only[af];rw[nv];rfl
 ·rw[JQ.a_eq,ai];simp
 ·rw[JQ.a_eq,ai,aj,ab hi,an i _ hi (by omega),Ry];rfl
theorem uv (q o:bq) (hq:ObjSz q) (ho:ObjSz o):UT q o=some (oo q o):=by
 have h:=hq.s
 rw[RF,RE,RD]
 rw[cq (L:=JR.a o q.2.2.2.2.2 (q.2.2.2.2.2.length:Int)) (fun i=>uu o (rd (τ:=et) q.2.2.2.2.2 (i:Int)).1) q.2.2.2.2.2.length ?_ fun i hi=> ?_]
 ·simp only[af];rw[nv];rfl
 ·rw[JR.a_eq,ai];simp
 ·rw[JR.a_eq,ai,aj,ab hi,an i _ hi (by omega),RC,HX o ho];rfl
abbrev DJ:Ty:= .pair .str (.pair (.int .i64) (.pair (.list aS) (.pair (.list bF) (.pair (.list cH) (.list et)))))
abbrev KA:Ty:= .pair (.list (.int .i64)) (.pair (.list .str) (.pair (.list (.int .i64)) (.list .str)))
abbrev ck:Ty:= .pair DJ (.pair KA (.list gA))
abbrev FW:Type:=bq×e7×List Sv
def jM (ps:List FW) (o:bq):Bool:=gk (fun j=>decide ((rd (τ:=ck) ps (j:Int)).1.1=o.1)) 0 ps.length
def gZ (ps:List FW) (o:bq):Bool:=gk (fun j=>oo (rd (τ:=ck) ps (j:Int)).1 o) 0 ps.length
theorem HY (o:bq) (id:Int):gk (fun k=>decide (id=(rd (τ:=et) o.2.2.2.2.2 (k:Int)).1)) 0 o.2.2.2.2.2.length=uu o id:=by
 unfold uu
 have e:(fun k:Nat=>decide (id=(rd (τ:=et) o.2.2.2.2.2 (k:Int)).1))=fun k:Nat=>decide ((rd (τ:=et) o.2.2.2.2.2 (k:Int)).1=id):=by
  funext k
  congr 1
  exact propext ⟨Eq.symm,Eq.symm⟩
 rw[e]
theorem Av (ps:List FW) (o:bq) (hp:ps.length≤6) (hz:∀j:Nat,j<ps.length→ObjSz (rd (τ:=ck) ps (j:Int)).1) (ho:ObjSz o):kk.b ps o 0=bif gZ ps o then some 30 else some 0:=by
 have hs:=ho.s
 rw[de (L:=kk.b ps o) (fun j=>oo (rd (τ:=ck) ps (j:Int)).1 o) ps.length (some 30) fun j hj=> ?_]
 ·rw[kk.b_eq,ai,ak (aB _),ac];rfl
 ·obtain⟨q,hq⟩:∃q:bq,(rd (τ:=ck) ps (j:Int)).1=q:=⟨_,rfl⟩
  have hqz:=hz j hj
  rw[hq]at hqz⊢
  have hqs:=hqz.s
  rw[kk.b_eq,ai,aj,ab hj,ae,ae,hq]
  rw[de (L:=kk.c ps o (j:Int) q.2.2.2.2.2) (fun k=>uu o (rd (τ:=et) q.2.2.2.2.2 (k:Int)).1) q.2.2.2.2.2.length (some 30) fun k hk=> ?_]
  ·rw[kk.c_eq,ai,ak (aB _),ac,an j _ hj (by omega)];rfl
  ·rw[kk.c_eq,ai,ab hk,ae]
   rw[de (L:=kk.d ps o (j:Int) q.2.2.2.2.2 (k:Int)) (fun n=>decide ((rd (τ:=et) q.2.2.2.2.2 (k:Int)).1=(rd (τ:=et) o.2.2.2.2.2 (n:Int)).1)) o.2.2.2.2.2.length (some 30) fun n hn=> ?_]
   ·rw[kk.d_eq,ai,ak (aB _),ac,an k _ hk (by omega),HY]
   ·rw[kk.d_eq,ai,aj,aj,ab hn,ab hk,an n _ hn (by omega)]
    simp only[ae]
theorem na (ps:List FW) (o:bq) (hp:ps.length≤6) (hz:∀j:Nat,j<ps.length→ObjSz (rd (τ:=ck) ps (j:Int)).1) (ho:ObjSz o):kk ps o=some (bif jM ps o then 24 else bif gZ ps o then 30 else 0):=by
 rw[Pq,de (L:=kk.a ps o) (fun j=>decide ((rd (τ:=ck) ps (j:Int)).1.1=o.1)) ps.length (some 24) fun j hj=> ?_]
 ·rw[kk.a_eq,ai,ak (aB _),ac,Av ps o hp hz ho]
  show(bif jM ps o then _ else _)=_
  cases jM ps o<;>cases gZ ps o<;>rfl
 ·rw[kk.a_eq,ai,aj,ab hj,an j _ hj (by omega),a9]
  simp only[ae]
theorem Cd (p q:Nat→Bool):∀k i,gk (fun j=>p j||q j) i k=(gk p i k||gk q i k)
 |0,_=>rfl
 |k+1,i=>by
  rw[gk,gk,gk,Cd p q k (i+1)]
  cases p i<;>cases q i<;>simp
abbrev Sc:Type:=gE×Fm×List FW
def Ce (ps:List FW):Prop:=∀j:Nat,j<ps.length→pn (rd (τ:=ck) ps (j:Int)).1
abbrev ZI:Ko:=([],[],[],(0,0,0),0,0,0)
theorem KB {τ:Ty} (l:List τ.den) (n j:Nat) (hj:j<n) (hn:n≤l.length):rd (τ:=τ) (l.take n) (j:Int)=rd (τ:=τ) l (j:Int):=by
 rw[aV _ _ (by rw[List.length_take];omega),aV _ _ (by omega),List.getElem_take]
theorem HZ (ps:List FW) (hp:ps.length≤6) (hW:Ce ps) (saved:Bool) (x6:Ko) (x6':Kp):∀(k i:Nat) (t:List dg) (P:List Pc) (F:Int→Int) (a b:bH),i+k=ps.length→vK i t P F a b→(∀j:Nat,j<i→lD (rd (τ:=ck) ps (j:Int)).1=true)→
  ∃rI rS,Zk.a ps saved ZI (t,P,aE F BL,a,b) ps (ps.length:Int) (i:Int)=some rI∧Cn.a ps saved x6' (t,a,b,P,aE F BL) (i:Int)=some rS∧rI.2=rS.2∧
   (rI.2=true→(ps.length≤6∧∀j:Nat,j<ps.length→lD (rd (τ:=ck) ps (j:Int)).1=true)∧∃t' P' F' a' b',rI.1=(t',P',aE F' BL,a',b')∧rS.1=(t',a',b',P',aE F' BL)∧vK ps.length t' P' F' a' b'):=by
 intro k
 induction k with
 |zero=>
  intro i t P F a b h hL hO
  have:i=ps.length:=by omega
  subst this
  rw[Zk.a_eq,ai,ak (aB _),ac,Cn.a_eq,ai,ak (aB _),ac]
  exact⟨_,_,rfl,rfl,rfl,fun _=>⟨⟨hp,hO⟩,t,P,F,a,b,rfl,rfl,hL⟩⟩
 |succ k ih=>
  intro i t P F a b h hL hO
  have hi:i<ps.length:=by omega
  have hr:=hW i hi
  rw[Zk.a_eq,ai,aj,ab hi,Cn.a_eq,ai,ab hi]
  simp only[aj,ab hi,ae,aA]
  obtain⟨p,hpe⟩:∃p:FW,rd (τ:=ck) ps (i:Int)=p:=⟨_,rfl⟩
  rw[hpe]at hr⊢
  rw[(hY p.1 hr).1,(hY p.1 hr).2]
  simp only[af]
  cases hob:lD p.1 with
  |false=>exact⟨_,_,rfl,rfl,rfl,fun h=>by cases h⟩
  |true=>
   simp only[aH,ac]
   by_cases hdep:p.1.2.1=(i:Int)
   ·rw[ab hdep,jU i _ (by omega),jT]
    simp only[aH,ac,ae]
    have hpo:=hZ hob
    have hlt:(ps.take i).length=i:=by rw[List.length_take];omega
    have hsz:∀j:Nat,j< (ps.take i).length→ObjSz (rd (τ:=ck) (ps.take i) (j:Int)).1:=fun j hj=>by
     rw[hlt]at hj
     rw[KB (τ:=ck) ps i j hj (by omega)]
     exact(hZ (hO j hj)).toObjSz
    rw[na (ps.take i) p.1 (by omega) hsz hpo.toObjSz]
    simp only[af]
    rw[de (L:=Zk.b ps saved ZI (t,P,aE F BL,a,b) (i:Int) p ps (ps.length:Int) (i:Int) (ps.take i) ((ps.take i).length:Int)) (fun j=>decide ((rd (τ:=ck) (ps.take i) (j:Int)).1.1=p.1.1)||oo (rd (τ:=ck) (ps.take i) (j:Int)).1 p.1) (ps.take i).length (some (ZI,false)) fun j hj=> ?_]
    ·rw[Cd]
     show∃rI rS,(bif (jM (ps.take i) p.1||gZ (ps.take i) p.1)then _ else _)=some rI∧_
     cases hna:jM (ps.take i) p.1 with
     |true=>exact⟨_,_,rfl,rfl,rfl,fun h=>by cases h⟩
     |false=>
      cases hsa:gZ (ps.take i) p.1 with
      |true=>exact⟨_,_,rfl,rfl,rfl,fun h=>by cases h⟩
      |false=>
       simp only[Bool.or_self,ac,decide_true,aH]
       rw[Zk.b_eq,ai,ak (aB _),ac,an i ps.length hi (by omega)]
       obtain⟨v,e1,e2,e3⟩:=xT i (by omega) t P F a b hL p.1 hr hob
       rw[e1]
       simp only[af,aA]
       by_cases hv:v.2.2.2=0
       ·obtain⟨t',P',F',sv,hsv,hL',hl',g1,g2⟩:=e3 hv
        rw[g1,hv]
        simp only[af,decide_true,aH,ac]
        have hof:=hpo.f
        have hod:=hpo.d
        obtain⟨q1,q2⟩:=Au v.1 p.2.1 (by rw[hl'.a];omega) (by rw[hl'.c];omega) (by rw[hl'.d];omega) (by rw[hl'.b];omega)
        rw[q1,q2]
        simp only[af]
        have hnext:=ih (i+1) t' P' F' v.2.1 v.2.2.1 (by omega) hL' fun j hj=>by
         by_cases e:j=i
         ·rw[e,hpe];exact hob
         ·exact hO j (by omega)
        cases m9 v.1 p.2.1 with
        |false=>cases saved<;>exact⟨_,_,rfl,rfl,rfl,fun h=>by cases h⟩
        |true=>
         simp only[aH,ac]
         rw[g2]
         simp only[af]
         cases saved with
         |true=>
          simp only[aH,ac,ae]
          rw[(rH sv p.2.2 (by omega)).1,(rH sv p.2.2 (by omega)).2]
          simp only[af]
          cases HW sv p.2.2 with
          |false=>exact⟨_,_,rfl,rfl,rfl,fun h=>by cases h⟩
          |true=>exact hnext
         |false=>
          simp only[Bool.not_false,ae,ac]
          rw[(rH [] p.2.2 (by simp)).1]
          simp only[af]
          have e:HW [] p.2.2= !decide ((p.2.2.length:Int)>0):=by
           unfold HW
           rw[show iR (fun i=>li gA (rd (τ:=gA) ([]:List Sv) (i:Int)) (rd (τ:=gA) p.2.2 (i:Int))) 0 ([]:List Sv).length=true from rfl,Bool.and_true,←decide_not]
           congr 1
           apply propext
           simp only[List.length_nil]
           omega
          rw[e]
          cases decide ((p.2.2.length:Int)>0)with
          |true=>exact⟨_,_,rfl,rfl,rfl,fun h=>by cases h⟩
          |false=>exact hnext
       ·obtain⟨x,g1⟩:=e2 hv
        rw[g1]
        simp only[af]
        rw[ak hv]
        cases saved<;>exact⟨_,_,rfl,rfl,rfl,fun h=>by cases h⟩
    ·have hj2:=hj
     rw[hlt]at hj2
     rw[Zk.b_eq,ai,aj,ab hj,an j _ hj (by omega),uv _ _ (hsz j hj) hpo.toObjSz,a9]
     simp only[ae,af]
     cases decide ((rd (τ:=ck) (ps.take i) (j:Int)).1.1=p.1.1)<;>cases oo (rd (τ:=ck) (ps.take i) (j:Int)).1 p.1<;>rfl
   ·rw[ak hdep]
    exact⟨_,_,rfl,rfl,rfl,fun h=>by cases h⟩
theorem vM (im:gE) (him:Fa im=true) (ps:List FW) (hW:Ce ps) (saved:Bool):
  ∃rI rS,Zk im ps saved=some rI∧Cn im ps saved=some rS∧rI.2=rS.2∧
   (rI.2=true→(ps.length≤6∧∀j:Nat,j<ps.length→lD (rd (τ:=ck) ps (j:Int)).1=true)∧∃t' P' F' a' b',rI.1=(t',P',aE F' BL,a',b')∧rS.1=(t',a',b',P',aE F' BL)∧vK ps.length t' P' F' a' b'):=by
 obtain⟨i1,i2,i3⟩:=pj im
 have hI:=i3 him
 obtain⟨n1,n2⟩:=Kq im hI.sz
 rw[Ls,PN,i1,him,n2]
 simp only[af,aA,aH,ac]
 rcases Nat.lt_or_ge 6 ps.length with h|h
 ·rw[ab (show(ps.length:Int)>6 by omega)]
  exact⟨_,_,rfl,rfl,rfl,fun h=>by cases h⟩
 ·rw[ak (show¬(ps.length:Int)>6 by omega),n1]
  simp only[af,ac]
  exact HZ ps h hW saved ZI ([],(0,0,0),(0,0,0),[],[]) ps.length 0 (mw im) (lC im) (F0 im) _ _ (by omega) (Ku hI) fun j hj=>by omega
theorem H0 {m:Fm} (h:tF m=true):m.1.length≤64∧m.2.2.1.length≤64:=by
 unfold tF at h
 rw[az,az]at h
 have h1:=h.1
 have h2:=h.2.1
 unfold gj at h1
 unfold pF at h2
 rw[az,aW]at h1 h2
 exact⟨h1.1,h2.1⟩
theorem vN (s:Sc) (hW:Ce s.2.2):∃rI rS,U5 s=some rI∧VK s=some rS∧rI.2=rS.2∧
  (rI.2=true→(s.2.2.length≤6∧tF s.2.1=true∧∀j:Nat,j<s.2.2.length→lD (rd (τ:=ck) s.2.2 (j:Int)).1=true)∧∃t' P' F' a' b',rI.1=(t',P',aE F' BL,a',b')∧rS.1=(t',a',b',P',aE F' BL)∧vK s.2.2.length t' P' F' a' b'∧rJ s.2.1.1 (aE F' BL)=true∧T6 s.2.1.2.2.1 t'=true):=by
 obtain⟨i1,i2,i3⟩:=pj s.1
 obtain⟨m1,m2⟩:=yN s.2.1
 rw[Md,PQ,i2,m1,m2]
 simp only[af,aA]
 cases him:Fa s.1 with
 |false=>
  rw[Ls,i1,him]
  simp only[af,aA,Bool.not_false,ae]
  exact⟨_,_,rfl,rfl,rfl,fun h=>by cases h⟩
 |true=>
  obtain⟨rI,rS,e1,e2,e3,e4⟩:=vM s.1 him s.2.2 hW true
  rw[e1]
  simp only[af,aH,ac]
  cases hm:tF s.2.1 with
  |false=>
   cases h:rI.2 with
   |false=>exact⟨_,_,rfl,rfl,rfl,fun h=>by cases h⟩
   |true=>exact⟨_,_,rfl,rfl,rfl,fun h=>by cases h⟩
  |true=>
   obtain⟨l1,l2⟩:=H0 hm
   simp only[aH,ac]
   rw[e2]
   simp only[af]
   rw[←e3]
   cases h:rI.2 with
   |false=>exact⟨_,_,rfl,rfl,rfl,fun h=>by cases h⟩
   |true=>
    obtain⟨f0,t',P',F',a',b',f1,f2,f3⟩:=e4 h
    rw[f1,f2]
    simp only[aH,ac,ae]
    rw[(Cc _ _ (by omega)).1,(Cc _ _ (by omega)).2]
    simp only[af]
    cases hq:T6 s.2.1.2.2.1 t' with
    |false=>exact⟨_,_,rfl,rfl,rfl,fun h=>by cases h⟩
    |true=>
     simp only[aH,ac,ae]
     rw[(xV _ _ (by omega)).1,(xV _ _ (by omega)).2]
     simp only[af]
     cases hk:rJ s.2.1.1 (aE F' BL)with
     |false=>exact⟨_,_,rfl,rfl,rfl,fun h=>by cases h⟩
     |true=>exact⟨_,_,rfl,rfl,rfl,fun _=>⟨⟨f0.1,trivial,f0.2⟩,t',P',F',a',b',rfl,rfl,f3,hk,hq⟩⟩
def xW:(τ:Ty)→τ.den→Prop
 | .list e,l=>List.length l≤1048576∧∀x∈l,xW e x
 | .pair a b,x=>xW a x.1∧xW b x.2
 |_,_=>True
def SP (B:Prop) (left:Int) (v:Option Int):Prop:=∃r,v=some r∧r≤left∧(0≤r→B)
def o3 (left:Int):Prop:=0≤left∧left≤1048576
theorem SP.fin {B:Prop} {left:Int} (h:B):SP B left (some left):=⟨left,rfl,Int.le_refl _,fun _=>h⟩
theorem SP.str {B:Prop} {left:Int} (n:Nat) (hn:n≤9223372036854775807) (hl:o3 left) (K:Int→Option Int) (hK:∀l',o3 l'→l'≤left→n≤1048576→SP B l' (K l')):SP B left (bif decide (IntKind.wrap .i64 (left-(n:Int))<0)then some (-1)else K (IntKind.wrap .i64 (left-(n:Int)))):=by
 obtain⟨h1,h2⟩:=hl
 rw[bf (n:=left-(n:Int)) (by omega) (by omega)]
 by_cases h:left-(n:Int)<0
 ·rw[ab h];exact⟨-1,rfl,by omega,fun h=>absurd h (by decide)⟩
 ·rw[ak h,ac]
  obtain⟨r,e1,e2,e3⟩:=hK (left-(n:Int)) ⟨by omega,by omega⟩ (by omega) (by omega)
  exact⟨r,e1,by omega,e3⟩
theorem SP.call {B B1:Prop} {left:Int} {v:Option Int} (hf:SP B1 left v) (hl:o3 left) (K:Int→Option Int) (hK:B1→∀r,o3 r→SP B r (K r)):SP B left (v.bind fun r=>bif decide (r<0)then some (-1)else K r):=by
 obtain⟨r,e1,e2,e3⟩:=hf
 rw[e1,af]
 have:=hl.2
 by_cases h:r<0
 ·rw[ab h];exact⟨-1,rfl,by have:=hl.1;omega,fun h=>absurd h (by decide)⟩
 ·rw[ak h,ac]
  obtain⟨r',e4,e5,e6⟩:=hK (e3 (by omega)) r ⟨by omega,by omega⟩
  exact⟨r',e4,by omega,e6⟩
def nb (τ:Ty) (f:τ.den→Int→Option Int):Prop:=∀x,mX τ x→∀left,o3 left→SP (xW τ x) left (f x left)
theorem KC {τ:Ty} (l:List τ.den) (g:τ.den→Int→Option Int) (hg:nb τ g) (hw:∀x∈l,mX τ x) (L:Int→Int→Option Int)
  (hstep:∀left (i:Nat),i<l.length→L left (i:Int)=(g (rd (τ:=τ) l (i:Int)) left).bind fun r1=>bif decide (r1<0)then some (-1)else L r1 ((i+1:Nat):Int)) (hend:∀left,L left (l.length:Int)=some left):
  ∀(k i:Nat),i+k=l.length→∀left,o3 left→SP (∀j:Nat,i≤j→j<l.length→xW τ (rd (τ:=τ) l (j:Int))) left (L left (i:Int)):=by
 intro k
 induction k with
 |zero=>
  intro i h left hl
  have:i=l.length:=by omega
  subst this
  rw[hend]
  exact SP.fin fun j h1 h2=>by omega
 |succ k ih=>
  intro i h left hl
  rw[hstep left i (by omega)]
  refine SP.call (hg _ (hw _ (au l i (by omega))) left hl) hl _ fun b r hr=> ?_
  obtain⟨r',e1,e2,e3⟩:=ih (i+1) (by omega) r hr
  exact⟨r',e1,e2,fun h0 j h1 h2=>by
   by_cases e:j=i
   ·rw[e];exact b
   ·exact e3 h0 j (by omega) h2⟩
theorem gB {τ:Ty} (l:List τ.den) (hw:mX (.list τ) l) (g:τ.den→Int→Option Int) (hg:nb τ g) (L:Int→Int→Option Int)
  (hstep:l.length≤1048576→∀left (i:Nat),i<l.length→L left (i:Int)=(g (rd (τ:=τ) l (i:Int)) left).bind fun r1=>bif decide (r1<0)then some (-1)else L r1 ((i+1:Nat):Int)) (hend:∀left,L left (l.length:Int)=some left) (left:Int) (hl:o3 left):
  SP (xW (.list τ) l) left (bif decide (IntKind.wrap .i64 (left-(l.length:Int))<0)then some (-1)else L (IntKind.wrap .i64 (left-(l.length:Int))) 0):=by
 have hw':List.length l≤9223372036854775807∧∀x∈l,mX τ x:=hw
 refine SP.str l.length hw'.1 hl (fun r=>L r 0) fun l' h1 h2 h3=> ?_
 obtain⟨r,e1,e2,e3⟩:=KC l g hg hw'.2 L (hstep h3) hend l.length 0 (by omega) l' h1
 refine⟨r,e1,e2,fun h0=> ?_⟩
 show List.length l≤1048576∧∀x∈l,xW τ x
 refine⟨h3,fun x hx=> ?_⟩
 obtain⟨i,hi,hr⟩:=oe hx
 rw[←hr];exact e3 h0 i (Nat.zero_le _) hi
theorem pX {τ:Ty} (l:List τ.den) (hw:mX (.list τ) l) (hb:∀x,xW τ x) (left:Int) (hl:o3 left):
  SP (xW (.list τ) l) left (bif decide (IntKind.wrap .i64 (left-(l.length:Int))<0)then some (-1)else some (IntKind.wrap .i64 (left-(l.length:Int)))):=by
 have hw':List.length l≤9223372036854775807∧∀x∈l,mX τ x:=hw
 exact SP.str l.length hw'.1 hl some fun l' h1 h2 h3=>SP.fin ⟨h3,fun x _=>hb x⟩
def lY (τ:Ty) (f:τ.den→Option τ.den):Prop:=∀x,mX τ x→xW τ x→f x=some x
theorem xX {τ:Ty} (l:List τ.den) (L:List τ.den→Int→Option (List τ.den))
  (hstep:∀acc (i:Nat),i<l.length→acc.length=l.length→L acc (i:Int)=L (acc.set i (rd (τ:=τ) l (i:Int))) ((i+1:Nat):Int)) (hend:∀acc,L acc (l.length:Int)=some acc):
  ∀(k i:Nat) (u:List τ.den),i+k=l.length→u.length=k→L (l.take i++u) (i:Int)=some l:=by
 intro k
 induction k with
 |zero=>
  intro i u h hu
  have:i=l.length:=by omega
  subst this
  rw[hend,List.take_length,List.eq_nil_of_length_eq_zero hu,List.append_nil]
 |succ k ih=>
  intro i u h hu
  have hi:i<l.length:=by omega
  rw[hstep _ i hi (by rw[List.length_append,List.length_take];omega)]
  cases u with
  |nil=>simp at hu
  |cons y u=>
   have e:(l.take i++y::u).set i (rd (τ:=τ) l (i:Int))=l.take (i+1)++u:=by
    rw[List.set_append_right _ _ (by rw[List.length_take];omega),List.length_take,show i-min i l.length=0 by omega,List.set_cons_zero,List.take_succ_eq_append_getElem hi,bl,aV l i hi];rfl
   rw[e]
   exact ih (i+1) u (by omega) (by simpa using hu)
theorem d9 {τ:Ty} (l:List τ.den) (b:Nat) (hbt:b≤4096) (hb:l.length≤1048576) (z:τ.den) (L:List τ.den→Int→Option (List τ.den))
  (hstep:∀acc (i:Nat),i<l.length→acc.length=l.length→L acc (i:Int)=L (acc.set i (rd (τ:=τ) l (i:Int))) ((i+1:Nat):Int)) (hend:∀acc,L acc (l.length:Int)=some acc):
  (bif decide (0≤(l.length:Int))&&aw (Int.toNat (l.length:Int)) b then L (List.replicate (Int.toNat (l.length:Int)) z) 0 else none)=some l:=by
 have hm:l.length*b≤1048576*4096:=Nat.mul_le_mul hb hbt
 rw[aP,show(decide (0≤(l.length:Int))&&aw l.length b)=true by simp[aw];omega,ae]
 have:=xX l L hstep hend l.length 0 (List.replicate l.length z) (by omega) (by simp)
 simpa using this
def lZ (τ:Ty) (f:τ.den→τ.den→Option Bool):Prop:=∀x,mX τ x→xW τ x→f x x=some true
theorem dH (L:Int→Option Bool) (n:Nat) (hstep:∀i:Nat,i<n→L (i:Int)=L ((i+1:Nat):Int)) (hend:L (n:Int)=some true):L 0=some true:=by
 have:∀k i:Nat,i+k=n→L (i:Int)=some true:=by
  intro k
  induction k with
  |zero=>
    intro i h;have:i=n:=by omega
    rw[this];exact hend
  |succ k ih=>intro i h;rw[hstep i (by omega)];exact ih (i+1) (by omega)
 exact this n 0 (by omega)
abbrev KD:Ty:= .pair .str (.pair .str (.list bE))
abbrev KE:Ty:= .pair (.list aL) (.pair (.list ei) (.pair (.list bb) (.list sS)))
abbrev TSys:Ty:= .pair KD (.pair KE (.list ck))
theorem DK:nb bE Th:=by
 intro x hw left hl
 show SP _ left (Th x left)
 rw[NV]
 refine SP.str (ByteArray.size x.1) hw.1 hl (fun r=>some r) fun l0 h0 _ _=> ?_
 exact SP.fin ⟨trivial,⟨trivial,⟨trivial,⟨trivial,trivial⟩⟩⟩⟩
theorem Aw:nb (.list bE) Ck:=by
 intro x hw left hl
 show SP _ left (Ck x left)
 rw[NW]
 exact gB x hw Th DK (Ck.a x) (fun hb left i hi=>by
  rw[Ck.a_eq,ai,aj,ab hi,an i _ hi (by omega)];rfl) (fun left=>by
  rw[Ck.a_eq,ai,ak (aB _),ac]) left hl
theorem H1:nb bb Tk:=by
 intro x hw left hl
 show SP _ left (Tk x left)
 rw[N4]
 refine SP.str (ByteArray.size x.1) hw.1 hl (fun r=>some r) fun l0 h0 _ _=> ?_
 exact SP.fin ⟨trivial,⟨trivial,⟨trivial,⟨trivial,⟨trivial,trivial⟩⟩⟩⟩⟩
theorem DL:nb (.list bb) F2:=by
 intro x hw left hl
 show SP _ left (F2 x left)
 rw[N5]
 exact gB x hw Tk H1 (F2.a x) (fun hb left i hi=>by
  rw[F2.a_eq,ai,aj,ab hi,an i _ hi (by omega)];rfl) (fun left=>by
  rw[F2.a_eq,ai,ak (aB _),ac]) left hl
theorem KF:nb aL Ti:=by
 intro x hw left hl
 show SP _ left (Ti x left)
 rw[NY]
 refine SP.str (ByteArray.size x.2.2) hw.2.2 hl (fun r=>some r) fun l0 h0 _ _=> ?_
 exact SP.fin ⟨trivial,⟨trivial,trivial⟩⟩
theorem H3:nb (.list aL) FY:=by
 intro x hw left hl
 show SP _ left (FY x left)
 rw[NZ]
 exact gB x hw Ti KF (FY.a x) (fun hb left i hi=>by
  rw[FY.a_eq,ai,aj,ab hi,an i _ hi (by omega)];rfl) (fun left=>by
  rw[FY.a_eq,ai,ak (aB _),ac]) left hl
theorem vO:nb aS Tl:=by
 intro x hw left hl
 show SP _ left (Tl x left)
 rw[N8]
 refine SP.str (ByteArray.size x.1) hw.1 hl (fun r=>bif decide ((IntKind.wrap .i64 (r-(ByteArray.size x.2.2.2:Int)))<0)then some (-1)else(some (IntKind.wrap .i64 (r-(ByteArray.size x.2.2.2:Int))))) fun l0 h0 _ _=> ?_
 refine SP.str (ByteArray.size x.2.2.2) hw.2.2.2 h0 (fun r=>some r) fun l1 h1 _ _=> ?_
 exact SP.fin ⟨trivial,⟨trivial,⟨trivial,trivial⟩⟩⟩
theorem tj:nb (.list aS) EC:=by
 intro x hw left hl
 show SP _ left (EC x left)
 rw[N9]
 exact gB x hw Tl vO (EC.a x) (fun hb left i hi=>by
  rw[EC.a_eq,ai,aj,ab hi,an i _ hi (by omega)];rfl) (fun left=>by
  rw[EC.a_eq,ai,ak (aB _),ac]) left hl
theorem vQ:nb bF Tm:=by
 intro x hw left hl
 show SP _ left (Tm x left)
 rw[Oa]
 refine SP.str (ByteArray.size x.1) hw.1 hl (fun r=>bif decide ((IntKind.wrap .i64 (r-(ByteArray.size x.2:Int)))<0)then some (-1)else(some (IntKind.wrap .i64 (r-(ByteArray.size x.2:Int))))) fun l0 h0 _ _=> ?_
 refine SP.str (ByteArray.size x.2) hw.2 h0 (fun r=>some r) fun l1 h1 _ _=> ?_
 exact SP.fin ⟨trivial,trivial⟩
theorem tk:nb (.list bF) ED:=by
 intro x hw left hl
 show SP _ left (ED x left)
 rw[Ob]
 exact gB x hw Tm vQ (ED.a x) (fun hb left i hi=>by
  rw[ED.a_eq,ai,aj,ab hi,an i _ hi (by omega)];rfl) (fun left=>by
  rw[ED.a_eq,ai,ak (aB _),ac]) left hl
theorem H4:nb cH Tn:=by
 intro x hw left hl
 show SP _ left (Tn x left)
 rw[Oc]
 refine SP.str (ByteArray.size x.2.2.2.1) hw.2.2.2.1 hl (fun r=>some r) fun l0 h0 _ _=> ?_
 exact SP.fin ⟨trivial,⟨trivial,⟨trivial,⟨trivial,trivial⟩⟩⟩⟩
theorem DM:nb (.list cH) EE:=by
 intro x hw left hl
 show SP _ left (EE x left)
 rw[Od]
 exact gB x hw Tn H4 (EE.a x) (fun hb left i hi=>by
  rw[EE.a_eq,ai,aj,ab hi,an i _ hi (by omega)];rfl) (fun left=>by
  rw[EE.a_eq,ai,ak (aB _),ac]) left hl
theorem vR:nb (.list (.int .i64)) Sf:=by
 intro x hw left hl
 show SP _ left (Sf x left)
 rw[N1]
 exact pX x hw (fun _=>trivial) left hl
theorem H5:nb (.list gA) Ug:=by
 intro x hw left hl
 show SP _ left (Ug x left)
 rw[Oi]
 exact pX x hw (fun _=>⟨trivial,trivial⟩) left hl
theorem rK:nb (.list et) To:=by
 intro x hw left hl
 show SP _ left (To x left)
 rw[Oe]
 exact pX x hw (fun _=>⟨trivial,trivial⟩) left hl
theorem Ax:nb (.list sS) Uc:=by
 intro x hw left hl
 show SP _ left (Uc x left)
 rw[N6]
 exact pX x hw (fun _=>⟨trivial,⟨trivial,trivial⟩⟩) left hl
theorem rL:nb (.list .str) EF:=by
 intro x hw left hl
 show SP _ left (EF x left)
 rw[Og]
 exact gB x hw (fun s left=>bif decide (IntKind.wrap .i64 (left-(ByteArray.size s:Int))<0)then some (-1)else some (IntKind.wrap .i64 (left-(ByteArray.size s:Int)))) (fun s hs left hl=>SP.str (ByteArray.size s) hs hl some fun l' _ _ _=>SP.fin trivial) (EF.a x) (fun hb left i hi=>by
  rw[EF.a_eq,ai,aj,ab hi,an i _ hi (by omega)]
  simp only[ae]
  cases hc:decide (IntKind.wrap .i64 (left-(ByteArray.size (rd (τ:= .str) x (i:Int)):Int))<0)with
  |true=>rfl
  |false=>rw[ac,ac,af,hc];rfl) (fun left=>by
  rw[EF.a_eq,ai,ak (aB _),ac]) left hl
theorem DN:nb ei Tj:=by
 intro x hw left hl
 show SP _ left (Tj x left)
 rw[N2]
 refine SP.call (vR x.2.2.1 hw.2.2.1 left hl) hl _ fun b0 l0 h0=> ?_
 exact SP.fin ⟨trivial,⟨⟨trivial,trivial⟩,⟨b0,trivial⟩⟩⟩
theorem Ay:nb (.list ei) FZ:=by
 intro x hw left hl
 show SP _ left (FZ x left)
 rw[N3]
 exact gB x hw Tj DN (FZ.a x) (fun hb left i hi=>by
  rw[FZ.a_eq,ai,aj,ab hi,an i _ hi (by omega)];rfl) (fun left=>by
  rw[FZ.a_eq,ai,ak (aB _),ac]) left hl
theorem H6:nb KD Ua:=by
 intro x hw left hl
 show SP _ left (Ua x left)
 rw[NX]
 refine SP.str (ByteArray.size x.1) hw.1 hl (fun r=>bif decide ((IntKind.wrap .i64 (r-(ByteArray.size x.2.1:Int)))<0)then some (-1)else((Ck x.2.2 (IntKind.wrap .i64 (r-(ByteArray.size x.2.1:Int)))).bind fun q1=>bif decide (q1<0)then some (-1)else(some q1))) fun l0 h0 _ _=> ?_
 refine SP.str (ByteArray.size x.2.1) hw.2.1 h0 (fun r=>(Ck x.2.2 r).bind fun q2=>bif decide (q2<0)then some (-1)else(some q2)) fun l1 h1 _ _=> ?_
 refine SP.call (Aw x.2.2 hw.2.2 l1 h1) h1 _ fun b2 l2 h2=> ?_
 exact SP.fin ⟨trivial,⟨trivial,b2⟩⟩
theorem DO:nb (.list aL) Ub:=by
 intro x hw left hl
 show SP _ left (Ub x left)
 rw[N0]
 exact SP.call (H3 x hw left hl) hl _ fun b l h=>SP.fin b
theorem Az:nb KE Ud:=by
 intro x hw left hl
 show SP _ left (Ud x left)
 rw[N7]
 refine SP.call (DO x.1 hw.1 left hl) hl _ fun b0 l0 h0=> ?_
 refine SP.call (Ay x.2.1 hw.2.1 l0 h0) h0 _ fun b1 l1 h1=> ?_
 refine SP.call (DL x.2.2.1 hw.2.2.1 l1 h1) h1 _ fun b2 l2 h2=> ?_
 refine SP.call (Ax x.2.2.2 hw.2.2.2 l2 h2) h2 _ fun b3 l3 h3=> ?_
 exact SP.fin ⟨b0,⟨b1,⟨b2,b3⟩⟩⟩
theorem DP:nb KA Uf:=by
 intro x hw left hl
 show SP _ left (Uf x left)
 rw[Oh]
 refine SP.call (vR x.1 hw.1 left hl) hl _ fun b0 l0 h0=> ?_
 refine SP.call (rL x.2.1 hw.2.1 l0 h0) h0 _ fun b1 l1 h1=> ?_
 refine SP.call (vR x.2.2.1 hw.2.2.1 l1 h1) h1 _ fun b2 l2 h2=> ?_
 refine SP.call (rL x.2.2.2 hw.2.2.2 l2 h2) h2 _ fun b3 l3 h3=> ?_
 exact SP.fin ⟨b0,⟨b1,⟨b2,b3⟩⟩⟩
theorem DQ:nb DJ Ue:=by
 intro x hw left hl
 show SP _ left (Ue x left)
 rw[Of]
 refine SP.str (ByteArray.size x.1) hw.1 hl (fun r=>(EC x.2.2.1 r).bind fun q3=>bif decide (q3<0)then some (-1)else((ED x.2.2.2.1 q3).bind fun q4=>bif decide (q4<0)then some (-1)else((EE x.2.2.2.2.1 q4).bind fun q5=>bif decide (q5<0)then some (-1)else((To x.2.2.2.2.2 q5).bind fun q6=>bif decide (q6<0)then some (-1)else(some q6))))) fun l0 h0 _ _=> ?_
 refine SP.call (tj x.2.2.1 hw.2.2.1 l0 h0) h0 _ fun b1 l1 h1=> ?_
 refine SP.call (tk x.2.2.2.1 hw.2.2.2.1 l1 h1) h1 _ fun b2 l2 h2=> ?_
 refine SP.call (DM x.2.2.2.2.1 hw.2.2.2.2.1 l2 h2) h2 _ fun b3 l3 h3=> ?_
 refine SP.call (rK x.2.2.2.2.2 hw.2.2.2.2.2 l3 h3) h3 _ fun b4 l4 h4=> ?_
 exact SP.fin ⟨trivial,⟨trivial,⟨b1,⟨b2,⟨b3,b4⟩⟩⟩⟩⟩
theorem H7:nb ck Tp:=by
 intro x hw left hl
 show SP _ left (Tp x left)
 rw[Oj]
 refine SP.call (DQ x.1 hw.1 left hl) hl _ fun b0 l0 h0=> ?_
 refine SP.call (DP x.2.1 hw.2.1 l0 h0) h0 _ fun b1 l1 h1=> ?_
 refine SP.call (H5 x.2.2 hw.2.2 l1 h1) h1 _ fun b2 l2 h2=> ?_
 exact SP.fin ⟨b0,⟨b1,b2⟩⟩
theorem DR:nb (.list ck) F3:=by
 intro x hw left hl
 show SP _ left (F3 x left)
 rw[Ok]
 exact gB x hw Tp H7 (F3.a x) (fun hb left i hi=>by
  rw[F3.a_eq,ai,aj,ab hi,an i _ hi (by omega)];rfl) (fun left=>by
  rw[F3.a_eq,ai,ak (aB _),ac]) left hl
theorem DS:nb TSys Uh:=by
 intro x hw left hl
 show SP _ left (Uh x left)
 rw[Ol]
 refine SP.call (H6 x.1 hw.1 left hl) hl _ fun b0 l0 h0=> ?_
 refine SP.call (Az x.2.1 hw.2.1 l0 h0) h0 _ fun b1 l1 h1=> ?_
 refine SP.call (DR x.2.2 hw.2.2 l1 h1) h1 _ fun b2 l2 h2=> ?_
 exact SP.fin ⟨b0,⟨b1,b2⟩⟩
theorem DT:lY bE Ur:=by
 intro x _ _
 show Ur x=_
 rw[Qk]
theorem AA:lY (.list bE) Gm:=by
 intro x hw hb
 show Gm x=_
 rw[Ql]
 exact d9 (τ:=bE) x 48 (by omega) hb.1 _ (Gm.a x) (fun acc i hi ha=>by
  rw[Gm.a_eq,ai,aj,ab hi,an i _ hi (by have:=hb.1;omega),DT _ (hw.2 _ (au (τ:=bE) x i hi)) (hb.2 _ (au (τ:=bE) x i hi))]
  simp only[ae,af]
  rw[aj,show decide (i<acc.length)=true from ab (by rw[ha];exact hi),aP];rfl) (fun acc=>by
  rw[Gm.a_eq,ai,ak (aB _),ac])
theorem H8:lY bb Ux:=by
 intro x _ _
 show Ux x=_
 rw[Qv]
theorem DU:lY (.list bb) Gq:=by
 intro x hw hb
 show Gq x=_
 rw[Qw]
 exact d9 (τ:=bb) x 56 (by omega) hb.1 _ (Gq.a x) (fun acc i hi ha=>by
  rw[Gq.a_eq,ai,aj,ab hi,an i _ hi (by have:=hb.1;omega),H8 _ (hw.2 _ (au (τ:=bb) x i hi)) (hb.2 _ (au (τ:=bb) x i hi))]
  simp only[ae,af]
  rw[aj,show decide (i<acc.length)=true from ab (by rw[ha];exact hi),aP];rfl) (fun acc=>by
  rw[Gq.a_eq,ai,ak (aB _),ac])
theorem KG:lY aL Ut:=by
 intro x _ _
 show Ut x=_
 rw[Qn]
theorem H9:lY (.list aL) Gn:=by
 intro x hw hb
 show Gn x=_
 rw[Qo]
 exact d9 (τ:=aL) x 32 (by omega) hb.1 _ (Gn.a x) (fun acc i hi ha=>by
  rw[Gn.a_eq,ai,aj,ab hi,an i _ hi (by have:=hb.1;omega),KG _ (hw.2 _ (au (τ:=aL) x i hi)) (hb.2 _ (au (τ:=aL) x i hi))]
  simp only[ae,af]
  rw[aj,show decide (i<acc.length)=true from ab (by rw[ha];exact hi),aP];rfl) (fun acc=>by
  rw[Gn.a_eq,ai,ak (aB _),ac])
theorem DV:lY sS Uy:=by
 intro x _ _
 show Uy x=_
 rw[Qx]
theorem AB:lY (.list sS) Gr:=by
 intro x hw hb
 show Gr x=_
 rw[Qy]
 exact d9 (τ:=sS) x 24 (by omega) hb.1 _ (Gr.a x) (fun acc i hi ha=>by
  rw[Gr.a_eq,ai,aj,ab hi,an i _ hi (by have:=hb.1;omega),DV _ (hw.2 _ (au (τ:=sS) x i hi)) (hb.2 _ (au (τ:=sS) x i hi))]
  simp only[ae,af]
  rw[aj,show decide (i<acc.length)=true from ab (by rw[ha];exact hi),aP];rfl) (fun acc=>by
  rw[Gr.a_eq,ai,ak (aB _),ac])
theorem vS:lY aS UA:=by
 intro x _ _
 show UA x=_
 rw[QA]
theorem tl:lY (.list aS) Gs:=by
 intro x hw hb
 show Gs x=_
 rw[QB]
 exact d9 (τ:=aS) x 48 (by omega) hb.1 _ (Gs.a x) (fun acc i hi ha=>by
  rw[Gs.a_eq,ai,aj,ab hi,an i _ hi (by have:=hb.1;omega),vS _ (hw.2 _ (au (τ:=aS) x i hi)) (hb.2 _ (au (τ:=aS) x i hi))]
  simp only[ae,af]
  rw[aj,show decide (i<acc.length)=true from ab (by rw[ha];exact hi),aP];rfl) (fun acc=>by
  rw[Gs.a_eq,ai,ak (aB _),ac])
theorem vT:lY bF UB:=by
 intro x _ _
 show UB x=_
 rw[QC]
theorem tn:lY (.list bF) Gt:=by
 intro x hw hb
 show Gt x=_
 rw[QD]
 exact d9 (τ:=bF) x 32 (by omega) hb.1 _ (Gt.a x) (fun acc i hi ha=>by
  rw[Gt.a_eq,ai,aj,ab hi,an i _ hi (by have:=hb.1;omega),vT _ (hw.2 _ (au (τ:=bF) x i hi)) (hb.2 _ (au (τ:=bF) x i hi))]
  simp only[ae,af]
  rw[aj,show decide (i<acc.length)=true from ab (by rw[ha];exact hi),aP];rfl) (fun acc=>by
  rw[Gt.a_eq,ai,ak (aB _),ac])
theorem Ia:lY cH UC:=by
 intro x _ _
 show UC x=_
 rw[QE]
theorem DW:lY (.list cH) Gu:=by
 intro x hw hb
 show Gu x=_
 rw[QF]
 exact d9 (τ:=cH) x 48 (by omega) hb.1 _ (Gu.a x) (fun acc i hi ha=>by
  rw[Gu.a_eq,ai,aj,ab hi,an i _ hi (by have:=hb.1;omega),Ia _ (hw.2 _ (au (τ:=cH) x i hi)) (hb.2 _ (au (τ:=cH) x i hi))]
  simp only[ae,af]
  rw[aj,show decide (i<acc.length)=true from ab (by rw[ha];exact hi),aP];rfl) (fun acc=>by
  rw[Gu.a_eq,ai,ak (aB _),ac])
theorem tp:lY et UD:=by
 intro x _ _
 show UD x=_
 rw[QG]
theorem rM:lY (.list et) Gw:=by
 intro x hw hb
 show Gw x=_
 rw[QH]
 exact d9 (τ:=et) x 16 (by omega) hb.1 _ (Gw.a x) (fun acc i hi ha=>by
  rw[Gw.a_eq,ai,aj,ab hi,an i _ hi (by have:=hb.1;omega),tp _ (hw.2 _ (au (τ:=et) x i hi)) (hb.2 _ (au (τ:=et) x i hi))]
  simp only[ae,af]
  rw[aj,show decide (i<acc.length)=true from ab (by rw[ha];exact hi),aP];rfl) (fun acc=>by
  rw[Gw.a_eq,ai,ak (aB _),ac])
theorem KH:lY gA UG:=by
 intro x _ _
 show UG x=_
 rw[QL]
theorem Ib:lY (.list gA) Gx:=by
 intro x hw hb
 show Gx x=_
 rw[QM]
 exact d9 (τ:=gA) x 16 (by omega) hb.1 _ (Gx.a x) (fun acc i hi ha=>by
  rw[Gx.a_eq,ai,aj,ab hi,an i _ hi (by have:=hb.1;omega),KH _ (hw.2 _ (au (τ:=gA) x i hi)) (hb.2 _ (au (τ:=gA) x i hi))]
  simp only[ae,af]
  rw[aj,show decide (i<acc.length)=true from ab (by rw[ha];exact hi),aP];rfl) (fun acc=>by
  rw[Gx.a_eq,ai,ak (aB _),ac])
theorem vU:lY (.list (.int .i64)) Cq:=by
 intro x hw hb
 show Cq x=_
 rw[Qs]
 exact d9 (τ:=(.int .i64)) x 8 (by omega) hb.1 _ (Cq.a x) (fun acc i hi ha=>by
  rw[Cq.a_eq,ai,aj,ab hi,an i _ hi (by have:=hb.1;omega)]
  rw[aj,show decide (i<acc.length)=true from ab (by rw[ha];exact hi),aP];rfl) (fun acc=>by
  rw[Cq.a_eq,ai,ak (aB _),ac])
theorem rN:lY (.list .str) EK:=by
 intro x hw hb
 show EK x=_
 rw[QJ]
 exact d9 (τ:= .str) x 16 (by omega) hb.1 _ (EK.a x) (fun acc i hi ha=>by
  rw[EK.a_eq,ai,aj,ab hi,an i _ hi (by have:=hb.1;omega)]
  rw[aj,show decide (i<acc.length)=true from ab (by rw[ha];exact hi),aP];rfl) (fun acc=>by
  rw[EK.a_eq,ai,ak (aB _),ac])
theorem DX:lY (.arr (.int .i64) 32) Cp:=by
 intro x hw hb
 show Cp x=_
 have hl:List.length x=32:=hw.1
 rw[Qq]
 have h:=xX (τ:= .int .i64) x (fun acc i=>Cp.a x [0,0,0,0,0,0,0,0,0,0,0,0,0,0,0,0,0,0,0,0,0,0,0,0,0,0,0,0,0,0,0,0] acc i) (fun acc i hi ha=>by
  show Cp.a x _ acc (i:Int)=_
  rw[Cp.a_eq,ab (show(i:Int)<32 by omega),aj,ab (show i<32 by omega),an i 32 (by omega) (by omega),aP];rfl) (fun acc=>by
  show Cp.a x _ acc (List.length x:Int)=_
  rw[Cp.a_eq,hl];rfl) 32 0 (List.replicate 32 (0:Int)) (by rw[hl]) (by simp)
 exact h
theorem KI:lY Jx Uv:=by
 intro x hw hb
 show Uv x=_
 rw[Qr,DX x.1 hw.1 hb.1]
 rfl
theorem DY:lY ei Uw:=by
 intro x hw hb
 show Uw x=_
 rw[Qt,KI x.2.1 hw.2.1 hb.2.1,vU x.2.2.1 hw.2.2.1 hb.2.2.1]
 rfl
theorem AC:lY (.list ei) Gp:=by
 intro x hw hb
 show Gp x=_
 rw[Qu]
 exact d9 (τ:=ei) x 304 (by omega) hb.1 _ (Gp.a x) (fun acc i hi ha=>by
  rw[Gp.a_eq,ai,aj,ab hi,an i _ hi (by have:=hb.1;omega),DY _ (hw.2 _ (au (τ:=ei) x i hi)) (hb.2 _ (au (τ:=ei) x i hi))]
  simp only[ae,af]
  rw[aj,show decide (i<acc.length)=true from ab (by rw[ha];exact hi),aP];rfl) (fun acc=>by
  rw[Gp.a_eq,ai,ak (aB _),ac])
theorem Ic:lY KD Us:=by
 intro x hw hb
 show Us x=_
 rw[Qm,AA x.2.2 hw.2.2 hb.2.2]
 rfl
theorem DZ:lY (.list aL) Uu:=by
 intro x hw hb
 show Uu x=_
 rw[Qp,H9 x hw hb]
 rfl
theorem AD:lY KE Uz:=by
 intro x hw hb
 show Uz x=_
 rw[Qz,DZ x.1 hw.1 hb.1,AC x.2.1 hw.2.1 hb.2.1,DU x.2.2.1 hw.2.2.1 hb.2.2.1,AB x.2.2.2 hw.2.2.2 hb.2.2.2]
 rfl
theorem Ea:lY KA UF:=by
 intro x hw hb
 show UF x=_
 rw[QK,vU x.1 hw.1 hb.1,rN x.2.1 hw.2.1 hb.2.1,vU x.2.2.1 hw.2.2.1 hb.2.2.1,rN x.2.2.2 hw.2.2.2 hb.2.2.2]
 rfl
theorem Eb:lY DJ UE:=by
 intro x hw hb
 show UE x=_
 rw[QI,tl x.2.2.1 hw.2.2.1 hb.2.2.1,tn x.2.2.2.1 hw.2.2.2.1 hb.2.2.2.1,DW x.2.2.2.2.1 hw.2.2.2.2.1 hb.2.2.2.2.1,rM x.2.2.2.2.2 hw.2.2.2.2.2 hb.2.2.2.2.2]
 rfl
theorem Id:lY ck UH:=by
 intro x hw hb
 show UH x=_
 rw[QN,Eb x.1 hw.1 hb.1,Ea x.2.1 hw.2.1 hb.2.1,Ib x.2.2 hw.2.2 hb.2.2]
 rfl
theorem Ec:lY (.list ck) Gy:=by
 intro x hw hb
 show Gy x=_
 rw[QO]
 exact d9 (τ:=ck) x 240 (by omega) hb.1 _ (Gy.a x) (fun acc i hi ha=>by
  rw[Gy.a_eq,ai,aj,ab hi,an i _ hi (by have:=hb.1;omega),Id _ (hw.2 _ (au (τ:=ck) x i hi)) (hb.2 _ (au (τ:=ck) x i hi))]
  simp only[ae,af]
  rw[aj,show decide (i<acc.length)=true from ab (by rw[ha];exact hi),aP];rfl) (fun acc=>by
  rw[Gy.a_eq,ai,ak (aB _),ac])
theorem Ed:lY TSys Sj:=by
 intro x hw hb
 show Sj x=_
 rw[QP,Ic x.1 hw.1 hb.1,AD x.2.1 hw.2.1 hb.2.1,Ec x.2.2 hw.2.2 hb.2.2]
 rfl
theorem Ee:lZ bE TM:=by
 intro x _ _
 show TM x x=_
 rw[MP]
 simp[a9]
theorem AE:lZ (.list bE) FI:=by
 intro x hw hb
 show FI x x=_
 have h1:List.length x≤1048576:=hb.1
 rw[MQ,ab (rfl:(List.length x:Int)=(List.length x:Int)),aH,ac]
 refine dH (FI.a x x) (List.length x) (fun i hi=> ?_) ?_
 ·rw[FI.a_eq,ai,aj,ab hi,an i _ hi (by omega),Ee _ (hw.2 _ (au (τ:=bE) x i hi)) (hb.2 _ (au (τ:=bE) x i hi))];rfl
 ·rw[FI.a_eq,ai,ak (aB _),ac]
theorem Ie:lZ bb TS:=by
 intro x _ _
 show TS x x=_
 rw[M0]
 simp[a9]
theorem Ef:lZ (.list bb) FM:=by
 intro x hw hb
 show FM x x=_
 have h1:List.length x≤1048576:=hb.1
 rw[M1,ab (rfl:(List.length x:Int)=(List.length x:Int)),aH,ac]
 refine dH (FM.a x x) (List.length x) (fun i hi=> ?_) ?_
 ·rw[FM.a_eq,ai,aj,ab hi,an i _ hi (by omega),Ie _ (hw.2 _ (au (τ:=bb) x i hi)) (hb.2 _ (au (τ:=bb) x i hi))];rfl
 ·rw[FM.a_eq,ai,ak (aB _),ac]
theorem KJ:lZ aL TO:=by
 intro x _ _
 show TO x x=_
 rw[MS]
 simp[a9]
theorem If:lZ (.list aL) FJ:=by
 intro x hw hb
 show FJ x x=_
 have h1:List.length x≤1048576:=hb.1
 rw[MT,ab (rfl:(List.length x:Int)=(List.length x:Int)),aH,ac]
 refine dH (FJ.a x x) (List.length x) (fun i hi=> ?_) ?_
 ·rw[FJ.a_eq,ai,aj,ab hi,an i _ hi (by omega),KJ _ (hw.2 _ (au (τ:=aL) x i hi)) (hb.2 _ (au (τ:=aL) x i hi))];rfl
 ·rw[FJ.a_eq,ai,ak (aB _),ac]
theorem Eg:lZ sS TT:=by
 intro x _ _
 show TT x x=_
 rw[M2]
 simp[]
theorem AF:lZ (.list sS) FN:=by
 intro x hw hb
 show FN x x=_
 have h1:List.length x≤1048576:=hb.1
 rw[M3,ab (rfl:(List.length x:Int)=(List.length x:Int)),aH,ac]
 refine dH (FN.a x x) (List.length x) (fun i hi=> ?_) ?_
 ·rw[FN.a_eq,ai,aj,ab hi,an i _ hi (by omega),Eg _ (hw.2 _ (au (τ:=sS) x i hi)) (hb.2 _ (au (τ:=sS) x i hi))];rfl
 ·rw[FN.a_eq,ai,ak (aB _),ac]
theorem vV:lZ aS TV:=by
 intro x _ _
 show TV x x=_
 rw[M5]
 simp[a9]
theorem tq:lZ (.list aS) FO:=by
 intro x hw hb
 show FO x x=_
 have h1:List.length x≤1048576:=hb.1
 rw[M6,ab (rfl:(List.length x:Int)=(List.length x:Int)),aH,ac]
 refine dH (FO.a x x) (List.length x) (fun i hi=> ?_) ?_
 ·rw[FO.a_eq,ai,aj,ab hi,an i _ hi (by omega),vV _ (hw.2 _ (au (τ:=aS) x i hi)) (hb.2 _ (au (τ:=aS) x i hi))];rfl
 ·rw[FO.a_eq,ai,ak (aB _),ac]
theorem vW:lZ bF TW:=by
 intro x _ _
 show TW x x=_
 rw[M7]
 simp[a9]
theorem tr:lZ (.list bF) FP:=by
 intro x hw hb
 show FP x x=_
 have h1:List.length x≤1048576:=hb.1
 rw[M8,ab (rfl:(List.length x:Int)=(List.length x:Int)),aH,ac]
 refine dH (FP.a x x) (List.length x) (fun i hi=> ?_) ?_
 ·rw[FP.a_eq,ai,aj,ab hi,an i _ hi (by omega),vW _ (hw.2 _ (au (τ:=bF) x i hi)) (hb.2 _ (au (τ:=bF) x i hi))];rfl
 ·rw[FP.a_eq,ai,ak (aB _),ac]
theorem Ig:lZ cH TX:=by
 intro x _ _
 show TX x x=_
 rw[M9]
 simp[a9]
theorem Eh:lZ (.list cH) FQ:=by
 intro x hw hb
 show FQ x x=_
 have h1:List.length x≤1048576:=hb.1
 rw[Na,ab (rfl:(List.length x:Int)=(List.length x:Int)),aH,ac]
 refine dH (FQ.a x x) (List.length x) (fun i hi=> ?_) ?_
 ·rw[FQ.a_eq,ai,aj,ab hi,an i _ hi (by omega),Ig _ (hw.2 _ (au (τ:=cH) x i hi)) (hb.2 _ (au (τ:=cH) x i hi))];rfl
 ·rw[FQ.a_eq,ai,ak (aB _),ac]
theorem tt:lZ et TY:=by
 intro x _ _
 show TY x x=_
 rw[Nb]
 simp[]
theorem rO:lZ (.list et) FS:=by
 intro x hw hb
 show FS x x=_
 have h1:List.length x≤1048576:=hb.1
 rw[Nc,ab (rfl:(List.length x:Int)=(List.length x:Int)),aH,ac]
 refine dH (FS.a x x) (List.length x) (fun i hi=> ?_) ?_
 ·rw[FS.a_eq,ai,aj,ab hi,an i _ hi (by omega),tt _ (hw.2 _ (au (τ:=et) x i hi)) (hb.2 _ (au (τ:=et) x i hi))];rfl
 ·rw[FS.a_eq,ai,ak (aB _),ac]
theorem KK:lZ gA T3:=by
 intro x _ _
 show T3 x x=_
 rw[Nh]
 simp[]
theorem Ih:lZ (.list gA) FT:=by
 intro x hw hb
 show FT x x=_
 have h1:List.length x≤1048576:=hb.1
 rw[Ni,ab (rfl:(List.length x:Int)=(List.length x:Int)),aH,ac]
 refine dH (FT.a x x) (List.length x) (fun i hi=> ?_) ?_
 ·rw[FT.a_eq,ai,aj,ab hi,an i _ hi (by omega),KK _ (hw.2 _ (au (τ:=gA) x i hi)) (hb.2 _ (au (τ:=gA) x i hi))];rfl
 ·rw[FT.a_eq,ai,ak (aB _),ac]
theorem vX:lZ (.list (.int .i64)) BW:=by
 intro x hw hb
 show BW x x=_
 have h1:List.length x≤1048576:=hb.1
 rw[MX,ab (rfl:(List.length x:Int)=(List.length x:Int)),aH,ac]
 refine dH (BW.a x x) (List.length x) (fun i hi=> ?_) ?_
 ·rw[BW.a_eq,ai,aj,ab hi,an i _ hi (by omega),ab (rfl:rd (τ:= .int .i64) x (i:Int)=rd (τ:= .int .i64) x (i:Int))];rfl
 ·rw[BW.a_eq,ai,ak (aB _),ac]
theorem rP:lZ (.list .str) Dn:=by
 intro x hw hb
 show Dn x x=_
 have h1:List.length x≤1048576:=hb.1
 rw[Nf,ab (rfl:(List.length x:Int)=(List.length x:Int)),aH,ac]
 refine dH (Dn.a x x) (List.length x) (fun i hi=> ?_) ?_
 ·rw[Dn.a_eq,ai,aj,ab hi,an i _ hi (by omega),a9,ab (rfl:rd (τ:= .str) x (i:Int)=rd (τ:= .str) x (i:Int))];rfl
 ·rw[Dn.a_eq,ai,ak (aB _),ac]
end Go.Proofs.YtpnefldgohbepaaGreat.S
