import Derived.Test.YtfgjcohcpehcjaaGreatPsQ
import Derived.Tactics
import Derived.Still
import Derived.Deep.LoopGhost
namespace Go.Ps
set_option linter.unusedVariables false
variable {w w':World} {E:En} {G:Gh} {s s':St} {a:Act} {C:b9} {R:Type} {r:R}
variable {Q:Exit→Act→World→Prop} {o:Oper} {env:C.Env} {ops:Array Oper}
def yu (E:En) (k:St→de→Option R) (r:R) (K:Act→World→Prop):Prop:=∀s' F G' a' w',aK E G' s' a' w'→k s' F=some r→K a' w'
theorem ou (h:aK E G s a w) {x:SV} {v:Value} {k:St→de→Option R} {F:de} {K:Act→World→Prop} (hx:aC G.S G.σ w x v) (e:nA o k F x s=some r) (hk:yu E k r K):K (a.put o.dst v) w:=by
 unfold nA at e
 split at e
 ·rename_i hd
  rw[hd]
  exact hk s F G a w h e
 ·rename_i d hd
  rcases ab e with⟨hlt,e⟩|⟨_,e⟩
  ·rw[hd]
   have hlt:d<s.n:=bi hlt
   exact hk _ F G _ w (h.put hlt hx) e
  ·simp at e
theorem ov (hC:C.OK) (hE:ii E.I C env) (h:aK E G s a w) {id:Nat} (hid:id%128=0) {k:St→de→Option R} {K:Act→World→Prop} (e:(wg C env id o.op s fun x us rs=>nA o k (jx s us rs) x (s.upds us))=some r) (hk:yu E k r K):o.wp C.P a w K Q:=
 AO hC hE h hid e fun x v us rs G' w' h1 h2 h3=>ou h2 h1 h3 hk
theorem kL (h:aK E G s a w) {k:St→de→Option R} {F:de} {K:Act→World→Prop} (e:nA o k F (.tup [] []) s=some r) (hk:yu E k r K):K (a.put o.dst undef) w:=
 ou h (x:= .tup [] []) ⟨[],rfl,[],rfl,rfl,rfl⟩ e hk
theorem ow (hC:C.OK) (hE:ii E.I C env) (h:aK E G s a w) {k:St→de→Option R} {K:Act→World→Prop} (e:fI C env ops o s k=some r) (hk:yu E k r K):
  if Region.wanted o (yielded ops a.tmps)then o.wp C.P a w K Q∨(o.asks C.P a w∧LetsOut Q)else K (a.put o.dst undef) w:=by
 unfold fI gd at e
 split at e
 ·rename_i hg
  rw[av (by simp[Region.wanted,hg])]
  exact .inl (ov hC hE h (by omega) e hk)
 ·rename_i j want hg
  split at e
  ·simp at e
  ·rename_i d hd
   have hval:=h.tmp d
   split at e
   ·rename_i c hc
    rw[hc]at hval
    have hv:=gz (aC.of_v hval (by simp))
    have hget:a.tmps[d]? =some (.bool c):=by
     rw[Array.getD_eq_getD_getElem?]at hv
     cases hq:a.tmps[d]? with
     |none=>rw[hq]at hv;simp[undef]at hv
     |some q=>rw[hq]at hv;simpa using hv
    have hy:yielded ops a.tmps j=some c:=by simp[yielded,hd,hget]
    have hw:Region.wanted o (yielded ops a.tmps)=(c==want):=by simp[Region.wanted,hg,hy]
    rw[hw]
    have hb:∀b,c=b→aK E G (s.put d (.v (.bool b))) a w:=fun b hb=>h.put' (by subst hb;rw[hv];exact aC.v rfl)
    rcases ab e with⟨hc1,e⟩|⟨hc1,e⟩
    ·rcases ab e with⟨hw1,e⟩|⟨hw1,e⟩
     ·rw[av (by rw[hc1,hw1];rfl)];exact .inl (ov hC hE (hb true hc1) (by omega) e hk)
     ·rw[ak (by rw[hc1,hw1];simp)];exact kL (hb true hc1) e hk
    ·rcases ab e with⟨hw1,e⟩|⟨hw1,e⟩
     ·rw[ak (by rw[hc1,hw1];simp)];exact kL (hb false hc1) e hk
     ·rw[av (by rw[hc1,hw1];rfl)];exact .inl (ov hC hE (hb false hc1) (by omega) e hk)
   ·rename_i cs sh hc
    rw[hc]at hval
    obtain⟨xs,hv,_⟩:=hval
    have hy:yielded ops a.tmps j=none:=by
     simp only[yielded,hd,ae]
     rw[Array.getD_eq_getD_getElem?]at hv
     cases hq:a.tmps[d]? with
     |none=>rfl
     |some q=>rw[hq]at hv;simp only[Option.getD_some]at hv;subst hv;rfl
    rw[ak (by simp[Region.wanted,hg,hy])]
    exact kL h e hk
   ·simp at e
theorem qE (hC:C.OK) (hE:ii E.I C env):∀{l:List Oper} {s:St} {G:Gh} {a:Act} {w:World} {k:St→Option R},aK E G s a w→yQ C env ops l s k=some r→yu E (fun s _=>k s) r (Q .normal)→wpList C.P ops Q l a w
 | [],s,G,a,w,k,h,e,hk=>hk s ⟨[],[],[]⟩ G a w h e
 |o::l,s,G,a,w,k,h,e,hk=>by
  simp only[yQ]at e
  obtain⟨G0,h0⟩:=h.closeS (Dy s o.op)
  exact ow hC hE h0 e fun s' F G' a' w' h' e'=>qE hC hE h' e' hk
def DM (ops:Array Oper) (o:Oper) (tmps:Nat→SV):Option Bool:=
 match o.guard with
 |none=>some true
 |some (j,want)=>match(ops[j]?).bind (·.dst)with
  |none=>none
  |some d=>match tmps d with
   | .v (.bool c)=>some (bif c then want else !want)
   | .tup _ _=>some false
   |_=>none
theorem Av {s:St} {d:Nat} {x:SV} (h:s.tmps d=x):s.put d x=s:=by
 cases s with
 |mk n tm mem=>
  simp only[St.put,St.mk.injEq,and_true,true_and]
  funext t
  by_cases e:t=d
  ·subst e;simp only[Nat.beq_refl,ac];exact h.symm
  ·simp only[dF e,af]
theorem H1 (o:Oper) (s:St) (yes no:St→Option R):gd ops o s yes no=(DM ops o s.tmps).bind fun b=>bif b then yes s else no s:=by
 unfold gd DM
 cases o.guard with
 |none=>rfl
 |some g=>
  obtain⟨j,want⟩:=g
  simp only[]
  cases (ops[j]?).bind (·.dst)with
  |none=>rfl
  |some d=>
   simp only[]
   cases hd:s.tmps d with
   |v p=>
    cases p<;>try rfl
    case bool c=>
     cases c<;>cases want<;>simp only[ac,af,aV,Bool.not_false,ae]<;>rw[Av hd]
   |agg _=>rfl
   |tup _ _=>rfl
def Uo (C:b9) (env:C.Env) (ops:Array Oper) (o:Oper) (s:St):Option (SV×List bJ×List Nat):=
 (DM ops o s.tmps).bind fun b=>bif b then wg C env (128*o.dst.getD 0) o.op s gR else some (.tup [] [],[],[])
theorem iN (o:Oper) (s:St) (k:St→de→Option R):fI C env ops o s k=(Uo C env ops o s).bind fun p=>nA o k (jx s p.2.1 p.2.2) p.1 (s.upds p.2.1):=by
 unfold fI
 rw[H1,Uo,Option.bind_assoc]
 refine congrArg _ (funext fun b=> ?_)
 cases b
 ·rfl
 ·simp only[ac];rw[Dt]
def P1 (o:Oper) (x:SV) (s:St):St:=match o.dst with
 |none=>s
 |some d=>s.put d x
def IH (o:Oper) (n:Nat):Bool:=match o.dst with
 |none=>true
 |some d=>Nat.blt d n
theorem ox (o:Oper) (k:St→de→Option R) (F:de) (x:SV) (s:St):nA o k F x s=bif IH o s.n then k (P1 o x s) F else none:=by
 unfold nA IH P1;cases o.dst<;>rfl
theorem Cr (o:Oper) (x:SV) (s:St):(P1 o x s).n=s.n:=by unfold P1;cases o.dst<;>rfl
theorem rT (o:Oper) (x:SV) (s:St):(P1 o x s).mem=s.mem:=by unfold P1;cases o.dst<;>rfl
theorem xp {o:Oper} (x:SV) (s:St) {t:Nat} (h:o.dst≠some t):(P1 o x s).tmps t=s.tmps t:=by
 unfold P1
 cases hd:o.dst with
 |none=>rfl
 |some d=>
  have:t≠d:=fun e=>h (by rw[hd,e])
  simp only[St.put,dF this,af]
def oy:List bJ→Nat→Option cj→Option cj
 | [],_,b=>b
 | .frz id::us,i,b=>oy us i (bif Nat.beq i id then b.map cj.frz else b)
 | .set id x::us,i,b=>oy us i (bif Nat.beq i id then some x else b)
theorem dM:∀(us:List bJ) (s:St) (i:Nat),(s.upds us).mem i=oy us i (s.mem i)
 | [],_,_=>rfl
 | .frz id::us,s,i=>by
  simp only[St.upds,oy]
  rw[dM us]
  congr 1
  by_cases h:i=id
  ·subst h;rw[et,ij];rfl
  ·rw[bF _ h,dF h];rfl
 | .set id x::us,s,i=>by
  simp only[St.upds,oy]
  rw[dM us]
  rfl
theorem dc:∀{us:List bJ} {i:Nat} (b:Option cj),i∉ba us→i∉dN us→oy us i b=b
 | [],_,_,_,_=>rfl
 | .frz id::us,i,b,h,h'=>by
  simp only[ba,dN,List.mem_cons,not_or]at h h'
  simp only[oy,dF h'.1,af]
  exact dc b h h'.2
 | .set id x::us,i,b,h,h'=>by
  simp only[ba,dN,List.mem_cons,not_or]at h h'
  simp only[oy,dF h.1,af]
  exact dc b h.2 h'
theorem xq (b:Option cj):(b.map cj.frz).map cj.frz=b.map cj.frz:=by
 cases b with
 |none=>rfl
 |some b=>cases b<;>rfl
theorem fp:∀{us:List bJ} {i:Nat},i∉ba us→i∈dN us→∀b,oy us i b=b.map cj.frz
 | [],_,_,h=>by cases h
 | .frz id::us,i,h,h'=>fun b=>by
  simp only[ba,dN,List.mem_cons]at h h'
  simp only[oy]
  by_cases hi:i=id
  ·subst hi
   rw[ij,ac]
   by_cases h2:i∈dN us
   ·rw[fp h h2,xq]
   ·rw[dc _ h h2]
  ·rw[dF hi,af]
   exact fp h (h'.resolve_left hi) b
 | .set id x::us,i,h,h'=>fun b=>by
  simp only[ba,dN,List.mem_cons,not_or]at h h'
  simp only[oy,dF h.1,af]
  exact fp h.2 h' b
theorem Aw {s s':St} {i:Nat} (h:s'.mem i=(s.mem i).map cj.frz):bO s' i=false:=by
 unfold bO
 rw[h]
 cases s.mem i with
 |none=>rfl
 |some b=>cases b<;>rfl
theorem ig {us:List bJ} {i:Nat} (s:St) (h:i∉ba us) (h':i∉dN us):(s.upds us).mem i=s.mem i:=by rw[dM,dc _ h h']
theorem tt {us:List bJ} {i:Nat} (s:St) (h:i∉ba us) (h':i∉(dN us).filter (bO s)):bO s i=bO (s.upds us) i∧((s.upds us).mem i).map cj.frz=(s.mem i).map cj.frz:=by
 by_cases hf:i∈dN us
 ·have hd:bO s i=false:=by
   cases hb:bO s i
   ·rfl
   ·exact absurd (List.mem_filter.2 ⟨hf,hb⟩) h'
  have:=fp h hf (s.mem i)
  rw[←dM]at this
  refine⟨by rw[hd,Aw this],by rw[this,xq]⟩
 ·have:=ig s h hf
  exact⟨by unfold bO;rw[this],by rw[this]⟩
theorem tu (us:List bJ) (o:Oper) (x:SV) (s:St):(P1 o x s).upds us=P1 o x (s.upds us):=by
 have key:∀(a b:St),a.n=b.n→a.tmps=b.tmps→a.mem=b.mem→a=b:=fun a b h1 h2 h3=>by cases a;cases b;simp_all
 refine key _ _ ?_ ?_ ?_
 ·rw[fV,Cr,Cr,fV]
 ·rw[du]
  unfold P1
  cases o.dst with
  |none=>rw[du]
  |some d=>simp only[St.put,du]
 ·funext i
  rw[dM,rT,rT,dM]
theorem Cs {o o':Oper} (h:∀d,o.dst=some d→o'.dst≠some d) (x y:SV) (s:St):P1 o x (P1 o' y s)=P1 o' y (P1 o x s):=by
 unfold P1
 cases hd:o.dst with
 |none=>rfl
 |some d=>
  cases hd':o'.dst with
  |none=>rfl
  |some d'=>
   have hne:d≠d':=fun e=>h d hd (by rw[hd',e])
   simp only[St.put,St.mk.injEq,true_and,and_true]
   funext t
   by_cases e:t=d
   ·subst e;simp only[Nat.beq_refl,ac,dF hne,af]
   ·simp only[dF e,af]
theorem Ax {q:SV×List bJ×List Nat} (hs:iy C o.op=true) (hl:∀t∈o.looksAt ops,s'.tmps t=s.tmps t) (e:Uo C env ops o s=some q)
  (hw:∀i∈ba q.2.1,s'.mem i=s.mem i) (hr:∀i∈dN q.2.1++q.2.2,iI s s' i):Uo C env ops o s'=some q:=by
 have hg:DM ops o s'.tmps=DM ops o s.tmps:=by
  unfold DM
  cases hg:o.guard with
  |none=>rfl
  |some g=>
   obtain⟨j,want⟩:=g
   simp only[]
   cases hj:(ops[j]?).bind (·.dst)with
   |none=>rfl
   |some t=>simp only[];rw[hl t (by simp[Oper.looksAt,hg,hj])]
 have hev:∀x∈o.op.operands,s'.ev x=s.ev x:=fun x hx=>by
  cases x with
  |tmp t=>exact hl t (List.mem_append_left _ (List.mem_filterMap.2 ⟨.tmp t,by simpa using hx,rfl⟩))
  |_=>rfl
 unfold Uo at e⊢
 rw[hg]
 cases hb:DM ops o s.tmps with
 |none=>rw[hb]at e;simp at e
 |some b=>
  rw[hb]at e
  cases b
  ·exact e
  ·simp only[ae,ac]at e⊢
   exact DK hs hev e hw hr
theorem tv {us:List bJ} {rs:List Nat} (h:∀i∈dN us,bO s' i=bO s i):jx s' us rs=jx s us rs:=by
 unfold jx
 have h1:(dN us).filter (bO s')=(dN us).filter (bO s):=List.filter_congr fun i hi=>h i hi
 have h2:(dN us).filter (fun i=> !bO s' i)=(dN us).filter (fun i=> !bO s i):=List.filter_congr fun i hi=>by rw[h i hi]
 rw[h1,h2]
theorem mf {us:List bJ} {rs:List Nat} {i:Nat} (h:i∉(jx s us rs).w):i∉ba us∧i∉(dN us).filter (bO s):=by
 simp only[jx,List.mem_append,not_or]at h;exact h
theorem nL {us:List bJ} {rs:List Nat} {i:Nat} (h:i∉(jx s us rs).w) (h':i∉(jx s us rs).f):i∉ba us∧i∉dN us:=by
 refine⟨(mf h).1,fun hf=> ?_⟩
 cases hb:bO s i
 ·exact h' (List.mem_filter.2 ⟨hf,by simp[hb]⟩)
 ·exact(mf h).2 (List.mem_filter.2 ⟨hf,hb⟩)
theorem oz {us:List bJ} {rs:List Nat} {i:Nat} (h:i∈ba us):i∈(jx s us rs).w:=List.mem_append_left _ h
theorem fK {us:List bJ} {rs:List Nat} {i:Nat} (h:i∈dN us++rs):i∈(jx s us rs).w∨i∈(jx s us rs).f++(jx s us rs).r:=by
 rcases List.mem_append.1 h with h|h
 ·cases hb:bO s i
  ·exact .inr (List.mem_append_left _ (List.mem_filter.2 ⟨h,by simp[hb]⟩))
  ·exact .inl (List.mem_append_right _ (List.mem_filter.2 ⟨h,hb⟩))
 ·exact .inr (List.mem_append_right _ h)
theorem H3 {oi oj:Oper} {Fi Fj:de} (hi:iy C oi.op=true) (hj:iy C oj.op=true) (hap:oi.apart ops oj=true) (hfr:Fi.free Fj=true) {s s1 s2:St}
  (e1:fI C env ops oi s ej=some (s1,Fi)) (e2:fI C env ops oj s1 ej=some (s2,Fj)):∃s3,fI C env ops oj s ej=some (s3,Fj)∧fI C env ops oi s3 ej=some (s2,Fi):=by
 obtain⟨a1,a2,a3⟩:=Oper.apart_spec hap
 have a4:∀d,oj.dst=some d→oi.dst≠some d:=fun d h h'=>a2 d h' h
 simp only[de.free,aB]at hfr
 have f1:=fO hfr.1
 have f2:=fO hfr.2
 rw[iN,Option.bind_eq_some_iff]at e1
 obtain⟨⟨x,ui,ri⟩,hx,e1⟩:=e1
 rw[iN,Option.bind_eq_some_iff]at e2
 obtain⟨⟨y,uj,rj⟩,hy,e2⟩:=e2
 simp only[ox]at e1 e2
 rcases ab e1 with⟨c1,e1⟩|⟨_,e1⟩
 ·rcases ab e2 with⟨c2,e2⟩|⟨_,e2⟩
  ·simp only[ej,aa,ar]at e1 e2
   obtain⟨e1,g1⟩:=e1
   obtain⟨e2,g2⟩:=e2
   have hm1:s1.mem=(s.upds ui).mem:=by rw[←e1,rT]
   have hjw:∀k,k∈Fj.w→s.mem k=s1.mem k:=fun k hk=>by
    have h1:k∉Fi.w:=fun h=>f1 k h (List.mem_append_left _ hk)
    have h2:k∉Fi.f:=fun h=>f2 k hk (List.mem_append_left _ h)
    rw[←g1]at h1 h2
    obtain⟨h3,h4⟩:=nL h1 h2
    rw[hm1,ig s h3 h4]
   have hja:∀k,k∈Fj.w∨k∈Fj.f++Fj.r→iI s1 s k:=fun k hk=>by
    rcases hk with hk|hk
    ·exact .inl (hjw k hk)
    ·have h1:k∉Fi.w:=fun h=>f1 k h (List.mem_append_right _ hk)
     rw[←g1]at h1
     obtain⟨h3,h4⟩:=mf h1
     by_cases hf:k∈dN ui
     ·obtain⟨h5,h6⟩:=tt s h3 h4
      have hd:bO s k=false:=by
       cases hb:bO s k
       ·rfl
       ·exact absurd (List.mem_filter.2 ⟨hf,hb⟩) h4
      have hd1:bO s1 k=false:=by unfold bO at h5 hd⊢;rw[hm1];rw[←h5];exact hd
      exact .inr ⟨hd1,hd,by rw[hm1,h6]⟩
     ·exact .inl (by rw[hm1,ig s h3 hf])
   have hy':Uo C env ops oj s=some (y,uj,rj):=Ax hj (fun t ht=>by
     rw[←e1,xp x _ (fun h=>a1 t h ht),du]) hy (fun k hk=>hjw k (by rw[←g2];exact oz hk)) (fun k hk=>hja k (by rw[←g2];exact fK hk))
   have g2':jx s uj rj=Fj:=by
    rw[←g2]
    exact tv fun k hk=>s9 (hja k (by rw[←g2];exact fK (List.mem_append_left _ hk)))
   have hm3:(P1 oj y (s.upds uj)).mem=(s.upds uj).mem:=rT _ _ _
   have hiw:∀k,k∈Fi.w→(P1 oj y (s.upds uj)).mem k=s.mem k:=fun k hk=>by
    have h1:k∉Fj.w:=fun h=>f1 k hk (List.mem_append_left _ h)
    have h2:k∉Fj.f:=fun h=>f1 k hk (List.mem_append_right _ (List.mem_append_left _ h))
    rw[←g2']at h1 h2
    obtain⟨h3,h4⟩:=nL h1 h2
    rw[hm3,ig s h3 h4]
   have hia:∀k,k∈Fi.w∨k∈Fi.f++Fi.r→iI s (P1 oj y (s.upds uj)) k:=fun k hk=>by
    rcases hk with hk|hk
    ·exact .inl (hiw k hk)
    ·have h1:k∉Fj.w:=fun h=>f2 k h hk
     rw[←g2']at h1
     obtain⟨h3,h4⟩:=mf h1
     by_cases hf:k∈dN uj
     ·obtain⟨h5,h6⟩:=tt s h3 h4
      have hd:bO s k=false:=by
       cases hb:bO s k
       ·rfl
       ·exact absurd (List.mem_filter.2 ⟨hf,hb⟩) h4
      have hd1:bO (P1 oj y (s.upds uj)) k=false:=by unfold bO at h5 hd⊢;rw[hm3];rw[←h5];exact hd
      exact .inr ⟨hd,hd1,by rw[hm3,h6]⟩
     ·exact .inl (by rw[hm3,ig s h3 hf])
   have hx':Uo C env ops oi (P1 oj y (s.upds uj))=some (x,ui,ri):=Ax hi (fun t ht=>by
     rw[xp y _ (fun h=>a3 t h ht),du]) hx (fun k hk=>hiw k (by rw[←g1];exact oz hk)) (fun k hk=>hia k (by rw[←g1];exact fK hk))
   have g1':jx (P1 oj y (s.upds uj)) ui ri=Fi:=by
    rw[←g1]
    exact tv fun k hk=>s9 (hia k (by rw[←g1];exact fK (List.mem_append_left _ hk)))
   have hn1:s1.n=s.n:=by rw[←e1,Cr,fV]
   rw[fV]at c1 c2
   rw[hn1]at c2
   have hcm:(s.upds ui).upds uj=(s.upds uj).upds ui:=by
    have key:∀(a b:St),a.n=b.n→a.tmps=b.tmps→a.mem=b.mem→a=b:=fun a b h1 h2 h3=>by cases a;cases b;simp_all
    refine key _ _ (by simp only[fV]) (by simp only[du]) (funext fun k=> ?_)
    rw[dM,dM,dM,dM]
    by_cases hk:k∈Fi.w
    ·have h1:k∉Fj.w:=fun h=>f1 k hk (List.mem_append_left _ h)
     have h2:k∉Fj.f:=fun h=>f1 k hk (List.mem_append_right _ (List.mem_append_left _ h))
     rw[←g2']at h1 h2
     obtain⟨h3,h4⟩:=nL h1 h2
     rw[dc _ h3 h4,dc _ h3 h4]
    ·by_cases hk':k∈Fj.w
     ·have h1:k∉Fi.f:=fun h=>f2 k hk' (List.mem_append_left _ h)
      rw[←g1]at hk h1
      obtain⟨h3,h4⟩:=nL hk h1
      rw[dc _ h3 h4,dc _ h3 h4]
     ·rw[←g1]at hk
      rw[←g2']at hk'
      have h3:=(mf hk).1
      have h4:=(mf hk').1
      by_cases hf:k∈dN ui<;>by_cases hf':k∈dN uj
      ·rw[fp h3 hf,fp h4 hf',fp h4 hf',fp h3 hf]
      ·rw[dc _ h4 hf',dc _ h4 hf']
      ·rw[dc _ h3 hf,dc _ h3 hf]
      ·rw[dc _ h3 hf,dc _ h3 hf]
   refine⟨P1 oj y (s.upds uj), ?_, ?_⟩
   ·rw[iN,hy',ae]
    simp only[ox,fV,c2,ac,g2']
   ·rw[iN,hx',ae]
    simp only[ox,fV,Cr,c1,ac,g1']
    rw[tu,←hcm,Cs a2,←tu,e1,e2]
  ·simp at e2
 ·simp at e1
theorem kM (o:Oper) (s:St) (k:St→de→Option R):fI C env ops o s k=(fI C env ops o s ej).bind (lq k):=by
 rw[iN,iN (k:=ej),Option.bind_assoc]
 refine congrArg _ (funext fun p=> ?_)
 rw[ox,ox,ct]
 rfl
theorem jU:∀{R:Type} (l:List Oper) (s:St) (k:St→List de→Option R),nB C env ops l s k=(nB C env ops l s ej).bind (lq k)
 |_,[],_,_=>rfl
 |_,o::l,s,k=>by
  simp only[nB]
  rw[kM,kM (k:=fun s F=>nB C env ops l s fun s Fs=>ej s (F::Fs)),Option.bind_assoc]
  refine congrArg _ (funext fun p=> ?_)
  simp only[lq]
  rw[jU l _ (fun s Fs=>k s (p.2::Fs)),jU l _ (fun s Fs=>ej s (p.2::Fs)),Option.bind_assoc]
  rfl
def tw (C:b9) (env:C.Env) (ops:Array Oper) (Fn:Nat→de) (Fin:St→Prop):Nat→Array Bool→St→Prop
 |0,listed,s=>Region.ready .any ops listed=[]∧Fin s
 |fuel+1,listed,s=>(Region.ready .any ops listed=[]→Fin s)∧∀i∈Region.ready .any ops listed,∃o s',ops[i]? =some o∧fI C env ops o s ej=some (s',Fn i)∧tw C env ops Fn Fin fuel (listed.setIfInBounds i true) s'
theorem mW (hC:C.OK) (hE:ii E.I C env) {Fn:Nat→de} {Fin:St→Prop} (hF:∀s' G' a' w',aK E G' s' a' w'→Fin s'→Q .normal a' w'):∀(fuel:Nat) (listed:Array Bool) (s:St) (G:Gh) (a:Act) (w:World),aK E G s a w→tw C env ops Fn Fin fuel listed s→wpAny C.P .any ops Q fuel listed a w
 |0,listed,s,G,a,w,h,hs=>⟨hs.1,hF s G a w h hs.2⟩
 |fuel+1,listed,s,G,a,w,h,hs=>by
  refine⟨fun h0=>hF s G a w h (hs.1 h0),fun i hi=> ?_⟩
  obtain⟨o,s',ho,e,hrest⟩:=hs.2 i hi
  unfold wpOp
  simp only[ho]
  exact ow hC hE h e fun s'' F G' a' w' h' e'=>by
   simp only[ej,aa,ar]at e'
   rw[←e'.1]at hrest
   exact mW hC hE hF fuel _ _ G' a' w' h' hrest
def mg (ops:Array Oper) (listed:Array Bool):Prop:=∀m om,ops[m]? =some om→listed.getD m true=true→∀e∈om.after,Region.binds .any e=true→listed.getD e.on true=true
theorem mX {listed:Array Bool} {i m:Nat} (h:listed.getD m true=true):(listed.setIfInBounds i true).getD m true=true:=by
 by_cases e:i=m
 ·subst e;simp only[Array.getD_eq_getD_getElem?,Array.getElem?_setIfInBounds];simp only[if_true];split<;>rfl
 ·rw[getD_set_ne true e];exact h
theorem mg.set {listed:Array Bool} (h:mg ops listed) {i:Nat} {oi:Oper} (hi:ops[i]? =some oi) (hall:∀e∈oi.after,Region.binds .any e=true→listed.getD e.on true=true):mg ops (listed.setIfInBounds i true):=by
 intro m om hm hl e he hb
 by_cases hmi:m=i
 ·subst hmi
  rw[hi]at hm
  simp only[aa]at hm
  subst hm
  exact mX (hall e he hb)
 ·rw[getD_set_ne true (Ne.symm hmi)]at hl
  exact mX (h m om hm hl e he hb)
theorem lk {listed:Array Bool} {i:Nat} (h:listed.getD i false=true):listed.getD i true=true:=by
 rw[Array.getD_eq_getD_getElem?]at h⊢
 cases hq:listed[i]? with
 |none=>rfl
 |some b=>rw[hq]at h;exact h
def ll (ops:Array Oper) (m k:Nat):Prop:=∀listed,mg ops listed→(∀om,ops[m]? =some om→∀e∈om.after,Region.binds .any e=true→listed.getD e.on true=true)→listed.getD k true=true
theorem kN {ms:List Nat} {i:Nat}:∀{es:List Edge} {m:Nat},qR ms i es=some m→(∀e∈es,Region.binds .any e=true→e.on<i)∧∀k,Nat.testBit m k=true→∃e∈es,Region.binds .any e=true∧(k=e.on∨Nat.testBit (fY ms e.on) k=true)
 | [],m,h=>by
  simp only[qR,aa]at h
  subst h
  exact⟨fun e he=>(by cases he),fun k hk=>(by simp at hk)⟩
 |e::es,m,h=>by
  simp only[qR]at h
  rcases ab h with⟨hb,h⟩|⟨hb,h⟩
  ·rcases ab h with⟨hlt,h⟩|⟨_,h⟩
   ·split at h
    ·rename_i m' hm'
     simp only[aa]at h
     obtain⟨h1,h2⟩:=kN hm'
     refine⟨fun e' he' hb'=> ?_,fun k hk=> ?_⟩
     ·rcases List.mem_cons.1 he' with rfl|he'
      ·exact bi hlt
      ·exact h1 e' he' hb'
     ·rw[←h]at hk
      change Nat.testBit (((1<<<e.on)|||fY ms e.on)|||m') k=true at hk
      rw[Nat.testBit_or,Nat.testBit_or,Bool.or_eq_true,Bool.or_eq_true]at hk
      rcases hk with(hk|hk)|hk
      ·refine⟨e,by simp,hb,.inl ?_⟩
       rw[Nat.one_shiftLeft,Nat.testBit_two_pow]at hk
       exact(by simpa using hk:e.on=k).symm
      ·exact⟨e,by simp,hb,.inr hk⟩
      ·obtain⟨e',he',hb',hk⟩:=h2 k hk
       exact⟨e',by simp[he'],hb',hk⟩
    ·simp at h
   ·simp at h
  ·obtain⟨h1,h2⟩:=kN h
   refine⟨fun e' he' hb'=> ?_,fun k hk=> ?_⟩
   ·rcases List.mem_cons.1 he' with rfl|he'
    ·rw[hb]at hb';simp at hb'
    ·exact h1 e' he' hb'
   ·obtain⟨e',he',hb',hk⟩:=h2 k hk
    exact⟨e',by simp[he'],hb',hk⟩
theorem oA:∀{l:List Oper} {i:Nat} {ms ms':List Nat},(∀j,l[j]? =ops[i+j]?)→ms.length=i→(∀m,m<i→∀k,Nat.testBit (fY ms m) k=true→ll ops m k)→(∀m om,m<i→ops[m]? =some om→∀e∈om.after,Region.binds .any e=true→e.on<m)→t7 l i ms=some ms'→
  (∀m,∀k,m<i+l.length→Nat.testBit (fY ms' m) k=true→ll ops m k)∧ms'.length=i+l.length∧(∀m om,ops[m]? =some om→∀e∈om.after,Region.binds .any e=true→e.on<m)
 | [],i,ms,ms',hl,hn,hms,hed,h=>by
  simp only[t7,aa]at h
  subst h
  refine⟨fun m k hm=>hms m (by simpa using hm) k,by simpa using hn,fun m om hm=>hed m om ?_ hm⟩
  have h0:=hl 0
  simp only[List.getElem?_nil,Nat.add_zero]at h0
  have:=(Array.getElem?_eq_none_iff.1 h0.symm)
  have:=(Array.getElem?_eq_some_iff.1 hm).1
  omega
 |o::l,i,ms,ms',hl,hn,hms,hed,h=>by
  simp only[t7]at h
  split at h
  ·rename_i m0 hm0
   obtain⟨h1,h2⟩:=kN hm0
   have h0:ops[i]? =some o:=by simpa using(hl 0).symm
   have hat:∀m,m<i→fY (ms++[m0]) m=fY ms m:=fun m hm=>by
    simp only[fY,List.getD_eq_getElem?_getD]
    rw[List.getElem?_append_left (by omega)]
   have hi:fY (ms++[m0]) i=m0:=by
    simp only[fY,List.getD_eq_getElem?_getD]
    rw[List.getElem?_append_right (by omega),hn];simp
   obtain⟨g1,g2,g3⟩:=oA (l:=l) (i:=i+1) (ms:=ms++[m0]) (fun j=>by have:=hl (j+1);simpa[Nat.add_assoc,Nat.add_comm 1 j]using this) (by simp[hn]) (fun m hm k hk=>by
     rcases Nat.lt_or_ge m i with hmi|hmi
     ·rw[hat m hmi]at hk;exact hms m hmi k hk
     ·have:m=i:=by omega
      subst this
      rw[hi]at hk
      obtain⟨e,he,hb,hk⟩:=h2 k hk
      intro listed hcl hall
      have he1:=hall o h0 e (by simpa using he) hb
      rcases hk with rfl|hk
      ·exact he1
      ·exact hms e.on (h1 e he hb) k hk listed hcl fun om hom e' he' hb'=>hcl e.on om hom he1 e' he' hb') (fun m om hm hom e he hb=>by
     rcases Nat.lt_or_ge m i with hmi|hmi
     ·exact hed m om hmi hom e he hb
     ·have:m=i:=by omega
      subst this
      rw[h0]at hom
      simp only[aa]at hom
      subst hom
      exact h1 e (by simpa using he) hb) h
   exact⟨fun m k hm=>g1 m k (by simp at hm;omega),by rw[g2];simp;omega,g3⟩
  ·simp at h
theorem tx {Fn:Nat→de} {Fin:St→Prop} {i:Nat} {oi:Oper} (hi:ops[i]? =some oi):
  ∀(fuel:Nat) (listed:Array Bool) (s s1:St),mg ops listed→
   (∀j oj,ops[j]? =some oj→j≠i→listed.getD j true=false→(iy C oi.op=true∧iy C oj.op=true∧oi.apart ops oj=true∧(Fn i).free (Fn j)=true)∨ll ops j i)→
   i∈Region.ready .any ops listed→fI C env ops oi s ej=some (s1,Fn i)→
   tw C env ops Fn Fin fuel (listed.setIfInBounds i true) s1→tw C env ops Fn Fin (fuel+1) listed s:=by
 intro fuel
 induction fuel with
 |zero=>
  intro listed s s1 _ _ hr hy H
  refine⟨fun h=>(by rw[h]at hr;cases hr),fun j hj=> ?_⟩
  by_cases hji:j=i
  ·subst hji;exact⟨oi,s1,hi,hy,H⟩
  ·have:=ready_mono hj hji
   rw[H.1]at this
   cases this
 |succ fuel ih=>
  intro listed s s1 hcl hfree hr hy H
  refine⟨fun h=>(by rw[h]at hr;cases hr),fun j hj=> ?_⟩
  by_cases hji:j=i
  ·subst hji;exact⟨oi,s1,hi,hy,H⟩
  ·obtain⟨oj',s2,hoj',e2,H2⟩:=H.2 j (ready_mono hj hji)
   obtain⟨hjun,oj,hoj,hall⟩:=mem_ready.1 hj
   rw[hoj]at hoj'
   simp only[aa]at hoj'
   subst hoj'
   have hun:=(mem_ready.1 hr).1
   rcases hfree j oj hoj hji hjun with⟨hsi,hsj,hap,hfr⟩|haft
   ·obtain⟨s3,e3,e4⟩:=H3 hsi hsj hap hfr hy e2
    have hfree':∀k ok,ops[k]? =some ok→k≠i→(listed.setIfInBounds j true).getD k true=false→
      (iy C oi.op=true∧iy C ok.op=true∧oi.apart ops ok=true∧(Fn i).free (Fn k)=true)∨ll ops k i:=fun k ok hk hki hun=>by
     refine hfree k ok hk hki ?_
     by_cases hjk:j=k
     ·subst hjk;exact hjun
     ·rw[getD_set_ne true hjk]at hun;exact hun
    refine⟨oj,s3,hoj,e3,ih (listed.setIfInBounds j true) s3 s2 (hcl.set hoj fun e he hb=>lk (hall e he hb)) hfree' (ready_mono hr (Ne.symm hji)) e4 ?_⟩
    rw[Array.setIfInBounds_comm _ _ hji]
    exact H2
   ·have:=haft listed hcl fun oj' ho e he hb=>by rw[hoj]at ho;simp only[aa]at ho;subst ho;exact lk (hall e he hb)
    rw[this]at hun
    cases hun
theorem oB {i:Nat} {oi:Oper} {Fi:de}:∀{os:List Oper} {ms:List Nat} {Fs:List de},qS C ops i oi Fi os ms Fs=true→∀(k:Nat) (oj:Oper),os[k]? =some oj→∃mj Fj,ms[k]? =some mj∧Fs[k]? =some Fj∧(Nat.testBit mj i=true∨(iy C oi.op=true∧iy C oj.op=true∧oi.apart ops oj=true∧Fi.free Fj=true))
 | [],_,_,_,k,oj,hk=>(by simp at hk)
 |o::os,[],Fs,h,_,_,_=>by simp[qS]at h
 |o::os,_::_,[],h,_,_,_=>by simp[qS]at h
 |o::os,m::ms,F::Fs,h,k,oj,hk=>by
  simp only[qS,aB,Bool.or_eq_true]at h
  cases k with
  |zero=>
   simp only[List.getElem?_cons_zero,aa]at hk
   subst hk
   exact⟨m,F,rfl,rfl,h.1.imp id fun x=>⟨x.1.1.1,x.1.1.2,x.1.2,x.2⟩⟩
  |succ k=>exact oB h.2 k oj (by simpa using hk)
theorem qF {Fn:Nat→de} {Fin:St→Prop} (hed:∀m om,ops[m]? =some om→∀e∈om.after,Region.binds .any e=true→e.on<m):∀(l:List Oper) (i:Nat) (ms:List Nat) (Fl:List de) (listed:Array Bool) (s sE:St),(∀j,l[j]? =ops[i+j]?)→mg ops listed→
  (∀m,m<i→listed.getD m false=true)→(∀m,i≤m→m<ops.size→listed.getD m true=false)→listed.size=ops.size→(∀j mj,ms[j]? =some mj→∀k,Nat.testBit mj k=true→ll ops (i+j) k)→GA C ops i l ms Fl=true→(∀j F,Fl[j]? =some F→Fn (i+j)=F)→
  nB C env ops l s ej=some (sE,Fl)→Fin sE→tw C env ops Fn Fin l.length listed s
 | [],i,ms,Fl,listed,s,sE,hl,hcl,hlt,hge,hsz,hms,hok,hF,h,hfin=>by
  simp only[nB,ej,aa,ar]at h
  refine⟨?_,h.1▸hfin⟩
  apply List.eq_nil_iff_forall_not_mem.2
  intro j hj
  obtain⟨h1,o,ho,_⟩:=mem_ready.1 hj
  have h0:=hl 0
  simp only[List.getElem?_nil,Nat.add_zero]at h0
  have h2:=(Array.getElem?_eq_none_iff.1 h0.symm)
  have h3:=(Array.getElem?_eq_some_iff.1 ho).1
  rw[lk (hlt j (by omega))]at h1
  cases h1
 |o::l,i,ms,Fl,listed,s,sE,hl,hcl,hlt,hge,hsz,hms,hok,hF,h,hfin=>by
  have h0:ops[i]? =some o:=by simpa using(hl 0).symm
  have hi:=(Array.getElem?_eq_some_iff.1 h0).1
  simp only[nB]at h
  rw[kM,Option.bind_eq_some_iff]at h
  obtain⟨⟨s1,F1⟩,e1,h⟩:=h
  simp only[lq]at h
  rw[jU,Option.bind_eq_some_iff]at h
  obtain⟨⟨sE',Fl'⟩,e2,h⟩:=h
  simp only[lq,ej,aa,ar]at h
  obtain⟨rfl,rfl⟩:=h
  cases ms with
  |nil=>simp[GA]at hok
  |cons m ms=>
   simp only[GA,aB]at hok
   have hFi:Fn i=F1:=by have:=hF 0 F1 (by simp);simpa using this
   have hr:i∈Region.ready .any ops listed:=mem_ready.2 ⟨hge i (Nat.le_refl _) hi,o,h0,fun e he hb=>hlt _ (hed i o h0 e he hb)⟩
   have hfree:=oB hok.1
   refine tx h0 l.length listed s s1 hcl (fun j oj hj hne hun=> ?_) hr (by rw[hFi];exact e1)
    (qF hed l (i+1) ms Fl' _ s1 sE' (fun j=>by have:=hl (j+1);simpa[Nat.add_assoc,Nat.add_comm 1 j]using this) (hcl.set h0 fun e he hb=>lk (hlt _ (hed i o h0 e he hb))) (fun m hm=> ?_) (fun m hm hm'=> ?_) (by simpa using hsz) (fun j mj hj k hk=> ?_) hok.2 (fun j F hj=> ?_) e2 hfin)
   ·have hji:i<j:=by
     rcases Nat.lt_or_ge j i with h1|h1
     ·rw[lk (hlt j h1)]at hun;cases hun
     ·omega
    obtain⟨k,rfl⟩:∃k,j=i+1+k:=⟨j-(i+1),by omega⟩
    obtain⟨mj,Fj,h1,h2,h3⟩:=hfree k oj (by have:=hl (k+1);rw[List.getElem?_cons_succ]at this;rw[this,←hj];congr 1;omega)
    rcases h3 with h3|⟨h3,h4,h5,h6⟩
    ·exact .inr (by have:=hms (k+1) mj (by simpa using h1) i h3;rwa [show i+(k+1)=i+1+k by omega]at this)
    ·refine .inl ⟨h3,h4,h5, ?_⟩
     have:=hF (k+1) Fj (by simpa using h2)
     rw[show i+(k+1)=i+1+k by omega]at this
     rw[hFi,this];exact h6
   ·rcases Nat.lt_or_ge m i with h1|h1
    ·exact getD_set_true (hlt m h1)
    ·have:m=i:=by omega
     subst this
     simp[hsz,hi]
   ·rw[getD_set_ne true (by omega)];exact hge m (by omega) hm'
   ·have:=hms (j+1) mj (by simpa using hj) k hk
    rwa [show i+(j+1)=i+1+j by omega]at this
   ·have:=hF (j+1) F (by simpa using hj)
    rwa [show i+(j+1)=i+1+j by omega]at this
theorem vD (hC:C.OK) (hE:ii E.I C env) {id:Nat} (h:aK E G s a {w with drawn:=w.drawn+1}) {k:St→Option R} (e:(nB C env ops ops.toList s fun s Fs=>bif GB C ops Fs then k s else none)=some r) (hk:yu E (fun s _=>k s) r (Q .normal)):(Code.region id ops true).wp C.P Q a w:=by
 rw[jU,Option.bind_eq_some_iff]at e
 obtain⟨⟨sE,Fl⟩,e1,e2⟩:=e
 simp only[lq]at e2
 rcases ab e2 with⟨hok,e2⟩|⟨_,e2⟩
 ·unfold GB at hok
  split at hok
  ·rename_i ms hms
   obtain⟨g1,g2,g3⟩:=oA (ops:=ops) (l:=ops.toList) (i:=0) (by simp) rfl (fun m hm=>by omega) (fun m om hm=>by omega) hms
   refine wp_region_any hC.draws (mW hC hE (Fn:=fun i=>Fl.getD i ⟨[],[],[]⟩) (Fin:=fun s=>s=sE) (fun s' G' a' w' h' e'=>hk s' ⟨[],[],[]⟩ G' a' w' h' (by rw[e'];exact e2)) _ _ s G a _ h ?_)
   have:=qF (C:=C) (env:=env) (ops:=ops) (Fn:=fun i=>Fl.getD i ⟨[],[],[]⟩) (Fin:=fun s=>s=sE) g3 ops.toList 0 ms Fl (Array.replicate ops.size false) s sE (by simp) (fun m om hm hl e he hb=>by
     exfalso
     have hlt:=(Array.getElem?_eq_some_iff.1 hm).1
     simp[Array.getD_eq_getD_getElem?,hlt]at hl) (fun m hm=>by omega) (fun m _ hm=>by simp[Array.getD_eq_getD_getElem?,hm]) (by simp) (fun j mj hj k hk=>by
     have hlt:=(List.getElem?_eq_some_iff.1 hj).1
     rw[Nat.zero_add]
     refine g1 j k (by omega) ?_
     simp only[fY,List.getD_eq_getElem?_getD,hj,Option.getD_some];exact hk) hok (fun j F hj=>by simp[hj]) e1 rfl
   simpa using this
  ·simp at hok
 ·simp at e2
end Go.Ps
