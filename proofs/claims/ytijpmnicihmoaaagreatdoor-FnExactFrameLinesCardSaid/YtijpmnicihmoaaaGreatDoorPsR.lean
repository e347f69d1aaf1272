import Derived.Test.YtijpmnicihmoaaaGreatDoorPsQ
import Derived.Tactics
import Derived.Still
import Derived.Deep.LoopGhost
namespace Go.Ps
set_option linter.unusedVariables false
variable {w w':World} {E:En} {G:Gh} {s s':St} {a:Act} {C:cr} {R:Type} {r:R}
variable {Q:Exit→Act→World→Prop} {o:Oper} {env:C.Env} {ops:Array Oper}
def B3 (E:En) (k:St→dB→Option R) (r:R) (K:Act→World→Prop):Prop:=∀s' F G' a' w',aX E G' s' a' w'→k s' F=some r→K a' w'
theorem pQ (h:aX E G s a w) {x:SV} {v:Value} {k:St→dB→Option R} {F:dB} {K:Act→World→Prop} (hx:aL G.S G.σ w x v) (e:oI o k F x s=some r) (hk:B3 E k r K):K (a.put o.dst v) w:=by
 unfold oI at e
 split at e
 ·rename_i hd
  rw[hd]
  exact hk s F G a w h e
 ·rename_i d hd
  rcases ai e with⟨hlt,e⟩|⟨_,e⟩
  ·rw[hd]
   have hlt:d<s.n:=bB hlt
   exact hk _ F G _ w (h.put hlt hx) e
  ·simp at e
theorem pR (hC:C.OK) (hE:iI E.I C env) (h:aX E G s a w) {id:Nat} (hid:id%128=0) {k:St→dB→Option R} {K:Act→World→Prop} (e:(y6 C env id o.op s fun x us rs=>oI o k (kj s us rs) x (s.upds us))=some r) (hk:B3 E k r K):o.wp C.P a w K Q:=
 F9 hC hE h hid e fun x v us rs G' w' h1 h2 h3=>pQ h2 h1 h3 hk
theorem lJ (h:aX E G s a w) {k:St→dB→Option R} {F:dB} {K:Act→World→Prop} (e:oI o k F (.tup [] []) s=some r) (hk:B3 E k r K):K (a.put o.dst undef) w:=
 pQ h (x:= .tup [] []) ⟨[],rfl,[],rfl,rfl,rfl⟩ e hk
theorem pS (hC:C.OK) (hE:iI E.I C env) (h:aX E G s a w) {k:St→dB→Option R} {K:Act→World→Prop} (e:ga C env ops o s k=some r) (hk:B3 E k r K):
  if Region.wanted o (yielded ops a.tmps)then o.wp C.P a w K Q∨(o.asks C.P a w∧LetsOut Q)else K (a.put o.dst undef) w:=by
 unfold ga gd at e
 split at e
 ·rename_i hg
  rw[av (by simp[Region.wanted,hg])]
  exact .inl (pR hC hE h (by omega) e hk)
 ·rename_i j want hg
  split at e
  ·simp at e
  ·rename_i d hd
   have hval:=h.tmp d
   split at e
   ·rename_i c hc
    rw[hc]at hval
    have hv:=gW (aL.of_v hval (by simp))
    have hget:a.tmps[d]? =some (.bool c):=by
     rw[Array.getD_eq_getD_getElem?]at hv
     cases hq:a.tmps[d]? with
     |none=>rw[hq]at hv;simp[undef]at hv
     |some q=>rw[hq]at hv;simpa using hv
    have hy:yielded ops a.tmps j=some c:=by simp[yielded,hd,hget]
    have hw:Region.wanted o (yielded ops a.tmps)=(c==want):=by simp[Region.wanted,hg,hy]
    rw[hw]
    have hb:∀b,c=b→aX E G (s.put d (.v (.bool b))) a w:=fun b hb=>h.put' (by subst hb;rw[hv];exact aL.v rfl)
    rcases ai e with⟨hc1,e⟩|⟨hc1,e⟩
    ·rcases ai e with⟨hw1,e⟩|⟨hw1,e⟩
     ·rw[av (by rw[hc1,hw1];rfl)];exact .inl (pR hC hE (hb true hc1) (by omega) e hk)
     ·rw[ap (by rw[hc1,hw1];simp)];exact lJ (hb true hc1) e hk
    ·rcases ai e with⟨hw1,e⟩|⟨hw1,e⟩
     ·rw[ap (by rw[hc1,hw1];simp)];exact lJ (hb false hc1) e hk
     ·rw[av (by rw[hc1,hw1];rfl)];exact .inl (pR hC hE (hb false hc1) (by omega) e hk)
   ·rename_i cs sh hc
    rw[hc]at hval
    obtain⟨xs,hv,_⟩:=hval
    have hy:yielded ops a.tmps j=none:=by
     simp only[yielded,hd,af]
     rw[Array.getD_eq_getD_getElem?]at hv
     cases hq:a.tmps[d]? with
     |none=>rfl
     |some q=>rw[hq]at hv;simp only[Option.getD_some]at hv;subst hv;rfl
    rw[ap (by simp[Region.wanted,hg,hy])]
    exact lJ h e hk
   ·simp at e
theorem tj (hC:C.OK) (hE:iI E.I C env):∀{l:List Oper} {s:St} {G:Gh} {a:Act} {w:World} {k:St→Option R},aX E G s a w→Cm C env ops l s k=some r→B3 E (fun s _=>k s) r (Q .normal)→wpList C.P ops Q l a w
 | [],s,G,a,w,k,h,e,hk=>hk s ⟨[],[],[]⟩ G a w h e
 |o::l,s,G,a,w,k,h,e,hk=>by
  simp only[Cm]at e
  obtain⟨G0,h0⟩:=h.closeS (Kl s o.op)
  exact pS hC hE h0 e fun s' F G' a' w' h' e'=>tj hC hE h' e' hk
def KD (ops:Array Oper) (o:Oper) (tmps:Nat→SV):Option Bool:=
 match o.guard with
 |none=>some true
 |some (j,want)=>match(ops[j]?).bind (·.dst)with
  |none=>none
  |some d=>match tmps d with
   | .v (.bool c)=>some (bif c then want else !want)
   | .tup _ _=>some false
   |_=>none
theorem FQ {s:St} {d:Nat} {x:SV} (h:s.tmps d=x):s.put d x=s:=by
 cases s with
 |mk n tm mem=>
  simp only[St.put,St.mk.injEq,and_true,true_and]
  funext t
  by_cases e:t=d
  ·subst e;simp only[Nat.beq_refl,ae];exact h.symm
  ·simp only[dX e,ac]
theorem ST (o:Oper) (s:St) (yes no:St→Option R):gd ops o s yes no=(KD ops o s.tmps).bind fun b=>bif b then yes s else no s:=by
 unfold gd KD
 cases o.guard with
 |none=>rfl
 |some g=>
  obtain⟨j,want⟩:=g
  simp only[]
  cases (ops[j]?).bind (·.dst)with
  |none=>rfl
  |some d=>
   simp only[]
   cases hd:s.tmps d with
   |v p=>
    cases p<;>try rfl
    case bool c=>
     cases c<;>cases want<;>simp only[ae,ac,aD,Bool.not_false,af]<;>rw[FQ hd]
   |agg _=>rfl
   |tup _ _=>rfl
def Uo (C:cr) (env:C.Env) (ops:Array Oper) (o:Oper) (s:St):Option (SV×List cc×List Nat):=
 (KD ops o s.tmps).bind fun b=>bif b then y6 C env (128*o.dst.getD 0) o.op s jF else some (.tup [] [],[],[])
theorem je (o:Oper) (s:St) (k:St→dB→Option R):ga C env ops o s k=(Uo C env ops o s).bind fun p=>oI o k (kj s p.2.1 p.2.2) p.1 (s.upds p.2.1):=by
 unfold ga
 rw[ST,Uo,Option.bind_assoc]
 refine congrArg _ (funext fun b=> ?_)
 cases b
 ·rfl
 ·simp only[ae];rw[Kf]
def P1 (o:Oper) (x:SV) (s:St):St:=match o.dst with
 |none=>s
 |some d=>s.put d x
def T3 (o:Oper) (n:Nat):Bool:=match o.dst with
 |none=>true
 |some d=>Nat.blt d n
theorem pT (o:Oper) (k:St→dB→Option R) (F:dB) (x:SV) (s:St):oI o k F x s=bif T3 o s.n then k (P1 o x s) F else none:=by
 unfold oI T3 P1;cases o.dst<;>rfl
theorem IR (o:Oper) (x:SV) (s:St):(P1 o x s).n=s.n:=by unfold P1;cases o.dst<;>rfl
theorem uD (o:Oper) (x:SV) (s:St):(P1 o x s).mem=s.mem:=by unfold P1;cases o.dst<;>rfl
theorem AM {o:Oper} (x:SV) (s:St) {t:Nat} (h:o.dst≠some t):(P1 o x s).tmps t=s.tmps t:=by
 unfold P1
 cases hd:o.dst with
 |none=>rfl
 |some d=>
  have:t≠d:=fun e=>h (by rw[hd,e])
  simp only[St.put,dX this,ac]
def pU:List cc→Nat→Option cD→Option cD
 | [],_,b=>b
 | .frz id::us,i,b=>pU us i (bif Nat.beq i id then b.map cD.frz else b)
 | .set id x::us,i,b=>pU us i (bif Nat.beq i id then some x else b)
theorem d6:∀(us:List cc) (s:St) (i:Nat),(s.upds us).mem i=pU us i (s.mem i)
 | [],_,_=>rfl
 | .frz id::us,s,i=>by
  simp only[St.upds,pU]
  rw[d6 us]
  congr 1
  by_cases h:i=id
  ·subst h;rw[eO,iJ];rfl
  ·rw[cj _ h,dX h];rfl
 | .set id x::us,s,i=>by
  simp only[St.upds,pU]
  rw[d6 us]
  rfl
theorem dA:∀{us:List cc} {i:Nat} (b:Option cD),i∉bC us→i∉updF us→pU us i b=b
 | [],_,_,_,_=>rfl
 | .frz id::us,i,b,h,h'=>by
  simp only[bC,updF,List.mem_cons,not_or]at h h'
  simp only[pU,dX h'.1,ac]
  exact dA b h h'.2
 | .set id x::us,i,b,h,h'=>by
  simp only[bC,updF,List.mem_cons,not_or]at h h'
  simp only[pU,dX h.1,ac]
  exact dA b h.2 h'
theorem AN (b:Option cD):(b.map cD.frz).map cD.frz=b.map cD.frz:=by
 cases b with
 |none=>rfl
 |some b=>cases b<;>rfl
theorem fJ:∀{us:List cc} {i:Nat},i∉bC us→i∈updF us→∀b,pU us i b=b.map cD.frz
 | [],_,_,h=>by cases h
 | .frz id::us,i,h,h'=>fun b=>by
  simp only[bC,updF,List.mem_cons]at h h'
  simp only[pU]
  by_cases hi:i=id
  ·subst hi
   rw[iJ,ae]
   by_cases h2:i∈updF us
   ·rw[fJ h h2,AN]
   ·rw[dA _ h h2]
  ·rw[dX hi,ac]
   exact fJ h (h'.resolve_left hi) b
 | .set id x::us,i,h,h'=>fun b=>by
  simp only[bC,updF,List.mem_cons,not_or]at h h'
  simp only[pU,dX h.1,ac]
  exact fJ h.2 h' b
theorem FS {s s':St} {i:Nat} (h:s'.mem i=(s.mem i).map cD.frz):bT s' i=false:=by
 unfold bT
 rw[h]
 cases s.mem i with
 |none=>rfl
 |some b=>cases b<;>rfl
theorem iG {us:List cc} {i:Nat} (s:St) (h:i∉bC us) (h':i∉updF us):(s.upds us).mem i=s.mem i:=by rw[d6,dA _ h h']
theorem wh {us:List cc} {i:Nat} (s:St) (h:i∉bC us) (h':i∉(updF us).filter (bT s)):bT s i=bT (s.upds us) i∧((s.upds us).mem i).map cD.frz=(s.mem i).map cD.frz:=by
 by_cases hf:i∈updF us
 ·have hd:bT s i=false:=by
   cases hb:bT s i
   ·rfl
   ·exact absurd (List.mem_filter.2 ⟨hf,hb⟩) h'
  have:=fJ h hf (s.mem i)
  rw[←d6]at this
  refine⟨by rw[hd,FS this],by rw[this,AN]⟩
 ·have:=iG s h hf
  exact⟨by unfold bT;rw[this],by rw[this]⟩
theorem wi (us:List cc) (o:Oper) (x:SV) (s:St):(P1 o x s).upds us=P1 o x (s.upds us):=by
 have key:∀(a b:St),a.n=b.n→a.tmps=b.tmps→a.mem=b.mem→a=b:=fun a b h1 h2 h3=>by cases a;cases b;simp_all
 refine key _ _ ?_ ?_ ?_
 ·rw[gz,IR,IR,gz]
 ·rw[dN]
  unfold P1
  cases o.dst with
  |none=>rw[dN]
  |some d=>simp only[St.put,dN]
 ·funext i
  rw[d6,uD,uD,d6]
theorem IS {o o':Oper} (h:∀d,o.dst=some d→o'.dst≠some d) (x y:SV) (s:St):P1 o x (P1 o' y s)=P1 o' y (P1 o x s):=by
 unfold P1
 cases hd:o.dst with
 |none=>rfl
 |some d=>
  cases hd':o'.dst with
  |none=>rfl
  |some d'=>
   have hne:d≠d':=fun e=>h d hd (by rw[hd',e])
   simp only[St.put,St.mk.injEq,true_and,and_true]
   funext t
   by_cases e:t=d
   ·subst e;simp only[Nat.beq_refl,ae,dX hne,ac]
   ·simp only[dX e,ac]
theorem FT {q:SV×List cc×List Nat} (hs:iS C o.op=true) (hl:∀t∈o.looksAt ops,s'.tmps t=s.tmps t) (e:Uo C env ops o s=some q)
  (hw:∀i∈bC q.2.1,s'.mem i=s.mem i) (hr:∀i∈updF q.2.1++q.2.2,jJ s s' i):Uo C env ops o s'=some q:=by
 have hg:KD ops o s'.tmps=KD ops o s.tmps:=by
  unfold KD
  cases hg:o.guard with
  |none=>rfl
  |some g=>
   obtain⟨j,want⟩:=g
   simp only[]
   cases hj:(ops[j]?).bind (·.dst)with
   |none=>rfl
   |some t=>simp only[];rw[hl t (by simp[Oper.looksAt,hg,hj])]
 have hev:∀x∈o.op.operands,s'.ev x=s.ev x:=fun x hx=>by
  cases x with
  |tmp t=>exact hl t (List.mem_append_left _ (List.mem_filterMap.2 ⟨.tmp t,by simpa using hx,rfl⟩))
  |_=>rfl
 unfold Uo at e⊢
 rw[hg]
 cases hb:KD ops o s.tmps with
 |none=>rw[hb]at e;simp at e
 |some b=>
  rw[hb]at e
  cases b
  ·exact e
  ·simp only[af,ae]at e⊢
   exact KB hs hev e hw hr
theorem wj {us:List cc} {rs:List Nat} (h:∀i∈updF us,bT s' i=bT s i):kj s' us rs=kj s us rs:=by
 unfold kj
 have h1:(updF us).filter (bT s')=(updF us).filter (bT s):=List.filter_congr fun i hi=>h i hi
 have h2:(updF us).filter (fun i=> !bT s' i)=(updF us).filter (fun i=> !bT s i):=List.filter_congr fun i hi=>by rw[h i hi]
 rw[h1,h2]
theorem ne {us:List cc} {rs:List Nat} {i:Nat} (h:i∉(kj s us rs).w):i∉bC us∧i∉(updF us).filter (bT s):=by
 simp only[kj,List.mem_append,not_or]at h;exact h
theorem oU {us:List cc} {rs:List Nat} {i:Nat} (h:i∉(kj s us rs).w) (h':i∉(kj s us rs).f):i∉bC us∧i∉updF us:=by
 refine⟨(ne h).1,fun hf=> ?_⟩
 cases hb:bT s i
 ·exact h' (List.mem_filter.2 ⟨hf,by simp[hb]⟩)
 ·exact(ne h).2 (List.mem_filter.2 ⟨hf,hb⟩)
theorem pV {us:List cc} {rs:List Nat} {i:Nat} (h:i∈bC us):i∈(kj s us rs).w:=List.mem_append_left _ h
theorem ge {us:List cc} {rs:List Nat} {i:Nat} (h:i∈updF us++rs):i∈(kj s us rs).w∨i∈(kj s us rs).f++(kj s us rs).r:=by
 rcases List.mem_append.1 h with h|h
 ·cases hb:bT s i
  ·exact .inr (List.mem_append_left _ (List.mem_filter.2 ⟨h,by simp[hb]⟩))
  ·exact .inl (List.mem_append_right _ (List.mem_filter.2 ⟨h,hb⟩))
 ·exact .inr (List.mem_append_right _ h)
theorem SU {oi oj:Oper} {Fi Fj:dB} (hi:iS C oi.op=true) (hj:iS C oj.op=true) (hap:oi.apart ops oj=true) (hfr:Fi.free Fj=true) {s s1 s2:St}
  (e1:ga C env ops oi s fV=some (s1,Fi)) (e2:ga C env ops oj s1 fV=some (s2,Fj)):∃s3,ga C env ops oj s fV=some (s3,Fj)∧ga C env ops oi s3 fV=some (s2,Fi):=by
 obtain⟨a1,a2,a3⟩:=Oper.apart_spec hap
 have a4:∀d,oj.dst=some d→oi.dst≠some d:=fun d h h'=>a2 d h' h
 simp only[dB.free,ay]at hfr
 have f1:=gq hfr.1
 have f2:=gq hfr.2
 rw[je,Option.bind_eq_some_iff]at e1
 obtain⟨⟨x,ui,ri⟩,hx,e1⟩:=e1
 rw[je,Option.bind_eq_some_iff]at e2
 obtain⟨⟨y,uj,rj⟩,hy,e2⟩:=e2
 simp only[pT]at e1 e2
 rcases ai e1 with⟨c1,e1⟩|⟨_,e1⟩
 ·rcases ai e2 with⟨c2,e2⟩|⟨_,e2⟩
  ·simp only[fV,aa,ax]at e1 e2
   obtain⟨e1,g1⟩:=e1
   obtain⟨e2,g2⟩:=e2
   have hm1:s1.mem=(s.upds ui).mem:=by rw[←e1,uD]
   have hjw:∀k,k∈Fj.w→s.mem k=s1.mem k:=fun k hk=>by
    have h1:k∉Fi.w:=fun h=>f1 k h (List.mem_append_left _ hk)
    have h2:k∉Fi.f:=fun h=>f2 k hk (List.mem_append_left _ h)
    rw[←g1]at h1 h2
    obtain⟨h3,h4⟩:=oU h1 h2
    rw[hm1,iG s h3 h4]
   have hja:∀k,k∈Fj.w∨k∈Fj.f++Fj.r→jJ s1 s k:=fun k hk=>by
    rcases hk with hk|hk
    ·exact .inl (hjw k hk)
    ·have h1:k∉Fi.w:=fun h=>f1 k h (List.mem_append_right _ hk)
     rw[←g1]at h1
     obtain⟨h3,h4⟩:=ne h1
     by_cases hf:k∈updF ui
     ·obtain⟨h5,h6⟩:=wh s h3 h4
      have hd:bT s k=false:=by
       cases hb:bT s k
       ·rfl
       ·exact absurd (List.mem_filter.2 ⟨hf,hb⟩) h4
      have hd1:bT s1 k=false:=by unfold bT at h5 hd⊢;rw[hm1];rw[←h5];exact hd
      exact .inr ⟨hd1,hd,by rw[hm1,h6]⟩
     ·exact .inl (by rw[hm1,iG s h3 hf])
   have hy':Uo C env ops oj s=some (y,uj,rj):=FT hj (fun t ht=>by
     rw[←e1,AM x _ (fun h=>a1 t h ht),dN]) hy (fun k hk=>hjw k (by rw[←g2];exact pV hk)) (fun k hk=>hja k (by rw[←g2];exact ge hk))
   have g2':kj s uj rj=Fj:=by
    rw[←g2]
    exact wj fun k hk=>vS (hja k (by rw[←g2];exact ge (List.mem_append_left _ hk)))
   have hm3:(P1 oj y (s.upds uj)).mem=(s.upds uj).mem:=uD _ _ _
   have hiw:∀k,k∈Fi.w→(P1 oj y (s.upds uj)).mem k=s.mem k:=fun k hk=>by
    have h1:k∉Fj.w:=fun h=>f1 k hk (List.mem_append_left _ h)
    have h2:k∉Fj.f:=fun h=>f1 k hk (List.mem_append_right _ (List.mem_append_left _ h))
    rw[←g2']at h1 h2
    obtain⟨h3,h4⟩:=oU h1 h2
    rw[hm3,iG s h3 h4]
   have hia:∀k,k∈Fi.w∨k∈Fi.f++Fi.r→jJ s (P1 oj y (s.upds uj)) k:=fun k hk=>by
    rcases hk with hk|hk
    ·exact .inl (hiw k hk)
    ·have h1:k∉Fj.w:=fun h=>f2 k h hk
     rw[←g2']at h1
     obtain⟨h3,h4⟩:=ne h1
     by_cases hf:k∈updF uj
     ·obtain⟨h5,h6⟩:=wh s h3 h4
      have hd:bT s k=false:=by
       cases hb:bT s k
       ·rfl
       ·exact absurd (List.mem_filter.2 ⟨hf,hb⟩) h4
      have hd1:bT (P1 oj y (s.upds uj)) k=false:=by unfold bT at h5 hd⊢;rw[hm3];rw[←h5];exact hd
      exact .inr ⟨hd,hd1,by rw[hm3,h6]⟩
     ·exact .inl (by rw[hm3,iG s h3 hf])
   have hx':Uo C env ops oi (P1 oj y (s.upds uj))=some (x,ui,ri):=FT hi (fun t ht=>by
     rw[AM y _ (fun h=>a3 t h ht),dN]) hx (fun k hk=>hiw k (by rw[←g1];exact pV hk)) (fun k hk=>hia k (by rw[←g1];exact ge hk))
   have g1':kj (P1 oj y (s.upds uj)) ui ri=Fi:=by
    rw[←g1]
    exact wj fun k hk=>vS (hia k (by rw[←g1];exact ge (List.mem_append_left _ hk)))
   have hn1:s1.n=s.n:=by rw[←e1,IR,gz]
   rw[gz]at c1 c2
   rw[hn1]at c2
   have hcm:(s.upds ui).upds uj=(s.upds uj).upds ui:=by
    have key:∀(a b:St),a.n=b.n→a.tmps=b.tmps→a.mem=b.mem→a=b:=fun a b h1 h2 h3=>by cases a;cases b;simp_all
    refine key _ _ (by simp only[gz]) (by simp only[dN]) (funext fun k=> ?_)
    rw[d6,d6,d6,d6]
    by_cases hk:k∈Fi.w
    ·have h1:k∉Fj.w:=fun h=>f1 k hk (List.mem_append_left _ h)
     have h2:k∉Fj.f:=fun h=>f1 k hk (List.mem_append_right _ (List.mem_append_left _ h))
     rw[←g2']at h1 h2
     obtain⟨h3,h4⟩:=oU h1 h2
     rw[dA _ h3 h4,dA _ h3 h4]
    ·by_cases hk':k∈Fj.w
     ·have h1:k∉Fi.f:=fun h=>f2 k hk' (List.mem_append_left _ h)
      rw[←g1]at hk h1
      obtain⟨h3,h4⟩:=oU hk h1
      rw[dA _ h3 h4,dA _ h3 h4]
     ·rw[←g1]at hk
      rw[←g2']at hk'
      have h3:=(ne hk).1
      have h4:=(ne hk').1
      by_cases hf:k∈updF ui<;>by_cases hf':k∈updF uj
      ·rw[fJ h3 hf,fJ h4 hf',fJ h4 hf',fJ h3 hf]
      ·rw[dA _ h4 hf',dA _ h4 hf']
      ·rw[dA _ h3 hf,dA _ h3 hf]
      ·rw[dA _ h3 hf,dA _ h3 hf]
   refine⟨P1 oj y (s.upds uj), ?_, ?_⟩
   ·rw[je,hy',af]
    simp only[pT,gz,c2,ae,g2']
   ·rw[je,hx',af]
    simp only[pT,gz,IR,c1,ae,g1']
    rw[wi,←hcm,IS a2,←wi,e1,e2]
  ·simp at e2
 ·simp at e1
theorem lK (o:Oper) (s:St) (k:St→dB→Option R):ga C env ops o s k=(ga C env ops o s fV).bind (un2 k):=by
 rw[je,je (k:=fV),Option.bind_assoc]
 refine congrArg _ (funext fun p=> ?_)
 rw[pT,pT,cX]
 rfl
theorem kN:∀{R:Type} (l:List Oper) (s:St) (k:St→List dB→Option R),oJ C env ops l s k=(oJ C env ops l s fV).bind (un2 k)
 |_,[],_,_=>rfl
 |_,o::l,s,k=>by
  simp only[oJ]
  rw[lK,lK (k:=fun s F=>oJ C env ops l s fun s Fs=>fV s (F::Fs)),Option.bind_assoc]
  refine congrArg _ (funext fun p=> ?_)
  simp only[un2]
  rw[kN l _ (fun s Fs=>k s (p.2::Fs)),kN l _ (fun s Fs=>fV s (p.2::Fs)),Option.bind_assoc]
  rfl
def wk (C:cr) (env:C.Env) (ops:Array Oper) (Fn:Nat→dB) (Fin:St→Prop):Nat→Array Bool→St→Prop
 |0,listed,s=>Region.ready .any ops listed=[]∧Fin s
 |fuel+1,listed,s=>(Region.ready .any ops listed=[]→Fin s)∧∀i∈Region.ready .any ops listed,∃o s',ops[i]? =some o∧ga C env ops o s fV=some (s',Fn i)∧wk C env ops Fn Fin fuel (listed.setIfInBounds i true) s'
theorem nZ (hC:C.OK) (hE:iI E.I C env) {Fn:Nat→dB} {Fin:St→Prop} (hF:∀s' G' a' w',aX E G' s' a' w'→Fin s'→Q .normal a' w'):∀(fuel:Nat) (listed:Array Bool) (s:St) (G:Gh) (a:Act) (w:World),aX E G s a w→wk C env ops Fn Fin fuel listed s→wpAny C.P .any ops Q fuel listed a w
 |0,listed,s,G,a,w,h,hs=>⟨hs.1,hF s G a w h hs.2⟩
 |fuel+1,listed,s,G,a,w,h,hs=>by
  refine⟨fun h0=>hF s G a w h (hs.1 h0),fun i hi=> ?_⟩
  obtain⟨o,s',ho,e,hrest⟩:=hs.2 i hi
  unfold wpOp
  simp only[ho]
  exact pS hC hE h e fun s'' F G' a' w' h' e'=>by
   simp only[fV,aa,ax]at e'
   rw[←e'.1]at hrest
   exact nZ hC hE hF fuel _ _ G' a' w' h' hrest
def nf (ops:Array Oper) (listed:Array Bool):Prop:=∀m om,ops[m]? =some om→listed.getD m true=true→∀e∈om.after,Region.binds .any e=true→listed.getD e.on true=true
theorem n4 {listed:Array Bool} {i m:Nat} (h:listed.getD m true=true):(listed.setIfInBounds i true).getD m true=true:=by
 by_cases e:i=m
 ·subst e;simp only[Array.getD_eq_getD_getElem?,Array.getElem?_setIfInBounds];simp only[if_true];split<;>rfl
 ·rw[getD_set_ne true e];exact h
theorem nf.set {listed:Array Bool} (h:nf ops listed) {i:Nat} {oi:Oper} (hi:ops[i]? =some oi) (hall:∀e∈oi.after,Region.binds .any e=true→listed.getD e.on true=true):nf ops (listed.setIfInBounds i true):=by
 intro m om hm hl e he hb
 by_cases hmi:m=i
 ·subst hmi
  rw[hi]at hm
  simp only[aa]at hm
  subst hm
  exact n4 (hall e he hb)
 ·rw[getD_set_ne true (Ne.symm hmi)]at hl
  exact n4 (h m om hm hl e he hb)
theorem md {listed:Array Bool} {i:Nat} (h:listed.getD i false=true):listed.getD i true=true:=by
 rw[Array.getD_eq_getD_getElem?]at h⊢
 cases hq:listed[i]? with
 |none=>rfl
 |some b=>rw[hq]at h;exact h
def me (ops:Array Oper) (m k:Nat):Prop:=∀listed,nf ops listed→(∀om,ops[m]? =some om→∀e∈om.after,Region.binds .any e=true→listed.getD e.on true=true)→listed.getD k true=true
theorem lL {ms:List Nat} {i:Nat}:∀{es:List Edge} {m:Nat},tB ms i es=some m→(∀e∈es,Region.binds .any e=true→e.on<i)∧∀k,Nat.testBit m k=true→∃e∈es,Region.binds .any e=true∧(k=e.on∨Nat.testBit (gD ms e.on) k=true)
 | [],m,h=>by
  simp only[tB,aa]at h
  subst h
  exact⟨fun e he=>(by cases he),fun k hk=>(by simp at hk)⟩
 |e::es,m,h=>by
  simp only[tB]at h
  rcases ai h with⟨hb,h⟩|⟨hb,h⟩
  ·rcases ai h with⟨hlt,h⟩|⟨_,h⟩
   ·split at h
    ·rename_i m' hm'
     simp only[aa]at h
     obtain⟨h1,h2⟩:=lL hm'
     refine⟨fun e' he' hb'=> ?_,fun k hk=> ?_⟩
     ·rcases List.mem_cons.1 he' with rfl|he'
      ·exact bB hlt
      ·exact h1 e' he' hb'
     ·rw[←h]at hk
      change Nat.testBit (((1<<<e.on)|||gD ms e.on)|||m') k=true at hk
      rw[Nat.testBit_or,Nat.testBit_or,Bool.or_eq_true,Bool.or_eq_true]at hk
      rcases hk with(hk|hk)|hk
      ·refine⟨e,by simp,hb,.inl ?_⟩
       rw[Nat.one_shiftLeft,Nat.testBit_two_pow]at hk
       exact(by simpa using hk:e.on=k).symm
      ·exact⟨e,by simp,hb,.inr hk⟩
      ·obtain⟨e',he',hb',hk⟩:=h2 k hk
       exact⟨e',by simp[he'],hb',hk⟩
    ·simp at h
   ·simp at h
  ·obtain⟨h1,h2⟩:=lL h
   refine⟨fun e' he' hb'=> ?_,fun k hk=> ?_⟩
   ·rcases List.mem_cons.1 he' with rfl|he'
    ·rw[hb]at hb';simp at hb'
    ·exact h1 e' he' hb'
   ·obtain⟨e',he',hb',hk⟩:=h2 k hk
    exact⟨e',by simp[he'],hb',hk⟩
theorem pW:∀{l:List Oper} {i:Nat} {ms ms':List Nat},(∀j,l[j]? =ops[i+j]?)→ms.length=i→(∀m,m<i→∀k,Nat.testBit (gD ms m) k=true→me ops m k)→(∀m om,m<i→ops[m]? =some om→∀e∈om.after,Region.binds .any e=true→e.on<m)→wR l i ms=some ms'→
  (∀m,∀k,m<i+l.length→Nat.testBit (gD ms' m) k=true→me ops m k)∧ms'.length=i+l.length∧(∀m om,ops[m]? =some om→∀e∈om.after,Region.binds .any e=true→e.on<m)
 | [],i,ms,ms',hl,hn,hms,hed,h=>by
  simp only[wR,aa]at h
  subst h
  refine⟨fun m k hm=>hms m (by simpa using hm) k,by simpa using hn,fun m om hm=>hed m om ?_ hm⟩
  have h0:=hl 0
  simp only[List.getElem?_nil,Nat.add_zero]at h0
  have:=(Array.getElem?_eq_none_iff.1 h0.symm)
  have:=(Array.getElem?_eq_some_iff.1 hm).1
  omega
 |o::l,i,ms,ms',hl,hn,hms,hed,h=>by
  simp only[wR]at h
  split at h
  ·rename_i m0 hm0
   obtain⟨h1,h2⟩:=lL hm0
   have h0:ops[i]? =some o:=by simpa using(hl 0).symm
   have hat:∀m,m<i→gD (ms++[m0]) m=gD ms m:=fun m hm=>by
    simp only[gD,List.getD_eq_getElem?_getD]
    rw[List.getElem?_append_left (by omega)]
   have hi:gD (ms++[m0]) i=m0:=by
    simp only[gD,List.getD_eq_getElem?_getD]
    rw[List.getElem?_append_right (by omega),hn];simp
   obtain⟨g1,g2,g3⟩:=pW (l:=l) (i:=i+1) (ms:=ms++[m0]) (fun j=>by have:=hl (j+1);simpa[Nat.add_assoc,Nat.add_comm 1 j]using this) (by simp[hn]) (fun m hm k hk=>by
     rcases Nat.lt_or_ge m i with hmi|hmi
     ·rw[hat m hmi]at hk;exact hms m hmi k hk
     ·have:m=i:=by omega
      subst this
      rw[hi]at hk
      obtain⟨e,he,hb,hk⟩:=h2 k hk
      intro listed hcl hall
      have he1:=hall o h0 e (by simpa using he) hb
      rcases hk with rfl|hk
      ·exact he1
      ·exact hms e.on (h1 e he hb) k hk listed hcl fun om hom e' he' hb'=>hcl e.on om hom he1 e' he' hb') (fun m om hm hom e he hb=>by
     rcases Nat.lt_or_ge m i with hmi|hmi
     ·exact hed m om hmi hom e he hb
     ·have:m=i:=by omega
      subst this
      rw[h0]at hom
      simp only[aa]at hom
      subst hom
      exact h1 e (by simpa using he) hb) h
   exact⟨fun m k hm=>g1 m k (by simp at hm;omega),by rw[g2];simp;omega,g3⟩
  ·simp at h
theorem wl {Fn:Nat→dB} {Fin:St→Prop} {i:Nat} {oi:Oper} (hi:ops[i]? =some oi):
  ∀(fuel:Nat) (listed:Array Bool) (s s1:St),nf ops listed→
   (∀j oj,ops[j]? =some oj→j≠i→listed.getD j true=false→(iS C oi.op=true∧iS C oj.op=true∧oi.apart ops oj=true∧(Fn i).free (Fn j)=true)∨me ops j i)→
   i∈Region.ready .any ops listed→ga C env ops oi s fV=some (s1,Fn i)→
   wk C env ops Fn Fin fuel (listed.setIfInBounds i true) s1→wk C env ops Fn Fin (fuel+1) listed s:=by
 intro fuel
 induction fuel with
 |zero=>
  intro listed s s1 _ _ hr hy H
  refine⟨fun h=>(by rw[h]at hr;cases hr),fun j hj=> ?_⟩
  by_cases hji:j=i
  ·subst hji;exact⟨oi,s1,hi,hy,H⟩
  ·have:=ready_mono hj hji
   rw[H.1]at this
   cases this
 |succ fuel ih=>
  intro listed s s1 hcl hfree hr hy H
  refine⟨fun h=>(by rw[h]at hr;cases hr),fun j hj=> ?_⟩
  by_cases hji:j=i
  ·subst hji;exact⟨oi,s1,hi,hy,H⟩
  ·obtain⟨oj',s2,hoj',e2,H2⟩:=H.2 j (ready_mono hj hji)
   obtain⟨hjun,oj,hoj,hall⟩:=mem_ready.1 hj
   rw[hoj]at hoj'
   simp only[aa]at hoj'
   subst hoj'
   have hun:=(mem_ready.1 hr).1
   rcases hfree j oj hoj hji hjun with⟨hsi,hsj,hap,hfr⟩|haft
   ·obtain⟨s3,e3,e4⟩:=SU hsi hsj hap hfr hy e2
    have hfree':∀k ok,ops[k]? =some ok→k≠i→(listed.setIfInBounds j true).getD k true=false→
      (iS C oi.op=true∧iS C ok.op=true∧oi.apart ops ok=true∧(Fn i).free (Fn k)=true)∨me ops k i:=fun k ok hk hki hun=>by
     refine hfree k ok hk hki ?_
     by_cases hjk:j=k
     ·subst hjk;exact hjun
     ·rw[getD_set_ne true hjk]at hun;exact hun
    refine⟨oj,s3,hoj,e3,ih (listed.setIfInBounds j true) s3 s2 (hcl.set hoj fun e he hb=>md (hall e he hb)) hfree' (ready_mono hr (Ne.symm hji)) e4 ?_⟩
    rw[Array.setIfInBounds_comm _ _ hji]
    exact H2
   ·have:=haft listed hcl fun oj' ho e he hb=>by rw[hoj]at ho;simp only[aa]at ho;subst ho;exact md (hall e he hb)
    rw[this]at hun
    cases hun
theorem pX {i:Nat} {oi:Oper} {Fi:dB}:∀{os:List Oper} {ms:List Nat} {Fs:List dB},tC C ops i oi Fi os ms Fs=true→∀(k:Nat) (oj:Oper),os[k]? =some oj→∃mj Fj,ms[k]? =some mj∧Fs[k]? =some Fj∧(Nat.testBit mj i=true∨(iS C oi.op=true∧iS C oj.op=true∧oi.apart ops oj=true∧Fi.free Fj=true))
 | [],_,_,_,k,oj,hk=>(by simp at hk)
 |o::os,[],Fs,h,_,_,_=>by simp[tC]at h
 |o::os,_::_,[],h,_,_,_=>by simp[tC]at h
 |o::os,m::ms,F::Fs,h,k,oj,hk=>by
  simp only[tC,ay,Bool.or_eq_true]at h
  cases k with
  |zero=>
   simp only[List.getElem?_cons_zero,aa]at hk
   subst hk
   exact⟨m,F,rfl,rfl,h.1.imp id fun x=>⟨x.1.1.1,x.1.1.2,x.1.2,x.2⟩⟩
  |succ k=>exact pX h.2 k oj (by simpa using hk)
theorem tk {Fn:Nat→dB} {Fin:St→Prop} (hed:∀m om,ops[m]? =some om→∀e∈om.after,Region.binds .any e=true→e.on<m):∀(l:List Oper) (i:Nat) (ms:List Nat) (Fl:List dB) (listed:Array Bool) (s sE:St),(∀j,l[j]? =ops[i+j]?)→nf ops listed→
  (∀m,m<i→listed.getD m false=true)→(∀m,i≤m→m<ops.size→listed.getD m true=false)→listed.size=ops.size→(∀j mj,ms[j]? =some mj→∀k,Nat.testBit mj k=true→me ops (i+j) k)→QE C ops i l ms Fl=true→(∀j F,Fl[j]? =some F→Fn (i+j)=F)→
  oJ C env ops l s fV=some (sE,Fl)→Fin sE→wk C env ops Fn Fin l.length listed s
 | [],i,ms,Fl,listed,s,sE,hl,hcl,hlt,hge,hsz,hms,hok,hF,h,hfin=>by
  simp only[oJ,fV,aa,ax]at h
  refine⟨?_,h.1▸hfin⟩
  apply List.eq_nil_iff_forall_not_mem.2
  intro j hj
  obtain⟨h1,o,ho,_⟩:=mem_ready.1 hj
  have h0:=hl 0
  simp only[List.getElem?_nil,Nat.add_zero]at h0
  have h2:=(Array.getElem?_eq_none_iff.1 h0.symm)
  have h3:=(Array.getElem?_eq_some_iff.1 ho).1
  rw[md (hlt j (by omega))]at h1
  cases h1
 |o::l,i,ms,Fl,listed,s,sE,hl,hcl,hlt,hge,hsz,hms,hok,hF,h,hfin=>by
  have h0:ops[i]? =some o:=by simpa using(hl 0).symm
  have hi:=(Array.getElem?_eq_some_iff.1 h0).1
  simp only[oJ]at h
  rw[lK,Option.bind_eq_some_iff]at h
  obtain⟨⟨s1,F1⟩,e1,h⟩:=h
  simp only[un2]at h
  rw[kN,Option.bind_eq_some_iff]at h
  obtain⟨⟨sE',Fl'⟩,e2,h⟩:=h
  simp only[un2,fV,aa,ax]at h
  obtain⟨rfl,rfl⟩:=h
  cases ms with
  |nil=>simp[QE]at hok
  |cons m ms=>
   simp only[QE,ay]at hok
   have hFi:Fn i=F1:=by have:=hF 0 F1 (by simp);simpa using this
   have hr:i∈Region.ready .any ops listed:=mem_ready.2 ⟨hge i (Nat.le_refl _) hi,o,h0,fun e he hb=>hlt _ (hed i o h0 e he hb)⟩
   have hfree:=pX hok.1
   refine wl h0 l.length listed s s1 hcl (fun j oj hj hne hun=> ?_) hr (by rw[hFi];exact e1)
    (tk hed l (i+1) ms Fl' _ s1 sE' (fun j=>by have:=hl (j+1);simpa[Nat.add_assoc,Nat.add_comm 1 j]using this) (hcl.set h0 fun e he hb=>md (hlt _ (hed i o h0 e he hb))) (fun m hm=> ?_) (fun m hm hm'=> ?_) (by simpa using hsz) (fun j mj hj k hk=> ?_) hok.2 (fun j F hj=> ?_) e2 hfin)
   ·have hji:i<j:=by
     rcases Nat.lt_or_ge j i with h1|h1
     ·rw[md (hlt j h1)]at hun;cases hun
     ·omega
    obtain⟨k,rfl⟩:∃k,j=i+1+k:=⟨j-(i+1),by omega⟩
    obtain⟨mj,Fj,h1,h2,h3⟩:=hfree k oj (by have:=hl (k+1);rw[List.getElem?_cons_succ]at this;rw[this,←hj];congr 1;omega)
    rcases h3 with h3|⟨h3,h4,h5,h6⟩
    ·exact .inr (by have:=hms (k+1) mj (by simpa using h1) i h3;rwa [show i+(k+1)=i+1+k by omega]at this)
    ·refine .inl ⟨h3,h4,h5, ?_⟩
     have:=hF (k+1) Fj (by simpa using h2)
     rw[show i+(k+1)=i+1+k by omega]at this
     rw[hFi,this];exact h6
   ·rcases Nat.lt_or_ge m i with h1|h1
    ·exact getD_set_true (hlt m h1)
    ·have:m=i:=by omega
     subst this
     simp[hsz,hi]
   ·rw[getD_set_ne true (by omega)];exact hge m (by omega) hm'
   ·have:=hms (j+1) mj (by simpa using hj) k hk
    rwa [show i+(j+1)=i+1+j by omega]at this
   ·have:=hF (j+1) F (by simpa using hj)
    rwa [show i+(j+1)=i+1+j by omega]at this
theorem yE (hC:C.OK) (hE:iI E.I C env) {id:Nat} (h:aX E G s a {w with drawn:=w.drawn+1}) {k:St→Option R} (e:(oJ C env ops ops.toList s fun s Fs=>bif QF C ops Fs then k s else none)=some r) (hk:B3 E (fun s _=>k s) r (Q .normal)):(Code.region id ops true).wp C.P Q a w:=by
 rw[kN,Option.bind_eq_some_iff]at e
 obtain⟨⟨sE,Fl⟩,e1,e2⟩:=e
 simp only[un2]at e2
 rcases ai e2 with⟨hok,e2⟩|⟨_,e2⟩
 ·unfold QF at hok
  split at hok
  ·rename_i ms hms
   obtain⟨g1,g2,g3⟩:=pW (ops:=ops) (l:=ops.toList) (i:=0) (by simp) rfl (fun m hm=>by omega) (fun m om hm=>by omega) hms
   refine wp_region_any hC.draws (nZ hC hE (Fn:=fun i=>Fl.getD i ⟨[],[],[]⟩) (Fin:=fun s=>s=sE) (fun s' G' a' w' h' e'=>hk s' ⟨[],[],[]⟩ G' a' w' h' (by rw[e'];exact e2)) _ _ s G a _ h ?_)
   have:=tk (C:=C) (env:=env) (ops:=ops) (Fn:=fun i=>Fl.getD i ⟨[],[],[]⟩) (Fin:=fun s=>s=sE) g3 ops.toList 0 ms Fl (Array.replicate ops.size false) s sE (by simp) (fun m om hm hl e he hb=>by
     exfalso
     have hlt:=(Array.getElem?_eq_some_iff.1 hm).1
     simp[Array.getD_eq_getD_getElem?,hlt]at hl) (fun m hm=>by omega) (fun m _ hm=>by simp[Array.getD_eq_getD_getElem?,hm]) (by simp) (fun j mj hj k hk=>by
     have hlt:=(List.getElem?_eq_some_iff.1 hj).1
     rw[Nat.zero_add]
     refine g1 j k (by omega) ?_
     simp only[gD,List.getD_eq_getElem?_getD,hj,Option.getD_some];exact hk) hok (fun j F hj=>by simp[hj]) e1 rfl
   simpa using this
  ·simp at hok
 ·simp at e2
end Go.Ps
