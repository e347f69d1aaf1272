import Derived.Test.YtnjljkceeijaaaaGreatPsU
namespace Go.Ps
set_option linter.unusedVariables false
variable {C:bS} {R:Type} {I:Type}
structure O4 (I:Type)where
 ok:{α:Type}→(I→Option α)→Prop
 const:∀{α:Type} (x:Option α),ok (fun _:I=>x)
 bind:∀{α β:Type} {x:I→Option α} {k:I→α→Option β},ok x→(∀a,ok fun i=>k i a)→ok fun i=>(x i).bind (k i)
variable (A:O4 I)
def O4.env (env:I→C.Env):Prop:=∀g as,A.ok fun i=>env i g as
def O4.kont (K:I→ee R):Prop:=∀e s,A.ok fun i=>K i e s
def O4.lp (lp:I→Code→ee R→St→Option R):Prop:=∀b (K:I→ee R) s,A.kont K→A.ok fun i=>lp i b (K i) s
variable {A}
theorem su {env:I→C.Env} (he:A.env env) {id:Nat} {s:St} {f:Nat} {xs:List SV} {k:I→SV→List bG→List Nat→Option R} (hk:∀x us rs,A.ok fun i=>k i x us rs):A.ok fun i=>jo C (env i) id s f xs (k i):=by
 have:(fun i=>jo C (env i) id s f xs (k i))=fun i=>(vA C s xs (C.alts f)).bind fun p=>bif zW C p.1 p.2.1 p.2.2 then(env i p.1 p.2.2.as).bind fun r=>(vz C id s p.1 p.2.1 p.2.2 r).bind (Hv (k i))else none:=funext fun i=>by
  unfold jo
  rw[oB]
  exact congrArg _ (funext fun p=>lS _ _ _ _ _ _ _)
 rw[this]
 refine A.bind (A.const _) fun p=> ?_
 cases zW C p.1 p.2.1 p.2.2
 ·exact A.const none
 ·exact A.bind (he p.1 p.2.2.as) fun r=>A.bind (A.const _) fun q=>hk q.1 q.2.1 q.2.2
theorem HW {env:I→C.Env} (he:A.env env) {id:Nat} {s:St} {x:SV} {xs:List SV} {k:I→SV→List bG→List Nat→Option R} (hk:∀x us rs,A.ok fun i=>k i x us rs):A.ok fun i=>JI C (env i) id s x xs (k i):=by
 cases x with
 |v p=>
  cases p<;>try exact A.const none
  case fn f caps=>
   simp only[JI]
   cases m4 caps with
   |none=>exact A.const none
   |some ys=>exact su he hk
 |agg _=>exact A.const none
 |tup _ _=>exact A.const none
theorem HX {env:I→C.Env} (he:A.env env) {id:Nat} {op:Op} {s:St} {k:I→SV→List bG→List Nat→Option R} (hk:∀x us rs,A.ok fun i=>k i x us rs):A.ok fun i=>yk C (env i) id op s (k i):=by
 have:(fun i=>yk C (env i) id op s (k i))=fun i=>(yk C (env i) id op s js).bind (Hv (k i)):=funext fun i=>I9 _ _ _ _ _
 rw[this]
 refine A.bind ?_ fun p=>hk p.1 p.2.1 p.2.2
 have hd:∀(x:SV) (us:List bG) (rs:List Nat),A.ok fun _:I=>js x us rs:=fun x us rs=>A.const _
 cases op<;>simp only[yk]<;>try exact A.const _
 case makeFunc f _ _=>cases f<;>exact A.const _
 case slice t x lo hi m=>cases m<;>exact A.const _
 case call c=>
  cases c.callee with
  |value v=>cases v<;>first|exact su he hd|exact HW he hd
  |builtin b=>cases b<;>exact A.const _
  |_=>exact A.const _
theorem ET {o:Oper} {k:I→St→cV→Option R} (hk:∀s F,A.ok fun i=>k i s F) (F:cV) (x:SV) (s:St):A.ok fun i=>og o (k i) F x s:=by
 unfold og
 cases o.dst with
 |none=>exact hk s F
 |some d=>
  simp only[]
  cases Nat.blt d s.n
  ·exact A.const none
  ·exact hk _ F
theorem sw {env:I→C.Env} (he:A.env env) {ops:Array Oper} {o:Oper} {s:St} {k:I→St→cV→Option R} (hk:∀s F,A.ok fun i=>k i s F):A.ok fun i=>fA C (env i) ops o s (k i):=by
 have:(fun i=>fA C (env i) ops o s (k i))=fun i=>(Uo C (env i) ops o s).bind fun p=>og o (k i) (jM s p.2.1 p.2.2) p.1 (s.upds p.2.1):=funext fun i=>iP _ _ _
 rw[this]
 refine A.bind ?_ fun p=>ET hk _ _ _
 unfold Uo
 refine A.bind (A.const _) fun b=> ?_
 cases b
 ·exact A.const _
 ·exact HX he fun x us rs=>A.const _
theorem vS {env:I→C.Env} (he:A.env env) {ops:Array Oper}:∀{l:List Oper} {s:St} {k:I→St→Option R} (hk:∀s,A.ok fun i=>k i s),A.ok fun i=>Bu C (env i) ops l s (k i)
 | [],s,k,hk=>hk s
 |o::l,s,k,hk=>sw (k:=fun i s _=>Bu C (env i) ops l s (k i)) he fun s _=>vS he hk
theorem vT {env:I→C.Env} (he:A.env env) {ops:Array Oper}:∀{l:List Oper} {s:St} {k:I→St→List cV→Option R} (hk:∀s Fs,A.ok fun i=>k i s Fs),A.ok fun i=>oh C (env i) ops l s (k i)
 | [],s,k,hk=>hk s []
 |o::l,s,k,hk=>sw (k:=fun i s F=>oh C (env i) ops l s fun s Fs=>k i s (F::Fs)) he fun s F=>vT he fun s Fs=>hk s (F::Fs)
theorem oE {env:I→C.Env} (he:A.env env) {f:Nat} {lp:I→Code→ee R→St→Option R} (hl:A.lp lp):∀(c:Code) (K:I→ee R) (s:St),A.kont K→A.ok fun i=>den C f (env i) (lp i) c (K i) s:=by
 intro c
 induction c with
 |skip=>intro K s hK;exact hK .normal s
 |ret=>intro K s hK;exact hK .ret s
 |exit id=>intro K s hK;exact hK (.exit id) s
 |region id ops draw=>
  intro K s hK
  simp only[den]
  cases draw
  ·exact vS he (hK .normal)
  ·refine vT (k:=fun i s Fs=>bif Pr C ops Fs then K i .normal s else none) he fun s Fs=> ?_
   cases Pr C ops Fs
   ·exact A.const none
   ·exact hK .normal s
 |seq x y ihx ihy=>
  intro K s hK
  simp only[den]
  refine ihx _ s fun e s=> ?_
  cases e<;>first|exact ihy K s hK|exact hK _ s
 |cond c x y ihx ihy=>
  intro K s hK
  simp only[den]
  cases s.ev c with
  |v p=>
   cases p<;>try exact A.const none
   case bool b=>cases b;exact ihy K s hK;exact ihx K s hK
  |agg _=>exact A.const none
  |tup _ _=>exact A.const none
 |block id x ih=>
  intro K s hK
  simp only[den]
  refine ih _ s fun e s=> ?_
  cases e<;>try exact hK _ s
  case exit j=>
   simp only[t7]
   cases Nat.beq j id
   ·exact hK _ s
   ·exact hK _ s
 |loop b ih=>
  intro K s hK
  simp only[den]
  cases m5 C f b s with
  |none=>exact A.const none
  |some s=>exact hl b K s hK
 |_=>intro K s hK;exact A.const none
theorem mX {f:Nat} {b:Code} {L:I→St→Option R} {K:I→ee R} (hL:∀s,A.ok fun i=>L i s) (hK:A.kont K):A.kont fun i=>l9 C f b (L i) (K i):=by
 intro e s
 cases e<;>try exact hK _ s
 simp only[l9]
 cases m5 C f b s with
 |none=>exact A.const none
 |some s=>exact hL s
theorem EU {env:I→C.Env} (he:A.env env) {lp:I→(f:Nat)→Code→ee (C.Res f)→St→Option (C.Res f)} (hl:∀f,A.lp fun i=>lp i f) (f:Nat) (args:List SV):A.ok fun i=>EY C (env i) (lp i) f args:=by
 unfold EY
 cases C.fn f with
 |none=>exact A.const none
 |some F=>
  cases C.sig f with
  |none=>exact A.const none
  |some sg=>
   simp only[]
   cases F.body with
   |none=>exact A.const none
   |some c=>
    cases enter sg.params args 0 [] []with
    |none=>exact A.const none
    |some q=>exact oE he (hl f) c (fun _=>_) _ fun e s=>A.const _
theorem vU {env:I→C.Env} (he:A.env env) {lp:I→(f:Nat)→Code→ee (C.Res f)→St→Option (C.Res f)} (hl:∀f,A.lp fun i=>lp i f) (f:Nat) (args:List SV):A.ok fun i=>EZ C (env i) (lp i) f args:=by
 unfold EZ
 cases C.prim f with
 |some p=>exact A.const _
 |none=>exact EU he hl f args
def mono:O4 Bool where
 ok x:=∀r,x false=some r→x true=some r
 const x:=fun _ h=>h
 bind:=by
  intro α β x k hx hk r h
  rw[Option.bind_eq_some_iff]at h⊢
  obtain⟨y,h1,h2⟩:=h
  exact⟨y,hx y h1,hk y r h2⟩
abbrev O5 {α:Type} (x y:α):Bool→α:=fun b=>match b with|false=>x|true=>y
theorem vV {f:Nat} {env:Bool→C.Env} (he:mono.env env):∀n,mono.lp (R:=R) (O5 (m6 C f (env false) n) (m6 C f (env true) (n+1))):=by
 intro n
 induction n with
 |zero=>intro b K s hK r h;simp[O5,m6]at h
 |succ n ih=>
  intro b K s hK
  have:=oE (f:=f) he ih b (fun i=>l9 C f b (O5 (m6 C f (env false) n) (m6 C f (env true) (n+1)) i b (K i)) (K i)) s (mX (fun s=>ih b K s hK) hK)
  exact this
theorem mY:∀n,mono.env (C:=C) (O5 (m7 C n) (m7 C (n+1)))
 |0=>fun g as r h=>by simp[O5,m7]at h
 |n+1=>fun g as=>vU (lp:=O5 (fun f=>m6 C f (m7 C n) n) (fun f=>m6 C f (m7 C (n+1)) (n+1))) (mY n) (fun f b K s hK r h=>vV (f:=f) (mY n) n b K s hK r h) g as
structure Up {α:Type} (x:Nat→Option α) (l:Option α):Prop where
 step:∀n r,x n=some r→x (n+1)=some r
 lim:∀r,l=some r↔∃n,x n=some r
theorem Up.le {α:Type} {x:Nat→Option α} {l:Option α} (h:Up x l) {m n:Nat} (hmn:m≤n) {r:α} (e:x m=some r):x n=some r:=by
 induction n with
 |zero=>
   have:m=0:=by omega
   subst this;exact e
 |succ n ih=>
  by_cases hm:m=n+1
  ·subst hm;exact e
  ·exact h.step n r (ih (by omega))
def od:O4 (Option Nat)where
 ok x:=Up (fun n=>x (some n)) (x none)
 const x:=⟨fun _ _ h=>h,fun r=>⟨fun h=>⟨0,h⟩,fun⟨_,h⟩=>h⟩⟩
 bind:=by
  intro α β x k hx hk
  refine⟨fun n r h=> ?_,fun r=>⟨fun h=> ?_,fun⟨n,h⟩=> ?_⟩⟩
  ·rw[Option.bind_eq_some_iff]at h⊢
   obtain⟨y,h1,h2⟩:=h
   exact⟨y,hx.step n y h1,(hk y).step n r h2⟩
  ·rw[Option.bind_eq_some_iff]at h
   obtain⟨y,h1,h2⟩:=h
   obtain⟨m,h1⟩:=(hx.lim y).1 h1
   obtain⟨n,h2⟩:=((hk y).lim r).1 h2
   refine⟨max m n, ?_⟩
   rw[Option.bind_eq_some_iff]
   exact⟨y,hx.le (Nat.le_max_left m n) h1,(hk y).le (Nat.le_max_right m n) h2⟩
  ·rw[Option.bind_eq_some_iff]at h⊢
   obtain⟨y,h1,h2⟩:=h
   exact⟨y,(hx.lim y).2 ⟨n,h1⟩,((hk y).lim r).2 ⟨n,h2⟩⟩
theorem ye {α:Type} {F:Nat→Option α} (h:∀n r,F n=some r→F (n+1)=some r):Up F (Go.Ps.lim F):=by
 refine⟨h,fun r=>⟨vC,fun⟨n,hn⟩=> ?_⟩⟩
 have hx:∃r n,F n=some r:=⟨r,n,hn⟩
 have:Go.Ps.lim F=some (Classical.choose hx):=by simp[Go.Ps.lim,hx]
 rw[this]
 obtain⟨m,hm⟩:=Classical.choose_spec hx
 have U:Up F none→False:=fun _=>by cases‹Up F none›with|mk _ l=>exact absurd ((l r).2 ⟨n,hn⟩) (by simp)
 have le:∀{a b:Nat} {q:α},a≤b→F a=some q→F b=some q:=by
  intro a b q hab e
  induction b with
  |zero=>
    have:a=0:=by omega
    subst this;exact e
  |succ b ih=>
   by_cases hh:a=b+1
   ·subst hh;exact e
   ·exact h b q (ih (by omega))
 have h1:=le (Nat.le_max_left m n) hm
 have h2:=le (Nat.le_max_right m n) hn
 rw[h1]at h2
 exact h2
theorem yf (f:Nat) (args:List SV):Up (fun n=>m7 C n f args) (aw C f args):=ye fun n r h=>mY n f args r h
theorem Bp (env:C.Env):mono.env (fun _:Bool=>env):=fun g as r h=>h
theorem lY {f:Nat} {env:Option Nat→C.Env} (he:od.env env):∀m,od.lp (R:=R) fun i=>m6 C f (env i) m:=by
 intro m
 induction m with
 |zero=>intro b K s hK;exact od.const none
 |succ m ih=>
  intro b K s hK
  exact oE he ih b (fun i=>l9 C f b (m6 C f (env i) m b (K i)) (K i)) s (mX (fun s=>ih b K s hK) hK)
noncomputable def HY (C:bS) (f:Nat) (env:Option Nat→C.Env):Option Nat→Code→ee R→St→Option R
 |some n=>m6 C f (env (some n)) n
 |none=>fun b K s=>Go.Ps.lim fun n=>m6 C f (env none) n b K s
theorem sx {f:Nat} {env:Option Nat→C.Env} (he:od.env env):od.lp (R:=R) (HY C f env):=by
 intro b K s hK
 have h1:∀m n r,m6 C f (env (some n)) m b (K (some n)) s=some r→m6 C f (env (some (n+1))) m b (K (some (n+1))) s=some r:=fun m n r h=>(lY he m b K s hK).step n r h
 have h2:∀m i r,m6 C f (env i) m b (K i) s=some r→m6 C f (env i) (m+1) b (K i) s=some r:=fun m i r h=>vV (Bp (env i)) m b (fun _=>K i) s (fun _ _ _ h=>h) r h
 have h3:Up (fun n=>m6 C f (env none) n b (K none) s) (HY C f env none b (K none) s):=ye fun n r h=>h2 n none r h
 refine⟨fun n r h=>h1 (n+1) n r (h2 n (some n) r h),fun r=>⟨fun h=> ?_,fun⟨n,h⟩=> ?_⟩⟩
 ·obtain⟨m,hm⟩:=(h3.lim r).1 h
  obtain⟨n,hn⟩:=((lY he m b K s hK).lim r).1 hm
  refine⟨max m n, ?_⟩
  have h4:m6 C f (env (some (max m n))) m b (K (some (max m n))) s=some r:=(lY he m b K s hK).le (Nat.le_max_right m n) hn
  have h5:Up (fun q=>m6 C f (env (some (max m n))) q b (K (some (max m n))) s) (Go.Ps.lim _):=ye fun q r h=>h2 q _ r h
  exact h5.le (Nat.le_max_left m n) h4
 ·exact(h3.lim r).2 ⟨n,((lY he n b K s hK).lim r).2 ⟨n,h⟩⟩
theorem z8 {α:Type} {x y:Option α} (h:∀r,x=some r↔y=some r):x=y:=by
 cases x with
 |none=>cases y with
  |none=>rfl
  |some b=>exact absurd ((h b).2 rfl) (by simp)
 |some a=>exact((h a).1 rfl).symm
noncomputable def Jd (C:bS):Option Nat→C.Env
 |some n=>m7 C n
 |none=>aw C
theorem pP:od.env (Jd C):=fun f args=>yf f args
theorem aa (C:bS) (f:Nat) (args:List SV):aw C f args=EZ C (aw C) (fun f=>Lp C f) f args:=by
 have h:=vU (A:=od) (lp:=fun i f=>HY C f (Jd C) i) (pP (C:=C)) (fun f=>sx pP) f args
 refine z8 fun r=> ?_
 have h1:=h.lim r
 have h2:=(yf (C:=C) f args).lim r
 refine Iff.trans h2 (Iff.trans ?_ h1.symm)
 refine⟨fun⟨n,hn⟩=>⟨n,(yf (C:=C) f args).step n r hn⟩,fun⟨n,hn⟩=>⟨n+1,hn⟩⟩
theorem ak (C:bS) (f:Nat) (b:Code) (K:ee R) (s:St):Lp C f b K s=den C f (aw C) (Lp C f) b (l9 C f b (Lp C f b K) K) s:=by
 have he:od.env (fun _:Option Nat=>aw C):=fun g as=>od.const _
 have hl:=sx (R:=R) (f:=f) he
 have hK:od.kont (fun _:Option Nat=>K):=fun e s=>od.const _
 have h:=oE (A:=od) (f:=f) he hl b (fun i=>l9 C f b (HY C f (fun _=>aw C) i b K) K) s (mX (fun s=>hl b (fun _=>K) s hK) hK)
 have h0:=hl b (fun _=>K) s hK
 refine z8 fun r=> ?_
 refine Iff.trans (h0.lim r) (Iff.trans ?_ (h.lim r).symm)
 exact⟨fun⟨n,hn⟩=>⟨n,h0.step n r hn⟩,fun⟨n,hn⟩=>⟨n+1,hn⟩⟩
end Go.Ps
