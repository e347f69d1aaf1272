import Derived.Test.YtfgjcohcpehcjaaGreatPsU
namespace Go.Ps
set_option linter.unusedVariables false
variable {C:b9} {R:Type} {I:Type}
structure Gm (I:Type)where
 ok:{α:Type}→(I→Option α)→Prop
 const:∀{α:Type} (x:Option α),ok (fun _:I=>x)
 bind:∀{α β:Type} {x:I→Option α} {k:I→α→Option β},ok x→(∀a,ok fun i=>k i a)→ok fun i=>(x i).bind (k i)
variable (A:Gm I)
def Gm.env (env:I→C.Env):Prop:=∀g as,A.ok fun i=>env i g as
def Gm.kont (K:I→d5 R):Prop:=∀e s,A.ok fun i=>K i e s
def Gm.lp (lp:I→Code→d5 R→St→Option R):Prop:=∀b (K:I→d5 R) s,A.kont K→A.ok fun i=>lp i b (K i) s
variable {A}
theorem qK {env:I→C.Env} (he:A.env env) {id:Nat} {s:St} {f:Nat} {xs:List SV} {k:I→SV→List bJ→List Nat→Option R} (hk:∀x us rs,A.ok fun i=>k i x us rs):A.ok fun i=>ja C (env i) id s f xs (k i):=by
 have:(fun i=>ja C (env i) id s f xs (k i))=fun i=>(tF C s xs (C.alts f)).bind fun p=>bif xw C p.1 p.2.1 p.2.2 then(env i p.1 p.2.2.as).bind fun r=>(tE C id s p.1 p.2.1 p.2.2 r).bind (Ck (k i))else none:=funext fun i=>by
  unfold ja
  rw[nM]
  exact congrArg _ (funext fun p=>lr _ _ _ _ _ _ _)
 rw[this]
 refine A.bind (A.const _) fun p=> ?_
 cases xw C p.1 p.2.1 p.2.2
 ·exact A.const none
 ·exact A.bind (he p.1 p.2.2.as) fun r=>A.bind (A.const _) fun q=>hk q.1 q.2.1 q.2.2
theorem CE {env:I→C.Env} (he:A.env env) {id:Nat} {s:St} {x:SV} {xs:List SV} {k:I→SV→List bJ→List Nat→Option R} (hk:∀x us rs,A.ok fun i=>k i x us rs):A.ok fun i=>Cl C (env i) id s x xs (k i):=by
 cases x with
 |v p=>
  cases p<;>try exact A.const none
  case fn f caps=>
   simp only[Cl]
   cases mw caps with
   |none=>exact A.const none
   |some ys=>
    simp only[]
    cases Nat.ble (C.alts f).length 1
    ·exact A.const none
    ·exact qK he hk
 |agg _=>exact A.const none
 |tup _ _=>exact A.const none
theorem CF {env:I→C.Env} (he:A.env env) {id:Nat} {op:Op} {s:St} {k:I→SV→List bJ→List Nat→Option R} (hk:∀x us rs,A.ok fun i=>k i x us rs):A.ok fun i=>wg C (env i) id op s (k i):=by
 have:(fun i=>wg C (env i) id op s (k i))=fun i=>(wg C (env i) id op s gR).bind (Ck (k i)):=funext fun i=>Dt _ _ _ _ _
 rw[this]
 refine A.bind ?_ fun p=>hk p.1 p.2.1 p.2.2
 have hd:∀(x:SV) (us:List bJ) (rs:List Nat),A.ok fun _:I=>gR x us rs:=fun x us rs=>A.const _
 cases op<;>simp only[wg]<;>try exact A.const _
 case makeFunc f _ _=>cases f<;>exact A.const _
 case slice t x lo hi m=>cases m<;>exact A.const _
 case call c=>
  cases c.callee with
  |value v=>cases v<;>first|exact qK he hd|exact CE he hd
  |builtin b=>cases b<;>exact A.const _
  |_=>exact A.const _
theorem AG {o:Oper} {k:I→St→de→Option R} (hk:∀s F,A.ok fun i=>k i s F) (F:de) (x:SV) (s:St):A.ok fun i=>nA o (k i) F x s:=by
 unfold nA
 cases o.dst with
 |none=>exact hk s F
 |some d=>
  simp only[]
  cases Nat.blt d s.n
  ·exact A.const none
  ·exact hk _ F
theorem qL {env:I→C.Env} (he:A.env env) {ops:Array Oper} {o:Oper} {s:St} {k:I→St→de→Option R} (hk:∀s F,A.ok fun i=>k i s F):A.ok fun i=>fI C (env i) ops o s (k i):=by
 have:(fun i=>fI C (env i) ops o s (k i))=fun i=>(Uo C (env i) ops o s).bind fun p=>nA o (k i) (jx s p.2.1 p.2.2) p.1 (s.upds p.2.1):=funext fun i=>iN _ _ _
 rw[this]
 refine A.bind ?_ fun p=>AG hk _ _ _
 unfold Uo
 refine A.bind (A.const _) fun b=> ?_
 cases b
 ·exact A.const _
 ·exact CF he fun x us rs=>A.const _
theorem tT {env:I→C.Env} (he:A.env env) {ops:Array Oper}:∀{l:List Oper} {s:St} {k:I→St→Option R} (hk:∀s,A.ok fun i=>k i s),A.ok fun i=>yQ C (env i) ops l s (k i)
 | [],s,k,hk=>hk s
 |o::l,s,k,hk=>qL (k:=fun i s _=>yQ C (env i) ops l s (k i)) he fun s _=>tT he hk
theorem tU {env:I→C.Env} (he:A.env env) {ops:Array Oper}:∀{l:List Oper} {s:St} {k:I→St→List de→Option R} (hk:∀s Fs,A.ok fun i=>k i s Fs),A.ok fun i=>nB C (env i) ops l s (k i)
 | [],s,k,hk=>hk s []
 |o::l,s,k,hk=>qL (k:=fun i s F=>nB C (env i) ops l s fun s Fs=>k i s (F::Fs)) he fun s F=>tU he fun s Fs=>hk s (F::Fs)
theorem nP {env:I→C.Env} (he:A.env env) {f:Nat} {lp:I→Code→d5 R→St→Option R} (hl:A.lp lp):∀(c:Code) (K:I→d5 R) (s:St),A.kont K→A.ok fun i=>den C f (env i) (lp i) c (K i) s:=by
 intro c
 induction c with
 |skip=>intro K s hK;exact hK .normal s
 |ret=>intro K s hK;exact hK .ret s
 |exit id=>intro K s hK;exact hK (.exit id) s
 |region id ops draw=>
  intro K s hK
  simp only[den]
  cases draw
  ·exact tT he (hK .normal)
  ·refine tU (k:=fun i s Fs=>bif GB C ops Fs then K i .normal s else none) he fun s Fs=> ?_
   cases GB C ops Fs
   ·exact A.const none
   ·exact hK .normal s
 |seq x y ihx ihy=>
  intro K s hK
  simp only[den]
  refine ihx _ s fun e s=> ?_
  cases e<;>first|exact ihy K s hK|exact hK _ s
 |cond c x y ihx ihy=>
  intro K s hK
  simp only[den]
  cases s.ev c with
  |v p=>
   cases p<;>try exact A.const none
   case bool b=>cases b;exact ihy K s hK;exact ihx K s hK
  |agg _=>exact A.const none
  |tup _ _=>exact A.const none
 |block id x ih=>
  intro K s hK
  simp only[den]
  refine ih _ s fun e s=> ?_
  cases e<;>try exact hK _ s
  case exit j=>
   simp only[ss]
   cases Nat.beq j id
   ·exact hK _ s
   ·exact hK _ s
 |loop b ih=>
  intro K s hK
  simp only[den]
  cases my C f b s with
  |none=>exact A.const none
  |some s=>exact hl b K s hK
 |_=>intro K s hK;exact A.const none
theorem mq {f:Nat} {b:Code} {L:I→St→Option R} {K:I→d5 R} (hL:∀s,A.ok fun i=>L i s) (hK:A.kont K):A.kont fun i=>kA C f b (L i) (K i):=by
 intro e s
 cases e<;>try exact hK _ s
 simp only[kA]
 cases my C f b s with
 |none=>exact A.const none
 |some s=>exact hL s
theorem AH {env:I→C.Env} (he:A.env env) {lp:I→(f:Nat)→Code→d5 (C.Res f)→St→Option (C.Res f)} (hl:∀f,A.lp fun i=>lp i f) (f:Nat) (args:List SV):A.ok fun i=>AM C (env i) (lp i) f args:=by
 unfold AM
 cases C.fn f with
 |none=>exact A.const none
 |some F=>
  cases C.sig f with
  |none=>exact A.const none
  |some sg=>
   simp only[]
   cases F.body with
   |none=>exact A.const none
   |some c=>
    cases enter sg.params args 0 [] []with
    |none=>exact A.const none
    |some q=>exact nP he (hl f) c (fun _=>_) _ fun e s=>A.const _
theorem tV {env:I→C.Env} (he:A.env env) {lp:I→(f:Nat)→Code→d5 (C.Res f)→St→Option (C.Res f)} (hl:∀f,A.lp fun i=>lp i f) (f:Nat) (args:List SV):A.ok fun i=>yR C (env i) (lp i) f args:=by
 unfold yR
 cases C.prim f with
 |some p=>exact A.const _
 |none=>exact AH he hl f args
def mono:Gm Bool where
 ok x:=∀r,x false=some r→x true=some r
 const x:=fun _ h=>h
 bind:=by
  intro α β x k hx hk r h
  rw[Option.bind_eq_some_iff]at h⊢
  obtain⟨y,h1,h2⟩:=h
  exact⟨y,hx y h1,hk y r h2⟩
abbrev Gn {α:Type} (x y:α):Bool→α:=fun b=>match b with|false=>x|true=>y
theorem tW {f:Nat} {env:Bool→C.Env} (he:mono.env env):∀n,mono.lp (R:=R) (Gn (mz C f (env false) n) (mz C f (env true) (n+1))):=by
 intro n
 induction n with
 |zero=>intro b K s hK r h;simp[Gn,mz]at h
 |succ n ih=>
  intro b K s hK
  have:=nP (f:=f) he ih b (fun i=>kA C f b (Gn (mz C f (env false) n) (mz C f (env true) (n+1)) i b (K i)) (K i)) s (mq (fun s=>ih b K s hK) hK)
  exact this
theorem mr:∀n,mono.env (C:=C) (Gn (mA C n) (mA C (n+1)))
 |0=>fun g as r h=>by simp[Gn,mA]at h
 |n+1=>fun g as=>tV (lp:=Gn (fun f=>mz C f (mA C n) n) (fun f=>mz C f (mA C (n+1)) (n+1))) (mr n) (fun f b K s hK r h=>tW (f:=f) (mr n) n b K s hK r h) g as
structure Up {α:Type} (x:Nat→Option α) (l:Option α):Prop where
 step:∀n r,x n=some r→x (n+1)=some r
 lim:∀r,l=some r↔∃n,x n=some r
theorem Up.le {α:Type} {x:Nat→Option α} {l:Option α} (h:Up x l) {m n:Nat} (hmn:m≤n) {r:α} (e:x m=some r):x n=some r:=by
 induction n with
 |zero=>
   have:m=0:=by omega
   subst this;exact e
 |succ n ih=>
  by_cases hm:m=n+1
  ·subst hm;exact e
  ·exact h.step n r (ih (by omega))
def ny:Gm (Option Nat)where
 ok x:=Up (fun n=>x (some n)) (x none)
 const x:=⟨fun _ _ h=>h,fun r=>⟨fun h=>⟨0,h⟩,fun⟨_,h⟩=>h⟩⟩
 bind:=by
  intro α β x k hx hk
  refine⟨fun n r h=> ?_,fun r=>⟨fun h=> ?_,fun⟨n,h⟩=> ?_⟩⟩
  ·rw[Option.bind_eq_some_iff]at h⊢
   obtain⟨y,h1,h2⟩:=h
   exact⟨y,hx.step n y h1,(hk y).step n r h2⟩
  ·rw[Option.bind_eq_some_iff]at h
   obtain⟨y,h1,h2⟩:=h
   obtain⟨m,h1⟩:=(hx.lim y).1 h1
   obtain⟨n,h2⟩:=((hk y).lim r).1 h2
   refine⟨max m n, ?_⟩
   rw[Option.bind_eq_some_iff]
   exact⟨y,hx.le (Nat.le_max_left m n) h1,(hk y).le (Nat.le_max_right m n) h2⟩
  ·rw[Option.bind_eq_some_iff]at h⊢
   obtain⟨y,h1,h2⟩:=h
   exact⟨y,(hx.lim y).2 ⟨n,h1⟩,((hk y).lim r).2 ⟨n,h2⟩⟩
theorem v8 {α:Type} {F:Nat→Option α} (h:∀n r,F n=some r→F (n+1)=some r):Up F (Go.Ps.lim F):=by
 refine⟨h,fun r=>⟨tH,fun⟨n,hn⟩=> ?_⟩⟩
 have hx:∃r n,F n=some r:=⟨r,n,hn⟩
 have:Go.Ps.lim F=some (Classical.choose hx):=by simp[Go.Ps.lim,hx]
 rw[this]
 obtain⟨m,hm⟩:=Classical.choose_spec hx
 have U:Up F none→False:=fun _=>by cases‹Up F none›with|mk _ l=>exact absurd ((l r).2 ⟨n,hn⟩) (by simp)
 have le:∀{a b:Nat} {q:α},a≤b→F a=some q→F b=some q:=by
  intro a b q hab e
  induction b with
  |zero=>
    have:a=0:=by omega
    subst this;exact e
  |succ b ih=>
   by_cases hh:a=b+1
   ·subst hh;exact e
   ·exact h b q (ih (by omega))
 have h1:=le (Nat.le_max_left m n) hm
 have h2:=le (Nat.le_max_right m n) hn
 rw[h1]at h2
 exact h2
theorem v9 (f:Nat) (args:List SV):Up (fun n=>mA C n f args) (bg C f args):=v8 fun n r h=>mr n f args r h
theorem yM (env:C.Env):mono.env (fun _:Bool=>env):=fun g as r h=>h
theorem lz {f:Nat} {env:Option Nat→C.Env} (he:ny.env env):∀m,ny.lp (R:=R) fun i=>mz C f (env i) m:=by
 intro m
 induction m with
 |zero=>intro b K s hK;exact ny.const none
 |succ m ih=>
  intro b K s hK
  exact nP he ih b (fun i=>kA C f b (mz C f (env i) m b (K i)) (K i)) s (mq (fun s=>ih b K s hK) hK)
noncomputable def CG (C:b9) (f:Nat) (env:Option Nat→C.Env):Option Nat→Code→d5 R→St→Option R
 |some n=>mz C f (env (some n)) n
 |none=>fun b K s=>Go.Ps.lim fun n=>mz C f (env none) n b K s
theorem qM {f:Nat} {env:Option Nat→C.Env} (he:ny.env env):ny.lp (R:=R) (CG C f env):=by
 intro b K s hK
 have h1:∀m n r,mz C f (env (some n)) m b (K (some n)) s=some r→mz C f (env (some (n+1))) m b (K (some (n+1))) s=some r:=fun m n r h=>(lz he m b K s hK).step n r h
 have h2:∀m i r,mz C f (env i) m b (K i) s=some r→mz C f (env i) (m+1) b (K i) s=some r:=fun m i r h=>tW (yM (env i)) m b (fun _=>K i) s (fun _ _ _ h=>h) r h
 have h3:Up (fun n=>mz C f (env none) n b (K none) s) (CG C f env none b (K none) s):=v8 fun n r h=>h2 n none r h
 refine⟨fun n r h=>h1 (n+1) n r (h2 n (some n) r h),fun r=>⟨fun h=> ?_,fun⟨n,h⟩=> ?_⟩⟩
 ·obtain⟨m,hm⟩:=(h3.lim r).1 h
  obtain⟨n,hn⟩:=((lz he m b K s hK).lim r).1 hm
  refine⟨max m n, ?_⟩
  have h4:mz C f (env (some (max m n))) m b (K (some (max m n))) s=some r:=(lz he m b K s hK).le (Nat.le_max_right m n) hn
  have h5:Up (fun q=>mz C f (env (some (max m n))) q b (K (some (max m n))) s) (Go.Ps.lim _):=v8 fun q r h=>h2 q _ r h
  exact h5.le (Nat.le_max_left m n) h4
 ·exact(h3.lim r).2 ⟨n,((lz he n b K s hK).lim r).2 ⟨n,h⟩⟩
theorem xB {α:Type} {x y:Option α} (h:∀r,x=some r↔y=some r):x=y:=by
 cases x with
 |none=>cases y with
  |none=>rfl
  |some b=>exact absurd ((h b).2 rfl) (by simp)
 |some a=>exact((h a).1 rfl).symm
noncomputable def Dw (C:b9):Option Nat→C.Env
 |some n=>mA C n
 |none=>bg C
theorem oX:ny.env (Dw C):=fun f args=>v9 f args
theorem AI (C:b9) (f:Nat) (args:List SV):bg C f args=yR C (bg C) (fun f=>Lp C f) f args:=by
 have h:=tV (A:=ny) (lp:=fun i f=>CG C f (Dw C) i) (oX (C:=C)) (fun f=>qM oX) f args
 refine xB fun r=> ?_
 have h1:=h.lim r
 have h2:=(v9 (C:=C) f args).lim r
 refine Iff.trans h2 (Iff.trans ?_ h1.symm)
 refine⟨fun⟨n,hn⟩=>⟨n,(v9 (C:=C) f args).step n r hn⟩,fun⟨n,hn⟩=>⟨n+1,hn⟩⟩
theorem Gy (C:b9) (f:Nat) (b:Code) (K:d5 R) (s:St):Lp C f b K s=den C f (bg C) (Lp C f) b (kA C f b (Lp C f b K) K) s:=by
 have he:ny.env (fun _:Option Nat=>bg C):=fun g as=>ny.const _
 have hl:=qM (R:=R) (f:=f) he
 have hK:ny.kont (fun _:Option Nat=>K):=fun e s=>ny.const _
 have h:=nP (A:=ny) (f:=f) he hl b (fun i=>kA C f b (CG C f (fun _=>bg C) i b K) K) s (mq (fun s=>hl b (fun _=>K) s hK) hK)
 have h0:=hl b (fun _=>K) s hK
 refine xB fun r=> ?_
 refine Iff.trans (h0.lim r) (Iff.trans ?_ (h.lim r).symm)
 exact⟨fun⟨n,hn⟩=>⟨n,h0.step n r hn⟩,fun⟨n,hn⟩=>⟨n+1,hn⟩⟩
end Go.Ps
