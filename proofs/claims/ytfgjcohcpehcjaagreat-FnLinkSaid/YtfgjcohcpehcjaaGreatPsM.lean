import Derived.Test.YtfgjcohcpehcjaaGreatPsL
import Derived.Laws.StructEq
namespace Go.Ps
set_option linter.unusedVariables false
variable {S S':Nat→Prop} {σ σ':Sg} {w w':World} {E:En} {G:Gh} {s s':St} {a:Act} {C:b9} {R:Type} {r:R}
variable {next:Act→World→Prop} {Q:Exit→Act→World→Prop} {o:Oper} {env:C.Env}
def qT (P:Program) (t:TypeId) (us:List Value) (v:Value):Prop:=∃d,P.underlying t=some d∧(d.isRow=true→v= .agg us.toArray)∧(d.isRow=false→us=[v])
theorem yS {P:Program} {n:Nat} (ih:∀(t:TypeId) (τ:Ty) (x y:τ.den) (us vs:List Value) (a b:Value) (m:Nat) (w:World),mb P n t τ=true→aw S w τ x us→aw S w τ y vs→qT P t us a→qT P t vs b→n≤m→(Op.equalIn m t a b).run P w= .ok (kw τ x y) w)
  (hsz:∀(t:TypeId) (τ:Ty),mb P n t τ=true→∃d i,P.underlying t=some d∧(d.isRow=true→P.info? t=some i∧i.size=τ.size)∧(d.isRow=false→τ.size=1)) {m:Nat} (hm:n≤m) (w:World) (U V:List Value):
  ∀(fs:List Field) (o:Nat) (τ:Ty) (x y:τ.den) (us vs:List Value),vv (mb P n) fs o τ=true→aw S w τ x us→aw S w τ y vs→(U.drop o).take τ.size=us→(V.drop o).take τ.size=vs→(Op.eqFields m U.toArray V.toArray fs).run P w= .ok (kw τ x y) w:=by
 have part1:∀(t:TypeId) (τ:Ty) (x:τ.den) (us U:List Value) (o:Nat),mb P n t τ=true→aw S w τ x us→(U.drop o).take τ.size=us→∃a,(part t U.toArray o).run P w= .ok a w∧qT P t us a:=by
  intro t τ x us U o he hr hU
  obtain⟨d,i,hu,h1,h2⟩:=hsz t τ he
  have hl:=aw.length _ _ _ hr
  rw[←hU,List.length_take,List.length_drop]at hl
  cases hd:d.isRow with
  |true=>
   obtain⟨hi,hs⟩:=h1 hd
   by_cases h0:τ.size=0
   ·refine⟨.agg us.toArray, ?_,d,hu,fun _=>rfl,fun e=>by rw[hd]at e;simp at e⟩
    have:us=[]:=by rw[←hU,h0];simp
    subst this
    simp only[part,Sem.run_bind,eT hu,Result.andThen_ok,hd,if_true,bL hi,Sem.run_pure,hs,h0]
    congr 3
    apply Array.toList_inj.1
    simp
   ·have:=(tM (w:=w) hu hi U o (by rw[hs];omega)).1 hd
    rw[hs,hU]at this
    exact⟨_,this,d,hu,fun _=>rfl,fun e=>by rw[hd]at e;simp at e⟩
  |false=>
   have h2:=h2 hd
   rw[h2]at hU hl
   have hget:∃v,us=[v]∧U[o]? =some v:=by
    have hlen:o<U.length:=by omega
    refine⟨U[o], ?_,List.getElem?_eq_getElem hlen⟩
    rw[←hU,List.drop_eq_getElem_cons hlen,List.take_succ_cons,List.take_zero]
   obtain⟨v,rfl,hv⟩:=hget
   refine⟨v, ?_,d,hu,fun e=>by rw[hd]at e;simp at e,fun _=>rfl⟩
   simp only[part,Sem.run_bind,eT hu,Result.andThen_ok,hd]
   simp[hv]
 intro fs
 induction fs with
 |nil=>
  intro o τ x y us vs he hx hy hU hV
  cases τ<;>simp[vv]at he
  simp[Op.eqFields,kw]
 |cons f fs ihf=>
  intro o τ x y us vs he hx hy hU hV
  cases fs with
  |nil=>
   simp only[vv,aB,bne_iff_ne,ne_eq]at he
   obtain⟨⟨hn,ho⟩,he⟩:=he
   have ho:=aG ho
   subst ho
   obtain⟨a,ha,hva⟩:=part1 f.type τ x us U _ he hx hU
   obtain⟨b,hb,hvb⟩:=part1 f.type τ y vs V _ he hy hV
   simp only[Op.eqFields,av hn,Sem.run_bind,ha,hb,Result.andThen_ok,ih f.type τ x y us vs a b m w he hx hy hva hvb hm]
   cases kw τ x y<;>simp
  |cons f2 fs2=>
   cases τ with
   |pair τa τb=>
    simp only[vv,aB,bne_iff_ne,ne_eq]at he
    obtain⟨⟨⟨hn,ho⟩,he⟩,hes⟩:=he
    have ho:=aG ho
    subst ho
    obtain⟨u1,u2,rfl,hx1,hx2⟩:=hx
    obtain⟨v1,v2,rfl,hy1,hy2⟩:=hy
    have lu:=aw.length _ _ _ hx1
    have lv:=aw.length _ _ _ hy1
    have sp:∀{U u1 u2:List Value} {o:Nat},u1.length=τa.size→(U.drop o).take (τa.size+τb.size)=u1++u2→(U.drop o).take τa.size=u1∧(U.drop (o+τa.size)).take τb.size=u2:=by
     intro U u1 u2 o hl h
     have h1:(U.drop o).take τa.size=u1:=by
      have e1:(u1++u2).take τa.size=u1:=by rw[List.take_append_of_le_length (by omega),List.take_of_length_le (by omega)]
      have:=congrArg (List.take τa.size) h
      rw[List.take_take,Nat.min_eq_left (Nat.le_add_right _ _),e1]at this
      exact this
     rw[List.take_add]at h
     refine⟨h1, ?_⟩
     rw[h1,List.append_cancel_left_eq,List.drop_drop]at h
     exact h
    obtain⟨hU1,hU2⟩:=sp lu hU
    obtain⟨hV1,hV2⟩:=sp lv hV
    obtain⟨a,ha,hva⟩:=part1 f.type τa x.1 u1 U _ he hx1 hU1
    obtain⟨b,hb,hvb⟩:=part1 f.type τa y.1 v1 V _ he hy1 hV1
    have hrest:=ihf _ τb x.2 y.2 u2 v2 hes hx2 hy2 hU2 hV2
    rw[Op.eqFields.eq_2,av hn]
    simp only[Sem.run_bind,ha,hb,Result.andThen_ok,ih f.type τa x.1 y.1 u1 v1 a b m w he hx1 hy1 hva hvb hm]
    have hD:kw (.pair τa τb) x y=(kw τa x.1 y.1&&kw τb x.2 y.2):=rfl
    rw[hD]
    cases kw τa x.1 y.1
    ·simp
    ·simp only[aV,Bool.false_eq_true,if_false,Bool.true_and];exact hrest
   |_=>simp[vv]at he
theorem qU {P:Program} {n:Nat} (t:TypeId) (τ:Ty) (h:mb P n t τ=true):∃d i,P.underlying t=some d∧(d.isRow=true→P.info? t=some i∧i.size=τ.size)∧(d.isRow=false→τ.size=1):=by
 cases n with
 |zero=>simp[mb]at h
 |succ n=>
  simp only[mb]at h
  split at h
  ·rename_i hu;cases τ<;>simp at h;exact⟨_,default,hu,fun e=>by simp[TypeDesc.isRow]at e,fun _=>rfl⟩
  ·rename_i hu;cases τ<;>simp at h;exact⟨_,default,hu,fun e=>by simp[TypeDesc.isRow]at e,fun _=>rfl⟩
  ·rename_i hu;cases τ<;>simp at h;exact⟨_,default,hu,fun e=>by simp[TypeDesc.isRow]at e,fun _=>rfl⟩
  ·rename_i fs hu
   simp only[aB]at h
   have h2:=h.1.2
   split at h2
   ·rename_i i hi;exact⟨_,i,hu,fun _=>⟨hi,aG h2⟩,fun e=>by simp[TypeDesc.isRow]at e⟩
   ·simp at h2
  ·rename_i m e hu
   split at h
   ·simp only[aB]at h
    have h2:=h.2
    split at h2
    ·rename_i i hi;exact⟨_,i,hu,fun _=>⟨hi,aG h2⟩,fun e=>by simp[TypeDesc.isRow]at e⟩
    ·simp at h2
   ·simp at h
  ·simp at h
theorem kU {S:Nat→Prop} {w:World} {k:IntKind}:∀{xs:List Int} {vs:List Value},an (aw S w (.int k)) xs vs→vs=xs.map (Value.int k)
 | [],_,h=>h
 |x::xs,_,⟨u,v,e,a,b⟩=>by
  have ha:u=[Value.int k x]:=a
  rw[e,ha,kU b];rfl
theorem mB {P:Program} (w:World) (d:Nat) (t e:TypeId) (n:Nat) (k:IntKind) (ht:P.underlying t=some (.array n e)) (he:P.underlying e=some (.int k)) (hsz:∀w,(sizeOf e).run P w= .ok 1 w)
  (xs ys:List Int) (hx:xs.length=n) (hy:ys.length=n):
  (Op.equalIn (d+2) t (.agg (xs.map (Value.int k)).toArray) (.agg (ys.map (Value.int k)).toArray)).run P w= .ok ((xs.zip ys).all fun p=>decide (p.1=p.2)) w:=by
 have hall:((xs.zip ys).all fun p=>decide (p.1=p.2))=((List.range' 0 n 1).all fun i=>decide (xs.getD i 0=ys.getD i 0)):=by
  rw[Bool.eq_iff_iff,List.all_eq_true,List.all_eq_true]
  constructor
  ·intro h i hi
   have hi:i<n:=by simpa using(List.mem_range'_1.1 hi).2
   have:=h (xs[i],ys[i]) (List.mem_iff_getElem.2 ⟨i,by simp;omega,by simp⟩)
   simpa[List.getD,List.getElem?_eq_getElem (show i<xs.length by omega),List.getElem?_eq_getElem (show i<ys.length by omega)]using this
  ·intro h p hp
   obtain⟨i,hi,rfl⟩:=List.mem_iff_getElem.1 hp
   simp at hi
   have:=h i (List.mem_range'_1.2 ⟨Nat.zero_le _,by omega⟩)
   simpa[List.getD,List.getElem?_eq_getElem (show i<xs.length by omega),List.getElem?_eq_getElem (show i<ys.length by omega)]using this
 rw[hall,Op.equalIn]
 simp only[Sem.run_bind,run_underlying ht,Result.andThen_ok,hsz,Std.Legacy.Range.forIn_eq_forIn_range',Std.Legacy.Range.size,Nat.sub_zero,Nat.add_sub_cancel,Nat.div_one]
 have hl:∀i∈List.range' 0 n 1,i<n:=fun i hi=>by simpa using(List.mem_range'_1.1 hi).2
 generalize List.range' 0 n 1=l at hl⊢
 induction l with
 |nil=>simp
 |cons i l ih=>
  have hi:i<n:=hl i (by simp)
  have px:(part e (xs.map (Value.int k)).toArray (i*1)).run P w= .ok (.int k (xs.getD i 0)) w:=by
   simp[part,isAgg,run_underlying he,List.getD,List.getElem?_eq_getElem (show i<xs.length by omega)]
  have py:(part e (ys.map (Value.int k)).toArray (i*1)).run P w= .ok (.int k (ys.getD i 0)) w:=by
   simp[part,isAgg,run_underlying he,List.getD,List.getElem?_eq_getElem (show i<ys.length by omega)]
  have pe:(Op.equalIn (d+1) e (.int k (xs.getD i 0)) (.int k (ys.getD i 0))).run P w= .ok (decide (xs.getD i 0=ys.getD i 0)) w:=by
   rw[run_equalIn_int w d e k k _ _ he]
   congr 1
  simp only[List.forIn_cons,Sem.run_bind,px,py,pe,Result.andThen_ok,List.all_cons]
  cases hb:decide (xs.getD i 0=ys.getD i 0)
  ·simp
  ·simp only[aV,Bool.false_eq_true,if_false,Sem.run_pure,Result.andThen_ok,Bool.true_and]
   exact ih fun j hj=>hl j (by simp[hj])
theorem wj {P:Program}:∀(n:Nat) (t:TypeId) (τ:Ty) (x y:τ.den) (us vs:List Value) (a b:Value) (m:Nat) (w:World),mb P n t τ=true→aw S w τ x us→aw S w τ y vs→qT P t us a→qT P t vs b→n≤m→(Op.equalIn m t a b).run P w= .ok (kw τ x y) w:=by
 intro n
 induction n with
 |zero=>intro t τ x y us vs a b m w h;simp[mb]at h
 |succ n ih=>
  intro t τ x y us vs a b m w h hx hy ⟨d,hu,ha1,ha2⟩ ⟨d',hu',hb1,hb2⟩ hm
  rw[hu]at hu';simp only[aa]at hu';subst hu'
  obtain⟨m,rfl⟩:∃m',m=m'+1:=⟨m-1,by omega⟩
  simp only[mb,hu]at h
  cases d<;>simp only at h<;>try (simp at h;done)
  case bool=>
   cases τ<;>simp at h
   have ha:=ha2 rfl;have hb:=hb2 rfl
   rw[hx]at ha;rw[hy]at hb
   simp only[ay,and_true]at ha hb
   subst ha hb
   exact run_equalIn_bool' w m t x y hu
  case int k=>
   cases τ<;>simp at h
   subst h
   have ha:=ha2 rfl;have hb:=hb2 rfl
   rw[hx]at ha;rw[hy]at hb
   simp only[ay,and_true]at ha hb
   subst ha hb
   exact run_equalIn_int w m t _ _ x y hu
  case string=>
   cases τ<;>simp at h
   have ha:=ha2 rfl;have hb:=hb2 rfl
   rw[hx]at ha;rw[hy]at hb
   simp only[ay,and_true]at ha hb
   subst ha hb
   exact run_equalIn_string w m t x y hu
  case struct fs=>
   simp only[aB,Bool.not_eq_true']at h
   obtain⟨⟨h1,h2⟩,h3⟩:=h
   have ha:=ha1 rfl;have hb:=hb1 rfl
   subst ha hb
   have hf:P.fieldsOf t=fs:=by simp[Program.fieldsOf,hu]
   rw[run_equalIn_struct w m t _ _ (by rw[hf];exact hu) h1,hf]
   have l1:=aw.length _ _ _ hx
   have l2:=aw.length _ _ _ hy
   exact yS ih (fun t τ h=>qU t τ h) (by omega) w us vs fs.toList 0 τ x y us vs h3 hx hy (by rw[List.drop_zero,List.take_of_length_le (by omega)]) (by rw[List.drop_zero,List.take_of_length_le (by omega)])
  case array n' e=>
   split at h
   ·rename_i k m'
    simp only[aB]at h
    obtain⟨⟨⟨⟨h1,h2⟩,h3⟩,h4⟩,h5⟩:=h
    have h1:=bi h1
    have h2:=aG h2
    subst h2
    have ha:=ha1 rfl;have hb:=hb1 rfl
    subst ha hb
    obtain⟨l1,r1⟩:=hx
    obtain⟨l2,r2⟩:=hy
    have e1:=kU r1
    have e2:=kU r2
    subst e1 e2
    obtain⟨m,rfl⟩:∃q,m=q+1:=⟨m-1,by omega⟩
    split at h3
    ·rename_i k' hk
     have hk':=of_decide_eq_true h3
     subst hk'
     split at h4
     ·rename_i i hi
      have hz:=aG h4
      exact mB w m t e _ k' hu hk (fun w=>by rw[bL hi,hz]) x y l1 l2
     ·simp at h4
    ·simp at h3
   ·simp at h
theorem yT (hC:C.OK) {op:BinOp} {t:TypeId} (xo yo:Operand) {x y:List PV} {vx vy:Value} {k:PV→Option R} (hx:aC S σ w (.agg x) vx) (hy:aC S σ w (.agg y) vy) (h:Gp C op t x y k=some r):
  ∃p v,(do eqGuard op t xo yo vx vy;binOp op t vx vy:Sem Value).run C.P w= .ok v w∧aP S σ w p [v]∧k p=some r:=by
 unfold Gp at h
 split at h
 ·rename_i I hI
  rcases ab h with⟨hb,h⟩|⟨_,h⟩
  ·simp only[aB]at hb
   obtain⟨⟨hbe,hagg⟩,hb2⟩:=hb
   split at h
   ·rename_i dx dy hdx hdy
    obtain⟨us,rfl,hcx⟩:=hx
    obtain⟨vs,rfl,hcy⟩:=hy
    obtain⟨e1,e2⟩:=(hC.ti t I hI).eq hbe
    have hrx:=bE hcx hdx
    have hry:=bE hcy hdy
    have hrun:(eqGuard op t xo yo (.agg us.toArray) (.agg vs.toArray)).run C.P w= .ok () w:=run_eqGuard_agg w op t xo yo _ _ e2
    obtain⟨d,i,hu,h1,h2⟩:=qU t I.ty e1
    have hag:I.isAgg=true:=by
     cases ha:I.isAgg with
     |true=>rfl
     |false=>rw[ha]at hagg;simp at hagg
    have hd:d.isRow=true:=by
     obtain⟨d',hu',hd',_⟩:=(hC.ti t I hI).under
     rw[hu]at hu';simp only[aa]at hu';subst hu'
     rw[hd',hag]
    have hv:∀us:List Value,qT C.P t us (.agg us.toArray):=fun us=>⟨d,hu,fun _=>rfl,fun e=>by rw[hd]at e;simp at e⟩
    have heq:=wj (S:=S) 20 t I.ty dx dy us vs _ _ 10000 w e1 hrx hry (hv us) (hv vs) (by omega)
    simp only[Sem.run_bind,hrun,Result.andThen_ok]
    cases op<;>simp only[]at h<;>try (simp at h;done)
    ·exact df h (by rw[run_eql_struct,heq];rfl)
    ·exact df h (by rw[run_neq_struct,heq];rfl)
   ·simp at h
  ·simp at h
 ·simp at h
end Go.Ps
