import Derived.Test.YtfgjcohcpehcjaaGreatPsE
import Derived.Laws.Slices
import Derived.Laws.BytesArg
import Derived.Laws.IdiomStrings
namespace Go.Ps
set_option linter.unusedVariables false
variable {S S':Nat→Prop} {σ σ':Sg} {w w':World} {E:En} {G:Gh} {s:St} {a:Act} {C:b9} {R:Type} {r:R}
theorem gC (hC:C.OK) {t:TypeId} (h:na C t=true):C.P.underlying t=some .string:=by
 unfold na at h
 split at h
 ·rename_i I hI
  split at h
  ·rename_i hty
   obtain⟨d,hu,_,_,hd⟩:=(hC.ti t I hI).under
   rw[hty]at hd;simp only at hd;rw[hu,hd]
  ·simp at h
 ·simp at h
theorem ks (hC:C.OK) {t:TypeId} (h:lC C t=true):∃q,C.P.underlying t=some (.slice q):=by
 unfold lC at h
 split at h
 ·rename_i I hI
  split at h
  ·rename_i q hsh
   obtain⟨d,hu,_,hd,_⟩:=(hC.ti t I hI).under
   rw[hsh]at hd;simp only at hd;exact⟨q,by rw[hu,hd]⟩
  ·simp at h
 ·simp at h
theorem cZ (hC:C.OK) {t:TypeId} {e:Ty} (h:eX C t e=true):∃q i,C.P.underlying t=some (.slice q)∧C.P.info? q=some i∧i.size=e.size:=by
 unfold eX at h
 split at h
 ·rename_i I hI
  split at h
  ·rename_i q hsh
   split at h
   ·rename_i E hE
    obtain⟨d,hu,_,hd,_⟩:=(hC.ti t I hI).under
    rw[hsh]at hd;simp only at hd
    obtain⟨⟨i,z,hi,hs,_⟩,_⟩:=hC.ti q E hE
    exact⟨q,i,by rw[hu,hd],hi,by rw[hs];exact aG h⟩
   ·simp at h
  ·simp at h
 ·simp at h
theorem i9 (hC:C.OK) {t:TypeId} {q:TypeId} {e:Ty} (h:ir C t=some (q,e)):∃i,C.P.underlying t=some (.slice q)∧C.P.info? q=some i∧i.size=e.size∧(∀k,e= .int k→C.P.underlying q=some (.int k)):=by
 unfold ir at h
 split at h
 ·rename_i I hI
  split at h
  ·rename_i q hsh
   split at h
   ·rename_i E hE
    simp only[aa,ar]at h
    obtain⟨rfl,rfl⟩:=h
    obtain⟨d,hu,_,hd,_⟩:=(hC.ti t I hI).under
    rw[hsh]at hd;simp only at hd
    obtain⟨⟨i,z,hi,hs,_⟩,⟨d',hu',_,_,hd'⟩,hsz⟩:=hC.ti q E hE
    exact⟨i,by rw[hu,hd],hi,by rw[hs,hsz],fun k hk=>by rw[hk]at hd';simp only at hd';rw[hu',hd']⟩
   ·simp at h
  ·simp at h
 ·simp at h
theorem bL {P:Program} {t:TypeId} {i:TypeInfo} (h:P.info? t=some i):(sizeOf t).run P w= .ok i.size w:=by
 simp[sizeOf,typeInfo,h]
theorem dK.off_move (q:dK) (n:Nat):(q.move n).off=q.off+n:=by
 cases q with
 | «at»o=>rfl
 |arr o e m j q=>simp only[dK.move,dK.off];omega
theorem dK.ok_move {q:dK} {n:Nat} (h:q.ok):(q.move n).ok:=by cases q<;>exact h
theorem tL {p q:PV} {n:Nat} {v:Value} (h:aP S σ w p [v]) (e:nR p n=some q):∃b o,v= .pointer (some ⟨b,o,none⟩)∧aP S σ w q [.pointer (some ⟨b,o+n,none⟩)]:=by
 cases p<;>simp only[nR]at e<;>try (simp at e;done)
 case ptr id off=>
  simp only[aa]at e;subst e
  obtain⟨L,b,o,hL,hv,hq,hx⟩:=h
  simp only[ay,and_true]at hx
  exact⟨b,o+off.off,hx,L,b,o,hL,hv,dK.ok_move hq,by rw[dK.off_move,Nat.add_assoc]⟩
 case elt id i off=>
  simp only[aa]at e;subst e
  obtain⟨L,b,m,c,hL,hv,h0,hlt,hq,hx⟩:=h
  simp only[ay,and_true]at hx
  exact⟨b,_,hx,L,b,m,c,hL,hv,h0,hlt,dK.ok_move hq,by rw[dK.off_move,Nat.add_assoc]⟩
 case cptr τ x off=>
  simp only[aa]at e;subst e
  obtain⟨b,o,us,hS,hr,ht,hx⟩:=h
  simp only[ay,and_true]at hx
  exact⟨b,o+off,hx,b,o,us,hS,hr,ht,by rw[Nat.add_assoc]⟩
theorem jl (hC:C.OK) {t:TypeId} {f off size:Nat} (h:iv C t f=some (off,size)):∃l fl i,C.P.underlying t=some (.struct l)∧l[f]? =some fl∧fl.offset=off∧C.P.info? fl.type=some i∧i.size=size:=by
 unfold iv at h
 split at h
 ·rename_i fs _ _ _ _ _ _ _ hI
  obtain⟨d,hu,_,hd,_⟩:=(hC.ti t _ hI).under
  simp only at hd
  obtain⟨l,rfl,hl,_⟩:=hd
  obtain⟨fl,h1,h2,i,h3,h4⟩:=hl.get h
  exact⟨l.toArray,fl,i,hu,by simpa using h1,h2,h3,h4⟩
 ·simp at h
theorem oQ (hC:C.OK) {t:TypeId} {f:Nat} {agg:Bool} (h:lE C t f=some agg):∃l fl d,C.P.underlying t=some (.struct l)∧l[f]? =some fl∧C.P.underlying fl.type=some d∧d.isRow=agg:=by
 unfold lE at h
 split at h
 ·rename_i ags _ _ _ _ _ _ hI
  obtain⟨d,hu,_,hd,_⟩:=(hC.ti t _ hI).under
  simp only at hd
  obtain⟨l,rfl,_,hl⟩:=hd
  obtain⟨fl,h1,d,h2,h3⟩:=hl.get h
  exact⟨l.toArray,fl,d,hu,by simpa using h1,h2,h3⟩
 ·simp at h
theorem qc (hC:C.OK) {t:TypeId} {f off size:Nat} (h:iv C t f=some (off,size)) (hs:1≤size) (b o:Nat):
  (Instr.fieldAt t (.pointer (some ⟨b,o,none⟩)) f).run C.P w= .ok (.pointer (some ⟨b,o+off,none⟩)) w:=by
 obtain⟨l,fl,i,hu,h1,h2,h3,h4⟩:=jl hC h
 simp only[Instr.fieldAt,Sem.run_bind,run_underlying hu,Result.andThen_ok,h1,Instr.sureAddr,Sem.run_pure,fieldPlace,bL h3]
 rw[ak (by omega)]
 simp[Addr.add_mid,h2]
theorem yD (hC:C.OK) {t:TypeId} {f off size:Nat} {agg:Bool} (h:iv C t f=some (off,size)) (h':lE C t f=some agg) {vs:List Value} (hl:off+size≤vs.length):
  (agg=true→(Instr.field t (.agg vs.toArray) f).run C.P w= .ok (.agg ((vs.drop off).take size).toArray) w)∧(agg=false→∀v,(vs.drop off).take size=[v]→(Instr.field t (.agg vs.toArray) f).run C.P w= .ok v w):=by
 obtain⟨l,fl,i,hu,h1,h2,h3,h4⟩:=jl hC h
 obtain⟨l',fl',d,hu',h1',hd,hr⟩:=oQ hC h'
 rw[hu]at hu'
 simp only[aa,TypeDesc.struct.injEq]at hu'
 subst hu'
 rw[h1]at h1'
 simp only[aa]at h1'
 subst h1'
 refine⟨fun ha=> ?_,fun ha v hv=> ?_⟩
 ·simp only[Instr.field,Sem.run_bind,run_underlying hu,Result.andThen_ok,h1,part,eT hd,hr,ha,asAgg,Sem.run_pure,h2,if_true,bL h3,h4]
  congr 3
  apply Array.toList_inj.1
  simp[List.take_drop]
 ·have hget:vs[off]? =some v:=by
   have:((vs.drop off).take size)[0]? =some v:=by rw[hv];rfl
   rw[List.getElem?_take]at this
   split at this
   ·rw[List.getElem?_drop]at this;simpa using this
   ·simp at this
  simp only[Instr.field,Sem.run_bind,run_underlying hu,Result.andThen_ok,h1,part,eT hd,hr,ha,asAgg,Sem.run_pure,h2]
  simp[hget]
theorem inL_true {n:Int} {m:Nat} (h:aH n m=true):0≤n∧n< (m:Int):=by
 simp only[aH,aB,bh]at h;exact h
theorem kt {P:Program} {t q:TypeId} {i:TypeInfo} {kd:IntKind} {n:Int} {b o m c z:Nat} (hu:P.underlying t=some (.slice q)) (hi:P.info? q=some i) (hz:i.size=z) (h0:0≤n) (h1:n< (m:Int)):
  (Instr.indexAt t (.slice (some ⟨b,o,none⟩) m c) (.int kd n)).run P w= .ok (.pointer (some ⟨b,o+n.toNat*z,none⟩)) w:=by
 simp only[Instr.indexAt,Sem.run_bind,asIntOf,Sem.run_pure,Result.andThen_ok,run_underlying hu]
 rw[av ⟨h0,h1⟩]
 simp[bL hi,hz,Addr.add_mid]
theorem jn (hC:C.OK) {t:TypeId} {m:Nat} {e:Ty} (h:t5 C t=some (m,e)):∃q i,C.P.underlying t=some (.array m q)∧C.P.info? q=some i∧i.size=e.size:=by
 unfold t5 at h
 split at h
 ·rename_i I hI
  split at h
  ·rename_i n q hsh
   split at h
   ·rename_i E hE
    simp only[aa,ar]at h
    obtain⟨rfl,rfl⟩:=h
    obtain⟨d,hu,_,hd,_⟩:=(hC.ti t I hI).under
    rw[hsh]at hd;simp only at hd
    obtain⟨⟨i,z,hi,hs,_⟩,_,hsz,_⟩:=hC.ti q E hE
    exact⟨q,i,by rw[hu,hd],hi,by rw[hs,hsz]⟩
   ·simp at h
  ·simp at h
 ·simp at h
theorem gU {P:Program} {t q:TypeId} {i:TypeInfo} {kd:IntKind} {n:Int} {b o m z:Nat} (hu:P.underlying t=some (.array m q)) (hi:P.info? q=some i) (hz:i.size=z) (h0:0≤n) (h1:n< (m:Int)):
  (Instr.indexAt t (.pointer (some ⟨b,o,none⟩)) (.int kd n)).run P w= .ok (.pointer (some ⟨b,o+n.toNat*z,none⟩)) w:=by
 simp only[Instr.indexAt,Sem.run_bind,asIntOf,Sem.run_pure,Result.andThen_ok,run_underlying hu,Instr.sureAddr]
 rw[av ⟨h0,h1⟩]
 simp[bL hi,hz,Addr.add_mid]
theorem mo (hC:C.OK) (h:aK E G s a w) {t:TypeId} {x:PV} {vx vi:Value} {i:PV} {k:PV→Option R} (hx:aP G.S G.σ w x [vx]) (hi:aP G.S G.σ w i [vi]) (e:cr C s t x i k=some r):
  ∃p v,(Instr.indexAt t vx vi).run C.P w= .ok v w∧aP G.S G.σ w p [v]∧k p=some r:=by
 unfold cr at e
 split at e
 ·rename_i kd n
  have:=eR (x:= .undef) hi;subst this
  split at e
  ·rename_i e' xs
   rcases ab e with⟨ht,e⟩|⟨_,e⟩
   ·rcases ab e with⟨hn,e⟩|⟨_,e⟩
    ·obtain⟨q,i,hu,hi,hz⟩:=cZ hC ht
     obtain⟨h0,h1⟩:=inL_true hn
     obtain⟨p,cap,hv,hc,hh⟩:=hx
     simp only[ay,and_true]at hv
     subst hv
     rcases hh with⟨rfl,_⟩|⟨b,o,us,rfl,hS,hr,hrows⟩
     ·simp at h1;omega
     ·refine⟨_,_,kt hu hi hz h0 h1, ?_,e⟩
      have hi':n.toNat<xs.length:=by omega
      refine⟨b,o+n.toNat*e'.size,_,hS,bC hr _ e'.size, ?_,rfl⟩
      rw[rd,fm _ _ _ hi']
      exact an.get (aw.length e') hrows _ hi'
    ·simp at e
   ·simp at e
  ·rename_i id
   split at e
   ·rename_i e' xs hm
    rcases ab e with⟨ht,e⟩|⟨_,e⟩
    ·rcases ab e with⟨hn,e⟩|⟨_,e⟩
     ·obtain⟨q,i,hu,hi,hz⟩:=cZ hC ht
      obtain⟨h0,h1⟩:=inL_true hn
      obtain⟨L,hL,hz',hA⟩:=tk h hm
      obtain⟨L',p,m,c,hL',_,hx⟩:=hx
      rw[hL]at hL';simp only[aa]at hL';subst hL'
      simp only[ay,and_true]at hx
      subst hx
      rcases hA with⟨_,h0'⟩|⟨b,cap,hv⟩
      ·rw[h0']at h1;simp at h1;omega
      ·rw[hv]
       refine⟨.elt id n (.at 0),_,kt hu hi hz h0 h1,⟨L,b,_,cap,hL,hv,h0,h1,trivial, ?_⟩,e⟩
       simp only[dK.off,Nat.add_zero,Nat.zero_add,hz']
     ·simp at e
    ·simp at e
   ·simp at e
  ·rename_i id o
   split at e
   ·rename_i m e' ha
    rcases ab e with⟨hn,e⟩|⟨_,e⟩
    ·obtain⟨q,i,hu,hi,hz⟩:=jn hC ha
     obtain⟨h0,h1⟩:=inL_true hn
     obtain⟨L,b,o',hL,hv,_,hx⟩:=hx
     simp only[ay,and_true]at hx
     subst hx
     refine⟨.ptr id (.arr o e' m n 0),_,gU hu hi hz h0 h1,⟨L,b,o',hL,hv,⟨h0,h1⟩, ?_⟩,e⟩
     simp only[dK.off,Nat.add_zero,Nat.add_assoc]
    ·simp at e
   ·simp at e
  ·rename_i id j o
   split at e
   ·rename_i m e' ha
    rcases ab e with⟨hn,e⟩|⟨_,e⟩
    ·obtain⟨q,i,hu,hi,hz⟩:=jn hC ha
     obtain⟨h0,h1⟩:=inL_true hn
     obtain⟨L,b,m',c,hL,hv,g0,g1,_,hx⟩:=hx
     simp only[ay,and_true]at hx
     subst hx
     refine⟨.elt id j (.arr o e' m n 0),_,gU hu hi hz h0 h1,⟨L,b,m',c,hL,hv,g0,g1,⟨h0,h1⟩, ?_⟩,e⟩
     simp only[dK.off,Nat.add_zero,Nat.add_assoc]
    ·simp at e
   ·simp at e
  ·rename_i τ x o
   split at e
   ·rename_i m e' ha
    split at e
    ·rename_i xs hs
     rcases ab e with⟨hn,e⟩|⟨_,e⟩
     ·obtain⟨q,i,hu,hi,hz⟩:=jn hC ha
      obtain⟨h0,h1⟩:=inL_true hn
      obtain⟨b,o',us,hS,hr,hT,hx⟩:=hx
      simp only[ay,and_true]at hx
      subst hx
      obtain⟨⟨g1,g2⟩,g3⟩:=jX (cD (σ:=G.σ) _ _ _ hT) hs
      refine⟨_,_,gU hu hi hz h0 h1, ?_,e⟩
      have hi':n.toNat<xs.length:=by omega
      refine⟨b,o'+o+n.toNat*e'.size,_,hS,bC (bC hr o (m*e'.size)) (n.toNat*e'.size) e'.size, ?_,rfl⟩
      rw[rd,fm _ _ _ hi']
      exact an.get (aw.length e') g2 _ hi'
     ·simp at e
    ·simp at e
   ·simp at e
  ·simp at e
 ·simp at e
theorem yE (hC:C.OK) {t:TypeId} {u:ByteArray} {kd:IntKind} {n:Int} (ht:na C t=true) (hn:aH n u.size=true):
  (Instr.index t (.string u) (.int kd n)).run C.P w= .ok (.int .u8 (bt u n)) w:=by
 obtain⟨h0,h1⟩:=inL_true hn
 have hu:=gC hC ht
 have hlt:n.toNat<u.size:=by omega
 simp only[Instr.index,Sem.run_bind,asIntOf,Sem.run_pure,Result.andThen_ok,run_underlying hu]
 rw[av h0]
 have:u[n.toNat]? =some u[n.toNat]:=getElem?_pos u n.toNat hlt
 rw[this]
 simp only[Sem.run_pure,bt]
 have:u.data.getD n.toNat 0=u[n.toNat]:=by
  have hlt':n.toNat<u.data.size:=hlt
  simp only[Array.getD]
  rw[dif_pos hlt'];rfl
 rw[this]
theorem tM {P:Program} {t:TypeId} {d:TypeDesc} {i:TypeInfo} (hu:P.underlying t=some d) (hi:P.info? t=some i) (vs:List Value) (off:Nat) (hl:off+i.size≤vs.length):
  (d.isRow=true→(part t vs.toArray off).run P w= .ok (.agg ((vs.drop off).take i.size).toArray) w)∧(d.isRow=false→∀v,(vs.drop off).take i.size=[v]→(part t vs.toArray off).run P w= .ok v w):=by
 refine⟨fun ha=> ?_,fun ha v hv=> ?_⟩
 ·simp only[part,Sem.run_bind,eT hu,Result.andThen_ok,ha,if_true,bL hi,Sem.run_pure]
  congr 3
  apply Array.toList_inj.1
  simp[List.take_drop]
 ·have hget:vs[off]? =some v:=by
   have:((vs.drop off).take i.size)[0]? =some v:=by rw[hv];rfl
   rw[List.getElem?_take]at this
   split at this
   ·rw[List.getElem?_drop]at this;simpa using this
   ·simp at this
  simp only[part,Sem.run_bind,eT hu,Result.andThen_ok,ha]
  simp[hget]
theorem sf (hC:C.OK) (h:aK E G s a w) {t:TypeId} {x:SV} {vx vi:Value} {i:PV} {k:SV→List bJ→List Nat→Option R} {rs:List Nat} (hx:aC G.S G.σ w x vx) (hi:aP G.S G.σ w i [vi]) (e:kT C t x i (fun x=>k x [] rs)=some r):
  co E a C.P (Instr.index t vx vi) w s k r:=by
 unfold kT at e
 split at e
 ·rename_i kd n
  have:=eR (x:= .undef) hi;subst this
  split at e
  ·rename_i u
   rcases ab e with⟨ht,e⟩|⟨_,e⟩
   ·rcases ab e with⟨hn,e⟩|⟨_,e⟩
    ·have:=kI (aC.of_v hx (by simp));subst this
     exact co.pure (x:= .v (.int .u8 (bt u n))) h (yE hC ht hn) (aC.v rfl) e
    ·simp at e
   ·simp at e
  ·rename_i cs
   split at e
   ·rename_i m q _ _ _ _ _ hI
    split at e
    ·rename_i E' hE
     split at e
     ·rename_i xs hs
      rcases ab e with⟨hn,e⟩|⟨_,e⟩
      ·obtain⟨vs,rfl,hc⟩:=hx
       obtain⟨h0,h1⟩:=inL_true hn
       obtain⟨d,hu,_,hd,_⟩:=(hC.ti t _ hI).under
       simp only at hd
       subst hd
       obtain⟨⟨i,z,hi,hsz,_⟩,⟨d',hu',hd',_⟩,hsz',_⟩:=hC.ti q E' hE
       obtain⟨⟨g1,g2⟩,g3⟩:=jX hc hs
       have hn':n.toNat<xs.length:=by omega
       have g4:=an.get (aw.length E'.ty) g2 _ hn'
       have hm:(n.toNat+1)*E'.ty.size≤m*E'.ty.size:=Nat.mul_le_mul_right _ (by omega)
       rw[Nat.add_mul,Nat.one_mul]at hm
       rw[List.drop_zero,List.drop_take,List.take_take,show min E'.ty.size (m*E'.ty.size-n.toNat*E'.ty.size)=E'.ty.size by omega,←fm _ E'.ty.dflt _ hn']at g4
       have hrun:(Instr.index t (.agg vs.toArray) (.int kd n)).run C.P w=(part q vs.toArray (n.toNat*E'.ty.size)).run C.P w:=by
        simp only[Instr.index,Sem.run_bind,asIntOf,Sem.run_pure,Result.andThen_ok,run_underlying hu]
        rw[av ⟨h0,h1⟩,Sem.run_bind,bL hi,Result.andThen_ok,hsz,hsz']
       have hp:=tM (w:=w) hu' hi vs (n.toNat*E'.ty.size) (by rw[hsz,←hsz'];omega)
       rw[hsz,←hsz']at hp
       have g5:=cD (σ:=G.σ) _ _ _ g4
       rcases mc e with⟨ha,e⟩|⟨ha,c,hc1,hw,e⟩
       ·exact co.pure (x:= .agg (inj E'.ty (rd xs n))) h (hrun.trans (hp.1 (by rw[hd',ha]))) ⟨_,rfl,g5⟩ e
       ·have g5':=g5
        simp only[rd]at hc1
        rw[hc1]at g5'
        have g6:=aj.of_one g5'
        have hl:=aP.length g6
        rw[hw]at hl
        obtain⟨y,hy⟩:=List.length_eq_one_iff.1 hl
        rw[hy]at g6
        exact co.pure h (hrun.trans (hp.2 (by rw[hd',ha]) y hy)) (aC.v g6) e
      ·simp at e
     ·simp at e
    ·simp at e
   ·simp at e
  ·simp at e
 ·simp at e
theorem vT (hC:C.OK) (h:aK E G s a w) {t ty:TypeId} {x:PV} {vx:Value} {k:PV→Option R} (hx:aP G.S G.σ w x [vx]) (e:qe C s t x k=some r):
  ∃p v,(Builtin.len_ #[t] ty #[vx]).run C.P w= .ok v w∧aP G.S G.σ w p [v]∧k p=some r:=by
 unfold qe at e
 split at e
 ·rename_i u
  rcases ab e with⟨ht,e⟩|⟨_,e⟩
  ·have:=kI hx;subst this
   exact cB e (by simp[Builtin.len_,run_underlying (gC hC ht),goInt])
  ·simp at e
 ·rcases ab e with⟨ht,e⟩|⟨_,e⟩
  ·obtain⟨q,hu⟩:=ks hC ht
   have hx:vx= .slice none 0 0:=by simpa[aP]using hx
   subst hx
   exact cB e (by simp[Builtin.len_,run_underlying hu,goInt])
  ·simp at e
 ·split at e
  ·rename_i e' xs hl
   rcases ab e with⟨ht,e⟩|⟨_,e⟩
   ·obtain⟨q,hu⟩:=ks hC ht
    obtain⟨p,cap,hv⟩:=Cq h hx hl
    subst hv
    exact cB e (by simp[Builtin.len_,run_underlying hu,goInt])
   ·simp at e
  ·simp at e
theorem vU {P:Program}:∀(ps:List PV) (vs:List Value) (kd:IntKind) (x:Int) (p:PV),dr (fun p v=>aP S σ w p [v]) ps vs→wc kd x ps=some p→∃v,(vs.foldlM Builtin.max2 (.int kd x)).run P w= .ok v w∧aP S σ w p [v]:=by
 intro ps
 induction ps with
 |nil=>
  intro vs kd x p hs e
  cases hs
  simp only[wc,aa]at e;subst e;exact⟨_,rfl,rfl⟩
 |cons q ps ih=>
  intro vs kd x p hs e
  cases hs with
  |cons hq hps=>
   cases q<;>simp only[wc]at e<;>try (simp at e;done)
   have:=eR (x:= .undef) hq;subst this
   obtain⟨v',hr,hp⟩:=ih _ _ _ _ hps e
   exact⟨v',by simp only[List.foldlM_cons,Sem.run_bind,Builtin.max2,Sem.run_pure,Result.andThen_ok];exact hr,hp⟩
theorem vV {P:Program}:∀(ps:List PV) (vs:List Value) (kd:IntKind) (x:Int) (p:PV),dr (fun p v=>aP S σ w p [v]) ps vs→wd kd x ps=some p→∃v,(vs.foldlM Builtin.min2 (.int kd x)).run P w= .ok v w∧aP S σ w p [v]:=by
 intro ps
 induction ps with
 |nil=>
  intro vs kd x p hs e
  cases hs
  simp only[wd,aa]at e;subst e;exact⟨_,rfl,rfl⟩
 |cons q ps ih=>
  intro vs kd x p hs e
  cases hs with
  |cons hq hps=>
   cases q<;>simp only[wd]at e<;>try (simp at e;done)
   have:=eR (x:= .undef) hq;subst this
   obtain⟨v',hr,hp⟩:=ih _ _ _ _ hps e
   exact⟨v',by simp only[List.foldlM_cons,Sem.run_bind,Builtin.min2,Sem.run_pure,Result.andThen_ok];exact hr,hp⟩
theorem cR (h:aK E G s a w) {lo:Option Operand} {d:Int} {f:Int→Option R} (e:dZ (lo.map fun o=>(s.ev o).pv) d f=some r):
  ∃n,f n=some r∧((lo=none∧n=d)∨∃kd,lo.map a.eval=some (.int kd n)):=by
 cases lo with
 |none=>exact⟨d,e,.inl ⟨rfl,rfl⟩⟩
 |some o=>
  simp only[Option.map_some,dZ]at e
  split at e
  ·rename_i hh;simp at hh
  ·rename_i kd n hh
   simp only[aa]at hh
   have hr:=cH h o
   cases hs:s.ev o with
   |v p=>
    rw[hs]at hr hh
    simp only[SV.pv]at hh
    subst hh
    exact⟨n,e,.inr ⟨kd,by rw[Option.map_some,eR (x:= .undef) (aC.of_v hr (by simp))]⟩⟩
   |agg cs=>rw[hs]at hh;simp[SV.pv]at hh
   |tup cs sh=>rw[hs]at hh;simp[SV.pv]at hh
  ·simp at e
theorem dQ {P:Program} {kd:IntKind} {n:Int} {y:Nat} {c:BoundsCode} (h0:0≤n) (h1:n≤(y:Int)):(Instr.sliceBound (.int kd n) y c).run P w= .ok n.toNat w:=by
 simp[Instr.sliceBound,asIntOf,h0,h1]
theorem io {P:Program} {b:Bool} {len cap:Nat} {lo hi:Option Value} {l h:Int} (hl:(lo=none∧l=0)∨∃kd,lo=some (.int kd l)) (hh:(hi=none∧h=(len:Int))∨∃kd,hi=some (.int kd h))
  (h0:0≤l) (h1:l≤h) (h2:h≤(len:Int)) (h3:len≤cap):(Instr.sliceBounds b len cap lo hi none).run P w= .ok (l.toNat,h.toNat,cap) w:=by
 have hn:(h.toNat:Int)=h:=by omega
 rcases hl with⟨rfl,rfl⟩|⟨kl,rfl⟩<;>rcases hh with⟨rfl,rfl⟩|⟨kh,rfl⟩
 ·simp[Instr.sliceBounds]
 ·simp[Instr.sliceBounds,dQ (P:=P) (w:=w) (kd:=kh) (n:=h) (y:=cap) (by omega) (by omega)]
 ·simp[Instr.sliceBounds,dQ (P:=P) (w:=w) (kd:=kl) (n:=l) (y:=len) h0 h1]
 ·simp[Instr.sliceBounds,dQ (P:=P) (w:=w) (kd:=kh) (n:=h) (y:=cap) (by omega) (by omega),dQ (P:=P) (w:=w) (kd:=kl) (n:=l) (y:=h.toNat) h0 (by omega)]
theorem AD {l h:Int} {n:Nat} (e:(decide (0≤l)&&decide (l≤h)&&decide (h≤(n:Int)))=true):0≤l∧l≤h∧h≤(n:Int):=by
 simp only[aB,bh]at e;exact⟨e.1.1,e.1.2,e.2⟩
theorem eu {P:Program} {t q:TypeId} {i:TypeInfo} {z:Nat} (hu:P.underlying t=some (.slice q)) (hi:P.info? q=some i) (hz:i.size=z) {p:Option Addr} {len cap:Nat} {lo hi':Option Value} {l h:Int}
  (hl:(lo=none∧l=0)∨∃kd,lo=some (.int kd l)) (hh:(hi'=none∧h=(len:Int))∨∃kd,hi'=some (.int kd h)) (h0:0≤l) (h1:l≤h) (h2:h≤(len:Int)) (h3:len≤cap):
  (Instr.sliceAt t (.slice p len cap) lo hi' none).run P w= .ok (.slice (if cap=l.toNat then p else p.map (·.add (l.toNat*z))) (h.toNat-l.toNat) (cap-l.toNat)) w:=by
 simp only[Instr.sliceAt,Instr.slice,Sem.run_bind,run_underlying hu,Result.andThen_ok,io hl hh h0 h1 h2 h3,bL hi,Sem.run_pure,hz]
theorem m6:∀{xs:List Int} {us:List Value},an (aw S w (.int .u8)) xs us→∀i,i<xs.length→us[i]? =some (.int .u8 (xs.getD i 0))
 |x::xs,_,⟨u,v,rfl,hx,hxs⟩,0,_=>by
  simp only[aw]at hx;subst hx;simp
 |x::xs,_,⟨u,v,rfl,hx,hxs⟩,i+1,h=>by
  simp only[aw]at hx;subst hx
  have:=m6 hxs i (by simpa using h)
  simpa using this
theorem yF (hC:C.OK) {src dst:TypeId} {v:Value} {q:TypeId} {xs:List Int} (hs:ir C src=some (q,.int .u8)) (hd:C.P.underlying dst=some .string) (hx:aw S w (.list (.int .u8)) xs [v]):
  (convert src dst v).run C.P w= .ok (.string (bp xs)) w:=by
 obtain⟨i,hu,hi,hz,hq⟩:=i9 hC hs
 obtain⟨p,cap,hv,hc,hh⟩:=hx
 simp only[ay,and_true]at hv
 subst hv
 have hq:=hq .u8 rfl
 cases p with
 |none=>
  have hxs:xs=[]:=by rcases hh with⟨e,_⟩|⟨_,_,_,e,_⟩;exact e;simp at e
  subst hxs
  exact run_convert_bytes_nil w src q hu hq _ _ dst hd
 |some p=>
  rcases hh with⟨rfl,_⟩|⟨b,o,us,hp,hS,hr,hrows⟩
  ·have hl:(loadCells p 0).run C.P w= .ok #[] w:=by simp[loadCells,loadCellsFrom]
   rw[run_convert_bytes_string w src dst q (some p) _ _ hu hq hd]
   have:=run_bytesToString (P:=C.P) w p 0 cap [] (by simpa using hl)
   have h2:=(show(Conv.bytesToString (.slice (some p) ([]:List Int).length cap)).run C.P w=_ from this)
   exact h2.trans rfl
  ·simp only[aa]at hp
   subst hp
   have:=run_convert_bytes_arg (P:=C.P) w src q hu hq b o xs.length cap xs rfl (fun i hi=>by
    have h1:=m6 hrows i hi
    exact hr i _ h1) dst hd
   exact this
theorem yG (hC:C.OK) {t:TypeId} {I:TI} (h:C.ti t=some I):∃d,C.P.underlying t=some d:=let⟨d,hu,_⟩:=(hC.ti t I h).under;⟨d,hu⟩
theorem tN (hC:C.OK) (h:aK E G s a w) {src dst:TypeId} {x:PV} {vx:Value} {k:PV→Option R} (hx:aP G.S G.σ w x [vx]) (e:ky C s src dst x k=some r):
  ∃p v,(convert src dst vx).run C.P w= .ok v w∧aP G.S G.σ w p [v]∧k p=some r:=by
 unfold ky at e
 split at e
 ·rename_i I D kd n hI hD
  split at e
  ·rename_i kd' hty
   have:=eR (x:= .undef) hx;subst this
   obtain⟨d,hu⟩:=yG hC hI
   obtain⟨d',hu',_,_,hd'⟩:=(hC.ti dst D hD).under
   rw[hty]at hd';simp only at hd';subst hd'
   refine cB e ?_
   simp only[convert,Sem.run_bind,run_underlying hu,run_underlying hu',Result.andThen_ok]
   rfl
  ·simp at e
 ·rename_i I D t hI hD
  split at e
  ·rename_i hty1 hty2
   have:=kI hx;subst this
   obtain⟨d,hu,_,_,hd⟩:=(hC.ti src I hI).under
   rw[hty1]at hd;simp only at hd;subst hd
   obtain⟨d',hu',_,_,hd'⟩:=(hC.ti dst D hD).under
   rw[hty2]at hd';simp only at hd';subst hd'
   refine rO e ?_
   simp[convert,run_underlying hu,run_underlying hu']
  ·simp at e
 ·rename_i I D hI hD _ _
  split at e
  ·rename_i q xs hty hs hl
   obtain⟨d',hu',_,_,hd'⟩:=(hC.ti dst D hD).under
   rw[hty]at hd';simp only at hd';subst hd'
   exact rO e (yF hC hs hu' (eS h hx hl))
  ·simp at e
 ·simp at e
theorem an.one {α:Type} {Q:α→List Value→Prop} (hQ:∀x vs,Q x vs→∀u∈vs,u.oneCell'=true):∀{xs:List α} {vs:List Value},an Q xs vs→∀u∈vs,u.oneCell'=true
 | [],_,e,u,hu=>by cases e;simp at hu
 |_::_,_,⟨p,q,rfl,h1,h2⟩,u,hu=>by
  rcases List.mem_append.1 hu with hu|hu
  ·exact hQ _ _ h1 u hu
  ·exact an.one hQ h2 u hu
theorem aw.one:∀(τ:Ty) (x:τ.den) (vs:List Value),aw S w τ x vs→∀u∈vs,u.oneCell'=true
 | .unit,_,_,h=>by cases h;simp
 | .bool,_,_,h=>by cases h;simp[Value.oneCell']
 | .str,_,_,h=>by cases h;simp[Value.oneCell']
 | .int _,_,_,h=>by cases h;simp[Value.oneCell']
 | .list _,_,_,⟨_,_,h,_⟩=>by rw[h];simp[Value.oneCell']
 | .arr e n,_,_,⟨_,k⟩=>an.one (aw.one e) k
 | .opt e,_,_,h=>by
  rcases h with⟨_,h⟩|⟨_,_,_,_,_,h,_⟩<;>rw[h]<;>simp[Value.oneCell']
 | .pair a b,_,_,⟨u,v,e,h,k⟩=>fun q hq=>by
  rw[e]at hq
  exact(List.mem_append.1 hq).elim (aw.one a _ _ h q) (aw.one b _ _ k q)
theorem jr.one {c:pS} {v:Value} (h:jr S σ w c v):True:=trivial
theorem aP.one {p:PV} {vs:List Value} (h:aP S σ w p vs):∀u∈vs,u.oneCell'=true:=by
 cases p<;>simp only[aP]at h
 case undef=>obtain⟨v,rfl,h⟩:=h;simpa using h
 case list=>exact aw.one _ _ _ h
 case seg=>exact aw.one _ _ _ h
 case own=>obtain⟨L,p,n,c,_,e,rfl⟩:=h;rw[e];simp[Value.oneCell']
 case ptr=>obtain⟨_,_,_,_,_,_,rfl⟩:=h;simp[Value.oneCell']
 case elt=>obtain⟨_,_,_,_,_,_,_,_,_,rfl⟩:=h;simp[Value.oneCell']
 case cptr=>obtain⟨_,_,_,_,_,_,rfl⟩:=h;simp[Value.oneCell']
 case fn=>obtain⟨_,rfl,_⟩:=h;simp[Value.oneCell']
 case dopt=>exact aw.one _ _ _ h
 case cell=>obtain⟨_,_,_,_,_,_,_,_,_,rfl⟩:=h;simp[Value.oneCell']
 case view=>obtain⟨_,_,_,_,_,_,_,rfl⟩:=h;simp[Value.oneCell']
 all_goals (subst h;simp[Value.oneCell'])
theorem aj.ones {cs:List PV} {vs:List Value} (h:aj S σ w cs vs):∀u∈vs,u.oneCell'=true:=an.one (fun _ _=>aP.one) h
theorem ly {v:Value} (h:v.oneCell'=true):v.cells= #[v]:=by
 cases v<;>first|rfl|simp[Value.oneCell']at h
theorem c9 {x:SV} {v:Value} {cs:List PV} (hx:aC S σ w x v) (e:x.cells=some cs):aj S σ w cs v.cells.toList:=by
 cases x with
 |v p=>
  cases p<;>simp only[SV.cells]at e<;>try (simp at e;done)
  all_goals
   simp only[aa]at e
   subst e
   have hx':=aC.of_v hx (by simp)
   rw[ly (aP.one hx' v (by simp))]
   exact⟨[v],[],rfl,hx',rfl⟩
 |agg cs'=>
  simp only[SV.cells,aa]at e
  subst e
  obtain⟨vs,rfl,h⟩:=hx
  simpa[Value.cells]using h
 |tup cs sh=>simp[SV.cells]at e
theorem oE.get:∀{sh:List (Nat×Bool)} {us xs:List Value},oE sh us xs→∀{i n:Nat} {agg:Bool},sh[i]? =some (n,agg)→
  ∃y,xs[i]? =some y∧(agg=true→y= .agg ((us.drop ((sh.take i).foldr (fun a b=>a.1+b) 0)).take n).toArray)∧(agg=false→(us.drop ((sh.take i).foldr (fun a b=>a.1+b) 0)).take n=[y]):=by
 intro sh
 induction sh with
 |nil=>intro us xs h i n agg e;simp at e
 |cons q sh ih=>
  obtain⟨m,ag⟩:=q
  intro us xs h i n agg e
  obtain⟨u,v,y,ys,rfl,rfl,hl,h1,h2,h3⟩:=h
  cases i with
  |zero=>
   simp only[List.getElem?_cons_zero,aa,ar]at e
   obtain⟨rfl,rfl⟩:=e
   have:(u++v).take m=u:=by rw[List.take_append_of_le_length (by omega),List.take_of_length_le (by omega)]
   refine⟨y,by simp,fun ha=> ?_,fun ha=> ?_⟩
   ·simp only[List.take_zero,List.foldr_nil,List.drop_zero,this];exact h1 ha
   ·simp only[List.take_zero,List.foldr_nil,List.drop_zero,this];exact h2 ha
  |succ i=>
   simp only[List.getElem?_cons_succ]at e
   obtain⟨y',g1,g2,g3⟩:=ih h3 e
   have:∀k,(u++v).drop (m+k)=v.drop k:=fun k=>by rw[List.drop_append,List.drop_eq_nil_of_le (by omega),List.nil_append,hl,Nat.add_sub_cancel_left]
   refine⟨y',by simpa using g1,fun ha=> ?_,fun ha=> ?_⟩
   ·simp only[List.take_succ_cons,List.foldr_cons,this];exact g2 ha
   ·simp only[List.take_succ_cons,List.foldr_cons,this];exact g3 ha
theorem oR {P:Program} (h:aK E G s a w) {x:SV} {vx:Value} {i:Nat} {k:SV→List bJ→List Nat→Option R} {rs:List Nat} (hx:aC G.S G.σ w x vx) (e:iw x i (fun x=>k x [] rs)=some r):co E a P (Instr.extract vx i) w s k r:=by
 unfold iw at e
 split at e
 ·rename_i cs sh
  obtain⟨xs,rfl,us,hc,ht⟩:=hx
  split at e
  ·rename_i n agg hi
   split at e
   ·rename_i c hcut
    obtain⟨y,hy,h1,h2⟩:=ht.get hi
    have hr:=(aj.cut hc hcut).1
    have hrun:(Instr.extract (.tuple xs.toArray) i).run P w= .ok y w:=by simp[Instr.extract,hy]
    rcases ab e with⟨ha,e⟩|⟨ha,e⟩
    ·exact co.pure (x:= .agg c) h hrun ⟨_,h1 ha,hr⟩ e
    ·split at e
     ·rename_i c0
      rw[h2 ha]at hr
      exact co.pure h hrun (aC.v (aj.of_one hr)) e
     ·simp at e
   ·simp at e
  ·simp at e
 ·simp at e
theorem tO {P:Program} (h:aK E G s a w) {c x y:SV} {vc vx vy:Value} {k:SV→List bJ→List Nat→Option R} {rs:List Nat} (hc:aC G.S G.σ w c vc) (hx:aC G.S G.σ w x vx) (hy:aC G.S G.σ w y vy) (e:qN c x y (fun x=>k x [] rs)=some r):
  co E a P (do pure (if←asBool vc then vx else vy)) w s k r:=by
 unfold qN at e
 split at e
 ·rename_i b
  have:=gz (aC.of_v hc (by simp));subst this
  have hrun:(do pure (if←asBool (.bool b)then vx else vy):Sem Value).run P w= .ok (if b then vx else vy) w:=by simp[asBool]
  split at e
  ·rename_i p q
   have:=gz (aC.of_v hx (by simp));subst this
   have:=gz (aC.of_v hy (by simp));subst this
   refine co.pure (x:= .v (.bool (bif b then p else q))) h hrun ?_ e
   cases b<;>rfl
  ·rcases ab e with⟨rfl,e⟩|⟨rfl,e⟩
   ·exact co.pure h hrun hx e
   ·exact co.pure h hrun hy e
 ·simp at e
theorem eW:∀(new:List Value) (j off:Nat) (cs:Array Value),off+j+new.length≤cs.size→
  ((new.zipIdx j).foldl (fun cs (c:Value×Nat)=>cs.setIfInBounds (off+c.2) c.1) cs).toList=cs.toList.take (off+j)++(new++cs.toList.drop (off+j+new.length))
 | [],j,off,cs,_=>by simp
 |v::new,j,off,cs,h=>by
  simp only[List.length_cons]at h
  simp only[List.zipIdx_cons,List.foldl_cons]
  rw[eW new (j+1) off _ (by simp;omega)]
  simp only[Array.toList_setIfInBounds,List.length_cons]
  have hlt:off+j<cs.toList.length:=by simp;omega
  rw[List.take_set,List.drop_set,av (by omega),show off+(j+1)=off+j+1 by omega,List.take_succ_eq_append_getElem hlt,List.set_append,ak (by simp;omega)]
  have:off+j-(List.take (off+j) cs.toList).length=0:=by simp;omega
  rw[this]
  simp only[List.set_cons_zero,aZ,List.cons_append,List.nil_append]
  congr 3
  rw[show off+j+1+new.length=off+j+(new.length+1) by omega]
theorem vW {place:Nat→Option (Nat×Nat)}:∀{ps:List (Nat×SV)} {vs:List (Nat×Value)} {cs out:List PV} {cells:Array Value},
  dr (fun(p:Nat×SV) (q:Nat×Value)=>p.1=q.1∧aC S σ w p.2 q.2) ps vs→aj S σ w cs cells.toList→tZ place cs ps=some out→
  ∃cells':Array Value,Instr.fill place cells vs=some cells'∧aj S σ w out cells'.toList:=by
 intro ps
 induction ps with
 |nil=>intro vs cs out cells h hc e;cases h;simp only[tZ,aa]at e;subst e;exact⟨cells,rfl,hc⟩
 |cons p ps ih=>
  obtain⟨i,x⟩:=p
  intro vs cs out cells h hc e
  cases h with
  | @cons _ q _ vs hq hps=>
   obtain⟨j,v⟩:=q
   obtain⟨rfl,hx⟩:=hq
   simp only[tZ]at e
   split at e
   ·rename_i off size new hpl hnew
    rcases ab e with⟨hw,e⟩|⟨_,e⟩
    ·have hw:=aG hw
     split at e
     ·rename_i cs' hput
      have hn:=c9 hx hnew
      have hlen:=aj.length hn
      rw[hw]at hlen
      have hle:off+size≤cells.size:=by
       unfold mm at hput
       split at hput
       ·rename_i hd
        have:=tX _ _ _ hd
        have h2:=aj.length hc
        simp at h2;omega
       ·simp at hput
      have hnl:v.cells.size=size:=by simpa using hlen
      have hput':=aj.put hc hput hn hlen
      have:=eW v.cells.toList 0 off cells (by simp;omega)
      obtain⟨cells',h1,h2⟩:=ih (cells:=((v.cells.toList.zipIdx 0).foldl (fun cs (c:Value×Nat)=>cs.setIfInBounds (off+c.2) c.1) cells)) hps (by rw[this];simpa[hnl]using hput') e
      refine⟨cells', ?_,h2⟩
      rw[Instr.fill,hpl]
      simp only
      rw[ak (by simp[hnl];omega)]
      rw[←h1]
      congr 1
      rw[←Array.foldl_toList,Array.toList_zipIdx]
     ·simp at e
    ·simp at e
   ·simp at e
theorem nO (h:aK E G s a w):∀(ps:List (Nat×Operand)),dr (fun(p:Nat×SV) (q:Nat×Value)=>p.1=q.1∧aC G.S G.σ w p.2 q.2) (s.evs ps) (ps.map fun p=>(p.1,a.eval p.2))
 | []=> .nil
 |p::ps=> .cons ⟨rfl,cH h p.2⟩ (nO h ps)
theorem m7 {P:Program}:∀{l:List Field} {fs:List (Nat×Nat)},dr (fun(f:Field) (x:Nat×Nat)=>f.offset=x.1∧∃i,P.info? f.type=some i∧i.size=x.2) l fs→
  (l.mapM (m:=Sem) fun f=>do pure (f.offset,←sizeOf f.type)).run P w= .ok fs w
 |_,_,.nil=>by simp
 |_,_,.cons ⟨h1,i,h2,h3⟩ t=>by
  rw[List.mapM_cons]
  simp only[Sem.run_bind,bL h2,Result.andThen_ok,Sem.run_pure,m7 t,h1,h3]
theorem DP {c:Array Value} {v:Value} (h:v= .agg c):v= .agg c.toList.toArray:=by simpa using h
theorem tP (hC:C.OK) (h:aK E G s a w) {t:TypeId} {ps:Array (Nat×Operand)} {k:SV→List bJ→List Nat→Option R} {rs:List Nat}
  (e:mt C t (s.evs ps.toList) (fun cs=>k (.agg cs) [] rs)=some r):co E a C.P (Instr.build t (ps.map fun(i,x)=>(i,a.eval x))) w s k r:=by
 unfold mt at e
 split at e
 ·rename_i fs ags tys _ _ _ _ _ hI
  split at e
  ·rename_i cs hcs
   obtain⟨⟨i,z,hi,hs,_,hz,hsame,_⟩,⟨d,hu,hd,hsh,_⟩,_⟩:=hC.ti t _ hI
   have hev:=nO h ps.toList
   have hlist:(ps.map fun(i,x)=>(i,a.eval x)).toList=ps.toList.map fun p=>(p.1,a.eval p.2):=by simp
   have hcells:aj G.S G.σ w _ z.cells.toList:=jg hsame
   have hzero:(zeroValue t).run C.P w= .ok z w:=by simp[zeroValue,typeInfo,hi,hz]
   obtain⟨cells',h1,h2⟩:=vW hev hcells hcs
   simp only at hsh
   obtain⟨l,rfl,hl,_⟩:=hsh
   refine co.pure (x:= .agg cs) (v:= .agg cells') h ?_ ⟨cells'.toList,DP rfl,h2⟩ e
   have hm:(l.toArray.mapM (m:=Sem) fun f=>do pure (f.offset,←sizeOf f.type)).run C.P w= .ok fs.toArray w:=by
    rw[List.mapM_toArray,map_eq_pure_bind,Sem.run_bind,m7 hl]
    rfl
   simp only[Instr.build,Sem.run_bind,hzero,run_underlying hu,Result.andThen_ok,hm,hlist]
   have:(fun i:Nat=>fs.toArray[i]?)=fun i=>fs[i]? :=by funext i;simp
   rw[this,h1]
   simp
  ·simp at e
 ·simp at e
end Go.Ps
