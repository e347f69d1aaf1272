import Derived.Test.YtfgjcohcpehcjaaGreatPsZ
import Derived.Test.YtfgjcohcpehcjaaGreatPsZd
import GoSem.ClaimChange
import Derived.Deep.Slices
import Derived.OpenShut
namespace Go.Ps
open Go.RowKit
set_option linter.unusedVariables false
def yU:(τ:Ty)→τ.den→Prop
 | .unit,_=>True
 | .bool,_=>True
 | .str,s=>ByteArray.size s≤9223372036854775807
 | .int .i64,n=> -9223372036854775808≤(n:Int)∧(n:Int)≤9223372036854775807
 | .int .u8,n=>0≤(n:Int)∧(n:Int)≤255
 | .int _,_=>True
 | .list e,l=>List.length l≤9223372036854775807∧∀x∈l,yU e x
 | .arr e n,l=>List.length l=n∧∀x∈l,yU e x
 | .pair a b,x=>yU a x.1∧yU b x.2
 | .opt e,x=>∀y,x=some y→yU e y
def DV (P:Program) (R:TypeId→Ty→Bool):Nat→List Field→Ty→Bool
 |_,[],_=>false
 |off,[f],τ=>Nat.beq f.offset off&&R f.type τ&&Nat.beq (P.cellsOf f.type) τ.size
 |off,f::fs,.pair a b=>Nat.beq f.offset off&&R f.type a&&Nat.beq (P.cellsOf f.type) a.size&&DV P R (off+a.size) fs b
 |_,_,_=>false
def Gq (P:Program):Nat→TypeId→Ty→Bool
 |0,_,_=>false
 |n+1,t,τ=>Nat.beq (P.cellsOf t) τ.size&&match P.underlying t with
  |some .bool=>(match τ with| .bool=>true|_=>false)
  |some .string=>(match τ with| .str=>true|_=>false)
  |some (.int k)=>(match τ with| .int k'=>decide (k=k')&&(decide (k= .i64)||decide (k= .u8))|_=>false)
  |some (.slice q)=>(match τ with| .list e=>Gq P n q e&&Nat.beq (P.cellsOf q) e.size&&Nat.ble 1 e.size|_=>false)
  |some (.array m q)=>(match τ with| .arr e m'=>Nat.beq m m'&&Gq P n q e&&Nat.beq (P.cellsOf q) e.size|_=>false)
  |some (.struct fs)=>DV P (Gq P n) 0 fs.toList τ
  |_=>false
abbrev iU (w:World) (b:Nat):Prop:=b<w.heap.size
theorem o6 {α:Type} (Q:α→List Value→Prop) (Wf:α→Prop) (z:Nat):∀(n:Nat) (cs:List Value),cs.length=n*z→(∀i,i<n→∃x,Q x ((cs.drop (i*z)).take z)∧Wf x)→∃xs:List α,xs.length=n∧an Q xs cs∧∀x∈xs,Wf x
 |0,cs,h,_=>⟨[],rfl,by simpa[an]using h,fun x hx=>by cases hx⟩
 |n+1,cs,h,H=>by
  obtain⟨x,hx,hw⟩:=H 0 (by omega)
  have hl:(cs.drop z).length=n*z:=by rw[List.length_drop,h,Nat.add_mul];omega
  obtain⟨xs,h1,h2,h3⟩:=o6 Q Wf z n (cs.drop z) hl fun i hi=>by
   obtain⟨y,hy,hw⟩:=H (i+1) (by omega)
   rw[Nat.add_mul,Nat.one_mul]at hy
   exact⟨y,by rw[List.drop_drop,Nat.add_comm z];exact hy,hw⟩
  rw[Nat.zero_mul,List.drop_zero]at hx
  exact⟨x::xs,by rw[List.length_cons,h1],⟨cs.take z,cs.drop z,(List.take_append_drop z cs).symm,hx,h2⟩,fun y hy=>by
   rcases List.mem_cons.1 hy with rfl|hy
   ·exact hw
   ·exact h3 y hy⟩
variable {H:Type} {enc:TypeId×Value→H} {P:Program} {w:World}
theorem o7 {R:TypeId→Ty→Bool} {fuel:Nat} (hR:∀(t:TypeId) (τ:Ty) (cs:List Value) (d:DataW H×List MemPlace),R t τ=true→DataW.trod enc P w 0 (fun _=>true) true fuel t cs=some d→∃x:τ.den,aw (iU w) w τ x cs∧yU τ x) (cs:List Value):
  ∀(fs:List Field) (τ:Ty) (off:Nat),DV P R off fs τ=true→cs.length=off+τ.size→(∀f∈fs,∃d,DataW.trod enc P w 0 (fun _=>true) true fuel f.type ((cs.drop f.offset).take (P.cellsOf f.type))=some d)→∃x:τ.den,aw (iU w) w τ x (cs.drop off)∧yU τ x
 | [],τ,off,h,_,_=>by simp[DV]at h
 | [f],τ,off,h,hl,ht=>by
  simp only[DV,aB]at h
  obtain⟨⟨h1,h2⟩,h3⟩:=h
  have h1:=aG h1
  have h3:=aG h3
  obtain⟨d,hd⟩:=ht f (List.mem_singleton.2 rfl)
  rw[h1,h3,List.take_of_length_le (by rw[List.length_drop];omega)]at hd
  exact hR _ _ _ _ h2 hd
 |f::g::fs,τ,off,h,hl,ht=>by
  cases τ with
  |pair a b=>
   simp only[DV,aB]at h
   obtain⟨⟨⟨h1,h2⟩,h3⟩,h4⟩:=h
   have h1:=aG h1
   have h3:=aG h3
   obtain⟨d,hd⟩:=ht f (List.mem_cons_self ..)
   rw[h1,h3]at hd
   obtain⟨x,hx,hwx⟩:=hR _ _ _ _ h2 hd
   have hl':cs.length=off+(a.size+b.size):=hl
   obtain⟨y,hy,hwy⟩:=o7 hR cs (g::fs) b (off+a.size) h4 (by omega) fun f' hf'=>ht f' (List.mem_cons_of_mem _ hf')
   exact⟨(x,y),⟨(cs.drop off).take a.size,cs.drop (off+a.size),by rw[←List.drop_drop,List.take_append_drop],hx,hy⟩,hwx,hwy⟩
  |_=>simp[DV]at h
theorem t9 {a:Addr} {n:Nat} {cs:List Value} (h:w.cells? 0 a n=some cs):cs.length=n∧∀j u,cs[j]? =some u→w.cell? (a.add j)=some u:=by
 obtain⟨_,h2,h3⟩:=World.cells?_some h
 refine⟨h2,fun j u hu=> ?_⟩
 have hj:j<n:=by rw[←h2];exact(List.getElem?_eq_some_iff.1 hu).1
 have:=h3 j hj
 rw[this];exact hu
theorem yV (b o k:Nat):w.cell? ⟨b,o,some k⟩=none:=by
 simp only[World.cell?]
 split<;>simp
theorem trod_rep:∀(n fuel:Nat) (t:TypeId) (τ:Ty) (cs:List Value) (d:DataW H×List MemPlace),Gq P n t τ=true→DataW.trod enc P w 0 (fun _=>true) true fuel t cs=some d→∃x:τ.den,aw (iU w) w τ x cs∧yU τ x:=by
 intro n
 induction n with
 |zero=>intro fuel t τ cs d h;simp[Gq]at h
 |succ n ih=>
  intro fuel t τ cs d h hd
  simp only[Gq,aB]at h
  obtain⟨hc,h⟩:=h
  have hc:=aG hc
  split at h
  ·rename_i hu
   cases τ with
   |bool=>
    obtain⟨b,rfl,_⟩:=DataW.trod_bool hu hd
    exact⟨b,rfl,trivial⟩
   |_=>simp at h
  ·rename_i hu
   cases τ with
   |str=>
    obtain⟨s,rfl,_,hs⟩:=DataW.trod_string hu hd
    exact⟨s,rfl,hs⟩
   |_=>simp at h
  ·rename_i k hu
   cases τ with
   |int k'=>
    simp only[aB,Bool.or_eq_true,bh]at h
    obtain⟨h1,h2⟩:=h
    subst h1
    obtain⟨m,rfl,_,hw⟩:=DataW.trod_int hu hd
    refine⟨m,rfl, ?_⟩
    rcases h2 with h2|h2
    ·subst h2
     simp[Lit.wf,IntKind.min,IntKind.max,IntKind.bits,IntKind.signed]at hw
     show-9223372036854775808≤m∧m≤9223372036854775807
     exact hw
    ·subst h2
     simp[Lit.wf,IntKind.min,IntKind.max,IntKind.bits,IntKind.signed]at hw
     show 0≤m∧m≤255
     exact hw
   |_=>simp at h
  ·rename_i q hu
   cases τ with
   |list e=>
    simp only[aB]at h
    obtain⟨⟨h1,h2⟩,h3⟩:=h
    have h2:=aG h2
    have h3:=bi h3
    rcases Go.Deep.open_slice hu hd with⟨rfl,_⟩|⟨a,len,cap,m,k,D,Pl,rfl,_,hlc,hcm,hm,_,hel⟩
    ·exact⟨[],⟨none,0,rfl,Nat.le_refl _,.inl ⟨rfl,fun _=>rfl⟩⟩,by simp,fun x hx=>by cases hx⟩
    ·have hm':m=cap:=by rw[hm];rfl
     subst hm'
     have pieces:∀i,i<len→∃cs',w.cells? 0 (a.add (i*e.size)) e.size=some cs'∧∃x:e.den,aw (iU w) w e x cs'∧yU e x:=fun i hi=>by
      obtain⟨cs',g1,g2⟩:=hel i (by omega)
      rw[h2]at g1
      exact⟨cs',g1,ih _ _ _ _ _ h1 g2⟩
     have build:∀j,j≤len→∃(xs:List e.den) (us:List Value),xs.length=j∧us.length=j*e.size∧an (aw (iU w) w e) xs us∧(∀x∈xs,yU e x)∧∀i u,us[i]? =some u→w.cell? (a.add i)=some u:=by
      intro j
      induction j with
      |zero=>intro _;exact⟨[],[],rfl,by simp,rfl,fun x hx=>(by cases hx),fun i u h=>(by simp at h)⟩
      |succ j ihj=>
       intro hj
       obtain⟨xs,us,e1,e2,e3,e4,e5⟩:=ihj (by omega)
       obtain⟨cs',g1,x,g2,g3⟩:=pieces j (by omega)
       obtain⟨g4,g5⟩:=t9 g1
       refine⟨xs++[x],us++cs',by simp[e1],by rw[List.length_append,e2,g4,Nat.add_mul];omega,an.append e3 ⟨cs',[],by simp,g2,rfl⟩,fun y hy=> ?_,fun i u hu=> ?_⟩
       ·rcases List.mem_append.1 hy with hy|hy
        ·exact e4 y hy
        ·rw[List.mem_singleton.1 hy];exact g3
       ·by_cases hi:i<us.length
        ·rw[List.getElem?_append_left hi]at hu;exact e5 i u hu
        ·rw[List.getElem?_append_right (by omega)]at hu
         have:=g5 _ u hu
         rw[Addr.add_add,←e2,show us.length+(i-us.length)=i by omega]at this
         exact this
     obtain⟨xs,us,e1,e2,e3,e4,e5⟩:=build len (Nat.le_refl _)
     refine⟨xs,⟨some a,m,by rw[e1],by rw[e1];exact hlc, ?_⟩,by rw[e1];simp only[maxLen]at hcm;omega,e4⟩
     cases hx:xs with
     |nil=>exact .inl ⟨rfl,fun h=>by cases h⟩
     |cons x0 xs0=>
      right
      have hpos:0<us.length:=by rw[e2,←e1,hx,List.length_cons,Nat.add_mul];omega
      obtain⟨b,o,sp⟩:=a
      have hsp:sp=none∧b<w.heap.size:=by
       have:=e5 0 us[0] (List.getElem?_eq_getElem hpos)
       cases sp with
       |some k=>
        rw[show(⟨b,o,some k⟩:Addr).add 0=⟨b,o,some k⟩ from rfl,yV]at this
        cases this
       |none=>
        rw[Addr.add_mid]at this
        refine⟨rfl,Nat.lt_of_not_le fun hge=> ?_⟩
        unfold World.cell? at this
        rw[Array.getElem?_eq_none hge]at this
        cases this
      obtain⟨rfl,hb⟩:=hsp
      refine⟨b,o,us,rfl,hb,fun j v hv=> ?_,by rw[←hx];exact e3⟩
      have:=e5 j v hv
      rw[Addr.add_mid]at this
      exact this
   |_=>simp at h
  ·rename_i m q hu
   cases τ with
   |arr e m'=>
    simp only[aB]at h
    obtain⟨⟨h1,h2⟩,h3⟩:=h
    have h1:=aG h1
    have h3:=aG h3
    subst h1
    obtain⟨xs,k,_,_,hl,hxl,hel⟩:=DataW.trod_array hu hd
    obtain⟨ys,g1,g2,g3⟩:=o6 (aw (iU w) w e) (yU e) e.size m cs (hl.trans hc) fun i hi=>by
     have:=hel i hi
     rw[h3,List.getElem?_eq_getElem (by omega)]at this
     exact ih _ _ _ _ _ h2 this
    exact⟨ys,⟨g1,g2⟩,g1,g3⟩
   |_=>simp at h
  ·rename_i fs hu
   obtain⟨xs,k,_,_,hl,hxl,hel⟩:=DataW.trod_struct hu hd
   have:=o7 (enc:=enc) (fuel:=k) (fun t τ cs d h1 h2=>ih k t τ cs d h1 h2) cs fs.toList τ 0 h (by omega) fun f hf=>by
    obtain⟨i,hi,hfi⟩:=List.mem_iff_getElem.1 hf
    have hi':i<fs.size:=by simpa using hi
    have:=hel i f (by rw[Array.getElem?_eq_getElem hi'];congr 1)
    rw[List.getElem?_eq_getElem (by omega)]at this
    exact⟨_,this⟩
   simpa using this
  ·simp at h
end Go.Ps
