import Derived.Test.YtfgjcohcpehcjaaGreatPsF
import Derived.Laws.MakeOwn
namespace Go.Ps
set_option linter.unusedVariables false
variable {S S':Nat→Prop} {σ σ':Sg} {w w':World} {E:En} {G:Gh} {s:St} {a:Act} {C:b9} {R:Type} {r:R}
theorem dr.length {α β:Type} {Q:α→β→Prop}:∀{xs:List α} {ys:List β},dr Q xs ys→xs.length=ys.length
 |_,_,.nil=>rfl
 |_,_,.cons _ t=>by simp[t.length]
theorem b7 (w:World) (o:Obj) (b:Nat) (h:b<w.heap.size):(w.alloc o).heap[b]? =w.heap[b]? :=RowKit.Below.heap_alloc w o b h
theorem cL (w:World) (o:Obj):(w.alloc o).heap[w.heap.size]? =some o:=by
 show(w.heap.push o)[w.heap.size]? =_
 simp
theorem dg (w:World) (o:Obj):(w.alloc o).heap.size=w.heap.size+1:=by
 show(w.heap.push o).size=_
 simp
theorem yk (w:World) (cells:Array Value) (t:TypeId):(w.alloc (.cells cells t)).rangeAt w.heap.size 0 cells.toList:=by
 intro j v hv
 simp only[World.cell?,cL,Option.isSome_none,Bool.false_eq_true,if_false,Nat.zero_add]
 rw[←Array.getElem?_toList];exact hv
theorem yl (w:World) (cells:Array Value) (t:TypeId):(w.alloc (.cells cells t)).there w.heap.size 0 cells.toList.length:=by
 intro j hj
 refine⟨?_, ?_⟩
 ·simp only[World.cell?,cL,Option.isSome_none,Bool.false_eq_true,if_false,Nat.zero_add]
  rw[←Array.getElem?_toList,List.getElem?_eq_getElem hj];rfl
 ·simp only[World.frozen?,cL];simp
theorem og {P:Program} (t:TypeId) (v:Value):(newVar t v).run P w= .ok ⟨w.heap.size,0,none⟩ (w.alloc (.cells v.cells t)):=by
 simp[newVar,newRow]
def jh (w w':World) (b:Nat):Prop:=∀o,(w'.cell? ⟨b,o,none⟩).isSome=(w.cell? ⟨b,o,none⟩).isSome∧w'.frozen? ⟨b,o,none⟩=w.frozen? ⟨b,o,none⟩
theorem cM.change {W w w':World} {M:Nat→Nat→Prop} (h:cM W w M) (ho:w'.os=w.os) (ht:w'.tape=w.tape) (hu:w'.output=w.output) (hs:w.heap.size≤w'.heap.size)
  (hb:∀b,b<W.heap.size→w'.heap[b]? =w.heap[b]? ∨((∀o,M b o)∧jh w w' b)):cM W w' M where
 os:=ho.trans h.os
 tape:=ht.trans h.tape
 output:=hu.trans h.output
 size:=Nat.le_trans h.size hs
 block b hlt hM:=(hb b hlt).elim (fun e=>e.trans (h.block b hlt hM)) fun e=>absurd (e.1 0) (hM 0)
 cells b hlt o hM:=(hb b hlt).elim (fun e=>⟨(World.cell?_of_block (a:=⟨b,o,none⟩) e).trans (h.cells b hlt o hM).1,trivial⟩) fun e=>absurd (e.1 o) hM
 frozen b hlt o:=(hb b hlt).elim (fun e=>(World.frozen?_of_block (a:=⟨b,o,none⟩) e).trans (h.frozen b hlt o)) fun e=>(e.2 o).2.trans (h.frozen b hlt o)
 there b hlt o:=(hb b hlt).elim (fun e=>by rw[World.cell?_of_block (a:=⟨b,o,none⟩) e];exact h.there b hlt o) fun e=>(e.2 o).1.trans (h.there b hlt o)
def cc (σ:Sg) (id:Nat) (L:yN):Sg:=fun i=>if i=id then some L else σ i
def az (β:Nat→List Nat) (id:Nat) (B:List Nat):Nat→List Nat:=fun i=>if i=id then B else β i
theorem bK (σ:Sg) (id:Nat) (L:yN):cc σ id L id=some L:=by simp[cc]
theorem ep {σ:Sg} {id:Nat} {L:yN} (h:σ id=none):b8 σ (cc σ id L):=fun i L' hL=>by
 by_cases e:i=id
 ·subst e;rw[h]at hL;simp at hL
 ·simp[cc,e,hL]
theorem aK.fresh2 (h:aK E G s a w) {id:Nat} (hm:s.mem id=none) (hid:id%128<64) (b:cj) (L:yN) (B:List Nat) (k0:Option Nat)
  (hos:w'.os=w.os) (htape:w'.tape=w.tape) (hout:w'.output=w.output) (hsz:w.heap.size≤w'.heap.size)
  (hb:∀q,q<w.heap.size→some q≠k0→w'.heap[q]? =w.heap[q]?)
  (hk0:∀q,k0=some q→¬G.S q∧q<w.heap.size∧(E.W.heap.size≤q∨(E.O q∧jh w w' q))∧∀i,q∉G.β i)
  (hL:∀k∈B,((w.heap.size≤k∨k0=some k)∨(¬G.S k∧(E.W.heap.size≤k∨E.O k)∧∀i,k∉G.β i))∧k<w'.heap.size) (hnd:B.Nodup)
  (hB:kg G.S (cc G.σ id L) w' L b B):aK E ⟨G.S,cc G.σ id L,az G.β id B⟩ (s.upd (.set id b)) a w':=by
 obtain⟨hσ0,hβ0⟩:=h.dom id hm
 have hle:=ep (L:=L) hσ0
 have hBS:∀k∈B,¬G.S k:=fun k hk hs=>(hL k hk).1.elim (fun x=>x.elim (fun x=>by have:=h.old k hs;omega) (fun x=>(hk0 k x).1 hs)) fun x=>x.1 hs
 have hBβ:∀k∈B,∀i,k∉G.β i:=fun k hk i hi=>(hL k hk).1.elim (fun x=>x.elim (fun x=>by have:=(h.off i k hi).2;omega) (fun x=>(hk0 k x).2.2.2 i hi)) fun x=>x.2.2 i hi
 refine h.change (fU _ _) (oH _ _) hle (fun _ x=>x) (fun q hq=>hb q (h.old q hq) fun e=>(hk0 q e.symm).1 hq) ?_ (fun i c hc=> ?_) (fun i hi=> ?_) (fun i j hij k hk=> ?_) (fun i=> ?_) (fun i k hk=> ?_) (fun q hq=> .inl hq) (fun i k hk=> ?_) (fun i L' hi hL'=> ?_) hsz
 ·refine h.kept.change hos htape hout hsz fun q hq=> ?_
  by_cases e:some q=k0
  ·refine .inr ?_
   rcases(hk0 q e.symm).2.2.1 with x|x
   ·omega
   ·exact⟨(h.all q x.1).2,x.2⟩
  ·exact .inl (hb q (Nat.lt_of_lt_of_le hq h.kept.size) e)
 ·by_cases e:i=id
  ·subst e
   rw[bd]at hc
   simp only[aa]at hc
   subst hc
   exact .inr ⟨L,bK _ _ _,by simpa[az]using hB⟩
  ·rw[ax _ _ e]at hc
   refine .inl ⟨hc,by simp[az,e],fun k hk=>hb k (h.off i k hk).2 fun x=>(hk0 k x.symm).2.2.2 i hk⟩
 ·by_cases e:i=id
  ·subst e;rw[bd]at hi;simp at hi
  ·rw[ax _ _ e]at hi
   exact⟨hi,by simp[cc,e],by simp[az,e]⟩
 ·by_cases e1:i=id
  ·have e2:j≠id:=fun x=>hij (e1.trans x.symm)
   simp only[az,av e1]at hk
   simp only[az,ak e2]
   exact hBβ k hk j
  ·simp only[az,ak e1]at hk
   by_cases e2:j=id
   ·simp only[az,av e2];exact fun x=>hBβ k x i hk
   ·simp only[az,ak e2];exact h.apart i j hij k hk
 ·by_cases e1:i=id
  ·simp only[az,av e1];exact hnd
  ·simp only[az,ak e1];exact h.nodup i
 ·by_cases e1:i=id
  ·simp only[az,av e1]at hk;exact⟨hBS k hk,(hL k hk).2⟩
  ·simp only[az,ak e1]at hk
   have:=h.off i k hk
   exact⟨this.1,Nat.lt_of_lt_of_le this.2 hsz⟩
 ·by_cases e1:i=id
  ·simp only[az,av e1]at hk
   rcases(hL k hk).1 with(x|x)|x
   ·exact .inl (Nat.le_trans h.kept.size x)
   ·exact(hk0 k x).2.2.1.imp (fun x=>x) fun x=> .inl x.1
   ·exact x.2.1.imp (fun x=>x) .inl
  ·simp only[az,ak e1]at hk
   refine(h.mine i k hk).imp (fun x=>x) fun x=>x.imp (fun x=>x) fun⟨g1,cs,L',o,g2,g3,g4⟩=>⟨g1,cs,L',o, ?_,hle _ _ g3,g4⟩
   rw[ax _ _ e1];exact g2
 ·by_cases e1:i=id
  ·omega
  ·refine .inl ?_
   simpa[cc,e1]using hL'
theorem aK.fresh (h:aK E G s a w) {id:Nat} (hm:s.mem id=none) (hid:id%128<64) (b:cj) (L:yN) (B:List Nat) (k0:Option Nat)
  (hos:w'.os=w.os) (htape:w'.tape=w.tape) (hout:w'.output=w.output) (hsz:w.heap.size≤w'.heap.size)
  (hb:∀q,q<w.heap.size→some q≠k0→w'.heap[q]? =w.heap[q]?)
  (hk0:∀q,k0=some q→¬G.S q∧q<w.heap.size∧(E.W.heap.size≤q∨(E.O q∧jh w w' q))∧∀i,q∉G.β i)
  (hL:∀k∈B,(w.heap.size≤k∨k0=some k)∧k<w'.heap.size) (hnd:B.Nodup)
  (hB:kg G.S (cc G.σ id L) w' L b B):aK E ⟨G.S,cc G.σ id L,az G.β id B⟩ (s.upd (.set id b)) a w':=
 h.fresh2 hm hid b L B k0 hos htape hout hsz hb hk0 (fun k hk=>⟨.inl (hL k hk).1,(hL k hk).2⟩) hnd hB
theorem aK.kill (h:aK E G s a w) {j:Nat} {b:cj} (hm:s.mem j=some b):aK E ⟨G.S,G.σ,az G.β j []⟩ (s.upd (.set j .dead)) a w:=by
 obtain⟨L,hL,_⟩:=h.mem j b hm
 refine h.change (fU _ _) (oH _ _) (b8.refl _) (fun _ x=>x) (fun _ _=>rfl) h.kept (fun i c hc=> ?_) (fun i hi=> ?_) (fun i k hik q hq=> ?_) (fun i=> ?_) (fun i k hk=> ?_) (fun q hq=> .inl hq) (fun i k hk=> ?_) (fun i L' hi hL'=> .inl hL') (Nat.le_refl _)
 ·by_cases e:i=j
  ·subst e
   rw[bd]at hc
   simp only[aa]at hc
   subst hc
   exact .inr ⟨L,hL,by simp[az,kg]⟩
  ·rw[ax _ _ e]at hc
   exact .inl ⟨hc,by simp[az,e],fun _ _=>rfl⟩
 ·by_cases e:i=j
  ·subst e;rw[bd]at hi;simp at hi
  ·rw[ax _ _ e]at hi
   exact⟨hi,rfl,by simp[az,e]⟩
 ·by_cases e1:i=j
  ·simp[az,e1]at hq
  ·simp only[az,ak e1]at hq
   by_cases e2:k=j
   ·simp[az,e2]
   ·simp only[az,ak e2];exact h.apart i k hik q hq
 ·by_cases e1:i=j
  ·simp[az,e1]
  ·simp only[az,ak e1];exact h.nodup i
 ·by_cases e1:i=j
  ·simp[az,e1]at hk
  ·simp only[az,ak e1]at hk;exact h.off i k hk
 ·by_cases e1:i=j
  ·simp[az,e1]at hk
  ·simp only[az,ak e1]at hk
   refine(h.mine i k hk).imp (fun x=>x) fun x=>x.imp (fun x=>x) fun⟨g1,cs,L',o,g2,g3⟩=>⟨g1,cs,L',o, ?_,g3⟩
   rw[ax _ _ e1];exact g2
theorem aK.box (h:aK E G s a w) {id:Nat} (hm:s.mem id=none) (hid:id%128<64) {cs:List PV} {v:Value} {t:TypeId} (hc:aj G.S G.σ w cs v.cells.toList):
  aK E ⟨G.S,cc G.σ id ⟨.pointer (some ⟨w.heap.size,0,none⟩),0⟩,az G.β id [w.heap.size]⟩ (s.upd (.set id (.box cs))) a (w.alloc (.cells v.cells t)):=by
 refine h.fresh hm hid (.box cs) _ _ none rfl rfl rfl (by rw[dg];omega) (fun q hq _=>b7 w _ q hq) (fun q hq=>by simp at hq) (fun k hk=> ?_) (by simp) ?_
 ·simp only[List.mem_singleton]at hk;subst hk
  exact⟨.inl (Nat.le_refl _),by rw[dg];omega⟩
 ·exact⟨w.heap.size,0,v.cells.toList,rfl,aj.keep (fun _ x=>x) (fun b hb=>b7 w _ b (h.old b hb)) (ep (h.dom id hm).1) hc,yk w _ t,yl w _ t,rfl⟩
theorem xm {id b z:Nat}:aP S (cc σ id ⟨.pointer (some ⟨b,0,none⟩),z⟩) w (.ptr id (.at 0)) [.pointer (some ⟨b,0,none⟩)]:=⟨_,b,0,bK _ _ _,rfl,trivial,rfl⟩
theorem fJ {id n c z:Nat} {p:Option Addr}:aP S (cc σ id ⟨.slice p n c,z⟩) w (.own id) [.slice p n c]:=⟨_,p,n,c,bK _ _ _,rfl,rfl⟩
theorem aR {id:Nat} {x:Option R} (e:cw s id x=some r):s.mem id=none∧x=some r:=by
 unfold cw at e
 split at e
 ·rename_i hm;exact⟨hm,e⟩
 ·simp at e
theorem tn (hC:C.OK) (h:aK E G s a w) {t:TypeId} {I:TI} (hI:C.ti t=some I) {id:Nat} (hid:id%128<64) {k:SV→List bJ→List Nat→Option R} {rs:List Nat} (e:cw s id (k (.v (.ptr id (.at 0))) [.set id (.box I.zero)] rs)=some r):
  co E a C.P (Instr.alloc t true (.tuple #[])) w s k r:=by
 obtain⟨hm,e⟩:=aR e
 obtain⟨⟨i,z,hi,hs,_,hz,hsame,_⟩,_⟩:=hC.ti t I hI
 have hrun:(Instr.alloc t true (.tuple #[])).run C.P w= .ok (.pointer (some ⟨w.heap.size,0,none⟩)) (w.alloc (.cells z.cells t)):=by
  simp[Instr.alloc,zeroValue,typeInfo,hi,hz,og]
 exact⟨_,_,_,_,_,_,hrun,aC.v xm,h.box hm hid (jg hsame),e⟩
theorem ym (h:aK E G s a w) {P:Program} {t:TypeId} {id:Nat} (hid:id%128<64) {x:SV} {v:Value} {cs:List PV} {k:SV→List bJ→List Nat→Option R} {rs:List Nat} (hx:aC G.S G.σ w x v) (hcs:x.cells=some cs) (e:cw s id (k (.v (.ptr id (.at 0))) [.set id (.box cs)] rs)=some r):
  co E a P (Instr.box t v) w s k r:=by
 obtain⟨hm,e⟩:=aR e
 have hrun:(Instr.box t v).run P w= .ok (.pointer (some ⟨w.heap.size,0,none⟩)) (w.alloc (.cells v.cells t)):=by
  simp[Instr.box,og]
 exact⟨_,_,_,_,_,_,hrun,aC.v xm,h.box hm hid (c9 hx hcs),e⟩
theorem aK.rowsF (h:aK E G s a w) {id:Nat} (hm:s.mem id=none) (hid:id%128<64) {e:TypeId} {τ:Ty} {f:Fl} {xs:List τ.den} {vs:List Value} {cells:Array Value} (hpos:0<τ.size) (hr:aO (aU G.S w τ f) xs vs []) (hc:cells.toList=vs) (hn:xs.length≤maxLen):
  aK E ⟨G.S,cc G.σ id ⟨.slice (some ⟨w.heap.size,0,none⟩) xs.length xs.length,τ.size⟩,az G.β id [w.heap.size]⟩ (s.upd (.set id (.rows e τ f xs))) a (w.alloc (.cells cells e)):=by
 have hl:vs.length=xs.length*τ.size:=an.length (R:=fun(_:τ.den) (us:List Value)=>us.length=τ.size) (fun _ _ hh=>hh) (aO.rows (fun x us B1 _ hx=>aU.length _ _ _ _ _ hx) hr)
 refine h.fresh hm hid (.rows e τ f xs) _ _ none rfl rfl rfl (by rw[dg];omega) (fun q hq _=>b7 w _ q hq) (fun q hq=>by simp at hq) (fun k hk=> ?_) (by simp) ?_
 ·simp only[List.mem_singleton]at hk;subst hk
  exact⟨.inl (Nat.le_refl _),by rw[dg];omega⟩
 ·refine⟨⟨hpos,_,vs,[],rfl,rfl,.inl ⟨hl,.inr ⟨w.heap.size,xs.length,cells,rfl,Nat.zero_le _,cL w _,Nat.le_refl _,hn, ?_, ?_⟩⟩,aO.imp (fun x us B1 hB=>aU.keep (fun _ x=>x) (fun b hb=>b7 w _ b (h.old b hb)) _ _ _ _ _ fun k hk=>by have:=hB k hk;simp at this) hr⟩,rfl⟩
  ·rw[←hl,←hc];simp
  ·rw[hc,←hl,List.take_length]
theorem aK.rows (h:aK E G s a w) {id:Nat} (hm:s.mem id=none) (hid:id%128<64) {e:TypeId} {τ:Ty} {xs:List τ.den} {vs:List Value} {cells:Array Value} (hpos:0<τ.size) (hr:an (aw G.S w τ) xs vs) (hc:cells.toList=vs) (hn:xs.length≤maxLen):
  aK E ⟨G.S,cc G.σ id ⟨.slice (some ⟨w.heap.size,0,none⟩) xs.length xs.length,τ.size⟩,az G.β id [w.heap.size]⟩ (s.upd (.set id (.rows e τ .no xs))) a (w.alloc (.cells cells e)):=
 h.rowsF hm hid hpos (cC.2 ⟨hr,rfl⟩) hc hn
theorem yn:∀(τ:Ty) (f:Fl) (cs r r':List PV) (x:τ.den) (vs:List Value),lB τ f cs=some r→eK τ cs=some (x,r')→aj S σ w cs vs→r=r'∧∃u v,vs=u++v∧aU S w τ f x u []∧aj S σ w r v:=by
 have base:∀(τ:Ty) (cs r r':List PV) (x:τ.den) (vs:List Value),(eK τ cs).map (·.2)=some r→eK τ cs=some (x,r')→aj S σ w cs vs→r=r'∧∃u v,vs=u++v∧aU S w τ .no x u []∧aj S σ w r v:=by
  intro τ cs r r' x vs h1 h2 hc
  rw[h2]at h1
  simp only[Option.map_some,aa]at h1
  subst h1
  obtain⟨u,v,h3,h4,h5⟩:=js _ _ _ _ _ hc h2
  exact⟨rfl,u,v,h3,iO.2 ⟨h4,rfl⟩,h5⟩
 intro τ
 induction τ with
 |list e ih=>
  intro f cs r r' x vs h1 h2 hc
  cases f with
  |own T g=>
   simp only[lB]at h1
   split at h1
   ·rename_i r0
    rcases ab h1 with⟨hb,h1⟩|⟨_,h1⟩
    ·simp only[aa]at h1
     subst h1
     simp only[eK,aa,ar]at h2
     obtain⟨rfl,rfl⟩:=h2
     obtain⟨u,v,rfl,hu,hv⟩:=hc
     exact⟨rfl,u,v,rfl,⟨bi hb,.slice none 0 0,[],[],hu,rfl,.inl (World.ownsRow_nil w 0 T e.size),rfl,rfl⟩,hv⟩
    ·simp at h1
   ·simp at h1
  |no=>exact base (.list e) _ _ _ _ _ h1 h2 hc
  |_=>simp[lB]at h1
 |pair a b iha ihb=>
  intro f cs r r' x vs h1 h2 hc
  cases f with
  |pair f g=>
   simp only[lB]at h1
   simp only[eK]at h2
   split at h1
   ·rename_i r0 hr0
    split at h2
    ·rename_i y cs1 hy
     split at h2
     ·rename_i y2 cs2 hy2
      simp only[aa,ar]at h2
      obtain⟨rfl,rfl⟩:=h2
      obtain⟨rfl,u,v,rfl,g1,g2⟩:=iha f _ _ _ _ _ hr0 hy hc
      obtain⟨rfl,u',v',rfl,g3,g4⟩:=ihb g _ _ _ _ _ h1 hy2 g2
      exact⟨rfl,u++u',v',by simp,⟨u,u',[],[],rfl,rfl,g1,g3⟩,g4⟩
     ·simp at h2
    ·simp at h2
   ·simp at h1
  |no=>exact base (.pair a b) _ _ _ _ _ h1 h2 hc
  |_=>simp[lB]at h1
 |_=>
  intro f cs r r' x vs h1 h2 hc
  cases f with
  |no=>exact base _ _ _ _ _ _ h1 h2 hc
  |_=>simp[lB]at h1
theorem vC {τ:Ty} {f:Fl} {cs:List PV} {x:τ.den} {vs:List Value} (h:be τ cs=some x) (hc:aj S σ w cs vs):aU S w τ (wb f τ cs) x vs []:=by
 have hno:aU S w τ .no x vs []:=iO.2 ⟨bE hc h,rfl⟩
 unfold wb
 split
 ·rename_i hz
  cases f.isBox with
  |true=>exact hno
  |false=>
   unfold be at h
   split at h
   ·rename_i y hy
    simp only[aa]at h
    subst h
    obtain⟨_,u,v,rfl,h1,h2⟩:=yn _ _ _ _ _ _ _ hz hy hc
    cases h2
    simpa using h1
   ·simp at h
 ·exact hno
theorem i8 {e:Ty} {f:Fl} {z:e.den} {us:List Value} (h:aU S w e f z us []):∀n,aO (aU S w e f) (List.replicate n z) (List.replicate n us).flatten []
 |0=>⟨rfl,rfl⟩
 |n+1=>⟨us,_,[],[],by rw[List.replicate_succ,List.flatten_cons],rfl,h,i8 h n⟩
theorem rR (h:aK E G s a w) {S':Nat→Prop} (hS:∀b,G.S b→S' b) {p:PV} (hf:∀i∈p.owns,∀k∈G.β i,S' k) {vs:List Value} (hr:aP G.S G.σ w p vs):aP S' σ' w (s.dat p) vs:=by
 have un:∀{v:Value},v.oneCell'=true→aP S' σ' w .undef [v]:=fun hv=>⟨_,rfl,hv⟩
 have cl:(∀c:PV,c=p→aP S' G.σ w p vs):=fun _ _=>aP.keep hS (fun _ _=>rfl) (b8.refl _) hr
 cases p with
 |own id=>
  obtain⟨L,p,n,c,hL,hv,rfl⟩:=hr
  simp only[St.dat]
  split
  ·rename_i e xs hm
   obtain⟨L',hL',_,_,ht,_⟩:=ie h hm
   rw[hL]at hL';simp only[aa]at hL';subst hL'
   exact aw.keep (fun b hb=>hb.elim (hS b) (hf id (by simp[PV.owns]) b)) (fun _ _=>rfl) _ _ _ ht
  ·exact un (by rw[hv];rfl)
 |ptr id q=>obtain⟨_,_,_,_,_,_,rfl⟩:=hr;exact un rfl
 |elt id i q=>obtain⟨_,_,_,_,_,_,_,_,_,rfl⟩:=hr;exact un rfl
 |cell id=>obtain⟨_,_,_,_,_,_,_,_,_,rfl⟩:=hr;exact un rfl
 |view id l h'=>
  have hr0:=hr
  obtain⟨L,p,n,c,hL,hv,_,rfl⟩:=hr
  simp only[St.dat]
  split
  ·rename_i e xs hm
   have ht:=eS h hr0 hm
   exact aw.keep (fun b hb=>hb.elim (hS b) fun⟨i,hi,hb⟩=>hf i hi b hb) (fun _ _=>rfl) _ _ _ ht
  ·exact un rfl
 |fn f caps=>
  obtain⟨us,rfl,hc⟩:=hr
  simp only[St.dat]
  cases hb:caps.all (fun c=>match c with| .ref _=>false|_=>true)with
  |false=>exact un rfl
  |true=>
   refine⟨us,rfl, ?_⟩
   clear cl hf
   induction caps generalizing us with
   |nil=>exact hc
   |cons c caps ih=>
    obtain⟨v,us,rfl,h1,h2⟩:=hc
    simp only[List.all_cons,aB]at hb
    refine⟨v,us,rfl, ?_,ih us h2 hb.2⟩
    cases c with
    |dat=>exact aw.keep hS (fun _ _=>rfl) _ _ _ h1
    |agg=>obtain⟨us,e,k⟩:=h1;exact⟨us,e,aw.keep hS (fun _ _=>rfl) _ _ _ k⟩
    |cref=>obtain⟨b,o,us,hb,hr,ht,e⟩:=h1;exact⟨b,o,us,hS b hb,hr,aw.keep hS (fun _ _=>rfl) _ _ _ ht,e⟩
    |ref=>simp at hb
 |undef=>exact hr
 |bool=>exact hr
 |int=>exact hr
 |str=>exact hr
 |nils=>exact hr
 |nilp=>exact hr
 |list=>exact aw.keep hS (fun _ _=>rfl) _ _ _ hr
 |seg=>exact aw.keep hS (fun _ _=>rfl) _ _ _ hr
 |dopt=>exact aw.keep hS (fun _ _=>rfl) _ _ _ hr
 |cptr=>obtain⟨b,o,us,hb,hrr,ht,rfl⟩:=hr;exact⟨b,o,us,hS b hb,hrr,aw.keep hS (fun _ _=>rfl) _ _ _ ht,rfl⟩
theorem cX (h:aK E G s a w) {S':Nat→Prop} (hS:∀b,G.S b→S' b):∀{cs:List PV},(∀i∈aM cs,∀k∈G.β i,S' k)→∀{vs:List Value},aj G.S G.σ w cs vs→aj S' σ' w (cs.map s.dat) vs
 | [],_,_,h=>h
 |p::cs,hf,_,⟨u,v,e,x,y⟩=>⟨u,v,e,rR h hS (fun i hi=>hf i (by simp[aM,hi])) x,cX h hS (fun i hi=>hf i (by
   simp only[aM,List.flatMap_cons,List.mem_append];exact .inr hi)) y⟩
theorem xn (h:aK E G s a w) {id:Nat} {vs:List Value} (hr:aP G.S G.σ w (.own id) vs):id%128≠127:=by
 obtain⟨L,p,n,c,hL,hv,_⟩:=hr
 intro e
 obtain⟨x,hx⟩:=h.parp id e
 rw[←h.par id L (by omega) hL,hv]at hx
 simp at hx
theorem jT (h:aK E G s a w):∀{cs:List PV} {vs:List Value},aj G.S G.σ w cs vs→∀i∈aM cs,i%128≠127
 | [],_,_,i,hi=>by simp[aM]at hi
 |p::cs,_,⟨u,v,e,x,y⟩,i,hi=>by
  simp only[aM,List.flatMap_cons,List.mem_append]at hi
  rcases hi with hi|hi
  ·cases p<;>simp only[PV.owns,List.not_mem_nil,List.mem_singleton]at hi
   ·subst hi
    exact xn h x
   ·subst hi
    obtain⟨L,p,n,c,hL,hv,_⟩:=x
    intro e
    obtain⟨x,hx⟩:=h.parp i e
    rw[←h.par i L (by omega) hL,hv]at hx
    simp at hx
  ·exact jT h y i hi
theorem tp (h:aK E G s a w) {p:PV} {vs:List Value} (hr:aP G.S G.σ w p vs):∀i∈p.owns,i%128≠127:=fun i hi=>jT h (aj.one hr) i (by simpa[aM]using hi)
theorem er:∀{l:List Nat} {s:St} {id:Nat},id∉l→(s.upds (l.map .frz)).mem id=s.mem id
 | [],_,_,_=>rfl
 |j::l,s,id,h=>by
  simp only[List.map_cons,St.upds]
  rw[er (fun x=>h (by simp[x])),bF _ (fun x=>h (by simp[x]))]
theorem km:∀{l:List Nat} {s:St} {id:Nat},s.mem id=none→(s.upds (l.map .frz)).mem id=none
 | [],_,_,h=>h
 |j::l,s,id,h=>by
  simp only[List.map_cons,St.upds]
  refine km ?_
  by_cases e:id=j
  ·subst e;rw[et,h];rfl
  ·rw[bF _ e,h]
theorem qB {z:Nat}:∀{vs:List (Nat×Value)} {us:List (List Value)} {i:Nat} {cells:Array Value},dr (fun(q:Nat×Value) (u:List Value)=>q.2.cells.toList=u∧u.length=z) vs us→(∀j (q:Nat×Value),vs[j]? =some q→q.1=i+j)→
  (i+vs.length)*z=cells.size→∃cells':Array Value,Instr.fill (fun i=>some (i*z,z)) cells vs=some cells'∧cells'.toList=cells.toList.take (i*z)++us.flatten
 | [],_,i,cells,.nil,_,hs=>⟨cells,rfl,by simp at hs⊢;rw[List.take_of_length_le (by simp;omega)]⟩
 |q::vs,_,i,cells,.cons (y:=u) (ys:=us) h ht,hi,hs=>by
  have hq:q.1=i:=by have:=hi 0 q (by simp);omega
  have hn:q.2.cells.size=z:=by have:=h.2;rw[←h.1]at this;simpa using this
  have hle:i*z+z≤cells.size:=by
   rw[←hs,List.length_cons,show i+(vs.length+1)=i+1+vs.length by omega,Nat.add_mul,Nat.add_mul];omega
  have hset:=eW q.2.cells.toList 0 (i*z) cells (by simp;omega)
  obtain⟨cells',h1,h2⟩:=qB (i:=i+1) (cells:=((q.2.cells.toList.zipIdx 0).foldl (fun cs (c:Value×Nat)=>cs.setIfInBounds (i*z+c.2) c.1) cells)) ht
   (fun j q' hj=>by have:=hi (j+1) q' (by simpa using hj);omega) (by
    have:((q.2.cells.toList.zipIdx 0).foldl (fun cs (c:Value×Nat)=>cs.setIfInBounds (i*z+c.2) c.1) cells).size=cells.size:=by
     rw[←Array.length_toList,hset];simp;omega
    rw[this,←hs,List.length_cons];congr 1;omega)
  refine⟨cells', ?_, ?_⟩
  ·rw[Instr.fill.eq_2]
   simp only[hq]
   rw[ak (by simp[hn];omega),←h1]
   congr 1
   rw[←Array.foldl_toList,Array.toList_zipIdx]
  ·rw[h2,hset]
   simp only[Nat.add_zero,List.flatten_cons,←aZ]
   congr 1
   rw[aZ,←h.1,List.take_append,List.take_of_length_le (by simp;rw[Nat.add_mul];omega)]
   congr 1
   rw[List.length_take,Array.length_toList,Nat.min_eq_left (by omega),Nat.add_mul,Nat.one_mul,Nat.add_sub_cancel_left,List.take_append_of_le_length (by simp[hn]),List.take_of_length_le (by simp[hn])]
theorem cY {P:Program} {t:TypeId} {b o:Nat} {v:Value} {i:TypeInfo} (hi:P.info? t=some i) (hs:i.size=v.cells.toList.length) (ht:w.there b o v.cells.toList.length) (h1:∀u∈v.cells.toList,u.oneCell'=true):
  (Instr.storeAt t (.pointer (some ⟨b,o,none⟩)) v).run P w= .ok () (w.setCells b o v.cells.toList):=by
 have:=run_storeCells_cells (P:=P) b o v.cells.toList 0 w (fun j hj=>by simpa using(ht j hj).1) (fun j hj=>by simpa using(ht j hj).2) h1
 simp only[Nat.add_zero]at this
 simp only[Instr.storeAt,Instr.sureAddr,storeVar,Sem.run_bind,Sem.run_pure,Result.andThen_ok,bL hi]
 rw[ak (by rw[hs];simp)]
 exact this
theorem bf (b:Nat):∀(vs:List Value) (o:Nat) (w:World) (k:Nat),k≠b→(w.setCells b o vs).heap[k]? =w.heap[k]?
 | [],_,_,_,_=>rfl
 |v::vs,o,w,k,h=>by
  rw[World.setCells,bf b vs (o+1) _ k h]
  exact RowKit.Below.heap_setCell w ⟨b,o,none⟩ v k h
theorem ck (b:Nat):∀(vs:List Value) (o:Nat) (w:World),(w.setCells b o vs).heap.size=w.heap.size
 | [],_,_=>rfl
 |v::vs,o,w=>by rw[World.setCells,ck b vs];simp[World.setCell]
theorem cm (b:Nat):∀(vs:List Value) (o:Nat) (w:World),(w.setCells b o vs).os=w.os∧(w.setCells b o vs).tape=w.tape∧(w.setCells b o vs).output=w.output
 | [],_,_=>⟨rfl,rfl,rfl⟩
 |v::vs,o,w=>by rw[World.setCells];exact cm b vs _ _
theorem dX (b:Nat) (t:TypeId) (fr:Nat×Nat):∀(vs:List Value) (o:Nat) (w:World) (cur:Array Value),w.heap[b]? =some (.cells cur t fr)→o+vs.length≤cur.size→
  ∃cur':Array Value,(w.setCells b o vs).heap[b]? =some (.cells cur' t fr)∧cur'.toList=cur.toList.take o++(vs++cur.toList.drop (o+vs.length))
 | [],o,w,cur,h,hl=>⟨cur,h,by simp⟩
 |v::vs,o,w,cur,h,hl=>by
  simp only[List.length_cons]at hl
  have h1:(w.setCell ⟨b,o,none⟩ v).heap[b]? =some (.cells (cur.setIfInBounds o v) t fr):=by
   simp only[World.setCell,Array.getElem?_modify,if_true,h,Option.map_some]
   simp
  obtain⟨cur',h2,h3⟩:=dX b t fr vs (o+1) _ _ h1 (by simp;omega)
  refine⟨cur',h2, ?_⟩
  rw[h3]
  have hlt:o<cur.toList.length:=by simp;omega
  simp only[Array.toList_setIfInBounds,List.length_cons]
  rw[List.take_set,List.drop_set,av (by omega),List.take_succ_eq_append_getElem hlt,List.set_append,ak (by simp;omega)]
  have:o-(List.take o cur.toList).length=0:=by simp;omega
  rw[this]
  simp only[List.set_cons_zero,aZ,List.cons_append,List.nil_append]
  rw[show o+1+vs.length=o+(vs.length+1) by omega]
theorem tq {b o off:Nat} {vs us:List Value} (hr:w.rangeAt b o vs) (ht:w.there b o vs.length) (hl:off+us.length≤vs.length):(w.setCells b (o+off) us).rangeAt b o (vs.take off++(us++vs.drop (off+us.length))):=by
 intro j v hv
 by_cases h1:j<off
 ·rw[List.getElem?_append_left (by simp;omega),List.getElem?_take,av h1]at hv
  rw[World.cell?_setCells_out b us (o+off) w ⟨b,o+j,none⟩ (fun _ _=> .inl (by show o+j<o+off;omega))]
  exact hr j v hv
 ·have hlen:(vs.take off).length=off:=by simp;omega
  rw[List.getElem?_append_right (by omega),hlen]at hv
  by_cases h2:j-off<us.length
  ·rw[List.getElem?_append_left h2]at hv
   have:=World.rangeAt_setCells_same w b (o+off) us (fun q hq=>by have:=ht (off+q) (by omega);rwa [←Nat.add_assoc]at this) (j-off) v hv
   rwa [show o+off+(j-off)=o+j by omega]at this
  ·rw[List.getElem?_append_right (by omega),List.getElem?_drop,show off+us.length+(j-off-us.length)=j by omega]at hv
   rw[World.cell?_setCells_out b us (o+off) w ⟨b,o+j,none⟩ (fun _ _=> .inr (by show o+off+us.length≤o+j;omega))]
   exact hr j v hv
theorem oh (w:World) (a x:Addr) (v:Value):((w.setCell a v).cell? x).isSome=(w.cell? x).isSome:=by
 simp only[World.cell?,World.setCell,Array.getElem?_modify]
 by_cases h:a.block=x.block
 ·rw[av h]
  cases w.heap[x.block]? with
  |none=>rfl
  |some o=>
   cases o<;>simp
   split
   ·rfl
   ·split
    ·rfl
    ·rw[Array.getElem?_setIfInBounds]
     split
     ·rename_i he
      split
      ·rename_i hh;simp;omega
      ·rename_i hh;simp;omega
     ·rfl
 ·rw[ak h]
theorem dY (b:Nat):∀(vs:List Value) (o:Nat) (w:World) (x:Addr),((w.setCells b o vs).cell? x).isSome=(w.cell? x).isSome
 | [],_,_,_=>rfl
 |v::vs,o,w,x=>by rw[World.setCells,dY b vs,oh]
theorem cM.put {W:World} {M:Nat→Nat→Prop} (h:cM W w M) (b o:Nat) (us:List Value) (hb:W.heap.size≤b∨∀j,j<us.length→M b (o+j)):cM W (w.setCells b o us) M:=by
 obtain⟨h1,h2,h3⟩:=cm b us o w
 refine⟨h1.trans h.os,h2.trans h.tape,h3.trans h.output,by rw[ck];exact h.size,fun k hk hM=> ?_,fun k hk q hM=> ?_,fun k hk q=> ?_,fun k hk q=> ?_⟩
 ·by_cases hkb:k=b
  ·subst hkb
   rcases hb with hb|hb
   ·omega
   ·cases us with
    |nil=>exact h.block k hk hM
    |cons u us=>exact absurd (hb 0 (by simp)) (hM _)
  ·rw[bf b us o w k hkb];exact h.block k hk hM
 ·refine⟨?_,trivial⟩
  rw[World.cell?_setCells_out b us o w ⟨k,q,none⟩ (fun hkb _=> ?_)]
  ·exact(h.cells k hk q hM).1
  ·simp only at hkb
   subst hkb
   rcases hb with hb|hb
   ·omega
   ·by_cases hq:q<o
    ·exact .inl hq
    ·by_cases hq2:o+us.length≤q
     ·exact .inr hq2
     ·have:=hb (q-o) (by omega)
      rw[show o+(q-o)=q by omega]at this
      exact absurd this hM
 ·rw[World.frozen?_setCells];exact h.frozen k hk q
 ·by_cases hs:(w.cell? ⟨k,q,none⟩).isSome=true
  ·rw[World.isSome_setCells b us o w _ hs,←h.there k hk q,hs]
  ·have:((w.setCells b o us).cell? ⟨k,q,none⟩).isSome=(w.cell? ⟨k,q,none⟩).isSome:=dY b us o w ⟨k,q,none⟩
   rw[this];exact h.there k hk q
theorem yp {b o n:Nat} (h:w.there b o n) (b' o':Nat) (us:List Value):(w.setCells b' o' us).there b o n:=World.there_setCells h b' o' us
theorem ji {T:TypeId} {z n m c:Nat} {p:Option Addr} {v:Value} {us:List Value} (h:w.ownsRow 0 T z v n us) (e:v= .slice p m c):m=n:=by
 rcases h.2 with⟨hh,h0⟩|⟨g,cap,cur,hh,_⟩
 ·rw[hh]at e;simp only[Value.slice.injEq]at e;omega
 ·rw[hh]at e;simp only[Value.slice.injEq]at e;omega
theorem p9 {T:TypeId} {z n b c:Nat} {us:List Value} (h:w.ownsRow 0 T z (.slice (some ⟨b,0,none⟩) n c) n us) {o m:Nat} (hl:o+m≤us.length):w.there b o m:=by
 intro j hj
 have hlen:=h.1
 refine⟨?_,h.frozenAt (o+j)⟩
 rw[h.cellAt (o+j) (by omega),List.getElem?_eq_getElem (by omega)];rfl
theorem fR {f:Fl} {T:TypeId} {z n m c:Nat} {p:Option Addr} {v:Value} {us:List Value} (h:kf w f T z v n us) (e:v= .slice p m c):m=n:=by
 rcases h with h|⟨_,_,g,cap,_,_,hh,_⟩
 ·exact ji h e
 ·rw[hh]at e;simp only[Value.slice.injEq]at e;omega
theorem ol {f:Fl} {T:TypeId} {z n b c:Nat} {us:List Value} (h:kf w f T z (.slice (some ⟨b,0,none⟩) n c) n us) {o m:Nat} (hl:o+m≤us.length):w.there b o m:=by
 rcases h with h|⟨_,h1,g,cap,cur,fz,hh,hg,hz,hn,_,hc,ht⟩
 ·exact p9 h hl
 ·simp only[Value.slice.injEq,aa,Addr.mk.injEq,and_true,true_and]at hh
  obtain⟨rfl,rfl⟩:=hh
  have hle:us.length≤cur.size:=by rw[h1,hc];exact Nat.mul_le_mul_right _ hn
  intro j hj
  refine⟨?_, ?_⟩
  ·simp only[World.cell?,hg,Option.isSome_none,Bool.false_eq_true,if_false]
   rw[Array.getElem?_eq_getElem (by omega)];rfl
  ·simp only[World.frozen?,hg]
   simp;omega
theorem qC:∀(l:List UInt8),an (aw S w (.int .u8)) (l.map fun b=>(b.toNat:Int)) (l.map fun b=>Value.int .u8 b.toNat)
 | []=>rfl
 |b::l=>⟨[.int .u8 b.toNat],_,rfl,rfl,qC l⟩
theorem rS (hC:C.OK) (h:aK E G s a w) {src dst:TypeId} {id:Nat} (hid:id%128<64) {x:PV} {vx:Value} {k:SV→List bJ→List Nat→Option R} {rs:List Nat} (hx:aP G.S G.σ w x [vx]) (e:g7 C s id src dst x (fun p us=>k (.v p) us rs)=some r):
  co E a C.P (convert src dst vx) w s k r:=by
 unfold g7 at e
 split at e
 ·rename_i t
  rcases ab e with⟨hs,e⟩|⟨_,e⟩
  ·split at e
   ·rename_i q hd
    obtain⟨hm,e⟩:=aR e
    rcases ab e with⟨ht,e⟩|⟨_,e⟩
    ·have ht:=of_decide_eq_true ht
     have:=kI hx;subst this
     obtain⟨i,hu,hi,hz,hq⟩:=i9 hC hd
     have hrun:=run_bytes_of_string (P:=C.P) w src dst q t (gC hC hs) hu (hq .u8 rfl)
     generalize hO:Obj.cells (bytesRow t (grownCap w t.size 0 q)) q ((bytesRow t (grownCap w t.size 0 q)).size,(bytesRow t (grownCap w t.size 0 q)).size+1)=O at hrun
     have hsz:(w.drew.alloc O).heap.size=w.heap.size+1:=dg w.drew O
     have hold:∀b,b<w.heap.size→(w.drew.alloc O).heap[b]? =w.heap[b]? :=fun b hb=>b7 w.drew O b hb
     have hh:(w.drew.alloc O).heap[w.heap.size]? =some O:=cL w.drew O
     have hlen:(oZ t).length=t.size:=by rw[oZ,List.length_map,Array.length_toList];rfl
     have hge:=grownCap_ge w t.size 0 q
     have hle:grownCap w t.size 0 q≤maxLen:=grownCap_le_maxLen w t.size 0 q (by simp only[maxLen];omega)
     have hts:t.data.size=t.size:=rfl
     have hbs:(bytesRow t (grownCap w t.size 0 q)).size=grownCap w t.size 0 q:=by rw[bytesRow];simp;omega
     have hsim:aK E ⟨G.S,cc G.σ id ⟨.slice (some ⟨w.heap.size,0,none⟩) t.size (grownCap w t.size 0 q),1⟩,az G.β id [w.heap.size]⟩ (s.upd (.set id (.rows q (.int .u8) .box (oZ t)))) a (w.drew.alloc O):=by
      refine h.fresh hm hid (.rows q (.int .u8) .box (oZ t)) _ _ none rfl rfl rfl (by rw[hsz];omega) (fun b hb _=>hold b hb) (fun b hb=>by simp at hb) (fun b hb=> ?_) (by simp) ?_
      ·simp only[List.mem_singleton]at hb;subst hb
       exact⟨.inl (Nat.le_refl _),by rw[hsz];omega⟩
      ·refine⟨⟨by decide,_,t.data.toList.map (fun b=>Value.int .u8 b.toNat),[],rfl,rfl,.inr ⟨rfl, ?_,w.heap.size,grownCap w t.size 0 q,bytesRow t (grownCap w t.size 0 q),_, ?_,hh.trans (congrArg some hO.symm),Nat.le_refl _, ?_,hle, ?_, ?_⟩,(fT rfl).2 ⟨qC _,rfl⟩⟩,rfl⟩
       ·rw[List.length_map,Array.length_toList,hlen];show t.data.size=_*1;omega
       ·rw[hlen]
       ·rw[hlen];exact hge
       ·rw[hbs];show _=_*1;omega
       ·rw[hlen]
        show(bytesRow t _).toList.take (t.size*1)=_
        rw[Nat.mul_one,bytesRow,Array.toList_append,List.take_append_of_le_length (by simp),Array.toList_map,List.take_of_length_le (by simp)]
     exact⟨_,_,_,_,_,_,hrun,aC.v fJ,hsim,e⟩
    ·simp at e
   ·simp at e
  ·simp at e
 ·simp at e
theorem oo {z:Array Value} {m n:Nat} (hz:z.size=m) (hm:0<m):(madeCells z (n*m)).toList=(List.replicate n z.toList).flatten:=by
 induction n with
 |zero=>simp[madeCells]
 |succ n ih=>
  have e1:(madeCells z ((n+1)*m)).toList=(madeCells z (n*m)).toList++z.toList:=by
   apply List.ext_getElem?
   intro i
   simp only[madeCells,Array.toList_map,Array.toList_range,List.getElem?_map]
   by_cases h1:i<n*m
   ·rw[List.getElem?_append_left (by simp;exact h1)]
    rw[List.getElem?_range (by rw[Nat.add_mul];omega),List.getElem?_map,List.getElem?_range h1]
   ·rw[List.getElem?_append_right (by simp;omega)]
    simp only[List.length_map,List.length_range]
    by_cases h2:i<n*m+m
    ·rw[List.getElem?_range (by rw[Nat.add_mul,Nat.one_mul];exact h2)]
     simp only[Option.map_some]
     have h3:i%z.size=i-n*m:=by
      rw[hz]
      obtain⟨d,rfl⟩:∃d,i=n*m+d:=⟨i-n*m,by omega⟩
      rw[Nat.mul_comm n m,Nat.mul_add_mod,Nat.mod_eq_of_lt (by rw[Nat.mul_comm n m]at h2;omega),Nat.add_sub_cancel_left]
     rw[h3,List.getElem?_eq_getElem (by simp;omega)]
     congr 1
     rw[getElem!_pos z (i-n*m) (by omega)]
     simp
    ·rw[List.getElem?_eq_none (by simp;rw[Nat.add_mul,Nat.one_mul];omega),List.getElem?_eq_none (by simp;omega)]
     rfl
  rw[e1,ih]
  simp[List.replicate_succ',List.flatten_append]
theorem yq {n b:Nat} (h:aD n b=true):n*b≤140737488355328∧n≤9223372036854775807:=by
 simp only[aD,aB,bh]at h;exact h
theorem md (hC:C.OK) (h:aK E G s a w) {t:TypeId} {id:Nat} (hid:id%128<64) {n:PV} {vn:Value} {k:SV→List bJ→List Nat→Option R} {rs:List Nat} (hn:aP G.S G.σ w n [vn]) (e:cK C s id t n (fun p us=>k (.v p) us rs)=some r):
  co E a C.P (Instr.makeSlice t vn vn) w s k r:=by
 unfold cK at e
 split at e
 ·rename_i q _ _ _ _ _ n hI
  split at e
  ·rename_i Q hQ
   split at e
   ·rename_i z hz
    rcases ab e with⟨h1,e⟩|⟨_,e⟩
    ·obtain⟨hm,e⟩:=aR e
     rcases ab e with⟨h2,e⟩|⟨_,e⟩
     ·have:=eR (x:= .undef) hn;subst this
      simp only[aB,bh]at h2
      obtain⟨h0,hr⟩:=h2
      obtain⟨hr1,hr2⟩:=yq hr
      obtain⟨_,⟨d,hu,_,hd,_⟩,_⟩:=hC.ti t _ hI
      simp only at hd;subst hd
      obtain⟨⟨i,zv,hi,hs,hby,hzv,hsame,hzl⟩,_,hsz,_⟩:=hC.ti q Q hQ
      have h1:=bi h1
      have hb':(i.bytes:Int)*n≤281474976710656:=by
       have:(i.bytes:Int)*n=((n.toNat*Q.bytes:Nat):Int):=by rw[hby,Int.natCast_mul,Int.mul_comm];congr 1;omega
       rw[this];omega
      have hrun:=run_make (P:=C.P) w t q i zv hu hi hzv .i64 .i64 n n h0 (Int.le_refl _) hb' (by omega)
      have hzr:=vC (S:=G.S) (w:=w) (σ:=G.σ) (f:=C.elf t id) hz (jg hsame)
      have hcl:=oo (z:=zv.cells) (m:=i.size) (n:=n.toNat) (by rw[hzl,hs]) (by omega)
      have hsim:=h.rowsF (e:=q) hm hid (τ:=Q.ty) (xs:=List.replicate n.toNat z) (cells:=madeCells zv.cells (n.toNat*i.size)) (by rw[hsz];exact h1) (i8 hzr n.toNat) hcl (by simp[maxLen];omega)
      simp only[List.length_replicate]at hsim
      exact⟨_,_,_,_,_,_,hrun,aC.v fJ,hsim,e⟩
     ·simp at e
    ·simp at e
   ·simp at e
  ·simp at e
 ·simp at e
theorem oq (h:aK E G s a w) {e:Ty} {S':Nat→Prop} (hS:∀b,G.S b→S' b):∀{ps:List (Nat×SV)} {vs:List (Nat×Value)} {i:Nat} {xs:List e.den},
  dr (fun(p:Nat×SV) (q:Nat×Value)=>p.1=q.1∧aC G.S G.σ w p.2 q.2) ps vs→(∀i∈aM (bu ps),∀k∈G.β i,S' k)→iT e s i ps=some xs→
  xs.length=ps.length∧∃us:List (List Value),an (aw S' w e) xs us.flatten∧us.length=ps.length∧dr (fun(q:Nat×Value) (u:List Value)=>q.2.cells.toList=u∧u.length=e.size) vs us∧(∀j (q:Nat×Value),vs[j]? =some q→q.1=i+j)
 | [],_,i,xs,.nil,_,e=>by simp only[iT,aa]at e;subst e;exact⟨rfl,[],rfl,rfl,.nil,by simp⟩
 |(j,x)::ps,_,i,xs,.cons (y:=q) (ys:=vs) hq ht,hf,e'=>by
  obtain⟨hj,hx⟩:=hq
  simp only[iT]at e'
  rcases ab e' with⟨hij,e'⟩|⟨_,e'⟩
  ·have hij:=aG hij
   split at e'
   ·rename_i c hc
    split at e'
    ·rename_i x0 xs0 hx0 hxs0
     simp only[aa]at e'
     subst e'
     have hcells:=c9 hx hc
     have hf1:∀i∈aM c,∀k∈G.β i,S' k:=fun k hk=>hf k (by simp only[bu,hc,Option.getD_some,aM,List.flatMap_append,List.mem_append];exact .inl hk)
     have hf2:∀i∈aM (bu ps),∀k∈G.β i,S' k:=fun k hk=>hf k (by simp only[bu,aM,List.flatMap_append,List.mem_append];exact .inr hk)
     have hrow:=bE (cX (σ':=G.σ) h hS hf1 hcells) hx0
     obtain⟨hl,us,h1,h2,h3,h4⟩:=oq h hS ht hf2 hxs0
     refine⟨by simp[hl],q.2.cells.toList::us,⟨_,_,rfl,hrow,h1⟩,by simp[h2],.cons ⟨rfl,aw.length _ _ _ hrow⟩ h3, ?_⟩
     intro k q' hk
     cases k with
     |zero=>simp only[List.getElem?_cons_zero,aa]at hk;subst hk;omega
     |succ k=>simp only[List.getElem?_cons_succ]at hk;rw[h4 k q' hk];omega
    ·simp at e'
   ·simp at e'
  ·simp at e'
end Go.Ps
