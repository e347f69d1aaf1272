import Derived.Test.YtfgjcohcpehcjaaGreatPsK
import Derived.ArgAppend
namespace Go.Ps
set_option linter.unusedVariables false
variable {S S':Nat→Prop} {σ σ':Sg} {w w' w0:World} {E:En} {G G0:Gh} {s s' s0:St} {a:Act} {C:b9} {R:Type} {r:R}
theorem nv {P:Program} (w:World) {t ty e:TypeId} {i:TypeInfo} {z:Value} {size bytes:Nat} (ht:P.underlying t=some (.slice e)) (hi:P.info? e=some i) (hz:i.zero=some z)
  (hsize:i.size=size) (hby:i.bytes=bytes) (hzs:z.cells.size=size) (hsz:0<size) {v:Value} {n:Nat} {us:List Value} (hown:w.ownsRow 0 e size v n us) {p:Option Addr} {n0 c:Nat} (hv:v= .slice p n0 c)
  {l h:Nat} (hlh:l≤h) (hh:h≤n) {q:Option Addr} {m c':Nat} {news:List Value} (hl:news.length=m*size) (hq:q=none→m=0∧c'=0) (hnews:∀ad,q=some ad→∀j u,news[j]? =some u→w.cell? (ad.add j)=some u) (h1:∀u∈news,u.oneCell'=true)
  (h63:(h-l)+m≤maxLen) (hbytes:((h-l)+m)*bytes≤140737488355328):
  ∃rv w',(Builtin.append_ #[t,t] ty #[.slice (if c=l then p else p.map (·.add (l*size))) (h-l) (c-l),.slice q m c']).run P w= .ok rv w'∧w.grownBy w' v.ownBlock∧(∀k,v.ownBlock=some k→jh w w' k)∧
   ∃p' cap',rv= .slice p' ((h-l)+m) cap'∧(h-l)+m≤cap'∧(((h-l)+m=0∧(p'=none→cap'=0))∨∃b o,p'=some ⟨b,o,none⟩∧(w.heap.size≤b∨v.ownBlock=some b)∧b<w'.heap.size∧w'.rangeAt b o ((us.take (h*size)).drop (l*size)++news)):=by
 subst hv
 rcases hown.2 with⟨e1,e2⟩|⟨g,cap,cur,e1,_,hg,hcap,hmax,hcs,htk⟩
 ·
  simp only[Value.slice.injEq]at e1
  obtain⟨rfl,rfl,rfl⟩:=e1
  have hl0:l=0:=by omega
  have hh0:h=0:=by omega
  subst hl0 hh0
  have hus:us=[]:=List.eq_nil_of_length_eq_zero (by have:=hown.1;simpa[e2]using this)
  obtain⟨v',w',r1,r2,r3,r4,r5⟩:=fk (P:=P) w (ty:=ty) ht hi hz hsize hby hzs hsz (World.ownsRow_nil w 0 e size) hl hq hnews h1 (by simpa using h63) (by simpa using hbytes)
  refine⟨v',w',by simpa using r1,by simpa[Value.ownBlock]using r3,fun k hk=>by simp[Value.ownBlock]at hk, ?_⟩
  rcases r2.2 with⟨rfl,hm0⟩|⟨g,cap,cur,rfl,_,hg,hcap,_,hcs,htk⟩
  ·exact⟨none,0,by simp at hm0;simp[hm0],by simp at hm0;simp[hm0],.inl ⟨by simpa using hm0,fun _=>rfl⟩⟩
  ·refine⟨_,cap,by simp,by simpa using hcap,.inr ⟨g,0,rfl,.inl ?_,(Array.getElem?_eq_some_iff.1 hg).1, ?_⟩⟩
   ·have:=r4 g rfl
    simpa[Value.ownBlock]using this
   ·have:=cI r2
    simpa[hus]using this
 ·simp only[Value.slice.injEq]at e1
  obtain⟨rfl,rfl,rfl⟩:=e1
  have hgs:=(Array.getElem?_eq_some_iff.1 hg).1
  obtain⟨off,hoff⟩:∃off,(if c=l then 0 else l*size)=off:=⟨_,rfl⟩
  have hp:(if c=l then some (⟨g,0,none⟩:Addr)else(some (⟨g,0,none⟩:Addr)).map (·.add (l*size)))=some ⟨g,off,none⟩:=by
   rw[←hoff]
   split
   ·rfl
   ·simp[Addr.add_mid]
  rw[hp]
  obtain⟨olds,holds⟩:∃olds,(us.take (h*size)).drop (l*size)=olds:=⟨_,rfl⟩
  have hul:=hown.1
  have hhs:h*size≤n0*size:=Nat.mul_le_mul_right _ hh
  have hls:l*size≤h*size:=Nat.mul_le_mul_right _ hlh
  have hol:olds.length=(h-l)*size:=by rw[←holds,List.length_drop,List.length_take,Nat.min_eq_left (by omega),Nat.sub_mul]
  have hoc:∀j u,olds[j]? =some u→w.cell? ⟨g,off+j,none⟩=some u:=by
   intro j u hu
   have hj:=(List.getElem?_eq_some_iff.1 hu).1
   have hcl:c≠l:=by
    intro e
    have:h-l=0:=by omega
    rw[hol,this]at hj;omega
   rw[ak hcl]at hoff
   subst hoff
   have hlt:l*size+j<n0*size:=by rw[hol,Nat.sub_mul]at hj;omega
   rw[hown.cellAt (l*size+j) hlt,←hu,←holds,List.getElem?_drop,List.getElem?_take,av (by rw[hol,Nat.sub_mul]at hj;omega)]
  have hsp:∀j,j< (c-l)*size→(w.cell? ⟨g,off+j,none⟩).isSome=true∧w.frozen? ⟨g,off+j,none⟩=false:=by
   intro j hj
   have hcl:c≠l:=by intro e;subst e;simp at hj
   rw[ak hcl]at hoff
   subst hoff
   refine⟨?_,hown.frozenAt _⟩
   have hlt:l*size+j<cur.size:=by
    have:l*size+(c-l)*size=c*size:=by rw[←Nat.add_mul];congr 1;omega
    omega
   simp[World.cell?,hg,hlt]
  rw[holds]
  cases q with
  |none=>
   obtain⟨rfl,rfl⟩:=hq rfl
   have hn:news=[]:=List.eq_nil_of_length_eq_zero (by simpa using hl)
   subst hn
   have hrun:(Builtin.append_ #[t,t] ty #[.slice (some ⟨g,off,none⟩) (h-l) (c-l),.slice none 0 0]).run P w= .ok (.slice (some ⟨g,off,none⟩) (h-l) (c-l)) w:=by
    have:h-l≤c-l:=by omega
    simp[Builtin.append_,run_underlying ht,sizeOf,typeInfo,hi,Builtin.lenOf,Builtin.firstCells,this,storeCells]
   refine⟨_,w,hrun,⟨rfl,rfl,rfl,Nat.le_refl _,fun _ _ _=>rfl⟩,fun k hk o=>⟨rfl,rfl⟩,_,_,rfl,by omega,.inr ⟨g,off,rfl,.inr rfl,hgs, ?_⟩⟩
   rw[List.append_nil];exact hoc
  |some ad=>
   by_cases hroom:(h-l)+m≤c-l
   ·subst hsize
    have hb1:∀j,j<news.length→off+(h-l)*i.size+j=off+((h-l)*i.size+j)∧(h-l)*i.size+j< (c-l)*i.size:=fun j hj=>by
     have:((h-l)+m)*i.size≤(c-l)*i.size:=Nat.mul_le_mul_right _ hroom
     rw[Nat.add_mul]at this
     omega
    have hrun:=run_append_room_cells (P:=P) w t ty e i ht hi g off (h-l) (c-l) ad m c' news hl (hnews ad rfl) h1 hroom
     (fun j hj=>by rw[(hb1 j hj).1];exact(hsp _ (hb1 j hj).2).1) (fun j hj=>by rw[(hb1 j hj).1];exact(hsp _ (hb1 j hj).2).2)
    refine⟨_,_,hrun,⟨(cm g _ _ w).1,(cm g _ _ w).2.1,(cm g _ _ w).2.2,Nat.le_of_eq (ck g _ _ w).symm,fun k hk hne=>bf g _ _ w k (fun e=>hne (by rw[e];rfl))⟩,
     fun k hk o=>⟨dY g _ _ w _,World.frozen?_setCells g _ _ w _⟩,_,_,rfl,hroom,.inr ⟨g,off,rfl,.inr rfl,by rw[ck];exact hgs, ?_⟩⟩
    intro j u hu
    by_cases hj:j<olds.length
    ·rw[List.getElem?_append_left hj]at hu
     have:=World.rangeAt_setCells_apart (w:=w) (b':=g) (o':=off) (cs:=olds) hoc g (off+(h-l)*i.size) news (.inr (.inl (by rw[hol];exact Nat.le_refl _)))
     exact this j u hu
    ·rw[List.getElem?_append_right (by omega)]at hu
     have:=World.rangeAt_setCells_same w g (off+(h-l)*i.size) news (fun j hj=>by rw[(hb1 j hj).1];exact hsp _ (hb1 j hj).2) (j-olds.length) u hu
     rwa [show off+(h-l)*i.size+(j-olds.length)=off+j by rw[hol];rw[hol]at hj;omega]at this
   ·obtain⟨v',w',r1,r2,r3⟩:=run_append_arg_grows (P:=P) w t ty e i z size bytes ht hi hz hsize hby hzs hsz ⟨g,off,none⟩ (h-l) (c-l) olds hol (fun j u hj=>by rw[Addr.add_lit];exact hoc j u hj) ad m c' news hl (hnews ad rfl) (by omega) h63 hbytes
    refine⟨v',w',r1,⟨r3.os,r3.tape,r3.output,r3.size,fun k hk hne=>r3.block k hk (by simp)⟩,fun k hk o=> ?_, ?_⟩
    ·simp only[Value.ownBlock,aa]at hk
     subst hk
     have hb:w'.heap[g]? =w.heap[g]? :=r3.block g hgs (by simp)
     exact⟨by rw[World.cell?_of_block (a:=⟨g,o,none⟩) hb],World.frozen?_of_block (a:=⟨g,o,none⟩) hb⟩
    ·rcases r2.2 with⟨rfl,hm0⟩|⟨g',cap,cur',rfl,hge,hg',hcap',_,hcs',htk'⟩
     ·exact⟨none,0,by rw[hm0],by omega,.inl ⟨hm0,fun _=>rfl⟩⟩
     ·refine⟨_,cap,rfl,hcap',.inr ⟨g',0,rfl,.inl hge,(Array.getElem?_eq_some_iff.1 hg').1, ?_⟩⟩
      exact cI ⟨r2.1,r2.2.imp id fun⟨g,cap,cur,a1,a2,a3⟩=>⟨g,cap,cur,a1,Nat.zero_le _,a3⟩⟩
theorem vM (hC:C.OK) (h:aK E G s a w) {sl ty:TypeId} {x y:PV} {vx vy:Value} {k:SV→List bJ→List Nat→Option R} {rs:List Nat} (hx:aP G.S G.σ w x [vx]) (hy:aP G.S G.σ w y [vy]) (e:mu C s sl x y (fun p us=>k (.v p) us rs)=some r):
  co E a C.P (Builtin.append_ #[sl,sl] ty #[vx,vy]) w s k r:=by
 unfold mu at e
 split at e
 ·rename_i j l hh
  split at e
  ·rename_i q _ _ _ _ _ hI
   split at e
   ·rename_i Q hQ
    split at e
    ·rename_i T e' f xs hmj
     split at e
     ·rename_i he _
      split at e
      ·rename_i ys hys
       rcases ab e with⟨hb,e1⟩|⟨_,e1⟩
       ·simp only[aB]at hb
        obtain⟨hz1,hT,hf,hr0⟩:=hb
        have hz1:=bi hz1
        have hT:=aG hT
        have hf:f= .no:=by cases f<;>first|rfl|simp[Fl.isNo]at hf
        subst hT hf
        subst he
        obtain⟨_,⟨d,hu,_,hd,_⟩,_⟩:=hC.ti sl _ hI
        simp only at hd;subst hd
        obtain⟨⟨i,z,hi,hs,hby,hz,hsame,hzl⟩,_,hsz,_⟩:=hC.ti T Q hQ
        have hzs:z.cells.size=Q.ty.size:=by rw[hzl,hsz]
        obtain⟨G',gσ,hsim,hrw,hno,p,m,c,news,rfl,rfl,hrows,hp,hnews⟩:=oP h hy hys
        have hnl:news.length=ys.length*Q.ty.size:=an.length (aw.length Q.ty) hrows
        have hone:∀u∈news,u.oneCell'=true:=an.one (aw.one Q.ty) hrows
        have hpos:0<Q.ty.size:=by rw[hsz];exact hz1
        obtain⟨hβj,hmj'⟩:=hrw j ⟨_,_,_,hmj⟩
        rw[hmj]at hmj'
        obtain⟨L,hL,hB,hz'⟩:=hsim.mem j _ hmj'
        obtain⟨L',p1,n1,c1,hL',hv1,⟨b0,b1,b2⟩,hvx⟩:=hx
        rw[gσ]at hL
        rw[hL]at hL';simp only[aa]at hL';subst hL'
        simp only[ay,and_true]at hvx
        subst hvx
        obtain⟨hpos',v0,us,B2,e1',hβ2,hown,hrx⟩:=hB
        simp only[ay,and_true]at e1'
        subst e1'
        obtain⟨hrx',hB1⟩:=cC.1 hrx
        subst hB1
        rw[List.append_nil]at hβ2
        have hsl0:∃p n c,L.v= .slice p n c:=⟨_,_,_,hv1⟩
        have hown:=gA (by simp) hown
        have hn1:n1=xs.length:=ji hown hv1
        obtain⟨q1,q2⟩:=yq hr0
        simp only[bQ,List.length_append,List.length_drop,List.length_take]at q1 q2
        have hlen:min hh.toNat xs.length-l.toNat+ys.length=(hh.toNat-l.toNat)+ys.length:=by rw[Nat.min_eq_left (by omega)]
        rw[hlen]at q1 q2
        rw[hz']
        obtain⟨rv,w',r1,r2,r3,p',cap',rfl,r4,r5⟩:=nv (P:=C.P) w (ty:=ty) hu hi hz (by rw[hs,hsz]) hby hzs hpos hown hv1 (l:=l.toNat) (h:=hh.toNat) (by omega) (by omega) hnl hp hnews hone (by simp only[maxLen];omega) q1
        have hjβ:∀q,L.v.ownBlock=some q→q∈G'.β j:=fun q hq=>by
         rw[←bV _ hsl0]at hq
         rw[hβ2,hq];simp
        have hmine:∀q,L.v.ownBlock=some q→E.W.heap.size≤q∨E.O q:=fun q hq=>by
         rcases hsim.mine j q (hjβ q hq)with x|x|⟨_,cs0,L0,o0,g1,_⟩
         ·exact .inl x
         ·exact .inr x
         ·rw[hmj']at g1;simp at g1
        have hold:di G'.S w w':=fun q hq=>r2.block q (hsim.old q hq) fun e=>(hsim.off j q (hjβ q e.symm)).1 hq
        have hkept:cM w w' (fun b _=>L.v.ownBlock=some b):=(cM.refl w _).change r2.os r2.tape r2.output r2.size fun q hq=>by
         by_cases hk:L.v.ownBlock=some q
         ·exact .inr ⟨fun _=>hk,r3 q hk⟩
         ·exact .inl (r2.block q hq (Ne.symm hk))
        have hdead:=hsim.dead (ids:=[j]) (S'':=fun b=>G'.S b∨∃o,p'=some ⟨b,o,none⟩∧(w.heap.size≤b∨L.v.ownBlock=some b)∧b<w'.heap.size) (fun i hi=>by rw[List.mem_singleton]at hi;subst hi;exact⟨_,hmj'⟩) hkept
         (fun b o hb=>⟨j,by simp,hjβ b hb,(hmine b hb).imp (fun x=>x) fun x=>(hsim.all b x).2 o⟩)
         (fun b=> .inl) (fun b hb=>hb.imp (fun x=>x) fun⟨o,_,h6,h7⟩=>h6.elim (fun x=> .inl ⟨x,h7⟩) fun x=> .inr ⟨j,by simp,hjβ b x,hmine b x⟩)
        refine⟨.v (.list Q.ty _),_,_,rs,_,w',r1, ?_,by rw[bb];exact hdead,e1⟩
        refine aC.v ⟨p',cap', ?_, ?_, ?_⟩
        ·simp only[bQ,List.length_append,List.length_drop,List.length_take,hlen]
        ·simp only[bQ,List.length_append,List.length_drop,List.length_take,hlen];exact r4
        ·rcases r5 with⟨h8,h9⟩|⟨b,o,rfl,h6,h7,h8⟩
         ·refine .inl ⟨List.eq_nil_of_length_eq_zero ?_,h9⟩
          simp only[bQ,List.length_append,List.length_drop,List.length_take,hlen];exact h8
         ·refine .inr ⟨b,o,_,rfl,.inr ⟨o,rfl,h6,h7⟩,h8, ?_⟩
          refine an.append (an.drop (aw.length Q.ty) (an.take (aw.length Q.ty) ?_ hh.toNat) l.toNat) ?_
          ·exact an.imp (aw.keep (fun b x=>Or.inl x) hold Q.ty) _ _ hrx'
          ·exact an.imp (aw.keep (fun b x=>Or.inl x) hold Q.ty) _ _ hrows
       ·simp at e1
      ·simp at e
     ·simp at e
    ·simp at e
   ·simp at e
  ·simp at e
 ·simp at e
end Go.Ps
