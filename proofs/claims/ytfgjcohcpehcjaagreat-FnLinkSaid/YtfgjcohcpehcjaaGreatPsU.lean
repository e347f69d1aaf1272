import Derived.Test.YtfgjcohcpehcjaaGreatPsT
namespace Go.Ps
set_option linter.unusedVariables false
variable {S S':Nat→Prop} {σ σ':Sg} {w w':World} {E:En} {G:Gh} {s s':St} {a:Act} {C:b9} {R:Type} {r:R}
theorem qa (hC:C.OK) (h:aK E G s a w) {g:ResultVar→Sem Value} (g1:∀t,g (.tmp t)=pure (a.tmps.getD t undef)) (g2:∀q t,g (.cell q t)=do loadVar t (←asAddr (a.tmps.getD q undef))):∀{rs:List ResultVar} {ts:List (Ty×Bool)} {cs:List PV},dk C s rs ts=some cs→
  ∃us xs,(rs.mapM (m:=Sem) g).run C.P w= .ok xs w∧oE (ts.map fun x=>(x.1.size,x.2)) us xs∧aj G.S G.σ w cs us:=by
 intro rs
 induction rs with
 |nil=>
  intro ts cs e
  cases ts with
  |nil=>simp only[dk,aa]at e;subst e;exact⟨[],[],rfl,⟨rfl,rfl⟩,rfl⟩
  |cons=>simp[dk]at e
 |cons q rs ih=>
  intro ts cs e
  cases ts with
  |nil=>cases q<;>simp[dk]at e
  |cons ta ts=>
   obtain⟨τ,agg⟩:=ta
   cases q with
   |tmp t=>
    simp only[dk]at e
    have ht:=h.tmp t
    split at e
    ·simp at e
    ·rename_i p r' hne hp hr'
     rcases ab e with⟨_,e⟩|⟨hagg,e⟩
     ·simp at e
     ·rcases ab e with⟨hsz,e⟩|⟨_,e⟩
      ·simp only[aa]at e
       subst e
       obtain⟨us,xs,h1,h2,h3⟩:=ih hr'
       rw[hp]at ht
       have hx:=aC.of_v ht (fun e=>hne (by rw[e]))
       refine⟨[a.tmps.getD t undef]++us,a.tmps.getD t undef::xs, ?_, ?_,⟨_,_,rfl,hx,h3⟩⟩
       ·rw[List.mapM_cons,g1];simp only[Sem.run_bind,Sem.run_pure,Result.andThen_ok,h1]
       ·exact⟨_,us,_,xs,rfl,rfl,(aG hsz).symm,fun hh=>by rw[hagg]at hh;simp at hh,fun _=>rfl,h2⟩
      ·simp at e
    ·rename_i c r' hp hr'
     rcases ab e with⟨hagg,e⟩|⟨_,e⟩
     ·simp only[aa]at e
      subst e
      simp only[aB]at hagg
      obtain⟨us,xs,h1,h2,h3⟩:=ih hr'
      rw[hp]at ht
      obtain⟨vs,hv,hc⟩:=ht
      have hl:=aj.length hc
      have hw:=aG hagg.2
      refine⟨vs++us,a.tmps.getD t undef::xs, ?_, ?_,an.append hc h3⟩
      ·rw[List.mapM_cons,g1];simp only[Sem.run_bind,Sem.run_pure,Result.andThen_ok,h1]
      ·exact⟨vs,us,_,xs,rfl,rfl,by rw[hl,hw],fun _=>hv,fun hh=>by rw[hagg.1]at hh;simp at hh,h2⟩
     ·simp at e
    ·simp at e
   |cell q t=>
    simp only[dk]at e
    split at e
    ·rename_i I p r' hI hp hr'
     split at e
     ·rename_i c hl
      rcases ab e with⟨hsz,e⟩|⟨_,e⟩
      ·have hsz:=aG hsz
       have hlook:p≠ .undef:=fun e=>by rw[e]at hl;simp[St.look]at hl
       have ht:=h.tmp q
       rw[hp]at ht
       obtain⟨b,o,vs,hv,hrg,hc,hlen,_⟩:=kJ h (aC.of_v ht hlook) hl
       have hrun:=tl hC hI hrg hc hlen
       obtain⟨us,xs,h1,h2,h3⟩:=ih hr'
       have hload:∀x,(Instr.loadAt t (.pointer (some ⟨b,o,none⟩))).run C.P w= .ok x w→((do loadVar t (←asAddr (a.tmps.getD q undef))):Sem Value).run C.P w= .ok x w:=by
        intro x hx
        rw[hv]
        simpa[Instr.loadAt,Instr.sureAddr,asAddr]using hx
       rcases ab e with⟨hagg,e⟩|⟨hagg,e⟩
       ·rcases ab e with⟨hI2,e⟩|⟨_,e⟩
        ·simp only[aa]at e
         subst e
         refine⟨vs++us,.agg vs.toArray::xs, ?_, ?_,an.append hc h3⟩
         ·rw[List.mapM_cons,g2,Sem.run_bind];simp only[hload _ (hrun.1 hI2),Sem.run_bind,Sem.run_pure,Result.andThen_ok,h1]
         ·exact⟨vs,us,_,xs,rfl,rfl,by rw[hlen,hsz],fun _=>rfl,fun hh=>by rw[hagg]at hh;simp at hh,h2⟩
        ·simp at e
       ·rcases ab e with⟨_,e⟩|⟨hI2,e⟩
        ·simp at e
        ·simp only[aa]at e
         subst e
         simp only[Bool.or_eq_false_iff,Bool.not_eq_false']at hI2
         unfold GD at hI2
         split at hI2
         ·rename_i c1 _ _
          obtain⟨v,rfl,hv2⟩:=hrun.2 hI2.1 c1 rfl (aG hI2.2)
          refine⟨[v]++us,v::xs, ?_, ?_,an.append hc h3⟩
          ·rw[List.mapM_cons,g2,Sem.run_bind];simp only[hload _ hv2,Sem.run_bind,Sem.run_pure,Result.andThen_ok,h1]
          ·exact⟨[v],us,_,xs,rfl,rfl,by rw[hlen,hsz],fun hh=>by rw[hagg]at hh;simp at hh,fun _=>rfl,h2⟩
         ·simp at hI2
      ·simp at e
     ·simp at e
    ·simp at e
theorem oM {β:Nat→List Nat} (hap:∀i j,i≠j→∀k∈β i,k∉β j) (hnd:∀i,(β i).Nodup):∀{U:List Nat},U.Nodup→(U.flatMap β).Nodup
 | [],_=>by simp
 |i::U,h=>by
  simp only[List.nodup_cons]at h
  simp only[List.flatMap_cons]
  refine List.nodup_append.2 ⟨hnd i,oM hap hnd h.2,fun k hk q hq e=> ?_⟩
  subst e
  obtain⟨j,hj,hkj⟩:=List.mem_flatMap.1 hq
  exact hap i j (fun e=>h.1 (e▸hj)) k hk hkj
theorem yB (hC:C.OK) {f:Nat} {F:Func} {sg:ki} {K:List Bq} {B:List Nat} {q:C.Res f} (hW:E.W=w) (hS:E.S=S) (hM:E.M=DN K B) (hO:∀k,E.O k→k∈B) (h:aK E G s a w')
  {x y:List PV} (hA:dk C s F.results.toList sg.res=some x) {ms:List Value} (hB:mY w' K ms) (hy:aj G.S G.σ w' y ms) {U V:List Nat} (hp:bN s (C.resTy f) sg.resFl (x++y)=some (q,[],U,V)) (hU:U.Nodup) (hUV:∀i∈U,i∉V):
  ∃v,(results F a.tmps).run C.P w'= .ok v w'∧∃v' xs us ms S' B',Ending.returned v= .returned v'∧v'=kn xs∧oE sg.shape us xs∧mY w' K ms∧cM w w' (DN K B)∧
   (∀b,S b→S' b)∧(∀b,S' b→S b∨(w.heap.size≤b∧b<w'.heap.size)∨b∈B)∧Cv S' w' (fun k=>w.heap.size≤k∨k∈B) B'∧aU S' w' (C.resTy f) sg.resFl q (us++ms) B':=by
 obtain⟨us,xs,h1,h2,h3⟩:=qa hC h (g:=fun x=>match x with| .tmp t=>pure (a.tmps.getD t undef)| .cell q t=>do loadVar t (←asAddr (a.tmps.getD q undef))) (fun _=>rfl) (fun _ _=>rfl) hA
 have hcells:aj G.S G.σ w' (x++y) (us++ms):=an.append h3 hy
 have hV:=jY h _ _ _ _ _ _ _ _ hp hcells
 have hUm:=iM _ _ _ _ _ _ _ hp
 obtain⟨u,v,huv,hF,hnil⟩:=dh h (S1:=fun b=>G.S b∨∃i∈V,b∈G.β i) (fun _=> .inl) _ _ _ _ _ _ _ _ hp hcells (fun i hi k hk=> .inr ⟨i,hi,hk⟩)
 have hv:v=[]:=hnil
 subst hv
 rw[List.append_nil]at huv
 rw[←huv]at hF
 have mine:∀i k,k∈G.β i→(i%128≠127∨∀cs,s.mem i≠some (.box cs))→w.heap.size≤k∨k∈B:=fun i k hk hi=>by
  rcases h.mine i k hk with h'|h'|⟨g1,cs,L,o,g2,_⟩
  ·exact .inl (hW▸h')
  ·exact .inr (hO k h')
  ·rcases hi with hi|hi
   ·exact absurd g1 hi
   ·exact absurd g2 (hi cs)
 refine⟨kn xs, ?_,kn xs,xs,us,ms,_,U.flatMap G.β,rfl,rfl,h2,hB,by have:=h.kept;rw[hW,hM]at this;exact this,fun b hb=> .inl (h.sub b (hS▸hb)),fun b hb=> ?_,⟨oM h.apart h.nodup hU,fun k hk=> ?_⟩,hF⟩
 ·have h1':(F.results.mapM (m:=Sem) fun x=>match x with| .tmp t=>pure (a.tmps.getD t undef)| .cell q t=>do loadVar t (←asAddr (a.tmps.getD q undef))).run C.P w'= .ok xs.toArray w':=by
   rw[show F.results=F.results.toList.toArray by simp,List.mapM_toArray,map_eq_pure_bind,Sem.run_bind,h1]
   rfl
  show(Sem.bind _ _:Sem Value).run C.P w'=_
  erw [Sem.run_bind,h1']
  simp only[Result.andThen_ok]
  match xs with
  | []=>rfl
  | [x]=>rfl
  |x::y::xs=>simp[kn]
 ·rcases hb with hb|⟨i,hi,hb⟩
  ·rcases h.new b hb with h'|h'|h'
   ·exact .inl (hS▸h')
   ·exact .inr (.inl ⟨hW▸h',h.old b hb⟩)
   ·exact .inr (.inr (hO b h'))
  ·rcases mine i b hb (.inl (hV i hi))with h'|h'
   ·exact .inr (.inl ⟨h',(h.off i b hb).2⟩)
   ·exact .inr (.inr h')
 ·obtain⟨i,hi,hk⟩:=List.mem_flatMap.1 hk
  refine⟨fun hS1=> ?_, ?_,(h.off i k hk).2⟩
  ·rcases hS1 with h'|⟨j,hj,hkj⟩
   ·exact(h.off i k hk).1 h'
   ·exact h.apart i j (fun e=>hUV i hi (e▸hj)) k hk hkj
  ·obtain⟨b,hb,hbx⟩:=hUm i hi
   refine mine i k hk ?_
   by_cases h7:i%128=127
   ·refine .inr fun cs hcs=> ?_
    rw[hb]at hcs
    simp only[aa]at hcs
    exact hbx cs hcs h7
   ·exact .inl h7
theorem vN (hC:C.OK) {I:vE} {env:C.Env} (hE:ii I C env) {n:Nat} {f:Nat} {args:List SV} {q:C.Res f} (e:AM C env (fun f=>mz C f env n) f args=some q):kO I C f args q:=by
 unfold AM at e
 split at e
 ·rename_i F sg hF hsg
  split at e
  ·rename_i c ts ms hc hen
   intro sg' hsg' S w vals K B hS hA hOB hOK hI
   rw[hsg]at hsg'
   simp only[aa]at hsg'
   subst hsg'
   have hlen:=hA.len
   have hslots:=hC.slots f sg F hsg hF
   refine calls_of_wp (hC.fn f F hF) hc ?_
   obtain⟨par,hpp,hEnt,hBack⟩:=tS hA 0
   let E:En:=⟨w,S,DN K B,(· ∈B),par,I⟩
   let a:Act:={tmps:=vals.toArray++Array.replicate (F.ntmps-vals.toArray.size) undef,defers:=[]}
   have ha:∀i,a.tmps.getD i undef=vals.getD i undef:=by
    intro i
    simp only[a,Array.getD_eq_getD_getElem?,List.getD_eq_getElem?_getD,Array.getElem?_append,Array.getElem?_replicate,List.getElem?_toArray,List.size_toArray]
    split
    ·rfl
    ·rw[List.getElem?_eq_none (by omega)];split<;>rfl
   have h0:aK E ⟨S,fun _=>none,fun _=>[]⟩ ⟨F.ntmps,am [],ao []⟩ a w:={
    defers:=rfl
    size:=by simp only[a,Array.size_append,List.size_toArray,Array.size_replicate];omega
    tmp:=fun t=>trivial
    mem:=fun i b h=>by simp[ao]at h
    dom:=fun i _=>⟨rfl,rfl⟩
    apart:=fun i j _ k hk=>by cases hk
    nodup:=fun i=>by simp
    off:=fun i k hk=>by cases hk
    old:=hS
    inv:=hI
    kept:=cM.refl _ _
    sub:=fun _ x=>x
    new:=fun _=> .inl
    mine:=fun i k hk=>by cases hk
    sep:=fun b o hM=>by
     rcases hM with hM|⟨o0,n0,hK,_⟩
     ·exact .inl hM
     ·have:=hOK.2 b (List.mem_flatMap.2 ⟨_,hK,by simp[Bq.blk]⟩)
      exact .inr ⟨this.1,this.2.2⟩
    all:=fun b hb=>⟨(hOB.2 b hb).2.2,fun o=> .inl hb⟩
    par:=fun i L _ h=>by simp at h
    parp:=hpp}
   obtain⟨G1,hG1,h1⟩:=hEnt (E:=E) (fun _ _=>rfl) (fun b o m hb j hj=> .inr ⟨o,m,hb,by omega,by omega⟩) (fun k hk=>hk) (fun j v hj=>by rw[ha,Nat.zero_add];simp[List.getD_eq_getElem?_getD,hj]) hOB.1 (fun k hk=>⟨(hOB.2 k hk).1,(hOB.2 k hk).2.2,fun q hq=>by cases hq⟩) hOK.1 (fun k hk=>⟨(hOK.2 k hk).1,(hOK.2 k hk).2.2,(hOK.2 k hk).2.1,fun q hq=>by cases hq⟩) rfl h0 (fun p hp=>by cases hp) hen
   refine qD hC hE (yr hC hE n) c _ _ G1 a w _ h1 e fun ex s1 G1' a' w' h1' e'=> ?_
   obtain⟨G',h'⟩:=h1'.closeS (wh s1 F.results.toList sg.params)
   generalize hs':closeS (wh s1 F.results.toList sg.params) s1=s' at h'
   have fin:∀{x y U V},dk C s' F.results.toList sg.res=some x→cy s' sg.params 0=some y→bN s' (C.resTy f) sg.resFl (x++y)=some (q,[],U,V)→dj U=true→g8 U V=true→a'.defers=[]∧∃v,(results F a'.tmps).run C.P w'= .ok v w'∧_:=fun hA2 hB hp hU hV=>by
    obtain⟨ms,g1,g2⟩:=hBack hen (fun _ _=>rfl) h' hB
    exact⟨h'.defers,yB hC (E:=E) rfl rfl rfl (fun k hk=>hk) h' hA2 g1 g2 hp (dw hU) (fO hV)⟩
   cases ex<;>simp only[DU,GE,hs']at e'<;>try (simp at e';done)
   all_goals
    split at e'
    ·rename_i x y hx hy
     split at e'
     ·rename_i z U V hp
      rcases ab e' with⟨hb,e'⟩|⟨_,e'⟩
      ·simp only[aa]at e'
       subst e'
       simp only[aB]at hb
       exact fin hx hy hp hb.1 hb.2
      ·simp at e'
     ·simp at e'
    ·simp at e'
  ·simp at e
 ·simp at e
def AC (C:b9):Prop:=∀f p,C.prim f=some p→∀args (r:C.Res f),(p args).bind (be (C.resTy f))=some r→oC C f args r
def xx (I:vE) (C:b9):Prop:=∀f p,C.prim f=some p→∀args (r:C.Res f),(p args).bind (be (C.resTy f))=some r→kO I C f args r
theorem oN (hC:C.OK) {I:vE} (hp:xx I C):∀n,ii I C (mA C n)
 |0=>fun f args r h=>by simp[mA]at h
 |n+1=>fun f args r h=>by
  simp only[mA,yR]at h
  split at h
  ·rename_i p e
   exact hp f p e args r h
  ·exact vN hC (oN hC hp n) (n:=n) h
theorem tH {α:Type} {F:Nat→Option α} {r:α} (h:lim F=some r):∃n,F n=some r:=by
 unfold lim at h
 split at h
 ·rename_i hx
  simp only[aa]at h
  subst h
  exact Classical.choose_spec hx
 ·simp at h
theorem vO (hC:C.OK) {I:vE} (hp:xx I C) {f:Nat} {args:List SV} {r:C.Res f} (h:bg C f args=some r):kO I C f args r:=
 let⟨n,hn⟩:=tH h
 oN hC hp n f args r hn
theorem yC (hC:C.OK) (hp:AC C) {f:Nat} {args:List SV} {r:C.Res f} (h:bg C f args=some r):oC C f args r:=
 (vO hC (I:=vE.none) (fun f p e args r h=>(hp f p e args r h).all _) h).none
end Go.Ps
