import Derived.Test.YtnjljkceeijaaaaGreatSxPa
namespace Go.Proofs.YtnjljkceeijaaaaGreat.S
open Go.Ps
set_option linter.unusedVariables false
set_option maxRecDepth 100000
theorem Ct (s z:Qv) (hw:nP TSys s) (hz:nP TSys z) (hb:Dx TSys s):∃v,RK s z=some v∧Sf s z=some v:=by
 obtain⟨rI,rS,f1,f2,f3,f4⟩:=mh s (iE hw.2.2)
 obtain⟨qI,qS,g1,g2,g3,g4⟩:=mh z (iE hz.2.2)
 rw[J7,Nf,Jo,Jo,Hk,Hk,f1,f2,g1,g2]
 simp only[Option.bind_some]
 rw[←f3,←g3]
 cases hr:rI.2 with
 |false=>exact⟨_,rfl,rfl⟩
 |true=>
  cases hq:qI.2 with
  |false=>exact⟨_,rfl,rfl⟩
  |true=>
   simp only[cond_true]
   obtain⟨⟨u1,u2,u3⟩,_⟩:=f4 hr
   obtain⟨⟨w1,w2,w3⟩,_⟩:=g4 hq
   have im1:mB s.1=true:=by
    cases e:mB s.1 with
    |true=>rfl
    |false=>
     rw[Au,wS,(cF s.1).1,e]at f1
     simp only[Option.bind_some,aA,Bool.not_false,cond_true]at f1
     cases f1;cases hr
   have im2:mB z.1=true:=by
    cases e:mB z.1 with
    |true=>rfl
    |false=>
     rw[Au,wS,(cF z.1).1,e]at g1
     simp only[Option.bind_some,aA,Bool.not_false,cond_true]at g1
     cases g1;cases hq
   obtain⟨v,a1,a2,ta,tb,a3,a4,a5⟩:=y6 s.1 z.1 im1 im2
   obtain⟨m1,m2⟩:=JP s.2.1 z.2.1 u2
   rw[a1,m1,Nd,a3,a4]
   simp only[Option.bind_some]
   rw[aF,m2]
   simp only[Option.bind_some]
   cases v with
   |false=>
    have hne:¬ta=tb:=fun h=>by have:=a2.2 (a5.1 h);cases this
    rw[decide_eq_false hne]
    exact⟨_,rfl,rfl⟩
   |true=>
    have heq:=a2.1 rfl
    rw[decide_eq_true (a5.2 heq)]
    simp only[cond_true,Bool.not_true,cond_false]
    cases As s.2.1 z.2.1 with
    |false=>exact⟨_,rfl,rfl⟩
    |true=>
     simp only[cond_true,Bool.not_true,cond_false]
     rw[J6,J5]
     by_cases hl:s.2.2.length=z.2.2.length
     ·rw[decide_eq_true (show(s.2.2.length:Int)=(z.2.2.length:Int) by omega)]
      simp only[Bool.not_true,cond_false]
      have hbd:∀i:Nat,i<s.2.2.length→(rd (τ:=aZ) s.2.2 (i:Int)).2.1.1.length≤1048576∧(rd (τ:=aZ) s.2.2 (i:Int)).2.1.2.1.length≤1048576∧(rd (τ:=aZ) s.2.2 (i:Int)).2.1.2.2.1.length≤1048576∧(rd (τ:=aZ) s.2.2 (i:Int)).2.1.2.2.2.length≤1048576∧(rd (τ:=aZ) s.2.2 (i:Int)).2.2.length≤1048576:=fun i hi=>by
       have:=hb.2.2.2 _ (an (τ:=aZ) s.2.2 i hi)
       exact⟨this.2.1.1.1,this.2.1.2.1.1,this.2.1.2.2.1.1,this.2.1.2.2.2.1,this.2.2.1⟩
      by_cases hall:∀j:Nat,j<s.2.2.length→(rd (τ:=aZ) s.2.2 (j:Int)).1=(rd (τ:=aZ) z.2.2 (j:Int)).1
      ·obtain⟨_,y1,e1⟩:=gM im1 (y:=rI.1) (by rw[f1,←hr])
       obtain⟨_,y2,e2⟩:=gM im2 (y:=qI.1) (by rw[g1,←hq])
       rw[←heq]at e2
       have hL:=uk ((cF s.1).2.2 im1)
       have hdet:=wP s.2.2 z.2.2 u1 hl.symm (iE hw.2.2) (iE hz.2.2) s.2.2.length (Nat.le_refl _) hall s.2.2.length 0 _ _ _ _ _ (by omega) hL (fun j hj=>by omega) y1 y2 e1 e2
       refine⟨true, ?_, ?_⟩
       ·rw[ck (L:=Cu.a z.2.2 s.2.2 (s.2.2.length:Int)) (fun _=>true) s.2.2.length ?_ fun i hi=> ?_]
        ·simp only[Option.bind_some]
         rw[(dc _ _ 0).2 fun _ _ _=>rfl]
        ·rw[Cu.a_eq,ab,decide_eq_false (Nat.lt_irrefl _),cond_false]
        ·obtain⟨v,p1,p2,_⟩:=jd (rd (τ:=aZ) s.2.2 (i:Int)) (rd (τ:=aZ) z.2.2 (i:Int)) (u3 i hi) (w3 i (by omega)) (hbd i hi) fun _=>hdet i (Nat.zero_le _) hi
         rw[Cu.a_eq,ab,ae,ae,decide_eq_true hi,decide_eq_true (show i<z.2.2.length by omega),ah i _ hi (by omega),p1,p2.2 (hall i hi)]
         rfl
       ·rw[ck (L:=Dl.a s z) (fun _=>true) s.2.2.length ?_ fun i hi=> ?_]
        ·rw[(dc _ _ 0).2 fun _ _ _=>rfl];rfl
        ·rw[Dl.a_eq,ab,decide_eq_false (Nat.lt_irrefl _),cond_false]
        ·obtain⟨v,p1,p2,tp,tq,p3,p4,p5⟩:=jd (rd (τ:=aZ) s.2.2 (i:Int)) (rd (τ:=aZ) z.2.2 (i:Int)) (u3 i hi) (w3 i (by omega)) (hbd i hi) fun _=>hdet i (Nat.zero_le _) hi
         rw[Dl.a_eq,ab,ae,ae,decide_eq_true hi,decide_eq_true (show i<z.2.2.length by omega),ah i _ hi (by omega),p3,p4]
         simp only[Option.bind_some,cond_true]
         rw[p5,p2.2 (hall i hi)];rfl
      ·have hex:∃d:Nat,d<s.2.2.length∧¬(rd (τ:=aZ) s.2.2 (d:Int)).1=(rd (τ:=aZ) z.2.2 (d:Int)).1∧∀j:Nat,j<d→(rd (τ:=aZ) s.2.2 (j:Int)).1=(rd (τ:=aZ) z.2.2 (j:Int)).1:=by
        have key:∀n:Nat,n≤s.2.2.length→(∀j:Nat,j<n→(rd (τ:=aZ) s.2.2 (j:Int)).1=(rd (τ:=aZ) z.2.2 (j:Int)).1)∨∃d:Nat,d<n∧¬(rd (τ:=aZ) s.2.2 (d:Int)).1=(rd (τ:=aZ) z.2.2 (d:Int)).1∧∀j:Nat,j<d→(rd (τ:=aZ) s.2.2 (j:Int)).1=(rd (τ:=aZ) z.2.2 (j:Int)).1:=by
         intro n
         induction n with
         |zero=>intro _;exact .inl fun j hj=>by omega
         |succ n ih=>
          intro hn
          rcases ih (by omega)with h|⟨d,d1,d2,d3⟩
          ·by_cases he:(rd (τ:=aZ) s.2.2 (n:Int)).1=(rd (τ:=aZ) z.2.2 (n:Int)).1
           ·exact .inl fun j hj=>by
             by_cases e:j=n
             ·rw[e];exact he
             ·exact h j (by omega)
           ·exact .inr ⟨n,by omega,he,h⟩
          ·exact .inr ⟨d,by omega,d2,d3⟩
        rcases key s.2.2.length (Nat.le_refl _)with h|⟨d,d1,d2,d3⟩
        ·exact absurd h hall
        ·exact⟨d,d1,d2,d3⟩
       obtain⟨d,d1,d2,d3⟩:=hex
       have hdet:∀i:Nat,i<d→(rd (τ:=aZ) s.2.2 (i:Int))=(rd (τ:=aZ) z.2.2 (i:Int)):=by
        obtain⟨_,y1,e1⟩:=gM im1 (y:=rI.1) (by rw[f1,←hr])
        obtain⟨_,y2,e2⟩:=gM im2 (y:=qI.1) (by rw[g1,←hq])
        rw[←heq]at e2
        exact fun i hi=>wP s.2.2 z.2.2 u1 hl.symm (iE hw.2.2) (iE hz.2.2) d (by omega) d3 d 0 _ _ _ _ _ (by omega) (uk ((cF s.1).2.2 im1)) (fun j hj=>by omega) y1 y2 e1 e2 i (Nat.zero_le _) hi
       refine⟨false, ?_, ?_⟩
       ·have:∀(k i:Nat),i+k=d→Cu.a z.2.2 s.2.2 (s.2.2.length:Int) (i:Int)=some false:=by
         intro k
         induction k with
         |zero=>
          intro i h
          have:i=d:=by omega
          subst this
          obtain⟨v,e1,e2⟩:=wN (rd (τ:=aZ) s.2.2 (i:Int)).1 (rd (τ:=aZ) z.2.2 (i:Int)).1 (dH (u3 i d1)).toObjSz
          have hv:v=false:=by cases v with|false=>rfl|true=>exact absurd (e2.1 rfl) d2
          rw[Cu.a_eq,ab,ae,ae,decide_eq_true d1,decide_eq_true (show i<z.2.2.length by omega),Gp,e1,hv];rfl
         |succ k ih=>
          intro i h
          have hi:i<s.2.2.length:=by omega
          obtain⟨v,p1,p2,_⟩:=jd (rd (τ:=aZ) s.2.2 (i:Int)) (rd (τ:=aZ) z.2.2 (i:Int)) (u3 i hi) (w3 i (by omega)) (hbd i hi) fun _=>hdet i (by omega)
          rw[Cu.a_eq,ab,ae,ae,decide_eq_true hi,decide_eq_true (show i<z.2.2.length by omega),ah i _ hi (by omega),p1,p2.2 (d3 i (by omega))]
          exact ih (i+1) (by omega)
        rw[show(0:Int)=((0:Nat):Int) from rfl,this d 0 (by omega)];rfl
       ·have:∀(k i:Nat),i+k=d→Dl.a s z (i:Int)=some false:=by
         intro k
         induction k with
         |zero=>
          intro i h
          have:i=d:=by omega
          subst this
          obtain⟨x,tx⟩:=mm (gL (u3 i d1))
          obtain⟨y,ty⟩:=mm (gL (w3 i (by omega)))
          rw[Dl.a_eq,ab,ae,ae,decide_eq_true d1,decide_eq_true (show i<z.2.2.length by omega),tx,ty]
          simp only[Option.bind_some,cond_true]
          rw[aF,decide_eq_false (show¬Hw (ml (rd (τ:=aZ) s.2.2 (i:Int)).1) x=Hw (ml (rd (τ:=aZ) z.2.2 (i:Int)).1) y from fun h=>d2 (wI (gL (u3 i d1)) (gL (w3 i (by omega))) _ _ h))];rfl
         |succ k ih=>
          intro i h
          have hi:i<s.2.2.length:=by omega
          obtain⟨v,p1,p2,tp,tq,p3,p4,p5⟩:=jd (rd (τ:=aZ) s.2.2 (i:Int)) (rd (τ:=aZ) z.2.2 (i:Int)) (u3 i hi) (w3 i (by omega)) (hbd i hi) fun _=>hdet i (by omega)
          rw[Dl.a_eq,ab,ae,ae,decide_eq_true hi,decide_eq_true (show i<z.2.2.length by omega),ah i _ hi (by omega),p3,p4]
          simp only[Option.bind_some,cond_true]
          rw[p5,p2.2 (d3 i (by omega))]
          exact ih (i+1) (by omega)
        rw[show(0:Int)=((0:Nat):Int) from rfl,this d 0 (by omega)];rfl
     ·rw[decide_eq_false (show¬(s.2.2.length:Int)=(z.2.2.length:Int) by omega)]
      exact⟨_,rfl,rfl⟩
theorem qx (s z:Qv) (hw:nP TSys s) (hz:nP TSys z):SG s z=some true:=by
 rw[KE]
 obtain⟨r,e1,e2,e3⟩:=sT s hw 1048576 ⟨by decide,by decide⟩
 rw[e1]
 simp only[Option.bind_some]
 by_cases h:r<0
 ·rw[decide_eq_true h];rfl
 ·have hb:=e3 (by omega)
  obtain⟨r',e1',e2',e3'⟩:=sT z hz r ⟨by omega,by omega⟩
  rw[decide_eq_false h,e1']
  simp only[Option.bind_some,cond_false]
  by_cases h':r'<0
  ·rw[decide_eq_true h'];rfl
  ·have hb':=e3' (by omega)
   obtain⟨v,v1,v2⟩:=Ct s z hw hz hb
   rw[decide_eq_false h',sU s hw hb,sU z hz hb']
   simp only[Option.bind_some,cond_false]
   rw[v1,v2]
   simp only[Option.bind_some,beq_self_eq_true,Bool.not_true,cond_false,sV s hw hb,sV z hz hb']
end Go.Proofs.YtnjljkceeijaaaaGreat.S
