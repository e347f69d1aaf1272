import Derived.Test.YtfgjcohcpehcjaaGreatPsR
namespace Go.Ps
set_option linter.unusedVariables false
variable {w w':World} {E:En} {G:Gh} {s s':St} {a:Act} {C:b9} {R:Type} {r:R}
variable {Q:Exit→Act→World→Prop} {o:Oper} {env:C.Env} {ops:Array Oper}
theorem aK.drawn (h:aK E G s a w):aK E G s a {w with drawn:=w.drawn+1}:=
 h.change rfl rfl (b8.refl _) (fun _ x=>x) (show di G.S w {w with drawn:=w.drawn+1} from fun _ _=>rfl) (h.kept.step rfl rfl rfl (Nat.le_refl _) fun _ _=>rfl)
  (fun i b hb=> .inl ⟨hb,rfl,fun _ _=>rfl⟩) (fun i hi=>⟨hi,rfl,rfl⟩) h.apart h.nodup h.off (fun b hb=> .inl hb) h.mine (fun i L _ hL=> .inl hL) (Nat.le_refl _)
def IG (E:En) (K:d5 R) (r:R) (Q:Exit→Act→World→Prop):Prop:=∀ex s' G' a' w',aK E G' s' a' w'→K ex s'=some r→Q ex a' w'
def Gw (E:En) (C:b9) (f:Nat) (r:R) (lp:Code→d5 R→St→Option R):Prop:=
 ∀b K s G a w Q,aK E G s a w→lp b K s=some r→IG E K r Q→(Code.loop b).wp C.P Q a w
theorem ot (h:aK E G s a w) {f:Nat} {b:Code} (e:my C f b s=some s'):∃G',aK E G' s' a w:=by
 unfold my at e
 split at e
 ·rename_i ls _
  split at e
  ·rename_i q hq
   obtain⟨G1,h1⟩:=h.closeS (xD s ls)
   obtain⟨G2,h2⟩:=h1.canon hq
   exact aK.subs h h2 e
  ·simp at e
 ·simp at e
theorem qD (hC:C.OK) (hE:ii E.I C env) {f:Nat} {lp:Code→d5 R→St→Option R} (hlp:Gw E C f r lp):∀(c:Code) (K:d5 R) (s:St) (G:Gh) (a:Act) (w:World) (Q:Exit→Act→World→Prop),
  aK E G s a w→den C f env lp c K s=some r→IG E K r Q→c.wp C.P Q a w:=by
 intro c
 induction c with
 |skip=>intro K s G a w Q h e hk;exact wp_skip (hk .normal s G a w h e)
 |ret=>intro K s G a w Q h e hk;exact wp_ret (hk .ret s G a w h e)
 |exit id=>intro K s G a w Q h e hk;exact wp_exit (hk (.exit id) s G a w h e)
 |region id ops draw=>
  intro K s G a w Q h e hk
  simp only[den]at e
  rcases ab e with⟨hd,e⟩|⟨hd,e⟩
  ·subst hd
   exact vD hC hE h.drawn e fun s' F G' a' w' h' e'=>hk .normal s' G' a' w' h' e'
  ·subst hd
   exact wp_region_list (qE hC hE h e fun s' F G' a' w' h' e'=>hk .normal s' G' a' w' h' e')
 |seq x y ihx ihy=>
  intro K s G a w Q h e hk
  simp only[den]at e
  refine wp_seq (ihx _ s G a w _ h e fun ex s' G' a' w' h' e'=> ?_)
  cases ex with
  |normal=>exact ihy K s' G' a' w' Q h' e' hk
  |exit id=>exact hk _ s' G' a' w' h' e'
  |goto l=>exact hk _ s' G' a' w' h' e'
  |ret=>exact hk _ s' G' a' w' h' e'
  |panic ch=>exact hk _ s' G' a' w' h' e'
  |outgrown=>exact hk _ s' G' a' w' h' e'
 |cond c x y ihx ihy=>
  intro K s G a w Q h e hk
  simp only[den]at e
  split at e
  ·rename_i b hb
   have hv:=gz (aC.of_v (lH h hb) (by simp))
   rcases ab e with⟨hc,e⟩|⟨hc,e⟩
   ·subst hc;exact wp_cond (t:=true) hv (ihx K s G a w Q h e hk)
   ·subst hc;exact wp_cond (t:=false) hv (ihy K s G a w Q h e hk)
  ·simp at e
 |block id x ih=>
  intro K s G a w Q h e hk
  simp only[den]at e
  refine wp_block (ih _ s G a w _ h e fun ex s' G' a' w' h' e'=> ?_)
  cases ex with
  |exit j=>
   simp only[ss]at e'
   rcases ab e' with⟨hj,e2⟩|⟨hj,e2⟩
   ·have:=aG hj
    subst this
    simp only[Exit.inBlock,if_true]
    exact hk .normal s' G' a' w' h' e2
   ·have hne:j≠id:=Nat.ne_of_beq_eq_false hj
    simp only[Exit.inBlock,ak hne]
    exact hk (.exit j) s' G' a' w' h' e2
  |normal=>exact hk _ s' G' a' w' h' e'
  |goto l=>exact hk _ s' G' a' w' h' e'
  |ret=>exact hk _ s' G' a' w' h' e'
  |panic ch=>exact hk _ s' G' a' w' h' e'
  |outgrown=>exact hk _ s' G' a' w' h' e'
 |loop b ih=>
  intro K s G a w Q h e hk
  simp only[den]at e
  split at e
  ·rename_i s1 hs1
   obtain⟨G1,h1⟩:=ot h hs1
   exact hlp b K s1 G1 a w Q h1 e hk
  ·simp at e
 |_=>intro K s G a w Q h e hk;simp[den]at e
theorem yr (hC:C.OK) (hE:ii E.I C env) {f:Nat}:∀n,Gw E C f r (mz (R:=R) C f env n):=by
 intro n
 induction n using Nat.strongRecOn with
 |_ n ih=>
  intro b K s G a w Q h e hk
  refine wp_loop_ghost (fun m a w=>m≤n∧∃s G,aK E G s a w∧mz C f env m b K s=some r) n ⟨Nat.le_refl _,s,G,h,e⟩ ?_
  rintro m a w ⟨hm,s,G,h,e⟩
  cases m with
  |zero=>simp[mz]at e
  |succ m=>
   simp only[mz]at e
   refine qD hC hE (ih m (by omega)) b _ s G a w _ h e fun ex s' G' a' w' h' e'=> ?_
   cases ex with
   |normal=>
    simp only[kA]at e'
    split at e'
    ·rename_i s2 hs2
     obtain⟨G2,h2⟩:=ot h' hs2
     exact⟨m,by omega,by omega,s2,G2,h2,e'⟩
    ·simp at e'
   |exit id=>exact hk _ s' G' a' w' h' e'
   |goto l=>exact hk _ s' G' a' w' h' e'
   |ret=>exact hk _ s' G' a' w' h' e'
   |panic ch=>exact hk _ s' G' a' w' h' e'
   |outgrown=>exact hk _ s' G' a' w' h' e'
end Go.Ps
