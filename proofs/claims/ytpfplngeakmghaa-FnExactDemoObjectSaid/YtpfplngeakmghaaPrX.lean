/- Functions: what a body does. -/
import Derived.Test.YtpfplngeakmghaaPrW
namespace Go.Pr
set_option linter.unusedVariables false
variable {S S' : Nat → Prop} {σ σ' : Sg} {w w' : World} {E : En} {G : Gh} {s s' : St} {a : Act} {C : Cfg} {R : Type} {r : R}
variable {Q : Exit → Act → World → Prop} {o : Oper} {env : C.Env} {ops : Array Oper}

theorem putK_f (o : Oper) (x : SV) (s : St) (k : St → Option R) : putK o k x s = (putK o some x s).bind k := by
  unfold putK
  cases o.dst with
  | none => rfl
  | some d => simp only []; cases Nat.blt d s.n <;> rfl
theorem operK_bind {o : Oper} (s : St) (k : St → Option R) : operK C env ops o s k = (operK C env ops o s some).bind k := by
  rw [operK_g, operK_g (k := some), Option.bind_assoc]
  refine congrArg _ (funext fun b => ?_)
  cases b
  · exact putK_f _ _ _ _
  · simp only [cond_true]
    rw [doK_f, doK_f (k := putK o some), Option.bind_assoc]
    exact congrArg _ (funext fun p => putK_f _ _ _ _)

def stAny (C : Cfg) (env : C.Env) (ops : Array Oper) (Fin : St → Prop) : Nat → Array Bool → St → Prop
  | 0, listed, s => Region.ready .any ops listed = [] ∧ Fin s
  | fuel + 1, listed, s => (Region.ready .any ops listed = [] → Fin s) ∧ ∀ i ∈ Region.ready .any ops listed, ∃ o s', ops[i]? = some o ∧ operK C env ops o s some = some s' ∧ stAny C env ops Fin fuel (listed.setIfInBounds i true) s'

theorem stAny_sound (hC : C.OK) (hE : EnvOK C env) {Fin : St → Prop} (hF : ∀ s' G' a' w', Sim E G' s' a' w' → Fin s' → Q .normal a' w') : ∀ (fuel : Nat) (listed : Array Bool) (s : St) (G : Gh) (a : Act) (w : World), Sim E G s a w → stAny C env ops Fin fuel listed s → wpAny C.P .any ops Q fuel listed a w
  | 0, listed, s, G, a, w, h, hs => ⟨hs.1, hF s G a w h hs.2⟩
  | fuel + 1, listed, s, G, a, w, h, hs => by
    refine ⟨fun h0 => hF s G a w h (hs.1 h0), fun i hi => ?_⟩
    obtain ⟨o, s', ho, e, hrest⟩ := hs.2 i hi
    unfold wpOp
    simp only [ho]
    exact oper_sound hC hE h e fun s'' G' a' w' h' e' => by
      simp only [Option.some.injEq] at e'
      subst e'
      exact stAny_sound hC hE hF fuel _ _ G' a' w' h' hrest

/-- What is listed has all that it waited for. -/
def Closed (ops : Array Oper) (listed : Array Bool) : Prop := ∀ m om, ops[m]? = some om → listed.getD m true = true → ∀ e ∈ om.after, Region.binds .any e = true → listed.getD e.on true = true
theorem getD_set_le {listed : Array Bool} {i m : Nat} (h : listed.getD m true = true) : (listed.setIfInBounds i true).getD m true = true := by
  by_cases e : i = m
  · subst e; simp only [Array.getD_eq_getD_getElem?, Array.getElem?_setIfInBounds]; simp only [if_true]; split <;> rfl
  · rw [getD_set_ne true e]; exact h
theorem Closed.set {listed : Array Bool} (h : Closed ops listed) {i : Nat} {oi : Oper} (hi : ops[i]? = some oi) (hall : ∀ e ∈ oi.after, Region.binds .any e = true → listed.getD e.on true = true) : Closed ops (listed.setIfInBounds i true) := by
  intro m om hm hl e he hb
  by_cases hmi : m = i
  · subst hmi
    rw [hi] at hm
    simp only [Option.some.injEq] at hm
    subst hm
    exact getD_set_le (hall e he hb)
  · rw [getD_set_ne true (Ne.symm hmi)] at hl
    exact getD_set_le (h m om hm hl e he hb)
theorem getD_of {listed : Array Bool} {i : Nat} (h : listed.getD i false = true) : listed.getD i true = true := by
  rw [Array.getD_eq_getD_getElem?] at h ⊢
  cases hq : listed[i]? with
  | none => rfl
  | some b => rw [hq] at h; exact h
theorem Closed.after {listed : Array Bool} (h : Closed ops listed) : ∀ (n j i : Nat), (∀ oj, ops[j]? = some oj → ∀ e ∈ oj.after, Region.binds .any e = true → listed.getD e.on true = true) → afterT ops n j i = true → listed.getD i true = true
  | 0, j, i, _, e => by simp [afterT] at e
  | n + 1, j, i, hj, e => by
    simp only [afterT] at e
    split at e
    · rename_i oj hoj
      obtain ⟨ed, hed, hb⟩ := Array.any_eq_true'.1 e
      simp only [Bool.and_eq_true, Bool.or_eq_true, beq_iff_eq] at hb
      have h1 := hj oj hoj ed hed hb.1
      rcases hb.2 with h2 | h2
      · rw [← h2]; exact h1
      · exact h.after n ed.on i (fun om hm e' he' hb' => h ed.on om hm h1 e' he' hb') h2
    · simp at e

theorem stAny_first {Fin : St → Prop} {i : Nat} {oi : Oper} (hi : ops[i]? = some oi) :
    ∀ (fuel : Nat) (listed : Array Bool) (s s1 : St), Closed ops listed →
      (∀ j oj, ops[j]? = some oj → j ≠ i → listed.getD j true = false → (oi.apart ops oj = true ∧ (calmOp C oi = true ∧ calmOp C oj = true) ∧ (silentOp oi.op = true ∨ silentOp oj.op = true)) ∨ afterT ops ops.size j i = true) →
      i ∈ Region.ready .any ops listed → operK C env ops oi s some = some s1 →
      stAny C env ops Fin fuel (listed.setIfInBounds i true) s1 → stAny C env ops Fin (fuel + 1) listed s := by
  intro fuel
  induction fuel with
  | zero =>
    intro listed s s1 _ _ hr hy H
    refine ⟨fun h => (by rw [h] at hr; cases hr), fun j hj => ?_⟩
    by_cases hji : j = i
    · subst hji; exact ⟨oi, s1, hi, hy, H⟩
    · have := ready_mono hj hji
      rw [H.1] at this
      cases this
  | succ fuel ih =>
    intro listed s s1 hcl hfree hr hy H
    refine ⟨fun h => (by rw [h] at hr; cases hr), fun j hj => ?_⟩
    by_cases hji : j = i
    · subst hji; exact ⟨oi, s1, hi, hy, H⟩
    · obtain ⟨oj', s2, hoj', e2, H2⟩ := H.2 j (ready_mono hj hji)
      obtain ⟨hjun, oj, hoj, hall⟩ := mem_ready.1 hj
      rw [hoj] at hoj'
      simp only [Option.some.injEq] at hoj'
      subst hoj'
      have hun := (mem_ready.1 hr).1
      rcases hfree j oj hoj hji hjun with ⟨hap, ⟨hci, hcj⟩, hsil⟩ | haft
      · obtain ⟨s3, e3, e4⟩ := comm hci hcj hsil hap hy e2
        have hfree' : ∀ k ok, ops[k]? = some ok → k ≠ i → (listed.setIfInBounds j true).getD k true = false →
            (oi.apart ops ok = true ∧ (calmOp C oi = true ∧ calmOp C ok = true) ∧ (silentOp oi.op = true ∨ silentOp ok.op = true)) ∨ afterT ops ops.size k i = true := fun k ok hk hki hun => by
          refine hfree k ok hk hki ?_
          by_cases hjk : j = k
          · subst hjk; exact hjun
          · rw [getD_set_ne true hjk] at hun; exact hun
        refine ⟨oj, s3, hoj, e3, ih (listed.setIfInBounds j true) s3 s2 (hcl.set hoj fun e he hb => getD_of (hall e he hb)) hfree' (ready_mono hr (Ne.symm hji)) e4 ?_⟩
        rw [Array.setIfInBounds_comm _ _ hji]
        exact H2
      · have := hcl.after ops.size j i (fun oj' ho e he hb => by rw [hoj] at ho; simp only [Option.some.injEq] at ho; subst ho; exact getD_of (hall e he hb)) haft
        rw [this] at hun
        cases hun

theorem freeC_spec {i : Nat} {oi : Oper} {listed : Array Bool} (hi : ops[i]? = some oi) (h : freeC C ops listed i = true) (j : Nat) (oj : Oper)
    (hj : ops[j]? = some oj) (hne : j ≠ i) (hun : listed.getD j true = false) :
    (oi.apart ops oj = true ∧ (calmOp C oi = true ∧ calmOp C oj = true) ∧ (silentOp oi.op = true ∨ silentOp oj.op = true)) ∨ afterT ops ops.size j i = true := by
  simp only [freeC, hi, List.all_eq_true, List.mem_range] at h
  have h1 := h j (Array.getElem?_eq_some_iff.1 hj).1
  simp only [hj, Bool.or_eq_true, beq_iff_eq, hne, false_or, hun, Bool.false_eq_true] at h1
  refine h1.imp (fun h2 => ?_) id
  simp only [Bool.and_eq_true, Bool.or_eq_true] at h2
  exact ⟨h2.1.1, h2.1.2, h2.2⟩

theorem stAny_lex {k : St → Option R} : ∀ (l : List Oper) (i : Nat) (listed : Array Bool) (s : St), (∀ j, l[j]? = ops[i + j]?) → Closed ops listed →
    lexC C ops l.length i listed = true → opsK C env ops l s k = some r → stAny C env ops (fun s => k s = some r) l.length listed s
  | [], _, _, _, _, _, hB, h => ⟨by simpa [lexC] using hB, h⟩
  | o :: l, i, listed, s, hl, hcl, hB, h => by
    have h0 : ops[i]? = some o := by simpa using (hl 0).symm
    simp only [List.length_cons, lexC, Bool.and_eq_true] at hB
    obtain ⟨⟨hr, hf⟩, hB'⟩ := hB
    have hfree := freeC_spec h0 hf
    simp only [opsK] at h
    rw [operK_bind, Option.bind_eq_some_iff] at h
    obtain ⟨s1, e1, h⟩ := h
    have hr' : i ∈ Region.ready .any ops listed := by simpa using hr
    obtain ⟨_, oj, hoj, hall⟩ := mem_ready.1 hr'
    rw [h0] at hoj
    simp only [Option.some.injEq] at hoj
    subst hoj
    exact stAny_first h0 l.length listed s s1 hcl hfree hr' e1
      (stAny_lex l (i + 1) _ s1 (fun j => by have := hl (j + 1); simpa [Nat.add_assoc, Nat.add_comm 1 j] using this) (hcl.set h0 fun e he hb => getD_of (hall e he hb)) hB' h)

theorem Sim.drawn (h : Sim E G s a w) : Sim E G s a { w with drawn := w.drawn + 1 } where
  defers := h.defers
  size := h.size
  tmp t := RepS.keep (fun _ x => x) (show Holds G.S w { w with drawn := w.drawn + 1 } from fun _ _ => rfl) (fun _ _ => rfl) (h.tmp t)
  mem i b hb := RepB.keep (fun _ x => x) (show Holds G.S w { w with drawn := w.drawn + 1 } from fun _ _ => rfl) rfl (fun _ _ => rfl) (fun _ _ => rfl) (h.mem i b hb)
  apart := h.apart
  off := h.off
  old := h.old
  kept := h.kept.step rfl rfl rfl (Nat.le_refl _) fun _ _ => rfl
  sub := h.sub
  new := h.new
  mine := h.mine
  sep := h.sep
  par := h.par

/-- A continuation and what it stands for. -/
def KOK (E : En) (K : Kont R) (r : R) (Q : Exit → Act → World → Prop) : Prop := ∀ ex s' G' a' w', Sim E G' s' a' w' → K ex s' = some r → Q ex a' w'

def LpOK (E : En) (C : Cfg) (f : FuncId) (r : R) (lp : Code → Kont R → St → Option R) : Prop :=
  ∀ b K s G a w Q, Sim E G s a w → lp b K s = some r → KOK E K r Q → (Code.loop b).wp C.P Q a w

theorem den_sound (hC : C.OK) (hE : EnvOK C env) {f : FuncId} {lp : Code → Kont R → St → Option R} (hlp : LpOK E C f r lp) : ∀ (c : Code) (K : Kont R) (s : St) (G : Gh) (a : Act) (w : World) (Q : Exit → Act → World → Prop),
    Sim E G s a w → den C f env lp c K s = some r → KOK E K r Q → c.wp C.P Q a w := by
  intro c
  induction c with
  | skip => intro K s G a w Q h e hk; exact wp_skip (hk .normal s G a w h e)
  | ret => intro K s G a w Q h e hk; exact wp_ret (hk .ret s G a w h e)
  | exit id => intro K s G a w Q h e hk; exact wp_exit (hk (.exit id) s G a w h e)
  | region id ops draw =>
    intro K s G a w Q h e hk
    simp only [den] at e
    rcases cond_some e with ⟨_, e⟩ | ⟨hd, e⟩
    · simp at e
    · rename_i e0
      clear e0
      cases draw with
      | false => exact wp_region_list (ops_sound hC hE h e fun s' G' a' w' h' e' => hk .normal s' G' a' w' h' e')
      | true =>
        simp only [Bool.true_and, Bool.not_eq_false'] at hd
        refine wp_region_any hC.draws (stAny_sound hC hE (Fin := fun s => K .normal s = some r) (fun s' G' a' w' h' e' => hk .normal s' G' a' w' h' e') _ _ s G a _ h.drawn ?_)
        have := fun hcl => stAny_lex (C := C) (env := env) ops.toList 0 (Array.replicate ops.size false) s (by simp) hcl (by simpa [lexB] using hd) e
        have := this (fun m om hm hl e he hb => by
          exfalso
          have hlt := (Array.getElem?_eq_some_iff.1 hm).1
          simp [Array.getD_eq_getD_getElem?, hlt] at hl)
        simpa using this
  | seq x y ihx ihy =>
    intro K s G a w Q h e hk
    simp only [den] at e
    refine wp_seq (ihx _ s G a w _ h e fun ex s' G' a' w' h' e' => ?_)
    cases ex with
    | normal => exact ihy K s' G' a' w' Q h' e' hk
    | exit id => exact hk _ s' G' a' w' h' e'
    | goto l => exact hk _ s' G' a' w' h' e'
    | ret => exact hk _ s' G' a' w' h' e'
    | panic ch => exact hk _ s' G' a' w' h' e'
    | outgrown => exact hk _ s' G' a' w' h' e'
  | cond c x y ihx ihy =>
    intro K s G a w Q h e hk
    simp only [den] at e
    split at e
    · rename_i b hb
      have hv := bool_of (RepS.of_v (ev_v h hb) (by simp))
      rcases cond_some e with ⟨hc, e⟩ | ⟨hc, e⟩
      · subst hc; exact wp_cond (t := true) hv (ihx K s G a w Q h e hk)
      · subst hc; exact wp_cond (t := false) hv (ihy K s G a w Q h e hk)
    · simp at e
  | block id x ih =>
    intro K s G a w Q h e hk
    simp only [den] at e
    refine wp_block (ih _ s G a w _ h e fun ex s' G' a' w' h' e' => ?_)
    cases ex with
    | exit j =>
      simp only [blockK] at e'
      rcases cond_some e' with ⟨hj, e2⟩ | ⟨hj, e2⟩
      · have := Nat.eq_of_beq_eq_true hj
        subst this
        simp only [Exit.inBlock, if_true]
        exact hk .normal s' G' a' w' h' e2
      · have hne : j ≠ id := Nat.ne_of_beq_eq_false hj
        simp only [Exit.inBlock, if_neg hne]
        exact hk (.exit j) s' G' a' w' h' e2
    | normal => exact hk _ s' G' a' w' h' e'
    | goto l => exact hk _ s' G' a' w' h' e'
    | ret => exact hk _ s' G' a' w' h' e'
    | panic ch => exact hk _ s' G' a' w' h' e'
    | outgrown => exact hk _ s' G' a' w' h' e'
  | loop b ih =>
    intro K s G a w Q h e hk
    simp only [den] at e
    split at e
    · rename_i s1 hs1
      unfold headOf at hs1
      split at hs1
      · obtain ⟨G1, h1⟩ := h.canon hs1
        exact hlp b K s1 G1 a w Q h1 e hk
      · simp at hs1
    · simp at e
  | _ => intro K s G a w Q h e hk; simp [den] at e

theorem head_sound (h : Sim E G s a w) {f : FuncId} {b : Code} (e : headOf C f b s = some s') : ∃ G', Sim E G' s' a w := by
  unfold headOf at e
  split at e
  · exact h.canon e
  · simp at e

theorem lpN_sound (hC : C.OK) (hE : EnvOK C env) {f : FuncId} : ∀ n, LpOK E C f r (lpN (R := R) C f env n) := by
  intro n
  induction n using Nat.strongRecOn with
  | _ n ih =>
    intro b K s G a w Q h e hk
    refine wp_loop_ghost (fun m a w => m ≤ n ∧ ∃ s G, Sim E G s a w ∧ lpN C f env m b K s = some r) n ⟨Nat.le_refl _, s, G, h, e⟩ ?_
    rintro m a w ⟨hm, s, G, h, e⟩
    cases m with
    | zero => simp [lpN] at e
    | succ m =>
      simp only [lpN] at e
      refine den_sound hC hE (ih m (by omega)) b _ s G a w _ h e fun ex s' G' a' w' h' e' => ?_
      cases ex with
      | normal =>
        simp only [loopK] at e'
        split at e'
        · rename_i s2 hs2
          obtain ⟨G2, h2⟩ := head_sound h' hs2
          exact ⟨m, by omega, by omega, s2, G2, h2, e'⟩
        · simp at e'
      | exit id => exact hk _ s' G' a' w' h' e'
      | goto l => exact hk _ s' G' a' w' h' e'
      | ret => exact hk _ s' G' a' w' h' e'
      | panic ch => exact hk _ s' G' a' w' h' e'
      | outgrown => exact hk _ s' G' a' w' h' e'
end Go.Pr
