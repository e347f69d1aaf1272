/- Operations as the model carries them out. -/
import Derived.Test.YtjebgmofebmgaaaGreatPsMa
namespace Go.Ps
set_option linter.unusedVariables false
variable {S S' : Nat → Prop} {σ σ' : Sg} {w w' : World} {E : En} {G : Gh} {s s' : St} {a : Act} {C : Cfg} {R : Type} {r : R}
variable {next : Act → World → Prop} {Q : Exit → Act → World → Prop} {o : Oper} {env : C.Env}

/-- What the rest has of an operation. -/
def Cont (E : En) (a : Act) (s : St) (o : Oper) (k : SV → List Upd → List Nat → Option R) (r : R) (next : Act → World → Prop) : Prop :=
  ∀ x v us rs G' w', RepS (Gh.S G') (Gh.σ G') w' x v → Sim E G' (s.upds us) a w' → k x us rs = some r → next (a.put o.dst v) w'

theorem wp_of_done {X : Sem Value} {k : SV → List Upd → List Nat → Option R} (ho : execOp a.eval o = (do pure (.value (← X)))) (hd : Done E a C.P X w s k r) (hk : Cont E a s o k r next) : o.wp C.P a w next Q := by
  obtain ⟨x, v, us, rs, G', w', h1, h2, h3, h4⟩ := hd
  unfold Oper.wp
  rw [ho]
  simp only [Sem.run_bind, h1, Result.andThen_ok, Sem.run_pure]
  exact hk x v us rs G' w' h2 h3 h4

theorem ev_v (h : Sim E G s a w) {x : Operand} {p : PV} (e : s.ev x = .v p) : RepS G.S G.σ w (.v p) (a.eval x) := by
  have := ev_rep h x; rwa [e] at this
theorem pv_rep (h : Sim E G s a w) (x : Operand) {p : PV} (hp : (s.ev x).pv = p) (hne : p ≠ .undef) : RepC G.S G.σ w p [a.eval x] := by
  have hr := ev_rep h x
  cases hs : s.ev x with
  | v q => rw [hs] at hr hp; simp only [SV.pv] at hp; subst hp; exact RepS.of_v hr hne
  | agg _ => rw [hs] at hp; exact absurd hp.symm hne
  | tup _ _ => rw [hs] at hp; exact absurd hp.symm hne
theorem evs_all (h : Sim E G s a w) : ∀ (xs : List Operand), All2 (fun x v => RepS G.S G.σ w x v) (xs.map s.ev) (xs.map a.eval)
  | [] => .nil
  | x :: xs => .cons (ev_rep h x) (evs_all h xs)
theorem pvs_all (h : Sim E G s a w) : ∀ (xs : List Operand), (∀ x ∈ xs, (s.ev x).pv ≠ .undef) → All2 (fun p v => RepC G.S G.σ w p [v]) (xs.map fun x => (s.ev x).pv) (xs.map a.eval)
  | [], _ => .nil
  | x :: xs, hn => .cons (pv_rep h x rfl (hn x (by simp))) (pvs_all h xs fun y hy => hn y (by simp [hy]))
theorem All2.append {α β : Type} {Q : α → β → Prop} : ∀ {xs xs' : List α} {ys ys' : List β}, All2 Q xs ys → All2 Q xs' ys' → All2 Q (xs ++ xs') (ys ++ ys')
  | _, _, _, _, .nil, h => h
  | _, _, _, _, .cons h t, h' => .cons h (t.append h')


theorem callL_sound (hC : C.OK) (hE : EnvOK E.I C env) (h : Sim E G s a w) {id : Nat} (hid : id % 128 = 0) {f : FuncId} {xs : List SV} {vals : List Value} (hx : All2 (fun x v => RepS G.S G.σ w x v) xs vals) {k : SV → List Upd → List Nat → Option R} :
    ∀ (gs : List Nat), (∀ g ∈ gs, C.real g = f) → callL C env id s xs k gs = some r →
    (∃ g sg, g ∈ gs ∧ C.sig g = some sg) ∧ Calls C.P f vals.toArray w fun e w' => ∃ v x us rs G', e = .returned v ∧ RepS (Gh.S G') (Gh.σ G') w' x v ∧ Sim E G' (s.upds us) a w' ∧ k x us rs = some r
  | [], _, e => by simp [callL] at e
  | g :: gs, hg, e => by
    have next : callL C env id s xs k gs = some r → _ := fun e => by
      have := callL_sound hC hE h hid hx gs (fun g hg' => hg g (by simp [hg'])) e
      exact (⟨let ⟨g, sg, h1, h2⟩ := this.1; ⟨g, sg, by simp [h1], h2⟩, this.2⟩ : (∃ g' sg, g' ∈ g :: gs ∧ C.sig g' = some sg) ∧ Calls C.P f vals.toArray w fun e w' => ∃ v x us rs G', e = .returned v ∧ RepS (Gh.S G') (Gh.σ G') w' x v ∧ Sim E G' (s.upds us) a w' ∧ k x us rs = some r)
    simp only [callL] at e
    split at e
    · rename_i sg hsg
      split at e
      · rename_i A hA
        refine ⟨⟨g, sg, by simp, hsg⟩, ?_⟩
        have := call1_sound hC hE h hid hsg hx hA e
        rw [hg g (by simp)] at this
        exact this
      · exact next e
    · exact next e

theorem call_wp (hC : C.OK) (hE : EnvOK E.I C env) (h : Sim E G s a w) {id : Nat} (hid : id % 128 = 0) {f : FuncId} {xs : List SV} {vals : List Value} (hx : All2 (fun x v => RepS G.S G.σ w x v) xs vals) {k : SV → List Upd → List Nat → Option R} (e : callK C env id s f xs k = some r) (hk : Cont E a s o k r next)
    (hrun : (execOp a.eval o).run C.P w = (callFunc f vals.toArray).run C.P w) : o.wp C.P a w next Q := by
  obtain ⟨⟨g, sg, hg, hsg⟩, hcall⟩ := callL_sound hC hE h hid hx (C.alts f) (fun g hg => hC.alts f g hg) e
  unfold Oper.wp
  rw [hrun, ← hC.alts f g hg, run_callFunc hC hsg, Oper.upon_enter]
  rw [hC.alts f g hg]
  refine hcall.mono ?_
  rintro en w' ⟨v, x, us, rs, G', rfl, h1, h2, h3⟩
  exact hk x v us rs G' w' h1 h2 h3

theorem appendK_ne {id : Nat} {sl : TypeId} {x y : PV} {k : PV → List Upd → Option R} (e : appendK C s id sl x y k = some r) : x ≠ .undef ∧ y ≠ .undef := by
  unfold appendK at e
  split at e
  · split at e
    · rcases cond_some e with ⟨_, e⟩ | ⟨_, e⟩
      · split at e
        · rename_i hm
          refine ⟨fun hx => ?_, fun hy => ?_⟩
          · subst hx
            unfold appD at hm
            split at hm
            · split at hm
              · rcases cond_some hm with ⟨_, hm⟩ | ⟨_, hm⟩
                · split at hm <;> simp at hm
                · simp at hm
              · rcases cond_some hm with ⟨_, hm⟩ | ⟨_, hm⟩
                · split at hm <;> simp at hm
                · simp at hm
              · simp at hm
            · simp at hm
          · subst hy; simp [appD] at hm
        split at e
        · rename_i hm
          refine ⟨fun hx => ?_, fun hy => ?_⟩
          · subst hx; simp at e
          · subst hy; simp [moreOf, St.asList] at hm
        · simp at e
      · simp at e
    · simp at e
  · simp at e
theorem maxF_ne : ∀ {ps : List PV} {kd : IntKind} {x : Int} {p : PV}, maxF kd x ps = some p → ∀ q ∈ ps, q ≠ .undef
  | [], _, _, _, _, q, h => by simp at h
  | q :: ps, kd, x, p, e, q', h => by
    cases q <;> simp only [maxF] at e <;> try (simp at e; done)
    rcases List.mem_cons.1 h with rfl | h
    · simp
    · exact maxF_ne e q' h
theorem minF_ne : ∀ {ps : List PV} {kd : IntKind} {x : Int} {p : PV}, minF kd x ps = some p → ∀ q ∈ ps, q ≠ .undef
  | [], _, _, _, _, q, h => by simp at h
  | q :: ps, kd, x, p, e, q', h => by
    cases q <;> simp only [minF] at e <;> try (simp at e; done)
    rcases List.mem_cons.1 h with rfl | h
    · simp
    · exact minF_ne e q' h
theorem maxL_sound {P : Program} (h : Sim E G s a w) {xs : List Operand} {ats : Array TypeId} {ty : TypeId} {p : PV} (e : maxL (xs.map fun x => (s.ev x).pv) = some p) : ∃ v, (Builtin.max_ ats ty (xs.map a.eval).toArray).run P w = .ok v w ∧ RepC G.S G.σ w p [v] := by
  cases xs with
  | nil => simp [maxL] at e
  | cons x xs =>
    simp only [List.map_cons] at e ⊢
    cases hx : (s.ev x).pv <;> rw [hx] at e <;> simp only [maxL] at e <;> try (simp at e; done)
    have hv := int_of (x := .undef) (pv_rep h x hx (by simp))
    obtain ⟨v, h1, h2⟩ := maxF_sound (P := P) _ _ _ _ _ (pvs_all h xs fun y hy => maxF_ne e _ (List.mem_map.2 ⟨y, hy, rfl⟩)) e
    exact ⟨v, by simp only [Builtin.max_, hv]; exact h1, h2⟩
theorem minL_sound {P : Program} (h : Sim E G s a w) {xs : List Operand} {ats : Array TypeId} {ty : TypeId} {p : PV} (e : minL (xs.map fun x => (s.ev x).pv) = some p) : ∃ v, (Builtin.min_ ats ty (xs.map a.eval).toArray).run P w = .ok v w ∧ RepC G.S G.σ w p [v] := by
  cases xs with
  | nil => simp [minL] at e
  | cons x xs =>
    simp only [List.map_cons] at e ⊢
    cases hx : (s.ev x).pv <;> rw [hx] at e <;> simp only [minL] at e <;> try (simp at e; done)
    have hv := int_of (x := .undef) (pv_rep h x hx (by simp))
    obtain ⟨v, h1, h2⟩ := minF_sound (P := P) _ _ _ _ _ (pvs_all h xs fun y hy => minF_ne e _ (List.mem_map.2 ⟨y, hy, rfl⟩)) e
    exact ⟨v, by simp only [Builtin.min_, hv]; exact h1, h2⟩


/-! ### Function values -/
theorem caps_rep {caps : List Cap} {us : List Value} {ys : List SV} (hc : RepCaps S σ w caps us) (e : capsSV caps = some ys) : All2 (fun x v => RepS S σ w x v) ys us := by
  induction caps generalizing us ys with
  | nil => cases hc; simp only [capsSV, Option.some.injEq] at e; subst e; exact .nil
  | cons c caps ih =>
    obtain ⟨v, us, rfl, h1, h2⟩ := hc
    simp only [capsSV] at e
    split at e
    · rename_i x xs hx hxs
      simp only [Option.some.injEq] at e
      subst e
      refine .cons ?_ (ih h2 hxs)
      cases c with
      | dat τ d =>
        rcases ofData_some hx with ⟨ha, _⟩ | ⟨_, c, e1, e2, rfl⟩
        · simp at ha
        · have := inj_rep (σ := σ) _ _ _ (show RepT S w τ d [v] from h1)
          rw [e1] at this
          exact RepS.v (RepCs.of_one this)
      | agg τ d =>
        simp only [Cap.sv, Option.some.injEq] at hx; subst hx
        obtain ⟨us, rfl, h1⟩ := h1
        exact ⟨us, rfl, inj_rep _ _ _ h1⟩
      | cref τ d =>
        simp only [Cap.sv, Option.some.injEq] at hx; subst hx
        obtain ⟨b, o, us, hb, hr, ht, rfl⟩ := h1
        exact RepS.v ⟨b, o, us, hb, hr, ht, rfl⟩
      | ref id =>
        simp only [Cap.sv, Option.some.injEq] at hx; subst hx
        obtain ⟨L, b, o, hL, hv, rfl⟩ := h1
        exact RepS.v (p := .ptr id (.at 0)) ⟨L, b, o, hL, hv, trivial, by rw [hv]; simp [Sub.off]⟩
    · simp at e

theorem capOf_rep (h : Sim E G s a w) {S1 : Nat → Prop} (hS : ∀ b, G.S b → S1 b) {p : PK} {x : SV} {v : Value} {c : Cap} {is : List Nat} (hx : RepS G.S G.σ w x v) (e : capOf s p x = some (c, is)) (hV : ∀ i ∈ is, ∀ k ∈ G.β i, S1 k) : RepCap S1 G.σ w c v := by
  have pvr : ∀ {p : PV}, x.pv = p → p ≠ .undef → RepC G.S G.σ w p [v] := by
    intro p hp hne
    cases x with
    | v q => simp only [SV.pv] at hp; subst hp; exact RepS.of_v hx hne
    | agg _ => exact absurd hp.symm hne
    | tup _ _ => exact absurd hp.symm hne
  cases p <;> simp only [capOf] at e <;> try (simp at e; done)
  case val τ =>
    split at e
    · rename_i cs hc
      split at e
      · rename_i d hd
        split at e
        · rename_i y hy
          simp only [Option.some.injEq, Prod.mk.injEq] at e
          obtain ⟨rfl, rfl⟩ := e
          have ht := projAll_rep (datC_rep (σ' := G.σ) h hS hV (cells_rep hx hc)) hd
          have hv := isA_val hx hc
          cases ha : x.isA with
          | true => exact ⟨v.cells.toList, hv.1 ha, ht⟩
          | false => rw [hv.2 ha] at ht; exact ht
        · simp at e
      · simp at e
    · simp at e
  case ro τ =>
    split at e
    · rename_i id hp
      split at e
      · rename_i cs hb
        split at e
        · rename_i d hd
          simp only [Option.some.injEq, Prod.mk.injEq] at e
          obtain ⟨rfl, rfl⟩ := e
          obtain ⟨L, b, o, hL, hv, _, hx1⟩ := pvr hp (by simp)
          simp only [List.cons.injEq, and_true, Sub.off, Nat.add_zero] at hx1
          have key : ∃ vs, RepCs G.S G.σ w cs vs ∧ w.rangeAt b o vs ∧ S1 b := by
            unfold boxAt at hb
            split at hb
            · rename_i cs' hm
              simp only [Option.some.injEq] at hb; subst hb
              obtain ⟨L', hL', b', o', vs, hv', hc, hr, _, hβ⟩ := h.mem id _ hm
              rw [hL] at hL'; simp only [Option.some.injEq] at hL'; subst hL'
              rw [hv] at hv'
              simp only [Value.pointer.injEq, Option.some.injEq, Addr.mk.injEq, and_true] at hv'
              obtain ⟨rfl, rfl⟩ := hv'
              exact ⟨vs, hc, hr, hV id (by simp) b (by simp [hβ])⟩
            · rename_i cs' hm
              simp only [Option.some.injEq] at hb; subst hb
              obtain ⟨L', hL', _, b', o', vs, hv', hs, hc, hr⟩ := h.mem id _ hm
              rw [hL] at hL'; simp only [Option.some.injEq] at hL'; subst hL'
              rw [hv] at hv'
              simp only [Value.pointer.injEq, Option.some.injEq, Addr.mk.injEq, and_true] at hv'
              obtain ⟨rfl, rfl⟩ := hv'
              exact ⟨vs, hc, hr, hS b hs⟩
            · simp at hb
          obtain ⟨vs, hc, hr, hb1⟩ := key
          exact ⟨b, o, vs, hb1, hr, projAll_rep (datC_rep (σ' := G.σ) h hS (fun i hi => hV i (by simp [hi])) hc) hd, hx1⟩
        · simp at e
      · simp at e
    · rename_i τ' d hp
      simp only [Option.some.injEq, Prod.mk.injEq] at e
      obtain ⟨rfl, rfl⟩ := e
      obtain ⟨b, o, us, hb, hr, ht, hx1⟩ := pvr hp (by simp)
      simp only [List.cons.injEq, and_true] at hx1
      exact ⟨b, o, us, hS b hb, hr, RepT.keep hS (fun _ _ => rfl) _ _ _ ht, by rw [hx1]; simp⟩
    · simp at e
  case var τ f =>
    split at e
    · rename_i id hp
      simp only [Option.some.injEq, Prod.mk.injEq] at e
      obtain ⟨rfl, rfl⟩ := e
      obtain ⟨L, b, o, hL, hv, _, hx1⟩ := pvr hp (by simp)
      simp only [List.cons.injEq, and_true, Sub.off, Nat.add_zero] at hx1
      exact ⟨L, b, o, hL, hv, by rw [hx1, hv]⟩
    · simp at e
  case dvar τ f =>
    split at e
    · rename_i id hp
      simp only [Option.some.injEq, Prod.mk.injEq] at e
      obtain ⟨rfl, rfl⟩ := e
      obtain ⟨L, b, o, hL, hv, _, hx1⟩ := pvr hp (by simp)
      simp only [List.cons.injEq, and_true, Sub.off, Nat.add_zero] at hx1
      exact ⟨L, b, o, hL, hv, by rw [hx1, hv]⟩
    · simp at e
theorem capsOf_rep (h : Sim E G s a w) {S1 : Nat → Prop} (hS : ∀ b, G.S b → S1 b) : ∀ {ps : List PK} {xs : List SV} {vs : List Value} {cs : List Cap} {is : List Nat}, All2 (fun x v => RepS G.S G.σ w x v) xs vs → capsOf s ps xs = some (cs, is) → (∀ i ∈ is, ∀ k ∈ G.β i, S1 k) → RepCaps S1 G.σ w cs vs
  | [], _, _, cs, is, .nil, e, _ => by simp only [capsOf, Option.some.injEq, Prod.mk.injEq] at e; obtain ⟨rfl, rfl⟩ := e; rfl
  | [], _, _, cs, is, .cons _ _, e, _ => by simp [capsOf] at e
  | _ :: _, _, _, cs, is, .nil, e, _ => by simp [capsOf] at e
  | p :: ps, _, _, cs, is, .cons hx ht, e, hV => by
    simp only [capsOf] at e
    split at e
    · rename_i c i cs' is' h1 h2
      simp only [Option.some.injEq, Prod.mk.injEq] at e
      obtain ⟨rfl, rfl⟩ := e
      exact ⟨_, _, rfl, capOf_rep h hS hx h1 fun i hi => hV i (by simp [hi]), capsOf_rep h hS ht h2 fun i hi => hV i (by simp [hi])⟩
    · simp at e
theorem makeFuncK_sound (h : Sim E G s a w) {f : FuncId} {xs : List Operand} {k : SV → List Upd → List Nat → Option R} (e : makeFuncK C s f (xs.map s.ev) (fun p us rs => k (.v p) us rs) = some r) :
    Done E a C.P (pure (.func (.func f) #[] (xs.map a.eval).toArray)) w s k r := by
  unfold makeFuncK at e
  split at e
  · split at e
    · split at e
      · rename_i cs is hcs
        rcases cond_some e with ⟨hp, e⟩ | ⟨_, e⟩
        · obtain ⟨G', g1, g2, g3, _, _, g6⟩ := h.frzs is (noPar_ok hp)
          refine ⟨.v (.fn f cs), _, is.map .frz, is, G', w, rfl, RepS.v ⟨xs.map a.eval, rfl, ?_⟩, g6, e⟩
          rw [g1]
          exact capsOf_rep h g2 (evs_all h xs) hcs g3
        · simp at e
      · simp at e
    · simp at e
  · split at e
    · rename_i hx
      have : xs = [] := by simpa using hx
      subst this
      exact ⟨.v (.fn f []), _, [], [], G, w, rfl, RepS.v ⟨[], rfl, rfl⟩, h, e⟩
    · simp at e

theorem do_sound (hC : C.OK) (hE : EnvOK E.I C env) (h : Sim E G s a w) {id : Nat} (hid0 : id % 128 = 0) {k : SV → List Upd → List Nat → Option R} (e : doK C env id o.op s k = some r) (hk : Cont E a s o k r next) : o.wp C.P a w next Q := by
  have hid : id % 128 < 64 := by omega
  have pure1 : ∀ {x : SV} {v : Value} {rs : List Nat}, execOp a.eval o = pure (.value v) → RepS G.S G.σ w x v → k x [] rs = some r → o.wp C.P a w next Q := by
    intro x v rs ho hx e
    unfold Oper.wp
    rw [ho]
    simp only [Sem.run_pure]
    exact hk x v [] rs G w hx h e
  cases hop : o.op <;> rw [hop] at e <;> simp only [doK] at e <;> try (simp at e; done)
  case move x => exact pure1 (by simp [execOp, hop]) (ev_rep h x) e
  case assign x => exact pure1 (by simp [execOp, hop]) (ev_rep h x) e
  case pick c x y =>
    have hd := pickK_sound (P := C.P) h (ev_rep h c) (ev_rep h x) (ev_rep h y) e
    exact wp_of_done (by simp [execOp, hop]) hd hk
  case alloc t =>
    split at e
    · rename_i I hI
      exact wp_of_done (by simp [execOp, hop]) (alloc_sound hC h hI hid e) hk
    · simp at e
  case box t x =>
    split at e
    · rename_i I cs hI hcs
      rcases cond_some e with ⟨_, e⟩ | ⟨_, e⟩
      · exact wp_of_done (by simp [execOp, hop]) (box_sound (t := t) h hid (ev_rep h x) hcs e) hk
      · simp at e
    · simp at e
  case build t ps => exact wp_of_done (by simp [execOp, hop]) (build_sound hC h e) hk
  case buildSlice t n ps =>
    split at e
    · rename_i q _ _ _ _ _ hI
      split at e
      · rename_i Q' hQ
        split at e
        · rename_i b hdp
          rcases cond_some e with ⟨hb, e⟩ | ⟨_, e⟩
          · simp only [Bool.and_eq_true] at hb
            obtain ⟨⟨h1, h2⟩, h3⟩ := hb
            obtain ⟨hm, e⟩ := freshK_some e
            exact wp_of_done (by simp [execOp, hop]) (deepP_sound hC h hI rfl hQ hid hdp (Nat.eq_of_beq_eq_true h1) (Nat.le_of_ble_eq_true h2) (Nat.le_of_ble_eq_true h3) hm e) hk
          · simp at e
        split at e
        · rename_i xs hxs
          rcases cond_some e with ⟨hb, e⟩ | ⟨_, e⟩
          · simp only [Bool.and_eq_true] at hb
            obtain ⟨⟨h1, h2⟩, h3⟩ := hb
            obtain ⟨hm, e⟩ := freshK_some e
            exact wp_of_done (by simp [execOp, hop]) (buildSlice_sound hC h hI rfl hQ hid hxs (Nat.eq_of_beq_eq_true h1) (Nat.le_of_ble_eq_true h2) (Nat.le_of_ble_eq_true h3) hm e) hk
          · simp at e
        · simp at e
      · simp at e
    · simp at e
  case makeSlice t n c =>
    rcases cond_some e with ⟨hs, e⟩ | ⟨_, e⟩
    · have hnc : a.eval c = a.eval n := by
        unfold sameO at hs
        split at hs
        · rw [Nat.eq_of_beq_eq_true hs]
        · simp only [Bool.and_eq_true, decide_eq_true_eq] at hs; rw [hs.1, hs.2]
        · simp at hs
      have hne : (s.ev n).pv ≠ .undef := fun hh => by rw [hh] at e; unfold makeSliceK at e; split at e <;> simp_all
      exact wp_of_done (by simp [execOp, hop, hnc]) (makeSliceK_sound hC h hid (pv_rep h n rfl hne) e) hk
    · simp at e
  case load t x =>
    split at e
    · rename_i p hp
      by_cases hu : p = .undef
      · subst hu; exfalso; unfold loadK at e; split at e <;> simp [St.look, openK] at e
      · exact wp_of_done (by simp [execOp, hop]) (loadK_sound hC h hid0 (RepS.of_v (ev_v h hp) hu) e) hk
    · simp at e
  case store t x y =>
    split at e
    · rename_i p hp
      by_cases hu : p = .undef
      · subst hu; exfalso; unfold storeK at e; split at e <;> simp at e
      · obtain ⟨G', us, rs, w', h1, h2, h3⟩ := storeK_sound hC h (RepS.of_v (ev_v h hp) hu) (ev_rep h y) e
        unfold Oper.wp
        have : execOp a.eval o = (do Instr.storeAt t (a.eval x) (a.eval y); pure .skip) := by simp [execOp, hop]
        rw [this]
        simp only [Sem.run_bind, h1, Result.andThen_ok, Sem.run_pure]
        exact hk (.v .undef) undef us rs G' w' trivial h2 h3
    · simp at e
  case nilCheck x =>
    split at e
    · rename_i i j hp
      have hr := ev_v h hp
      obtain ⟨L, b, q, _, _, _, hv⟩ := RepS.of_v hr (by simp)
      simp only [List.cons.injEq, and_true] at hv
      rw [hv] at hr
      exact pure1 (by simp [execOp, hop, hv]) hr e
    · rename_i i j q hp
      have hr := ev_v h hp
      obtain ⟨L, b, n, c, _, _, _, _, _, hv⟩ := RepS.of_v hr (by simp)
      simp only [List.cons.injEq, and_true] at hv
      rw [hv] at hr
      exact pure1 (by simp [execOp, hop, hv]) hr e
    · rename_i τ x' q hp
      have hr := ev_v h hp
      obtain ⟨b, n, us, hS, h0, h1, hv⟩ := RepS.of_v hr (by simp)
      simp only [List.cons.injEq, and_true] at hv
      rw [hv] at hr
      exact pure1 (by simp [execOp, hop, hv]) hr e
    · simp at e
  case binOp op t x y yt =>
    split at e
    · rename_i p q hp hq
      have hd := boolK_sound hC x y (RepS.of_v (ev_v h hp) (by simp)) (RepS.of_v (ev_v h hq) (by simp)) e
      exact wp_of_done (by simp [execOp, hop]) (Done.ofPV h hd) hk
    · rename_i p q _ hp hq
      by_cases hu : p = .undef
      · subst hu; simp [binK] at e
      by_cases hu' : q = .undef
      · subst hu'; exfalso; cases p <;> simp [binK] at e
      have hd := binK_sound (P := C.P) t x y (RepS.of_v (ev_v h hp) hu) (RepS.of_v (ev_v h hq) hu') e
      exact wp_of_done (by simp [execOp, hop]) (Done.ofPV h hd) hk
    · rename_i p q hp hq
      have r1 := ev_rep h x
      have r2 := ev_rep h y
      rw [hp] at r1; rw [hq] at r2
      exact wp_of_done (by simp [execOp, hop]) (Done.ofPV h (eqK_sound hC x y r1 r2 e)) hk
    · simp at e
  case unOp op t x =>
    split at e
    · rename_i p hp
      by_cases hu : p = .undef
      · subst hu; exfalso; cases op <;> simp [unK] at e
      exact wp_of_done (by simp [execOp, hop]) (Done.ofPV h (unK_sound (P := C.P) (RepS.of_v (ev_v h hp) hu) e)) hk
    · simp at e
  case convert src dst x =>
    split at e
    · rename_i p hp
      rcases cond_some e with ⟨hc, e⟩ | ⟨_, e⟩
      · by_cases hu : p = .undef
        · subst hu; simp [bytesK] at e
        exact wp_of_done (by simp [execOp, hop]) (bytesK_sound hC h hid (RepS.of_v (ev_v h hp) hu) e) hk
      · by_cases hu : p = .undef
        · subst hu; exfalso; unfold convK at e; split at e <;> simp_all [St.asList]
        exact wp_of_done (by simp [execOp, hop]) (Done.ofPV h (convK_sound hC h (RepS.of_v (ev_v h hp) hu) e)) hk
    · simp at e
  case makeFunc fn first captured =>
    cases fn <;> simp only [] at e <;> try (simp at e; done)
    rename_i f
    split at e
    · rename_i h1
      have e1 : first = #[] := by simpa using h1
      have hd := makeFuncK_sound (C := C) h e
      exact wp_of_done (X := pure (.func (.func f) #[] (captured.toList.map a.eval).toArray)) (by
        have hm : (captured.toList.map a.eval).toArray = captured.map a.eval := by apply Array.toList_inj.1; simp
        simp [execOp, hop, Instr.makeFunc, e1, hm]) hd hk
    · simp at e
  case slice t x lo hi mx =>
    cases mx with
    | some _ => simp at e
    | none =>
      rcases cond_some e with ⟨_, e⟩ | ⟨_, e⟩
      · exact wp_of_done (by simp [execOp, hop]) (sliceK_sound hC h x e) hk
      · rcases cond_some e with ⟨_, e⟩ | ⟨_, e⟩
        · exact wp_of_done (by simp [execOp, hop]) (cutK_sound hC h hid x e) hk
        · exact wp_of_done (by simp [execOp, hop]) (viewK_sound hC h x e) hk
  case fieldAddr t x f =>
    split at e
    · rename_i p off size hp hf
      rcases cond_some e with ⟨h1, e⟩ | ⟨_, e⟩
      · split at e
        · rename_i q hq
          by_cases hu : p = .undef
          · subst hu; simp [movePtr] at hq
          obtain ⟨b, q0, hv, hr⟩ := movePtr_rep (RepS.of_v (ev_v h hp) hu) hq
          exact wp_of_done (X := Instr.fieldAt t (a.eval x) f) (by simp [execOp, hop]) (Done.pure h (by rw [hv]; exact fieldAddr_run hC hf (Nat.le_of_ble_eq_true h1) b q0) (RepS.v hr) e) hk
        · simp at e
      · simp at e
    · simp at e
  case field t x f =>
    split at e
    · rename_i cs off size agg hp hf hg
      split at e
      · rename_i c hcut
        have hr := ev_rep h x
        rw [hp] at hr
        obtain ⟨vs, hv, hc⟩ := hr
        obtain ⟨g1, g2, g3⟩ := RepCs.cut hc hcut
        have hrun := field_run (w := w) hC hf hg g3
        rcases cond_some e with ⟨ha, e⟩ | ⟨ha, e⟩
        · exact wp_of_done (X := Instr.field t (a.eval x) f) (by simp [execOp, hop]) (Done.pure (x := .agg c) h (by rw [hv]; exact hrun.1 ha) ⟨_, rfl, g1⟩ e) hk
        · split at e
          · rename_i c0 _
            rcases cond_some e with ⟨hw, e⟩ | ⟨_, e⟩
            · have hu := RepCs.of_one g1
              have hl := RepC.length hu
              rw [Nat.eq_of_beq_eq_true hw] at hl
              obtain ⟨y, hy⟩ := List.length_eq_one_iff.1 hl
              rw [hy] at hu
              exact wp_of_done (X := Instr.field t (a.eval x) f) (by simp [execOp, hop]) (Done.pure h (by rw [hv]; exact hrun.2 ha y hy) (RepS.v hu) e) hk
            · simp at e
          · simp at e
      · simp at e
    · simp at e
  case indexAddr t x i =>
    have hi : (s.ev i).pv ≠ .undef := fun hh => by rw [hh] at e; simp [indexAddrK] at e
    have hx : (s.ev x).pv ≠ .undef := fun hh => by rw [hh] at e; unfold indexAddrK at e; split at e <;> simp at e
    have hd := indexAddrK_sound hC h (pv_rep h x rfl hx) (pv_rep h i rfl hi) e
    exact wp_of_done (by simp [execOp, hop]) (Done.ofPV h hd) hk
  case index t x i =>
    have hi : (s.ev i).pv ≠ .undef := fun hh => by rw [hh] at e; simp [indexK] at e
    exact wp_of_done (by simp [execOp, hop]) (indexK_sound hC h (ev_rep h x) (pv_rep h i rfl hi) e) hk
  case extract t i =>
    exact wp_of_done (by simp [execOp, hop]) (extractK_sound (P := C.P) h (ev_rep h t) e) hk
  case call c =>
    obtain ⟨callee, args, argTypes⟩ := c
    have hargs := evs_all h args.toList
    have harr : (args.toList.map a.eval).toArray = args.map a.eval := by apply Array.toList_inj.1; simp
    split at e
    · rename_i f hcal
      simp only at hcal
      subst hcal
      exact call_wp hC hE h hid0 hargs e hk (by rw [harr]; simp [execOp, hop, resolve, Deferred.ofValue, invoke, Act.eval])
    · rename_i f _ hcal
      simp only at hcal
      subst hcal
      unfold fnK at e
      split at e
      · rename_i g caps hp
        split at e
        · rename_i ys hys
          have hr := ev_rep h f
          rw [hp] at hr
          obtain ⟨us, hv, hT⟩ := RepS.of_v hr (by simp)
          simp only [List.cons.injEq, and_true] at hv
          replace e := (cond_some e).elim (fun x => x.2) (fun x => by have := x.2; simp at this)
          exact call_wp hC hE h hid0 (hargs.append (caps_rep hT hys)) e hk (by rw [← List.append_toArray, harr]; simp [execOp, hop, resolve, Deferred.ofValue, invoke, hv])
        · simp at e
      · simp at e
    · rename_i hcal
      simp only at hcal
      subst hcal
      split at e
      · rename_i x t h1 h2
        have e1 : args = #[x] := by apply Array.toList_inj.1; simpa using h1
        have e2 : argTypes = #[t] := by apply Array.toList_inj.1; simpa using h2
        have hne : (s.ev x).pv ≠ .undef := fun hh => by rw [hh] at e; simp [lenK, St.asRow, St.asList] at e
        exact wp_of_done (by simp [execOp, hop, resolve, invoke, builtin, e1, e2]) (Done.ofPV h (lenK_sound (ty := o.type) hC h (pv_rep h x rfl hne) e)) hk
      · simp at e
    · rename_i hcal
      simp only at hcal
      subst hcal
      split at e
      · rename_i x y t t' h1 h2
        have e1 : args = #[x, y] := by apply Array.toList_inj.1; simpa using h1
        have e2 : argTypes = #[t, t'] := by apply Array.toList_inj.1; simpa using h2
        rcases cond_some e with ⟨ht, e0⟩ | ⟨_, e0⟩
        · have ht : t = t' := Nat.eq_of_beq_eq_true ht
          subst ht
          clear e
          have e := e0
          have hne := appendK_ne e
          exact wp_of_done (by simp [execOp, hop, resolve, invoke, builtin, e1, e2]) (appendK_sound (ty := o.type) hC h hid (pv_rep h x rfl hne.1) (pv_rep h y rfl hne.2) e) hk
        · simp at e0
      · simp at e
    · rename_i hcal
      simp only at hcal
      subst hcal
      split at e
      · rename_i p hp
        obtain ⟨v, h1, h2⟩ := maxL_sound (P := C.P) (ats := argTypes) (ty := o.type) h hp
        rw [harr] at h1
        exact wp_of_done (X := Builtin.max_ argTypes o.type (args.map a.eval)) (by simp [execOp, hop, resolve, invoke, builtin]) (Done.pure h h1 (RepS.v h2) e) hk
      · simp at e
    · rename_i hcal
      simp only at hcal
      subst hcal
      split at e
      · rename_i p hp
        obtain ⟨v, h1, h2⟩ := minL_sound (P := C.P) (ats := argTypes) (ty := o.type) h hp
        rw [harr] at h1
        exact wp_of_done (X := Builtin.min_ argTypes o.type (args.map a.eval)) (by simp [execOp, hop, resolve, invoke, builtin]) (Done.pure h h1 (RepS.v h2) e) hk
      · simp at e
    · simp at e
end Go.Ps
