/- Operations as the model carries them out. -/
import Derived.Test.YtpfplngeakmghaaPrNa
namespace Go.Pr
set_option linter.unusedVariables false
variable {S S' : Nat → Prop} {σ σ' : Sg} {w w' : World} {E : En} {G : Gh} {s s' : St} {a : Act} {C : Cfg} {R : Type} {r : R}
variable {next : Act → World → Prop} {Q : Exit → Act → World → Prop} {o : Oper} {env : C.Env}

/-- What the rest has of an operation. -/
def Cont (E : En) (a : Act) (o : Oper) (k : SV → St → Option R) (r : R) (next : Act → World → Prop) : Prop :=
  ∀ x v s' G' w', RepS (Gh.S G') (Gh.σ G') w' x v → Sim E G' s' a w' → k x s' = some r → next (a.put o.dst v) w'

theorem wp_of_done {X : Sem Value} {k : SV → St → Option R} (ho : execOp a.eval o = (do pure (.value (← X)))) (hd : Done E a C.P X w k r) (hk : Cont E a o k r next) : o.wp C.P a w next Q := by
  obtain ⟨x, v, s', G', w', h1, h2, h3, h4⟩ := hd
  unfold Oper.wp
  rw [ho]
  simp only [Sem.run_bind, h1, Result.andThen_ok, Sem.run_pure]
  exact hk x v s' G' w' h2 h3 h4

theorem ev_v (h : Sim E G s a w) {x : Operand} {p : PV} (e : s.ev x = .v p) : RepS G.S G.σ w (.v p) (a.eval x) := by
  have := ev_rep h x rfl; rwa [e] at this

theorem pv_rep (h : Sim E G s a w) (x : Operand) {p : PV} (hp : (s.ev x).pv = p) (hne : p ≠ .undef) : RepC G.S G.σ w p [a.eval x] := by
  have hr := ev_rep h x rfl
  cases hs : s.ev x with
  | v q => rw [hs] at hr hp; simp only [SV.pv] at hp; subst hp; exact RepS.of_v hr hne
  | agg _ => rw [hs] at hp; exact absurd hp.symm hne
  | tup _ _ => rw [hs] at hp; exact absurd hp.symm hne

theorem evs_all (h : Sim E G s a w) : ∀ (xs : List Operand), All2 (fun x v => RepS G.S G.σ w x v) (xs.map s.ev) (xs.map a.eval)
  | [] => .nil
  | x :: xs => .cons (ev_rep h x rfl) (evs_all h xs)

theorem pvs_all (h : Sim E G s a w) : ∀ (xs : List Operand), (∀ x ∈ xs, (s.ev x).pv ≠ .undef) → All2 (fun p v => RepC G.S G.σ w p [v]) (xs.map fun x => (s.ev x).pv) (xs.map a.eval)
  | [], _ => .nil
  | x :: xs, hn => .cons (pv_rep h x rfl (hn x (by simp))) (pvs_all h xs fun y hy => hn y (by simp [hy]))

theorem cells_all : ∀ {l : List PV} {us : List Value}, RepCs S σ w l us → (∀ p ∈ l, p.width = 1) → All2 (fun x v => RepS S σ w x v) (l.map .v) us
  | [], _, h, _ => by cases h; exact .nil
  | p :: l, _, ⟨u, v, e, hp, hl⟩, h1 => by
    subst e
    have := RepC.length hp
    rw [h1 p (by simp)] at this
    obtain ⟨x, rfl⟩ := List.length_eq_one_iff.1 this
    exact .cons (RepS.v hp) (cells_all hl fun q hq => h1 q (by simp [hq]))

theorem All2.append {α β : Type} {Q : α → β → Prop} : ∀ {xs xs' : List α} {ys ys' : List β}, All2 Q xs ys → All2 Q xs' ys' → All2 Q (xs ++ xs') (ys ++ ys')
  | _, _, _, _, .nil, h => h
  | _, _, _, _, .cons h t, h' => .cons h (t.append h')

theorem call_wp (hC : C.OK) (hE : EnvOK C env) (h : Sim E G s a w) {id : Nat} (hid : id % 64 = 0) {g : FuncId} {xs : List SV} {vals : List Value} (hx : All2 (fun x v => RepS G.S G.σ w x v) xs vals) {k : SV → St → Option R} (e : callK C env id s g xs k = some r) (hk : Cont E a o k r next)
    (hrun : (execOp a.eval o).run C.P w = (callFunc g vals.toArray).run C.P w) : o.wp C.P a w next Q := by
  have hsig : ∃ sg, C.sig g = some sg := by
    unfold callK at e
    split at e
    · rename_i sg h; exact ⟨sg, h⟩
    · simp at e
  obtain ⟨sg, hsg⟩ := hsig
  unfold Oper.wp
  rw [hrun, run_callFunc hC hsg, Oper.upon_enter]
  refine (callK_sound hC hE h hid hx e).mono ?_
  rintro en w' ⟨v, x, s', G', rfl, h1, h2, h3⟩
  exact hk x v s' G' w' h1 h2 h3

theorem appendK_ne {id : Nat} {sl : TypeId} {x y : PV} {k : PV → St → Option R} (e : appendK C s id sl x y k = some r) : x ≠ .undef ∧ y ≠ .undef := by
  unfold appendK at e
  split at e
  · split at e
    · rcases cond_some e with ⟨_, e⟩ | ⟨_, e⟩
      · split at e
        · rename_i hm
          refine ⟨fun hx => ?_, fun hy => ?_⟩
          · subst hx; simp at e
          · subst hy; simp [moreOf] at hm
        · simp at e
      · simp at e
    · simp at e
  · simp at e
theorem maxF_ne : ∀ {ps : List PV} {kd : IntKind} {x : Int} {p : PV}, maxF kd x ps = some p → ∀ q ∈ ps, q ≠ .undef
  | [], _, _, _, _, q, h => by simp at h
  | q :: ps, kd, x, p, e, q', h => by
    cases q <;> simp only [maxF] at e <;> try (simp at e; done)
    rcases List.mem_cons.1 h with rfl | h
    · simp
    · exact maxF_ne e q' h
theorem minF_ne : ∀ {ps : List PV} {kd : IntKind} {x : Int} {p : PV}, minF kd x ps = some p → ∀ q ∈ ps, q ≠ .undef
  | [], _, _, _, _, q, h => by simp at h
  | q :: ps, kd, x, p, e, q', h => by
    cases q <;> simp only [minF] at e <;> try (simp at e; done)
    rcases List.mem_cons.1 h with rfl | h
    · simp
    · exact minF_ne e q' h
theorem maxL_sound {P : Program} (h : Sim E G s a w) {xs : List Operand} {ats : Array TypeId} {ty : TypeId} {p : PV} (e : maxL (xs.map fun x => (s.ev x).pv) = some p) : ∃ v, (Builtin.max_ ats ty (xs.map a.eval).toArray).run P w = .ok v w ∧ RepC G.S G.σ w p [v] := by
  cases xs with
  | nil => simp [maxL] at e
  | cons x xs =>
    simp only [List.map_cons] at e ⊢
    cases hx : (s.ev x).pv <;> rw [hx] at e <;> simp only [maxL] at e <;> try (simp at e; done)
    have hv := int_of (x := .undef) (pv_rep h x hx (by simp))
    obtain ⟨v, h1, h2⟩ := maxF_sound (P := P) _ _ _ _ _ (pvs_all h xs fun y hy => maxF_ne e _ (List.mem_map.2 ⟨y, hy, rfl⟩)) e
    exact ⟨v, by simp only [Builtin.max_, hv]; exact h1, h2⟩
theorem minL_sound {P : Program} (h : Sim E G s a w) {xs : List Operand} {ats : Array TypeId} {ty : TypeId} {p : PV} (e : minL (xs.map fun x => (s.ev x).pv) = some p) : ∃ v, (Builtin.min_ ats ty (xs.map a.eval).toArray).run P w = .ok v w ∧ RepC G.S G.σ w p [v] := by
  cases xs with
  | nil => simp [minL] at e
  | cons x xs =>
    simp only [List.map_cons] at e ⊢
    cases hx : (s.ev x).pv <;> rw [hx] at e <;> simp only [minL] at e <;> try (simp at e; done)
    have hv := int_of (x := .undef) (pv_rep h x hx (by simp))
    obtain ⟨v, h1, h2⟩ := minF_sound (P := P) _ _ _ _ _ (pvs_all h xs fun y hy => minF_ne e _ (List.mem_map.2 ⟨y, hy, rfl⟩)) e
    exact ⟨v, by simp only [Builtin.min_, hv]; exact h1, h2⟩

theorem do_sound (hC : C.OK) (hE : EnvOK C env) (h : Sim E G s a w) {id : Nat} (hid0 : id % 64 = 0) {k : SV → St → Option R} (e : doK C env id o.op s k = some r) (hk : Cont E a o k r next) : o.wp C.P a w next Q := by
  have hid : id % 64 ≠ 63 := by omega
  have pure1 : ∀ {x : SV} {v : Value}, execOp a.eval o = pure (.value v) → RepS G.S G.σ w x v → k x s = some r → o.wp C.P a w next Q := by
    intro x v ho hx e
    unfold Oper.wp
    rw [ho]
    simp only [Sem.run_pure]
    exact hk x v s G w hx h e
  cases hop : o.op <;> rw [hop] at e <;> simp only [doK] at e <;> try (simp at e; done)
  case move x => exact pure1 (by simp [execOp, hop]) (ev_rep h x rfl) e
  case assign x => exact pure1 (by simp [execOp, hop]) (ev_rep h x rfl) e
  case pick c x y =>
    have hd := pickK_sound (P := C.P) h (ev_rep h c rfl) (ev_rep h x rfl) (ev_rep h y rfl) e
    exact wp_of_done (by simp [execOp, hop]) hd hk
  case alloc t =>
    split at e
    · rename_i I hI
      exact wp_of_done (by simp [execOp, hop]) (alloc_sound hC h hI hid e) hk
    · simp at e
  case box t x =>
    split at e
    · rename_i I cs hI hcs
      rcases cond_some e with ⟨_, e⟩ | ⟨_, e⟩
      · exact wp_of_done (by simp [execOp, hop]) (box_sound (t := t) h hid (ev_rep h x rfl) hcs e) hk
      · simp at e
    · simp at e
  case build t ps =>
    split at e
    · rename_i I hI
      split at e
      · rename_i pl hpl
        split at e
        · rename_i cs hcs
          exact wp_of_done (by simp [execOp, hop]) (build_sound hC h hI (fun _ _ => rfl) hpl hcs e) hk
        · simp at e
      · simp at e
    · simp at e
  case buildSlice t n ps =>
    split at e
    · rename_i q _ _ _ _ hI
      split at e
      · rename_i Q' hQ
        split at e
        · rename_i xs hxs
          rcases cond_some e with ⟨hb, e⟩ | ⟨_, e⟩
          · simp only [Bool.and_eq_true] at hb
            obtain ⟨⟨h1, h2⟩, h3⟩ := hb
            exact wp_of_done (by simp [execOp, hop]) (buildSlice_sound hC h hI rfl hQ hid (fun _ _ => rfl) hxs (Nat.eq_of_beq_eq_true h1) (Nat.le_of_ble_eq_true h2) (Nat.le_of_ble_eq_true h3) e) hk
          · simp at e
        · simp at e
      · simp at e
    · simp at e
  case load t x =>
    split at e
    · rename_i p hp
      by_cases hu : p = .undef
      · subst hu; exfalso; unfold loadK at e; split at e <;> simp [St.look] at e
      · exact wp_of_done (by simp [execOp, hop]) (loadK_sound hC h (RepS.of_v (ev_v h hp) hu) e) hk
    · simp at e
  case store t x y =>
    split at e
    · rename_i p hp
      by_cases hu : p = .undef
      · subst hu; exfalso; unfold storeK at e; split at e <;> simp at e
      · obtain ⟨G', s', w', h1, h2, h3⟩ := storeK_sound hC h (RepS.of_v (ev_v h hp) hu) (ev_rep h y rfl) e
        unfold Oper.wp
        have : execOp a.eval o = (do Instr.storeAt t (a.eval x) (a.eval y); pure .skip) := by simp [execOp, hop]
        rw [this]
        simp only [Sem.run_bind, h1, Result.andThen_ok, Sem.run_pure]
        exact hk (.v .undef) undef s' G' w' trivial h2 h3
    · simp at e
  case nilCheck x =>
    split at e
    · rename_i i j hp
      have hr := ev_v h hp
      obtain ⟨b, q, hσ, hv⟩ := RepS.of_v hr (by simp)
      simp only [List.cons.injEq, and_true] at hv
      exact pure1 (by simp [execOp, hop, hv]) hr e |> fun x => by rw [hv] at hr; exact pure1 (by simp [execOp, hop, hv]) hr e
    · rename_i i j q hp
      have hr := ev_v h hp
      obtain ⟨b, n, c, z, hσ, h0, h1, hv, hz⟩ := RepS.of_v hr (by simp)
      simp only [List.cons.injEq, and_true] at hv
      rw [hv] at hr
      exact pure1 (by simp [execOp, hop, hv]) hr e
    · rename_i τ x' q hp
      have hr := ev_v h hp
      obtain ⟨b, n, us, hS, h0, h1, hv⟩ := RepS.of_v hr (by simp)
      simp only [List.cons.injEq, and_true] at hv
      rw [hv] at hr
      exact pure1 (by simp [execOp, hop, hv]) hr e
    · simp at e
  case binOp op t x y yt =>
    split at e
    · rename_i p q hp hq
      have hd := boolK_sound hC x y (RepS.of_v (ev_v h hp) (by simp)) (RepS.of_v (ev_v h hq) (by simp)) e
      exact wp_of_done (by simp [execOp, hop]) (Done.ofPV h hd) hk
    · rename_i p q _ hp hq
      by_cases hu : p = .undef
      · subst hu; simp [binK] at e
      by_cases hu' : q = .undef
      · subst hu'; exfalso; cases p <;> simp [binK] at e
      have hd := binK_sound (P := C.P) t x y (RepS.of_v (ev_v h hp) hu) (RepS.of_v (ev_v h hq) hu') e
      exact wp_of_done (by simp [execOp, hop]) (Done.ofPV h hd) hk
    · simp at e
  case unOp op t x =>
    split at e
    · rename_i p hp
      by_cases hu : p = .undef
      · subst hu; exfalso; cases op <;> simp [unK] at e
      exact wp_of_done (by simp [execOp, hop]) (Done.ofPV h (unK_sound (P := C.P) (RepS.of_v (ev_v h hp) hu) e)) hk
    · simp at e
  case convert src dst x =>
    split at e
    · rename_i p hp
      rcases cond_some e with ⟨hc, e⟩ | ⟨_, e⟩
      · by_cases hu : p = .undef
        · subst hu; simp [bytesK] at e
        exact wp_of_done (by simp [execOp, hop]) (bytesK_sound hC h (RepS.of_v (ev_v h hp) hu) e) hk
      · by_cases hu : p = .undef
        · subst hu; exfalso; unfold convK at e; split at e <;> simp_all [St.asList]
        exact wp_of_done (by simp [execOp, hop]) (Done.ofPV h (convK_sound hC h (RepS.of_v (ev_v h hp) hu) e)) hk
    · simp at e
  case makeFunc fn first captured =>
    cases fn <;> simp only [] at e <;> try (simp at e; done)
    rename_i f
    split at e
    · rename_i h1 h2
      have e1 : first = #[] := by simpa using h1
      have e2 : captured = #[] := by simpa using h2
      exact wp_of_done (X := pure (.func (.func f) #[] #[])) (by simp [execOp, hop, Instr.makeFunc, e1, e2]) (Done.pure (x := .v (.fn f .unit ())) h (by simp) (RepS.v ⟨[], rfl, rfl⟩) e) hk
    · rename_i x h1 h2
      have e1 : first = #[] := by simpa using h1
      have e2 : captured = #[x] := by apply Array.toList_inj.1; simpa using h2
      split at e
      · rename_i t hp
        have hv := str_of (RepS.of_v (ev_v h hp) (by simp))
        exact wp_of_done (X := pure (.func (.func f) #[] #[a.eval x])) (by simp [execOp, hop, Instr.makeFunc, e1, e2]) (Done.pure (v := .func (.func f) #[] #[a.eval x]) (x := .v (.fn f .str t)) h (by simp) (RepS.v ⟨[.string t], rfl, by rw [hv]⟩) e) hk
      · rename_i kd n hp
        have hv := int_of (x := .undef) (RepS.of_v (ev_v h hp) (by simp))
        exact wp_of_done (X := pure (.func (.func f) #[] #[a.eval x])) (by simp [execOp, hop, Instr.makeFunc, e1, e2]) (Done.pure (v := .func (.func f) #[] #[a.eval x]) (x := .v (.fn f (.int kd) n)) h (by simp) (RepS.v ⟨[.int kd n], rfl, by rw [hv]⟩) e) hk
      · simp at e
    · simp at e
  case slice t x lo hi mx =>
    cases mx with
    | some _ => simp at e
    | none => exact wp_of_done (by simp [execOp, hop]) (sliceK_sound hC h (by cases lo <;> rfl) (by cases hi <;> rfl) (ev_rep h x rfl) e) hk
  case fieldAddr t x f =>
    split at e
    · rename_i p off size hp hf
      rcases cond_some e with ⟨h1, e⟩ | ⟨_, e⟩
      · split at e
        · rename_i q hq
          by_cases hu : p = .undef
          · subst hu; simp [movePtr] at hq
          obtain ⟨b, q0, hv, hr⟩ := movePtr_rep (RepS.of_v (ev_v h hp) hu) hq
          exact wp_of_done (X := Instr.fieldAt t (a.eval x) f) (by simp [execOp, hop]) (Done.pure h (by rw [hv]; exact fieldAddr_run hC hf (Nat.le_of_ble_eq_true h1) b q0) (RepS.v hr) e) hk
        · simp at e
      · simp at e
    · simp at e
  case field t x f =>
    split at e
    · rename_i cs off size agg hp hf hg
      split at e
      · rename_i c hcut
        have hr := ev_rep h x rfl
        rw [hp] at hr
        obtain ⟨vs, hv, hc⟩ := hr
        obtain ⟨g1, g2, g3⟩ := RepCs.cut hc hcut
        have hrun := field_run (w := w) hC hf hg g3
        rcases cond_some e with ⟨ha, e⟩ | ⟨ha, e⟩
        · exact wp_of_done (X := Instr.field t (a.eval x) f) (by simp [execOp, hop]) (Done.pure (x := .agg c) h (by rw [hv]; exact hrun.1 ha) ⟨_, rfl, g1⟩ e) hk
        · split at e
          · rename_i c0 _
            rcases cond_some e with ⟨hw, e⟩ | ⟨_, e⟩
            · obtain ⟨u, v, e1, hu, hv'⟩ := g1
              cases hv'
              have hl := RepC.length hu
              rw [Nat.eq_of_beq_eq_true hw] at hl
              obtain ⟨y, rfl⟩ := List.length_eq_one_iff.1 hl
              exact wp_of_done (X := Instr.field t (a.eval x) f) (by simp [execOp, hop]) (Done.pure h (by rw [hv]; exact hrun.2 ha y (by simpa using e1)) (RepS.v hu) e) hk
            · simp at e
          · simp at e
      · simp at e
    · simp at e
  case indexAddr t x i =>
    have hi : (s.ev i).pv ≠ .undef := fun hh => by rw [hh] at e; simp [indexAddrK] at e
    have hd := indexAddrK_sound hC h (ev_rep h x rfl) (RepS.v (pv_rep h i rfl hi)) e
    exact wp_of_done (by simp [execOp, hop]) (Done.ofPV h hd) hk
  case index t x i =>
    split at e
    · rename_i u kd n hp hq
      rcases cond_some e with ⟨h1, e⟩ | ⟨_, e⟩
      · rcases cond_some e with ⟨h2, e⟩ | ⟨_, e⟩
        · have hv := str_of (RepS.of_v (ev_v h hp) (by simp))
          have hw := int_of (x := .undef) (RepS.of_v (ev_v h hq) (by simp))
          exact wp_of_done (X := Instr.index t (a.eval x) (a.eval i)) (by simp [execOp, hop]) (Done.pure (x := .v (.int .u8 (bt u n))) h (by rw [hv, hw]; exact index_run hC h1 h2) (RepS.v rfl) e) hk
        · simp at e
      · simp at e
    · simp at e
  case extract t i =>
    exact wp_of_done (by simp [execOp, hop]) (extractK_sound (P := C.P) h (ev_rep h t rfl) e) hk
  case call c =>
    obtain ⟨callee, args, argTypes⟩ := c
    have hargs := evs_all h args.toList
    have harr : (args.toList.map a.eval).toArray = args.map a.eval := by apply Array.toList_inj.1; simp
    split at e
    · rename_i f hcal
      simp only at hcal
      subst hcal
      exact call_wp hC hE h hid0 hargs e hk (by rw [harr]; simp [execOp, hop, resolve, Deferred.ofValue, invoke, Act.eval])
    · rename_i f _ hcal
      simp only at hcal
      subst hcal
      unfold fnK at e
      split at e
      · rename_i g τ y hp
        rcases cond_some e with ⟨hw, e⟩ | ⟨_, e⟩
        · have hr := ev_rep h f rfl
          rw [hp] at hr
          obtain ⟨us, hT, hv⟩ := RepS.of_v hr (by simp)
          simp only [List.cons.injEq, and_true] at hv
          have hall := cells_all (inj_rep (σ := G.σ) τ y us hT) (fun p hp => Nat.eq_of_beq_eq_true (List.all_eq_true.1 hw p hp))
          exact call_wp hC hE h hid0 (hargs.append hall) e hk (by rw [← List.append_toArray, harr]; simp [execOp, hop, resolve, Deferred.ofValue, invoke, hv])
        · simp at e
      · simp at e
    · rename_i hcal
      simp only at hcal
      subst hcal
      split at e
      · rename_i x t h1 h2
        have e1 : args = #[x] := by apply Array.toList_inj.1; simpa using h1
        have e2 : argTypes = #[t] := by apply Array.toList_inj.1; simpa using h2
        exact wp_of_done (by simp [execOp, hop, resolve, invoke, builtin, e1, e2]) (Done.ofPV h (lenK_sound (ty := o.type) hC h (ev_rep h x rfl) e)) hk
      · simp at e
    · rename_i hcal
      simp only at hcal
      subst hcal
      split at e
      · rename_i x y t t' h1 h2
        have e1 : args = #[x, y] := by apply Array.toList_inj.1; simpa using h1
        have e2 : argTypes = #[t, t'] := by apply Array.toList_inj.1; simpa using h2
        rcases cond_some e with ⟨_, e0⟩ | ⟨ht, e0⟩
        · simp at e0
        · have ht : t = t' := by
            cases hb : Nat.beq t t' with
            | true => exact Nat.eq_of_beq_eq_true hb
            | false => rw [hb] at ht; simp at ht
          subst ht
          clear e
          have e := e0
          have hne := appendK_ne e
          exact wp_of_done (by simp [execOp, hop, resolve, invoke, builtin, e1, e2]) (appendK_sound (ty := o.type) hC h hid (pv_rep h x rfl hne.1) (pv_rep h y rfl hne.2) e) hk
      · simp at e
    · rename_i hcal
      simp only at hcal
      subst hcal
      split at e
      · rename_i p hp
        obtain ⟨v, h1, h2⟩ := maxL_sound (P := C.P) (ats := argTypes) (ty := o.type) h hp
        rw [harr] at h1
        exact wp_of_done (X := Builtin.max_ argTypes o.type (args.map a.eval)) (by simp [execOp, hop, resolve, invoke, builtin]) (Done.pure h h1 (RepS.v h2) e) hk
      · simp at e
    · rename_i hcal
      simp only at hcal
      subst hcal
      split at e
      · rename_i p hp
        obtain ⟨v, h1, h2⟩ := minL_sound (P := C.P) (ats := argTypes) (ty := o.type) h hp
        rw [harr] at h1
        exact wp_of_done (X := Builtin.min_ argTypes o.type (args.map a.eval)) (by simp [execOp, hop, resolve, invoke, builtin]) (Done.pure h h1 (RepS.v h2) e) hk
      · simp at e
    · simp at e
end Go.Pr
