/- Calls: the caller's side. -/
import Derived.Test.YtpfplngeakmghaaPrM
namespace Go.Pr
set_option linter.unusedVariables false
variable {S S' : Nat → Prop} {σ σ' : Sg} {w w' : World} {E : En} {G : Gh} {s s' : St} {a : Act} {C : Cfg} {R : Type} {r : R}

theorem TupV.length : ∀ {sh : List (Nat × Bool)} {us xs : List Value}, TupV sh us xs → us.length = (sh.map (·.1)).foldr (· + ·) 0 ∧ xs.length = sh.length := by
  intro sh
  induction sh with
  | nil => intro us xs h; obtain ⟨rfl, rfl⟩ := h; exact ⟨rfl, rfl⟩
  | cons q sh ih =>
    intro us xs h
    obtain ⟨u, v, y, ys, rfl, rfl, hl, _, _, h⟩ := h
    obtain ⟨h1, h2⟩ := ih h
    refine ⟨?_, by simp [h2]⟩
    rw [List.length_append, h1, hl]; rfl

theorem still_box : ∀ {os : List PV} {s : St} {id : Nat} {cs : List PV}, s.mem id = some (.box cs) → ∃ cs', (s.still os).mem id = some (.box cs')
  | [], s, id, cs, h => ⟨cs, h⟩
  | p :: os, s, id, cs, h => by
    cases p <;> simp only [St.still] <;> try exact still_box h
    case own j =>
      have : ∃ cs', (s.freeze j).mem id = some (.box cs') := by
        unfold St.freeze
        split
        · rename_i hm
          have hne : id ≠ j := fun e => by rw [e, hm] at h; simp at h
          simp only [beq_ne hne, cond_false, h, Option.map_some, Blk.map]
          exact ⟨_, rfl⟩
        · exact ⟨cs, h⟩
      obtain ⟨cs', h'⟩ := this
      exact still_box h'

theorem resSV_rep {sg : Sig} {cs : List PV} {us ms xs : List Value} {x : SV} (hc : RepCs S σ w cs (us ++ ms)) (ht : TupV sg.shape us xs) (e : resSV sg.res cs = some x) : RepS S σ w x (oneOf xs) := by
  have hlen := ht.length.1
  unfold resSV at e
  split at e
  · rename_i hres
    simp only [Sig.shape, hres, List.map_nil] at ht
    obtain ⟨rfl, rfl⟩ := ht
    simp only [Option.some.injEq] at e
    subst e
    exact ⟨[], rfl, [], rfl, rfl, rfl⟩
  · rename_i τ hres
    simp only [Sig.shape, hres, List.map_cons, List.map_nil] at ht
    obtain ⟨u, v, y, ys, rfl, rfl, hl, h1, _, rfl, rfl⟩ := ht
    split at e
    · rename_i c hc'
      simp only [Option.some.injEq] at e
      subst e
      have := (RepCs.take hc hc').1
      rw [List.append_nil, List.take_append_of_le_length (by omega), List.take_of_length_le (by omega)] at this
      exact ⟨u, h1 rfl, this⟩
    · simp at e
  · rename_i τ hres
    simp only [Sig.shape, hres, List.map_cons, List.map_nil] at ht
    obtain ⟨u, v, y, ys, rfl, rfl, hl, _, h2, rfl, rfl⟩ := ht
    split at e
    · rename_i c hc'
      simp only [Option.some.injEq] at e
      subst e
      have := (RepCs.take hc hc').1
      rw [List.append_nil, List.take_append_of_le_length (by omega), List.take_of_length_le (by omega), h2 rfl] at this
      obtain ⟨p, q, e1, hp, hq⟩ := this
      cases hq
      simp only [List.append_nil] at e1
      subst e1
      exact RepS.v hp
    · simp at e
  · rename_i h1 h2 h3
    split at e
    · rename_i c hc'
      simp only [Option.some.injEq] at e
      subst e
      have h4 := (RepCs.take hc hc').1
      have hsum : (sg.res.map (·.1.size)).foldr (· + ·) 0 = us.length := by rw [hlen]; simp [Sig.shape, List.map_map, Function.comp_def]
      rw [hsum, List.take_left] at h4
      have hx : oneOf xs = .tuple xs.toArray := by
        have hl2 := ht.length.2
        match xs, hl2 with
        | [], _ => rfl
        | [y], hl2 =>
          exfalso
          simp only [Sig.shape, List.length_map, List.length_singleton] at hl2
          match hr : sg.res, hl2 with
          | [(τ, true)], _ => exact h2 τ hr
          | [(τ, false)], _ => exact h3 τ hr
        | y :: z :: xs, _ => rfl
      rw [hx]
      exact ⟨xs, rfl, us, h4, ht⟩
    · simp at e

theorem injF_ids {id : Nat} : ∀ (τ : Ty) (fl : Fl) (x : τ.den) (j : Nat), ∀ p ∈ injF id τ fl x j, ∀ i ∈ p.ids, id + j ≤ i ∧ i < id + j + fl.count := by
  intro τ
  induction τ with
  | list e _ =>
    intro fl x j p hp i hi
    cases fl with
    | own T => simp only [injF, List.mem_singleton] at hp; subst hp; simp only [PV.ids, List.mem_singleton] at hi; subst hi; simp only [Fl.count]; omega
    | _ => simp only [injF] at hp; rw [inj_ids _ _ p hp] at hi; simp at hi
  | pair a b iha ihb =>
    intro fl x j p hp i hi
    cases fl with
    | pair f g =>
      simp only [injF, List.mem_append] at hp
      simp only [Fl.count]
      rcases hp with hp | hp
      · have := iha f x.1 j p hp i hi; omega
      · have := ihb g x.2 _ p hp i hi; omega
    | _ => simp only [injF] at hp; rw [inj_ids _ _ p hp] at hi; simp at hi
  | _ => intro fl x j p hp i hi; simp only [injF] at hp; rw [inj_ids _ _ p hp] at hi; simp at hi

theorem injF_plain {id : Nat} : ∀ (τ : Ty) (fl : Fl) (x : τ.den) (j : Nat), τ.lists = false → injF id τ fl x j = inj τ x := by
  intro τ
  induction τ with
  | list e _ => intro fl x j h; simp [Ty.lists] at h
  | pair a b iha ihb =>
    intro fl x j h
    simp only [Ty.lists, Bool.or_eq_false_iff] at h
    cases fl with
    | pair f g => simp only [injF, inj]; rw [iha f x.1 j h.1, ihb g x.2 _ h.2]
    | _ => rfl
  | _ => intro fl x j h; rfl
theorem newF_plain {id : Nat} : ∀ (τ : Ty) (fl : Fl) (x : τ.den) (j : Nat) (s : St), τ.lists = false → newF id τ fl x j s = some s := by
  intro τ
  induction τ with
  | list e _ => intro fl x j s h; simp [Ty.lists] at h
  | pair a b iha ihb =>
    intro fl x j s h
    simp only [Ty.lists, Bool.or_eq_false_iff] at h
    cases fl with
    | pair f g => simp only [newF]; rw [iha f x.1 j s h.1]; exact ihb g x.2 _ s h.2
    | _ => rfl
  | _ => intro fl x j s h; rfl

/-- The slices of a result that are nobody else's become the call's own. -/
theorem newF_sound {lo id : Nat} (hid : id % 64 = 0) (hlo : E.W.heap.size ≤ lo) : ∀ (τ : Ty) (fl : Fl) (x : τ.den) (us : List Value) (B B' : List Nat) (j : Nat) {G : Gh} {s s' : St}, Sim E G s a w → RepF G.S w lo τ fl x us B B' →
    (∀ i bi, s.mem i = some bi → ∀ k, blockOf (G.σ i).v = some k → k < lo ∨ k ∈ B) → newF id τ fl x j s = some s' →
    ∃ σ', Sim E ⟨G.S, σ'⟩ s' a w ∧ RepCs G.S σ' w (injF id τ fl x j) us ∧ (∀ i bi, s'.mem i = some bi → ∀ k, blockOf (σ' i).v = some k → k < lo ∨ k ∈ B') ∧ (∀ i, (i < id + j ∨ id + j + fl.count ≤ i) → σ' i = G.σ i) := by
  have plain : ∀ (τ : Ty) (x : τ.den) (us : List Value) (B B' : List Nat) {G : Gh} {s s' : St} {fl : Fl} {j : Nat}, Sim E G s a w → (RepT G.S w τ x us ∧ B' = B) →
      (∀ i bi, s.mem i = some bi → ∀ k, blockOf (G.σ i).v = some k → k < lo ∨ k ∈ B) → some s = some s' →
      ∃ σ', Sim E ⟨G.S, σ'⟩ s' a w ∧ RepCs G.S σ' w (inj τ x) us ∧ (∀ i bi, s'.mem i = some bi → ∀ k, blockOf (σ' i).v = some k → k < lo ∨ k ∈ B') ∧ (∀ i, (i < id + j ∨ id + j + fl.count ≤ i) → σ' i = G.σ i) := by
    intro τ x us B B' G s s' fl j h hr hb e
    simp only [Option.some.injEq] at e
    subst e
    obtain ⟨hr, rfl⟩ := hr
    exact ⟨G.σ, h, inj_rep _ _ _ hr, hb, fun _ _ => rfl⟩
  intro τ
  induction τ with
  | list e _ =>
    intro fl x us B B' j G s s' h hr hb e0
    cases fl with
    | own T =>
      obtain ⟨v, rfl, ⟨hpos, vs, hrows, hown⟩, rfl, hk⟩ := hr
      simp only [newF] at e0
      rcases cond_some e0 with ⟨hj, e0⟩ | ⟨_, e0⟩
      · simp only [Option.some.injEq] at e0
        subst e0
        have hj : j < 63 := Nat.le_of_ble_eq_true hj
        have hsl : ∃ p n c, v = .slice p n c := by
          rcases hown.2 with ⟨hh, _⟩ | ⟨g, cap, cur, hh, _⟩ <;> exact ⟨_, _, _, hh⟩
        refine ⟨upd G.σ (id + j) ⟨v, T, e.size⟩, h.fresh (id + j) (.rows T e x) ⟨v, T, e.size⟩ (blockOf v) rfl rfl rfl (Nat.le_refl _) (fun _ _ _ => rfl) (fun k hk' => ?_) (fun k hk' => ⟨.inr hk', (hk k hk').2.2.1⟩) (by omega) ?_, ?_, fun i bi hi k hk' => ?_, fun i hi => ?_⟩
        · obtain ⟨h1, h2, h3, h4⟩ := hk k hk'
          refine ⟨h1, Nat.le_trans hlo h2, fun i bi hi e1 => ?_⟩
          rcases hb i bi hi k e1 with h5 | h5
          · omega
          · exact h4 h5
        · simp only [Blk.map, RepB, upd_same]
          exact ⟨vs, hrows, hown, by trivial, hpos⟩
        · refine ⟨[v], [], rfl, ⟨by rw [upd_same], by rw [upd_same]; exact hsl⟩, rfl⟩
        · rcases setM_some hi with ⟨rfl, rfl⟩ | ⟨hne, hi⟩
          · rw [upd_same] at hk'
            simp only at hk'
            exact .inr (by rw [hk']; simp)
          · rw [upd_ne hne] at hk'
            obtain ⟨b0, h0, rfl⟩ := mapB_some hi
            exact (hb i b0 h0 k hk').imp (fun x => x) fun h5 => by simp [h5]
        · simp only [Fl.count] at hi
          exact upd_ne (by omega)
      · simp at e0
    | no => exact plain (.list e) x us B B' h hr hb e0
    | pair f g => exact plain (.list e) x us B B' h hr hb e0
  | pair a' b' iha ihb =>
    intro fl x us B B' j G s s' h hr hb e0
    cases fl with
    | pair f g =>
      obtain ⟨u, v, B1, rfl, hr1, hr2⟩ := hr
      simp only [newF] at e0
      split at e0
      · rename_i s1 hs1
        obtain ⟨σ1, h1, c1, b1, k1⟩ := iha f x.1 u B B1 j h hr1 hb hs1
        obtain ⟨σ2, h2, c2, b2, k2⟩ := ihb g x.2 v B1 B' (j + f.count) h1 hr2 b1 e0
        refine ⟨σ2, h2, ?_, b2, fun i hi => ?_⟩
        · simp only [injF]
          refine RepRows.append (RepCs.keep (fun _ x => x) (fun _ _ => rfl) (fun p hp i hi => ?_) c1) c2
          have := injF_ids _ _ _ _ p hp i hi
          exact k2 i (.inl (by omega))
        · simp only [Fl.count] at hi
          rw [k2 i (by omega)]
          exact k1 i (by omega)
      · simp at e0
    | no => exact plain (.pair a' b') x us B B' h hr hb e0
    | own T => exact plain (.pair a' b') x us B B' h hr hb e0
  | _ => intro fl x us B B' j G s s' h hr hb e0; exact plain _ x us B B' h hr hb e0

theorem back_mem : ∀ {ms : List (PV × Ty)} {s s' : St} {cells : List PV}, backK s ms cells = some s' → ∀ i bi, s'.mem i = some bi → ∃ b1, s.mem i = some b1
  | [], s, s', cells, e, i, bi, h => by simp only [backK, Option.some.injEq] at e; subst e; exact ⟨bi, h⟩
  | (p, τ) :: ms, s, s', cells, e, i, bi, h => by
    cases p <;> simp only [backK] at e <;> try (simp at e; done)
    rename_i id off
    split at e
    · split at e
      · rename_i old hold
        split at e
        · obtain ⟨b1, h1⟩ := back_mem e i bi h
          rcases setM_some h1 with ⟨rfl, _⟩ | ⟨_, h1⟩
          · exact ⟨_, hold⟩
          · exact ⟨b1, h1⟩
        · simp at e
      · simp at e
    · simp at e

theorem injF_rep {lo id : Nat} : ∀ (τ : Ty) (fl : Fl) (x : τ.den) (us : List Value) (B B' : List Nat) (j : Nat) (σ : Sg), RepF S w lo τ fl x us B B' →
    ∃ σ', RepCs S σ' w (injF id τ fl x j) us ∧ (∀ i, (i < id + j ∨ id + j + fl.count ≤ i) → σ' i = σ i) := by
  have plain : ∀ (τ : Ty) (x : τ.den) (us : List Value) (B B' : List Nat) {fl : Fl} {j : Nat} (σ : Sg), (RepT S w τ x us ∧ B' = B) → ∃ σ', RepCs S σ' w (inj τ x) us ∧ (∀ i, (i < id + j ∨ id + j + fl.count ≤ i) → σ' i = σ i) :=
    fun τ x us B B' fl j σ hr => ⟨σ, inj_rep _ _ _ hr.1, fun _ _ => rfl⟩
  intro τ
  induction τ with
  | list e _ =>
    intro fl x us B B' j σ hr
    cases fl with
    | own T =>
      obtain ⟨v, rfl, ⟨hpos, vs, hrows, hown⟩, rfl, hk⟩ := hr
      have hsl : ∃ p n c, v = .slice p n c := by
        rcases hown.2 with ⟨hh, _⟩ | ⟨g, cap, cur, hh, _⟩ <;> exact ⟨_, _, _, hh⟩
      refine ⟨upd σ (id + j) ⟨v, T, e.size⟩, ⟨[v], [], rfl, ⟨by rw [upd_same], by rw [upd_same]; exact hsl⟩, rfl⟩, fun i hi => ?_⟩
      simp only [Fl.count] at hi
      exact upd_ne (by omega)
    | no => exact plain (.list e) x us B B' σ hr
    | pair f g => exact plain (.list e) x us B B' σ hr
  | pair a' b' iha ihb =>
    intro fl x us B B' j σ hr
    cases fl with
    | pair f g =>
      obtain ⟨u, v, B1, rfl, hr1, hr2⟩ := hr
      obtain ⟨σ1, c1, k1⟩ := iha f x.1 u B B1 j σ hr1
      obtain ⟨σ2, c2, k2⟩ := ihb g x.2 v B1 B' (j + f.count) σ1 hr2
      refine ⟨σ2, ?_, fun i hi => ?_⟩
      · simp only [injF]
        refine RepRows.append (RepCs.keep (fun _ x => x) (fun _ _ => rfl) (fun p hp i hi => ?_) c1) c2
        have := injF_ids _ _ _ _ p hp i hi
        exact k2 i (.inl (by omega))
      · simp only [Fl.count] at hi
        rw [k2 i (by omega)]
        exact k1 i (by omega)
    | no => exact plain (.pair a' b') x us B B' σ hr
    | own T => exact plain (.pair a' b') x us B B' σ hr
  | _ => intro fl x us B B' j σ hr; exact plain _ x us B B' σ hr

theorem closed_ids {p : PV} (h : p.closed = true) : p.ids = [] := by cases p <;> first | rfl | simp [PV.closed] at h

theorem callK_sound (hC : C.OK) {env : C.Env} (hE : EnvOK C env) (h : Sim E G s a w) {id : Nat} (hid : id % 64 = 0) {g : FuncId} {xs : List SV} {vals : List Value} (hx : All2 (fun x v => RepS G.S G.σ w x v) xs vals) {k : SV → St → Option R} (e : callK C env id s g xs k = some r) :
    Calls C.P g vals.toArray w fun e w' => ∃ v x s' G', e = .returned v ∧ RepS (Gh.S G') (Gh.σ G') w' x v ∧ Sim E G' s' a w' ∧ k x s' = some r := by
  unfold callK at e
  split at e
  · rename_i sg hsg
    split at e
    · rename_i as ms os hargs
      rw [Option.bind_eq_some_iff] at e
      obtain ⟨q, hq, e⟩ := e
      obtain ⟨S', hS, hfr, hch, hsim⟩ := h.still (cs := os)
      have hS2 : ∀ i bi, s.mem i = some bi → (∃ cs, bi = .box cs) → ∀ k, blockOf (G.σ i).v = some k → ¬ S' k := by
        rintro i bi hi ⟨cs, rfl⟩ k hk hSk
        rcases hch k hSk with hh | ⟨j, T, τ, xs, _, hj, hkj⟩
        · exact (h.off i _ hi k hk).1 hh
        · have hne : i ≠ j := fun e => by rw [e, hj] at hi; simp at hi
          exact h.apart i j _ _ hi hj hne k hk hkj
      obtain ⟨L, hL, hA⟩ := argsOf_sound h hS hS2 hx hfr hargs
      have hap := argsOf_apart hargs
      have hbx := argsOf_mem hargs
      refine (hE g as q hq sg hsg S' w vals L hsim.old hA).mono ?_
      rintro en w' ⟨v, ys, us, mv, rfl, rfl, ht, hm, hT, hk, S'', B', hS1, hS3, hF⟩
      have hlen : (sg.res.map (·.1.size)).foldr (· + ·) 0 = us.length := by rw [ht.length.1]; simp [Sig.shape, List.map_map, Function.comp_def]
      by_cases hli : (C.resTy g).lists = true
      · simp only [hli, cond_true] at e
        split at e
        · rename_i x back hx1 hx2
          rcases cond_some e with ⟨hcl, e⟩ | ⟨_, e⟩
          · split at e
            · rename_i s1 hback
              split at e
              · rename_i s2 hnew
                obtain ⟨σ1, hc1, _⟩ := injF_rep (id := id) _ _ _ _ _ _ 0 G.σ hF
                have hb := RepCs.drop hc1 hx2
                rw [hlen, List.drop_left] at hb
                have hb' : RepCs S'' G.σ w' back mv := RepCs.keep (fun _ x => x) (fun _ _ => rfl) (fun p hp i hi => by rw [closed_ids (List.all_eq_true.1 hcl p hp)] at hi; simp at hi) hb
                have hsim2 := Sim.called (G := ⟨S', G.σ⟩) hsim hL hap (fun m hm id off e1 => by
                  obtain ⟨bi, hbi⟩ := hbx m hm e1
                  obtain ⟨l, hl, id', off', b, o, e2, e3, _⟩ := All2.mem_left hL hm
                  rw [e1] at e2
                  simp only [PV.ptr.injEq] at e2
                  obtain ⟨rfl, rfl⟩ := e2
                  cases bi with
                  | box cs => obtain ⟨cs', h'⟩ := still_box (os := os) hbi; exact ⟨_, h'⟩
                  | rows T τ xs =>
                    obtain ⟨_, _, ho, _⟩ := h.mem id _ hbi
                    rcases ho.2 with ⟨hh, _⟩ | ⟨_, _, _, hh, _⟩ <;> (rw [e3] at hh; simp at hh)) hk hS1 hS3 hb' hm hback
                obtain ⟨σ2, g1, g2, g3, g4⟩ := newF_sound (lo := w.heap.size) hid h.kept.size _ _ _ _ _ _ 0 hsim2 hF (fun i bi hi k hki => .inl (by
                  obtain ⟨b1, hb1⟩ := back_mem hback i bi hi
                  exact (hsim.off i b1 hb1 k hki).2)) hnew
                exact ⟨_, x, s2, ⟨S'', σ2⟩, rfl, resSV_rep g2 ht hx1, g1, e⟩
              · simp at e
            · simp at e
          · simp at e
        · simp at e
      · have hli : (C.resTy g).lists = false := by simpa using hli
        simp only [hli, cond_false] at e
        rw [injF_plain _ _ _ _ hli] at e
        have hT' : RepT (withNew G.S w w') w' (C.resTy g) q (us ++ mv) := RepT.free _ hli _ _ hT
        have hc : RepCs (withNew G.S w w') G.σ w' (inj (C.resTy g) q) (us ++ mv) := inj_rep _ _ _ hT'
        split at e
        · rename_i x back hx1 hx2
          rcases cond_some e with ⟨hcl, e⟩ | ⟨_, e⟩
          · split at e
            · rename_i s1 hback
              rw [newF_plain _ _ _ _ _ hli] at e
              have hb := RepCs.drop hc hx2
              rw [hlen, List.drop_left] at hb
              exact ⟨_, x, s1, ⟨withNew G.S w w', G.σ⟩, rfl, resSV_rep hc ht hx1, Sim.called h hL hap hbx hk (fun _ => .inl) (fun _ x => x) hb hm hback, e⟩
            · simp at e
          · simp at e
        · simp at e
    · simp at e
  · simp at e

theorem run_callFunc (hC : C.OK) {g : FuncId} {sg : Sig} (hsg : C.sig g = some sg) (args : Array Value) : (callFunc g args).run C.P w = .ok (.enter g args) w := by
  obtain ⟨F, h1, h2, h3⟩ := hC.call g sg hsg
  simp only [callFunc, program, Sem.run_bind]
  have : (Sem.program Sem.pure : Sem Program).run C.P w = .ok C.P w := rfl
  rw [this]
  simp only [Result.andThen_ok, h1, h3, Bool.false_eq_true, if_false]
  have : F.body.isNone = false := by cases hb : F.body <;> simp_all
  simp [this]
end Go.Pr
