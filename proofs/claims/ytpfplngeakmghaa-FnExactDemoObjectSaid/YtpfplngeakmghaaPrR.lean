/- Functions: the whole of a call. -/
import Derived.Test.YtpfplngeakmghaaPrX
namespace Go.Pr
set_option linter.unusedVariables false
variable {S S' : Nat → Prop} {σ σ' : Sg} {w w' : World} {E : En} {G : Gh} {s s' : St} {a : Act} {C : Cfg} {R : Type} {r : R}

theorem Sim.addBox (h : Sim E G s a w) {id b o : Nat} {cs : List PV} {vs : List Value} (hσ : (G.σ id).v = .pointer (some ⟨b, o, none⟩)) (hc : RepCs G.S G.σ w cs vs) (hr : w.rangeAt b o vs) (ht : w.there b o vs.length)
    (hb : ¬ G.S b ∧ b < w.heap.size) (hap : ∀ i bi, s.mem i = some bi → i ≠ id → blockOf (G.σ i).v ≠ some b) (hM : ∀ j, j < widthC cs → E.M b (o + j)) (hp : E.par id = .pointer (some ⟨b, o, none⟩)) : Sim E G (s.setM id (some (.box cs))) a w where
  defers := h.defers
  size := h.size
  tmp := h.tmp
  mem i c hc' := by
    rcases setM_some hc' with ⟨rfl, rfl⟩ | ⟨_, hc'⟩
    · exact ⟨b, o, vs, hσ, hc, hr, ht⟩
    · exact h.mem i c hc'
  apart i j bi bj hi hj hne k hk := by
    rcases setM_some hi with ⟨rfl, rfl⟩ | ⟨hi1, hi2⟩ <;> rcases setM_some hj with ⟨rfl, rfl⟩ | ⟨hj1, hj2⟩
    · exact absurd rfl hne
    · rw [hσ] at hk; simp only [blockOf, Option.some.injEq] at hk; subst hk
      exact hap j bj hj2 hj1
    · intro e; rw [hσ] at e; simp only [blockOf, Option.some.injEq] at e; subst e
      exact hap i bi hi2 hi1 hk
    · exact h.apart i j bi bj hi2 hj2 hne k hk
  off i bi hi k hk := by
    rcases setM_some hi with ⟨rfl, rfl⟩ | ⟨_, hi⟩
    · rw [hσ] at hk; simp only [blockOf, Option.some.injEq] at hk; subst hk; exact hb
    · exact h.off i bi hi k hk
  old := h.old
  kept := h.kept
  sub := h.sub
  new := h.new
  mine i bi hi := by
    rcases setM_some hi with ⟨rfl, rfl⟩ | ⟨_, hi⟩
    · exact .inr ⟨cs, b, o, rfl, hσ, hM⟩
    · exact h.mine i bi hi
  sep := h.sep
  par i bi h63 hi := by
    rcases setM_some hi with ⟨rfl, rfl⟩ | ⟨_, hi⟩
    · rw [hσ, hp]
    · exact h.par i bi h63 hi

theorem ArgsRep.off {ps : List PK} {xs : List SV} {vs : List Value} {L : List (Nat × Nat × Ty)} (h : ArgsRep S w ps xs vs L) : ∀ l ∈ L, ¬ S l.1 ∧ l.1 < w.heap.size := by
  induction h with
  | nil => intro l hl; simp at hl
  | val _ _ _ ih => exact ih
  | var _ _ _ hb _ _ ih =>
    intro l hl
    rcases List.mem_cons.1 hl with rfl | hl
    · exact hb
    · exact ih l hl

theorem ArgsRep.len {ps : List PK} {xs : List SV} {vs : List Value} {L : List (Nat × Nat × Ty)} (h : ArgsRep S w ps xs vs L) : vs.length = ps.length := by
  induction h with
  | nil => rfl
  | val _ _ _ ih => simp [ih]
  | var _ _ _ _ _ _ ih => simp [ih]

def σP (vals : List Value) : Sg := fun id => ⟨vals.getD (id / 64) undef, 0, 0⟩

theorem enter_sound {vals : List Value} {L0 : List (Nat × Nat × Ty)} (hE : E.M = InL L0) (hP : ∀ id, E.par id = vals.getD (id / 64) undef) (ha : ∀ i, a.tmps.getD i undef = vals.getD i undef) {ps : List PK} {xs : List SV} {vs : List Value} {L : List (Nat × Nat × Ty)} (h : ArgsRep S w ps xs vs L) :
    ∀ {i : Nat} {s s' : St}, enter ps xs i s = some s' → Sim E ⟨S, σP vals⟩ s a w → (∀ j v, vs[j]? = some v → vals[i + j]? = some v) → (∀ l ∈ L, l ∈ L0) →
      (∀ id bi, s.mem id = some bi → id < 64 * i) → (∀ id bi, s.mem id = some bi → ∀ k, blockOf (σP vals id).v = some k → ∀ l ∈ L, l.1 ≠ k) → Sim E ⟨S, σP vals⟩ s' a w := by
  induction h with
  | nil =>
    intro i s s' e hs _ _ _ _
    simp only [enter, Option.some.injEq] at e
    subst e; exact hs
  | @val o ps xs vs L x v hx hi t ih =>
    intro i s s' e hs hv hL hm hb
    simp only [enter] at e
    have hvi : vals.getD i undef = v := by have := hv 0 v (by simp); simp at this; simp [List.getD_eq_getElem?_getD, this]
    refine ih e (hs.put' (d := i) (x := x) ?_) (fun j u hu => ?_) hL (fun id bi h => ?_) hb
    · rw [ha, hvi]
      exact RepS.keep (fun _ x => x) (fun _ _ => rfl) (fun j hj => by rw [hi] at hj; simp at hj) hx
    · have := hv (j + 1) u (by simpa using hu)
      rw [show i + 1 + j = i + (j + 1) by omega]; exact this
    · have := hm id bi h; omega
  | @var ps xs vs L b o us τ d hT hr ht hb0 hn t ih =>
    intro i s s' e hs hv hL hm hb
    simp only [enter] at e
    have hvi : vals.getD i undef = .pointer (some ⟨b, o, none⟩) := by have := hv 0 (.pointer (some ⟨b, o, none⟩)) (by simp); simp at this; simp [List.getD_eq_getElem?_getD, this]
    have hdiv : (64 * i + 63) / 64 = i := by omega
    have hσ : (σP vals (64 * i + 63)).v = .pointer (some ⟨b, o, none⟩) := by simp only [σP]; rw [hdiv]; exact hvi
    have hc : RepCs S (σP vals) w (inj τ d) us := inj_rep _ _ _ hT
    have hput : Sim E ⟨S, σP vals⟩ (s.put i (.v (.ptr (64 * i + 63) 0))) a w := by
      refine hs.put' ?_
      rw [ha, hvi]
      exact ⟨b, o, hσ, rfl⟩
    refine ih e (hput.addBox (b := b) (o := o) (vs := us) hσ hc hr ht hb0 (fun j bj hj hne hk => hb j bj hj b hk (b, o, τ) (by simp) rfl) (fun j hj => ?_) ?_) (fun j u hu => ?_) (fun l hl => hL l (by simp [hl])) (fun id bi h => ?_) (fun id bi h k hk l hl => ?_)
    · rw [hE]
      refine ⟨(b, o, τ), hL _ (by simp), rfl, by simp, ?_⟩
      have h1 := RepCs.length hc
      have h2 := RepT.length _ _ _ hT
      simp only; omega
    · rw [hP, hdiv]; exact hvi
    · have := hv (j + 1) u (by simpa using hu)
      rw [show i + 1 + j = i + (j + 1) by omega]; exact this
    · rcases setM_some h with ⟨rfl, _⟩ | ⟨_, h⟩
      · omega
      · have := hm id bi h; omega
    · rcases setM_some h with ⟨rfl, _⟩ | ⟨_, h⟩
      · rw [hσ] at hk; simp only [blockOf, Option.some.injEq] at hk; subst hk; exact hn l hl
      · exact hb id bi h k hk l (by simp [hl])

theorem results_sound (hC : C.OK) (h : Sim E G s a w) {g : ResultVar → Sem Value} (g1 : ∀ t, g (.tmp t) = pure (a.tmps.getD t undef)) (g2 : ∀ q t, g (.cell q t) = do loadVar t (← asAddr (a.tmps.getD q undef))) : ∀ {rs : List ResultVar} {ts : List (Ty × Bool)} {cs : List PV}, resCells C s rs ts = some cs →
    ∃ us xs, (rs.mapM (m := Sem) g).run C.P w = .ok xs w ∧ TupV (ts.map fun x => (x.1.size, x.2)) us xs ∧ RepCs G.S G.σ w cs us := by
  intro rs
  induction rs with
  | nil =>
    intro ts cs e
    cases ts with
    | nil => simp only [resCells, Option.some.injEq] at e; subst e; exact ⟨[], [], rfl, ⟨rfl, rfl⟩, rfl⟩
    | cons => simp [resCells] at e
  | cons q rs ih =>
    intro ts cs e
    cases ts with
    | nil => cases q <;> simp [resCells] at e
    | cons ta ts =>
      obtain ⟨τ, agg⟩ := ta
      cases q with
      | tmp t =>
        simp only [resCells] at e
        have ht := h.tmp t
        split at e
        · simp at e
        · rename_i p r' hne hp hr'
          rcases cond_some e with ⟨_, e⟩ | ⟨hagg, e⟩
          · simp at e
          · rcases cond_some e with ⟨hsz, e⟩ | ⟨_, e⟩
            · simp only [Option.some.injEq] at e
              subst e
              obtain ⟨us, xs, h1, h2, h3⟩ := ih hr'
              rw [hp] at ht
              have hx := RepS.of_v ht (fun e => hne (by rw [e]))
              refine ⟨[a.tmps.getD t undef] ++ us, a.tmps.getD t undef :: xs, ?_, ?_, ⟨_, _, rfl, hx, h3⟩⟩
              · rw [List.mapM_cons, g1]; simp only [Sem.run_bind, Sem.run_pure, Result.andThen_ok, h1]
              · exact ⟨_, us, _, xs, rfl, rfl, (Nat.eq_of_beq_eq_true hsz).symm, fun hh => by rw [hagg] at hh; simp at hh, fun _ => rfl, h2⟩
            · simp at e
        · rename_i c r' hp hr'
          rcases cond_some e with ⟨hagg, e⟩ | ⟨_, e⟩
          · simp only [Option.some.injEq] at e
            subst e
            simp only [Bool.and_eq_true] at hagg
            obtain ⟨us, xs, h1, h2, h3⟩ := ih hr'
            rw [hp] at ht
            obtain ⟨vs, hv, hc⟩ := ht
            have hl := RepCs.length hc
            have hw := Nat.eq_of_beq_eq_true hagg.2
            refine ⟨vs ++ us, a.tmps.getD t undef :: xs, ?_, ?_, RepRows.append hc h3⟩
            · rw [List.mapM_cons, g1]; simp only [Sem.run_bind, Sem.run_pure, Result.andThen_ok, h1]
            · exact ⟨vs, us, _, xs, rfl, rfl, by rw [hl, hw], fun _ => hv, fun hh => by rw [hagg.1] at hh; simp at hh, h2⟩
          · simp at e
        · simp at e
      | cell q t =>
        simp only [resCells] at e
        split at e
        · rename_i I p r' hI hp hr'
          split at e
          · rename_i c hl
            rcases cond_some e with ⟨hsz, e⟩ | ⟨_, e⟩
            · have hsz := Nat.eq_of_beq_eq_true hsz
              have hlook : p ≠ .undef := fun e => by rw [e] at hl; simp [St.look] at hl
              have ht := h.tmp q
              rw [hp] at ht
              obtain ⟨b, o, vs, hv, hrg, hc, hlen⟩ := look_sound h (RepS.of_v ht hlook) hl
              have hrun := load_run hC hI hrg hc hlen
              obtain ⟨us, xs, h1, h2, h3⟩ := ih hr'
              have hload : ∀ x, (Instr.loadAt t (.pointer (some ⟨b, o, none⟩))).run C.P w = .ok x w → ((do loadVar t (← asAddr (a.tmps.getD q undef))) : Sem Value).run C.P w = .ok x w := by
                intro x hx
                rw [hv]
                simpa [Instr.loadAt, Instr.sureAddr, asAddr] using hx
              rcases cond_some e with ⟨hagg, e⟩ | ⟨hagg, e⟩
              · rcases cond_some e with ⟨hI2, e⟩ | ⟨_, e⟩
                · simp only [Option.some.injEq] at e
                  subst e
                  refine ⟨vs ++ us, .agg vs.toArray :: xs, ?_, ?_, RepRows.append hc h3⟩
                  · rw [List.mapM_cons, g2, Sem.run_bind]; simp only [hload _ (hrun.1 hI2), Sem.run_bind, Sem.run_pure, Result.andThen_ok, h1]
                  · exact ⟨vs, us, _, xs, rfl, rfl, by rw [hlen, hsz], fun _ => rfl, fun hh => by rw [hagg] at hh; simp at hh, h2⟩
                · simp at e
              · rcases cond_some e with ⟨_, e⟩ | ⟨hI2, e⟩
                · simp at e
                · simp only [Option.some.injEq] at e
                  subst e
                  simp only [Bool.or_eq_false_iff, Bool.not_eq_false'] at hI2
                  unfold one1 at hI2
                  split at hI2
                  · rename_i c1 _ _
                    obtain ⟨v, rfl, hv2⟩ := hrun.2 hI2.1 c1 rfl (Nat.eq_of_beq_eq_true hI2.2)
                    refine ⟨[v] ++ us, v :: xs, ?_, ?_, RepRows.append hc h3⟩
                    · rw [List.mapM_cons, g2, Sem.run_bind]; simp only [hload _ hv2, Sem.run_bind, Sem.run_pure, Result.andThen_ok, h1]
                    · exact ⟨[v], us, _, xs, rfl, rfl, by rw [hlen, hsz], fun hh => by rw [hagg] at hh; simp at hh, fun _ => rfl, h2⟩
                  · simp at hI2
            · simp at e
          · simp at e
        · simp at e

theorem mut_sound (h : Sim E G s a w') {vals : List Value} (hP : ∀ id, E.par id = vals.getD (id / 64) undef) {ps : List PK} {xs : List SV} {vs : List Value} {L : List (Nat × Nat × Ty)} (hA : ArgsRep S w ps xs vs L) :
    ∀ {i : Nat} {cs : List PV}, mutCells s ps i = some cs → (∀ j v, vs[j]? = some v → vals[i + j]? = some v) → ∃ ms, MutV w' L ms ∧ RepCs G.S G.σ w' cs ms := by
  induction hA with
  | nil =>
    intro i cs e _
    simp only [mutCells, Option.some.injEq] at e
    subst e; exact ⟨[], rfl, rfl⟩
  | @val o ps xs vs L x v hx hi t ih =>
    intro i cs e hv
    simp only [mutCells] at e
    refine ih e (fun j u hu => ?_)
    have := hv (j + 1) u (by simpa using hu)
    rw [show i + 1 + j = i + (j + 1) by omega]; exact this
  | @var ps xs vs L b o us τ d hT hr ht hb0 hn t ih =>
    intro i cs e hv
    simp only [mutCells] at e
    split at e
    · rename_i c r' hm hr'
      rcases cond_some e with ⟨hw, e⟩ | ⟨_, e⟩
      · simp only [Option.some.injEq] at e
        subst e
        have hvi : vals.getD i undef = .pointer (some ⟨b, o, none⟩) := by have := hv 0 (.pointer (some ⟨b, o, none⟩)) (by simp); simp at this; simp [List.getD_eq_getElem?_getD, this]
        have hσ : (G.σ (64 * i + 63)).v = .pointer (some ⟨b, o, none⟩) := by
          rw [h.par _ _ (by omega) hm, hP, show (64 * i + 63) / 64 = i by omega]; exact hvi
        obtain ⟨ms, h1, h2⟩ := ih hr' (fun j u hu => by
          have := hv (j + 1) u (by simpa using hu)
          rw [show i + 1 + j = i + (j + 1) by omega]; exact this)
        obtain ⟨b', o', vs', hσ', hc, hrg, hth⟩ := h.mem _ _ hm
        rw [hσ] at hσ'
        simp only [Value.pointer.injEq, Option.some.injEq, Addr.mk.injEq, and_true] at hσ'
        obtain ⟨rfl, rfl⟩ := hσ'
        have hl := RepCs.length hc
        have hw := Nat.eq_of_beq_eq_true hw
        exact ⟨vs' ++ ms, ⟨vs', ms, rfl, by omega, hrg, by rw [← hw, ← hl]; exact hth, h1⟩, RepRows.append hc h2⟩
      · simp at e
    · simp at e

theorem castL_own {e e' : Ty} (h : e' = e) {T : TypeId} {xs : List e'.den} {v : Value} (k : OwnAt S w T e' xs v) : OwnAt S w T e (castL h xs) v := by subst h; exact k

theorem RepT.flat {S : Nat → Prop} {w : World} {τ : Ty} {cs : List PV} {σ : Sg} {vs : List Value} {q : τ.den} (h : RepCs S σ w cs vs) (e : projAll τ cs = some q) : RepT S w τ q vs := projAll_rep h e

/-- What is nobody else's is, too, data. -/
theorem RepF.data {lo : Nat} {S2 : Nat → Prop} (hS : ∀ b, S b → S2 b) (hlo : ∀ k, lo ≤ k → k < w.heap.size → S2 k) : ∀ (τ : Ty) (fl : Fl) (x : τ.den) (us : List Value) (B B' : List Nat), RepF S w lo τ fl x us B B' → RepT S2 w τ x us := by
  have plain : ∀ (τ : Ty) (x : τ.den) (us : List Value) (B B' : List Nat), (RepT S w τ x us ∧ B' = B) → RepT S2 w τ x us := fun τ x us B B' h => RepT.keep hS (fun _ _ => rfl) _ _ _ h.1
  intro τ
  induction τ with
  | list e _ =>
    intro fl x us B B' h
    cases fl with
    | own T =>
      obtain ⟨v, rfl, ⟨hp, vs, hr, ho⟩, _, hk⟩ := h
      exact own_list (RepRows.imp (RepT.keep hS (fun _ _ => rfl) e) _ _ hr) ho fun k e1 => hlo k (hk k e1).2.1 (hk k e1).2.2.1
    | no => exact plain (.list e) x us B B' h
    | pair _ _ => exact plain (.list e) x us B B' h
  | pair a b iha ihb =>
    intro fl x us B B' h
    cases fl with
    | pair f g =>
      obtain ⟨u, v, B1, rfl, h1, h2⟩ := h
      exact ⟨u, v, rfl, iha _ _ _ _ _ h1, ihb _ _ _ _ _ h2⟩
    | no => exact plain (.pair a b) x us B B' h
    | own _ => exact plain (.pair a b) x us B B' h
  | _ => intro fl x us B B' h; exact plain _ x us B B' h

theorem projF_more {s : St} : ∀ (τ : Ty) (fl : Fl) (cs cs' : List PV) (U V U' V' : List Nat) (x : τ.den), projF s τ fl cs U V = some (x, cs', U', V') → (∀ i ∈ U, i ∈ U') ∧ (∀ i ∈ V, i ∈ V') := by
  have plain : ∀ (τ : Ty) (cs cs' : List PV) (U V U' V' : List Nat) (x : τ.den), (match takeC cs τ.size, dropC cs τ.size with
    | some a, some b => match projAll τ (a.map s.dat) with
      | some x => some (x, b, U, a.flatMap PV.ids ++ V)
      | none => none
    | _, _ => none) = some (x, cs', U', V') → (∀ i ∈ U, i ∈ U') ∧ (∀ i ∈ V, i ∈ V') := by
    intro τ cs cs' U V U' V' x e
    split at e
    · split at e
      · simp only [Option.some.injEq, Prod.mk.injEq] at e
        obtain ⟨_, _, rfl, rfl⟩ := e
        exact ⟨fun _ h => h, fun i h => by simp [h]⟩
      · simp at e
    · simp at e
  intro τ
  induction τ with
  | list e _ =>
    intro fl cs cs' U V U' V' x h
    cases fl with
    | own T =>
      simp only [projF] at h
      split at h
      · split at h
        · rcases cond_some h with ⟨_, h⟩ | ⟨_, h⟩
          · split at h
            · simp only [Option.some.injEq, Prod.mk.injEq] at h
              obtain ⟨_, _, rfl, rfl⟩ := h
              exact ⟨fun i hi => by simp [hi], fun _ h => h⟩
            · simp at h
          · simp at h
        · simp at h
      · rcases cond_some h with ⟨_, h⟩ | ⟨_, h⟩
        · simp only [Option.some.injEq, Prod.mk.injEq] at h
          obtain ⟨_, _, rfl, rfl⟩ := h
          exact ⟨fun _ h => h, fun _ h => h⟩
        · simp at h
      · simp at h
    | no => exact plain (.list e) cs cs' U V U' V' x h
    | pair _ _ => exact plain (.list e) cs cs' U V U' V' x h
  | pair a b iha ihb =>
    intro fl cs cs' U V U' V' x h
    cases fl with
    | pair f g =>
      simp only [projF] at h
      split at h
      · rename_i h1
        split at h
        · rename_i h2
          simp only [Option.some.injEq, Prod.mk.injEq] at h
          obtain ⟨_, _, rfl, rfl⟩ := h
          have k1 := iha _ _ _ _ _ _ _ _ h1
          have k2 := ihb _ _ _ _ _ _ _ _ h2
          exact ⟨fun i hi => k2.1 i (k1.1 i hi), fun i hi => k2.2 i (k1.2 i hi)⟩
        · simp at h
      · simp at h
    | no => exact plain (.pair a b) cs cs' U V U' V' x h
    | own _ => exact plain (.pair a b) cs cs' U V U' V' x h
  | _ => intro fl cs cs' U V U' V' x h; exact plain _ cs cs' U V U' V' x h

/-- Own slices under flags. -/
theorem projF_sound (h : Sim E G s a w') {Ut Vt : List Nat} (hUV : ∀ i ∈ Ut, i ∉ Vt) {S'' : Nat → Prop} (hS : ∀ b, G.S b → S'' b) (hS1 : ∀ i ∈ Vt, ∀ T e xs, s.mem i = some (.rows T e xs) → ∀ k, blockOf (G.σ i).v = some k → S'' k)
    (hS2 : ∀ b, S'' b → G.S b ∨ ∃ i ∈ Vt, ∃ T e xs, s.mem i = some (.rows T e xs) ∧ blockOf (G.σ i).v = some b) : ∀ (τ : Ty) (fl : Fl) (cs cs' : List PV) (U V U' V' : List Nat) (x : τ.den) (vs : List Value) (B : List Nat), projF s τ fl cs U V = some (x, cs', U', V') →
    (∀ i ∈ U', i ∈ Ut) → (∀ i ∈ V', i ∈ Vt) → (∀ k ∈ B, ∃ i ∈ U, ∃ bi, s.mem i = some bi ∧ blockOf (G.σ i).v = some k) → RepCs G.S G.σ w' cs vs →
    ∃ us vs' B', vs = us ++ vs' ∧ RepCs G.S G.σ w' cs' vs' ∧ RepF S'' w' E.W.heap.size τ fl x us B B' ∧ (∀ k ∈ B', ∃ i ∈ U', ∃ bi, s.mem i = some bi ∧ blockOf (G.σ i).v = some k) := by
  have plain : ∀ (τ : Ty) (cs cs' : List PV) (U V U' V' : List Nat) (x : τ.den) (vs : List Value) (B : List Nat), (match takeC cs τ.size, dropC cs τ.size with
    | some a, some b => match projAll τ (a.map s.dat) with
      | some x => some (x, b, U, a.flatMap PV.ids ++ V)
      | none => none
    | _, _ => none) = some (x, cs', U', V') → (∀ i ∈ V', i ∈ Vt) → (∀ k ∈ B, ∃ i ∈ U, ∃ bi, s.mem i = some bi ∧ blockOf (G.σ i).v = some k) → RepCs G.S G.σ w' cs vs →
      ∃ us vs' B', vs = us ++ vs' ∧ RepCs G.S G.σ w' cs' vs' ∧ (RepT S'' w' τ x us ∧ B' = B) ∧ (∀ k ∈ B', ∃ i ∈ U', ∃ bi, s.mem i = some bi ∧ blockOf (G.σ i).v = some k) := by
    intro τ cs cs' U V U' V' x vs B e hV hB hc
    split at e
    · rename_i t d ht hd
      split at e
      · rename_i y hy
        simp only [Option.some.injEq, Prod.mk.injEq] at e
        obtain ⟨rfl, rfl, rfl, rfl⟩ := e
        have h1 := (RepCs.take hc ht).1
        have h2 := RepCs.drop hc hd
        have h3 := datC_rep (σ' := σ0) h hS (S' := S'') (cs := t) (fun i hi T e xs hm k hk => hS1 i (hV i (List.mem_append_left _ (List.mem_flatMap.2 ⟨_, hi, by simp [PV.ids]⟩))) T e xs hm k hk) h1
        exact ⟨vs.take τ.size, vs.drop τ.size, B, (List.take_append_drop _ _).symm, h2, ⟨projAll_rep h3 hy, rfl⟩, hB⟩
      · simp at e
    · simp at e
  intro τ
  induction τ with
  | list e _ =>
    intro fl cs cs' U V U' V' x vs B h1 hU hV hB hc
    cases fl with
    | own T =>
      simp only [projF] at h1
      split at h1
      · rename_i i cs1
        obtain ⟨u, v, rfl, hu, hc'⟩ := hc
        split at h1
        · rename_i T' e' ys hm
          rcases cond_some h1 with ⟨hc1, h1⟩ | ⟨_, h1⟩
          · simp only [Bool.and_eq_true, Bool.not_eq_true'] at hc1
            split at h1
            · rename_i heq _
              simp only [Option.some.injEq, Prod.mk.injEq] at h1
              obtain ⟨rfl, rfl, rfl, rfl⟩ := h1
              obtain ⟨rfl, _⟩ := hu
              obtain ⟨us, hrr, ho, hz, hpos⟩ := h.mem i _ hm
              have hT : T' = T := Nat.eq_of_beq_eq_true hc1.1
              subst hT
              subst heq
              refine ⟨[(G.σ i).v], v, (blockOf (G.σ i).v).toList ++ B, rfl, hc', ⟨_, rfl, ⟨hpos, us, RepRows.imp (RepT.keep hS (fun _ _ => rfl) _) _ _ hrr, ho⟩, rfl, fun k hk => ⟨fun hSk => ?_, ?_, (h.off i _ hm k hk).2, fun hkB => ?_⟩⟩, fun k hk => ?_⟩
              · rcases hS2 k hSk with h2 | ⟨i', hi', T2, e2, xs2, hm2, hk2⟩
                · exact (h.off i _ hm k hk).1 h2
                · have hne : i ≠ i' := fun e => hUV i (hU i (by simp)) (e ▸ hi')
                  exact h.apart i i' _ _ hm hm2 hne k hk hk2
              · rcases h.mine i _ hm with h2 | ⟨_, _, _, h2, _⟩
                · exact h2 k hk
                · simp at h2
              · obtain ⟨i', hi', bi, hm2, hk2⟩ := hB k hkB
                have hne : i ≠ i' := fun e => by
                  have : U.any (Nat.beq i) = true := List.any_eq_true.2 ⟨i', hi', by rw [e]; exact Nat.beq_refl _⟩
                  rw [this] at hc1; simp at hc1
                exact h.apart i i' _ _ hm hm2 hne k hk hk2
              · rcases List.mem_append.1 hk with hk | hk
                · exact ⟨i, by simp, _, hm, by simpa using hk⟩
                · obtain ⟨i', hi', x⟩ := hB k hk; exact ⟨i', by simp [hi'], x⟩
            · simp at h1
          · simp at h1
        · simp at h1
      · obtain ⟨u, v, rfl, hu, hc'⟩ := hc
        rcases cond_some h1 with ⟨hz, h1⟩ | ⟨_, h1⟩
        · simp only [Option.some.injEq, Prod.mk.injEq] at h1
          obtain ⟨rfl, rfl, rfl, rfl⟩ := h1
          have hu : u = [.slice none 0 0] := hu
          subst hu
          exact ⟨[.slice none 0 0], v, B, rfl, hc', ⟨_, rfl, ⟨Nat.le_of_ble_eq_true hz, [], rfl, World.ownsRow_nil w' 0 T e.size⟩, rfl, fun k hk => by simp [blockOf] at hk⟩, hB⟩
        · simp at h1
      · simp at h1
    | no => exact plain (.list e) cs cs' U V U' V' x vs B h1 hV hB hc
    | pair _ _ => exact plain (.list e) cs cs' U V U' V' x vs B h1 hV hB hc
  | pair a' b' iha ihb =>
    intro fl cs cs' U V U' V' x vs B h1 hU hV hB hc
    cases fl with
    | pair f g =>
      simp only [projF] at h1
      split at h1
      · rename_i h2
        split at h1
        · rename_i h3
          simp only [Option.some.injEq, Prod.mk.injEq] at h1
          obtain ⟨rfl, rfl, rfl, rfl⟩ := h1
          have k2 := projF_more _ _ _ _ _ _ _ _ _ h3
          obtain ⟨us, vs1, B1, rfl, c1, f1, b1⟩ := iha _ _ _ _ _ _ _ _ vs B h2 (fun i hi => hU i (k2.1 i hi)) (fun i hi => hV i (k2.2 i hi)) hB hc
          obtain ⟨us2, vs2, B2, rfl, c2, f2, b2⟩ := ihb _ _ _ _ _ _ _ _ vs1 B1 h3 hU hV b1 c1
          exact ⟨us ++ us2, vs2, B2, by simp, c2, ⟨us, us2, B1, rfl, f1, f2⟩, b2⟩
        · simp at h1
      · simp at h1
    | no => exact plain (.pair a' b') cs cs' U V U' V' x vs B h1 hV hB hc
    | own _ => exact plain (.pair a' b') cs cs' U V U' V' x vs B h1 hV hB hc
  | _ => intro fl cs cs' U V U' V' x vs B h1 hU hV hB hc; exact plain _ cs cs' U V U' V' x vs B h1 hV hB hc

theorem outF_sound (h : Sim E G s a w') {τ : Ty} {fl : Fl} {cs : List PV} {vs : List Value} {q : τ.den} (e : outF s τ fl cs = some q) (hc : RepCs G.S G.σ w' cs vs) :
    ∃ S'' B', (∀ b, G.S b → S'' b) ∧ (∀ b, S'' b → G.S b ∨ ∃ i T e xs, s.mem i = some (.rows T e xs) ∧ blockOf (G.σ i).v = some b) ∧ RepF S'' w' E.W.heap.size τ fl q vs [] B' := by
  unfold outF at e
  split at e
  · rename_i x U V hp
    rcases cond_some e with ⟨hap, e⟩ | ⟨_, e⟩
    · simp only [Option.some.injEq] at e
      subst e
      have hUV : ∀ i ∈ U, i ∉ V := fun i hi hV => by
        have := List.all_eq_true.1 hap i hi
        simp only [Bool.not_eq_true'] at this
        have h2 : V.any (Nat.beq i) = true := List.any_eq_true.2 ⟨i, hV, Nat.beq_refl _⟩
        rw [h2] at this; simp at this
      let S'' : Nat → Prop := fun b => G.S b ∨ ∃ i ∈ V, ∃ T e xs, s.mem i = some (.rows T e xs) ∧ blockOf (G.σ i).v = some b
      obtain ⟨us, vs', B', rfl, hc', hF, _⟩ := projF_sound (S'' := S'') h hUV (fun _ => .inl) (fun i hi T e xs hm k hk => .inr ⟨i, hi, T, e, xs, hm, hk⟩) (fun _ x => x) τ fl cs [] [] [] U V x vs [] hp (fun _ x => x) (fun _ x => x) (by simp) hc
      have : vs' = [] := hc'
      subst this
      exact ⟨S'', B', fun _ => .inl, fun b hb => hb.imp (fun x => x) fun ⟨i, _, x⟩ => ⟨i, x⟩, by simpa using hF⟩
    · simp at e
  · simp at e

theorem RepF_no {lo : Nat} {τ : Ty} {x : τ.den} {us : List Value} {B : List Nat} (h : RepT S w τ x us) : RepF S w lo τ .no x us B B := by
  cases τ <;> exact ⟨h, rfl⟩

theorem ret_sound (hC : C.OK) {f : FuncId} {F : Func} {sg : Sig} {vals : List Value} {L : List (Nat × Nat × Ty)} {as : List SV} {q : C.Res f} (hA : ArgsRep S w sg.params as vals L) (hW : E.W = w) (hS : E.S = S) (hM : E.M = InL L) (hP : ∀ id, E.par id = vals.getD (id / 64) undef) (h : Sim E G s a w')
    {A B : List PV} (hA2 : resCells C s F.results.toList sg.res = some A) (hB : mutCells s sg.params 0 = some B) (e : (bif sg.outs.isNo then projAll (C.resTy f) ((A ++ B).map s.dat) else outF s (C.resTy f) sg.outs (A ++ B)) = some q) :
    ∃ v, (results F a.tmps).run C.P w' = .ok v w' ∧ ∃ v' xs us ms, Ending.returned v = .returned v' ∧ v' = oneOf xs ∧ TupV sg.shape us xs ∧ MutV w' L ms ∧ RepT (withNew S w w') w' (C.resTy f) q (us ++ ms) ∧ KeptM w w' (InL L) ∧ ∃ S'' B', (∀ b, S b → S'' b) ∧ (∀ b, S'' b → withNew S w w' b) ∧ RepF S'' w' w.heap.size (C.resTy f) sg.outs q (us ++ ms) [] B' := by
  obtain ⟨us, xs, h1, h2, h3⟩ := results_sound hC h (g := fun x => match x with | .tmp t => pure (a.tmps.getD t undef) | .cell q t => do loadVar t (← asAddr (a.tmps.getD q undef))) (fun _ => rfl) (fun _ _ => rfl) hA2
  obtain ⟨ms, h4, h5⟩ := mut_sound h hP hA hB (fun j v hj => by simpa using hj)
  have hin : ∀ b, (G.S b ∨ ∃ i T e xs, s.mem i = some (.rows T e xs) ∧ blockOf (G.σ i).v = some b) → withNew S w w' b := by
    rintro b (hb | ⟨i, T, e, xs, hm, hk⟩)
    · rcases h.new b hb with h' | h'
      · exact .inl (hS ▸ h')
      · exact .inr ⟨hW ▸ h', h.old b hb⟩
    · refine .inr ⟨?_, (h.off i _ hm b hk).2⟩
      rcases h.mine i _ hm with h' | ⟨_, _, _, h', _⟩
      · exact hW ▸ h' b hk
      · simp at h'
  have hsub : ∀ b, S b → G.S b := fun b hb => h.sub b (hS ▸ hb)
  have hcells : RepCs G.S G.σ w' (A ++ B) (us ++ ms) := RepRows.append h3 h5
  have hall : ∃ S'' B', (∀ b, S b → S'' b) ∧ (∀ b, S'' b → withNew S w w' b) ∧ RepF S'' w' w.heap.size (C.resTy f) sg.outs q (us ++ ms) [] B' := by
    rcases cond_some e with ⟨hno, e⟩ | ⟨_, e⟩
    · let S'' : Nat → Prop := fun b => G.S b ∨ ∃ i T e xs, s.mem i = some (.rows T e xs) ∧ blockOf (G.σ i).v = some b
      have hd := datC_rep (σ' := σ0) h (S' := S'') (fun _ => .inl) (cs := A ++ B) (fun i _ T e xs hm k hk => .inr ⟨i, T, e, xs, hm, hk⟩) hcells
      have hT := projAll_rep hd e
      have hn : sg.outs = .no := by cases ho : sg.outs <;> rw [ho] at hno <;> first | rfl | simp [Fl.isNo] at hno
      rw [hn]
      exact ⟨S'', [], fun b hb => .inl (hsub b hb), hin, RepF_no hT⟩
    · obtain ⟨S'', B', k1, k2, k3⟩ := outF_sound h e hcells
      rw [hW] at k3
      exact ⟨S'', B', fun b hb => k1 b (hsub b hb), fun b hb => hin b (k2 b hb), k3⟩
  have hkept : KeptM w w' (InL L) := by
    have := h.kept
    rw [hW, hM] at this
    exact this
  obtain ⟨S'', B', k1, k2, k3⟩ := hall
  refine ⟨oneOf xs, ?_, oneOf xs, xs, us, ms, rfl, rfl, h2, h4, RepF.data k2 (fun k hk hk' => .inr ⟨hk, hk'⟩) _ _ _ _ _ _ k3, hkept, S'', B', k1, k2, k3⟩
  have h1' : (F.results.mapM (m := Sem) fun x => match x with | .tmp t => pure (a.tmps.getD t undef) | .cell q t => do loadVar t (← asAddr (a.tmps.getD q undef))).run C.P w' = .ok xs.toArray w' := by
    rw [show F.results = F.results.toList.toArray by simp, List.mapM_toArray, map_eq_pure_bind, Sem.run_bind, h1]
    rfl
  show (Sem.bind _ _ : Sem Value).run C.P w' = _
  erw [Sem.run_bind, h1']
  simp only [Result.andThen_ok]
  match xs with
  | [] => rfl
  | [x] => rfl
  | x :: y :: xs => simp [oneOf]

theorem denF_sound (hC : C.OK) {env : C.Env} (hE : EnvOK C env) {n : Nat} {f : FuncId} {args : List SV} {q : C.Res f} (e : denF C env (fun f => lpN C f env n) f args = some q) : Meets C f args q := by
  unfold denF at e
  split at e
  · rename_i F sg hF hsg
    split at e
    · rename_i c s hc hen
      intro sg' hsg' S w vals L hS hA
      rw [hsg] at hsg'
      simp only [Option.some.injEq] at hsg'
      subst hsg'
      have hlen := hA.len
      have hslots := hC.slots f sg F hsg hF
      refine calls_of_wp (hC.fn f F hF) hc ?_
      let E : En := ⟨w, S, InL L, fun id => vals.getD (id / 64) undef⟩
      let a : Act := { tmps := vals.toArray ++ Array.replicate (F.ntmps - vals.toArray.size) undef, defers := [] }
      have ha : ∀ i, a.tmps.getD i undef = vals.getD i undef := by
        intro i
        simp only [a, Array.getD_eq_getD_getElem?, List.getD_eq_getElem?_getD, Array.getElem?_append, Array.getElem?_replicate, List.getElem?_toArray, List.size_toArray]
        split
        · rfl
        · rw [List.getElem?_eq_none (by omega)]; split <;> rfl
      have h0 : Sim E ⟨S, σP vals⟩ ⟨F.ntmps, fun _ => .v .undef, fun _ => none⟩ a w := {
        defers := rfl
        size := by simp only [a, Array.size_append, List.size_toArray, Array.size_replicate]; omega
        tmp := fun t => trivial
        mem := fun i b h => by simp at h
        apart := fun i j bi bj h => by simp at h
        off := fun i bi h => by simp at h
        old := hS
        kept := KeptM.refl _ _
        sub := fun _ x => x
        new := fun _ => .inl
        mine := fun i bi h => by simp at h
        sep := fun b o ⟨l, hl, h1, _⟩ => h1 ▸ hA.off l hl
        par := fun i bi _ h => by simp at h }
      have h1 := enter_sound (E := E) rfl (fun _ => rfl) ha hA hen h0 (fun j v hj => by simpa using hj) (fun _ x => x) (fun id bi h => by simp at h) (fun id bi h => by simp at h)
      refine den_sound hC hE (lpN_sound hC hE n) c _ s ⟨S, σP vals⟩ a w _ h1 e fun ex s' G' a' w' h' e' => ?_
      have fin : ∀ {A B}, resCells C s' F.results.toList sg.res = some A → mutCells s' sg.params 0 = some B → (bif sg.outs.isNo then projAll (C.resTy f) ((A ++ B).map s'.dat) else outF s' (C.resTy f) sg.outs (A ++ B)) = some q → a'.defers = [] ∧ ∃ v, (results F a'.tmps).run C.P w' = .ok v w' ∧ _ := fun hA2 hB e2 => ⟨h'.defers, ret_sound hC hA (E := E) rfl rfl rfl (fun _ => rfl) h' hA2 hB e2⟩
      cases ex <;> simp only [retK] at e' <;> try (simp at e'; done)
      all_goals
        split at e'
        · rename_i A B hA2 hB; exact fin hA2 hB e'
        · simp at e'
    · simp at e
  · simp at e

/-- What is given of functions of the library is so. -/
def PrimOK (C : Cfg) : Prop := ∀ f p, C.prim f = some p → ∀ args (r : C.Res f), (p args).bind (projAll (C.resTy f)) = some r → Meets C f args r

theorem runN_sound (hC : C.OK) (hp : PrimOK C) : ∀ n, EnvOK C (runN C n)
  | 0 => fun f args r h => by simp [runN] at h
  | n + 1 => fun f args r h => by
    simp only [runN, denP] at h
    split at h
    · rename_i p e
      exact hp f p e args r h
    · exact denF_sound hC (runN_sound hC hp n) (n := n) h

theorem lim_some {α : Type} {F : Nat → Option α} {r : α} (h : lim F = some r) : ∃ n, F n = some r := by
  unfold lim at h
  split at h
  · rename_i hx
    simp only [Option.some.injEq] at h
    subst h
    exact Classical.choose_spec hx
  · simp at h

/-- What a function comes to is what its calls come to. -/
theorem Den_meets (hC : C.OK) (hp : PrimOK C) {f : FuncId} {args : List SV} {r : C.Res f} (h : Den C f args = some r) : Meets C f args r :=
  let ⟨n, hn⟩ := lim_some h
  runN_sound hC hp n f args r hn
end Go.Pr
