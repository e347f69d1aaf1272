/- Calls: what stands behind a call. -/
import Derived.Test.YtpfplngeakmghaaPrL
namespace Go.Pr
set_option linter.unusedVariables false
variable {S S' : Nat → Prop} {σ σ' : Sg} {w w' : World} {E : En} {G : Gh} {s s' : St} {a : Act} {C : Cfg} {R : Type} {r : R}

/-- No block is handed over twice. -/
inductive Apart : List (PV × Ty) → Prop where
  | nil : Apart []
  | cons {m : PV × Ty} {ms : List (PV × Ty)} (h : ∀ m' ∈ ms, ∀ i j off off', m.1 = .ptr i off → m'.1 = .ptr j off' → i ≠ j) (t : Apart ms) : Apart (m :: ms)

theorem argsOf_apart : ∀ {ps : List PK} {xs : List SV} {as : List SV} {ms : List (PV × Ty)} {os : List PV}, argsOf s ps xs = some (as, ms, os) → Apart ms := by
  intro ps
  induction ps with
  | nil =>
    intro xs as ms os e
    cases xs <;> simp only [argsOf, Option.some.injEq, Prod.mk.injEq] at e
    · obtain ⟨rfl, rfl, rfl⟩ := e; exact .nil
    · simp at e
  | cons p ps ih =>
    intro xs as ms os e
    cases xs with
    | nil => cases p <;> simp [argsOf] at e
    | cons x xs =>
      cases p with
      | val =>
        cases x <;> simp only [argsOf] at e <;> try (simp at e; done)
        all_goals
          split at e
          · rename_i hrec
            simp only [Option.some.injEq, Prod.mk.injEq] at e
            obtain ⟨rfl, rfl, rfl⟩ := e
            exact ih hrec
          · simp at e
      | var τ =>
        simp only [argsOf] at e
        split at e
        · rename_i id' off' hpv
          split at e
          · split at e
            · rename_i hrec
              rcases cond_some e with ⟨hall, e⟩ | ⟨_, e⟩
              · simp only [Option.some.injEq, Prod.mk.injEq] at e
                obtain ⟨rfl, rfl, rfl⟩ := e
                refine .cons (fun m' hm' i j off off2 h1 h2 => ?_) (ih hrec)
                simp only [PV.ptr.injEq] at h1
                obtain ⟨rfl, rfl⟩ := h1
                have hne := List.all_eq_true.1 hall m' hm'
                rw [h2] at hne
                simp only [Bool.not_eq_true'] at hne
                exact fun e => Nat.ne_of_beq_eq_false hne e.symm
              · simp at e
            · simp at e
          · simp at e
        · simp at e

theorem setM_same (s : St) (id : Nat) (b : Option Blk) : (s.setM id b).mem id = b := by simp [St.setM]
theorem setM_other (s : St) {id i : Nat} (b : Option Blk) (h : i ≠ id) : (s.setM id b).mem i = s.mem i := by simp [St.setM, beq_ne h]

theorem back_char : ∀ {ms : List (PV × Ty)} {L : List (Nat × Nat × Ty)} {cells : List PV} {us : List Value} {s s' : St}, All2 (LocOf G) ms L → RepCs S σ w' cells us → MutV w' L us → backK s ms cells = some s' → Apart ms →
    s'.tmps = s.tmps ∧ s'.n = s.n ∧ (∀ i, (∀ m ∈ ms, ∀ off, m.1 ≠ .ptr i off) → s'.mem i = s.mem i) ∧
    (∀ m ∈ ms, ∀ i off, m.1 = .ptr i off → ∃ old new seg u b o, (G.σ i).v = .pointer (some ⟨b, o, none⟩) ∧ s.mem i = some (.box old) ∧ putC old off m.2.size seg = some new ∧ s'.mem i = some (.box new) ∧ RepCs S σ w' seg u ∧ u.length = m.2.size ∧ w'.rangeAt b (o + off) u) := by
  intro ms
  induction ms with
  | nil =>
    intro L cells us s s' hL hc hm e hap
    simp only [backK, Option.some.injEq] at e
    subst e
    exact ⟨rfl, rfl, fun _ _ => rfl, by simp⟩
  | cons m ms ih =>
    intro L cells us s s' hL hc hm e hap
    cases hL with
    | @cons _ l _ L hl hL =>
      obtain ⟨id, off, b, o, hm1, hσ, rfl⟩ := hl
      obtain ⟨p, τ⟩ := m
      simp only at hm1
      subst hm1
      obtain ⟨u, v, rfl, hul, hur, hut, hmv⟩ := hm
      have hul : u.length = τ.size := hul
      simp only [backK] at e
      split at e
      · rename_i seg rest hseg hrest
        split at e
        · rename_i old hold
          split at e
          · rename_i new hput
            cases hap with
            | cons hne hap =>
              have h1 := RepCs.take hc hseg
              have h2 := RepCs.drop hc hrest
              rw [List.take_append_of_le_length (by omega), List.take_of_length_le (by omega)] at h1
              rw [List.drop_append, List.drop_eq_nil_of_le (by omega), List.nil_append, hul, Nat.sub_self, List.drop_zero] at h2
              obtain ⟨g1, g2, g3, g4⟩ := ih hL h2 hmv e hap
              refine ⟨g1, g2, fun i hi => ?_, fun m' hm' i off' hm1 => ?_⟩
              · rw [g3 i fun m' hm' => hi m' (by simp [hm'])]
                exact setM_other s _ fun e => hi (.ptr id off, τ) (by simp) off (by rw [e])
              · rcases List.mem_cons.1 hm' with rfl | hm'
                · simp only [PV.ptr.injEq] at hm1
                  obtain ⟨rfl, rfl⟩ := hm1
                  refine ⟨old, new, seg, u, b, o, hσ, hold, hput, ?_, h1.1, hul, hur⟩
                  rw [g3 id fun m' hm' off' e => hne m' hm' id id off off' rfl e rfl]
                  exact setM_same s id _
                · obtain ⟨old', new', seg', u', b', o', q1, q2, q3, q4, q5, q6, q7⟩ := g4 m' hm' i off' hm1
                  refine ⟨old', new', seg', u', b', o', q1, ?_, q3, q4, q5, q6, q7⟩
                  rwa [setM_other s _ fun e => hne m' hm' id i off off' rfl hm1 e.symm] at q2
          · simp at e
        · simp at e
      · simp at e

theorem Apart.uniq {ms : List (PV × Ty)} (h : Apart ms) : ∀ {m m' : PV × Ty} {i off off' : Nat}, m ∈ ms → m' ∈ ms → m.1 = .ptr i off → m'.1 = .ptr i off' → m = m' := by
  induction h with
  | nil => intro m m' i off off' hm; simp at hm
  | @cons q ms hq t ih =>
    intro m m' i off off' hm hm' e e'
    rcases List.mem_cons.1 hm with h1 | h1
    · rcases List.mem_cons.1 hm' with h2 | h2
      · rw [h1, h2]
      · rw [h1] at e; exact absurd rfl (hq m' h2 i i off off' e e')
    · rcases List.mem_cons.1 hm' with h2 | h2
      · rw [h2] at e'; exact absurd rfl (hq m h1 i i off' off e' e)
      · exact ih h1 h2 e e'

theorem Sim.called (h : Sim E G s a w) {L : List (Nat × Nat × Ty)} {ms : List (PV × Ty)} (hL : All2 (LocOf G) ms L) (hap : Apart ms) (hbox : ∀ m ∈ ms, ∀ {id off : Nat}, m.1 = .ptr id off → ∃ bi, s.mem id = some bi)
    (hk : KeptM w w' (InL L)) {cells : List PV} {us : List Value} {S'' : Nat → Prop} (hS : ∀ b, G.S b → S'' b) (hS2 : ∀ b, S'' b → withNew G.S w w' b) (hc : RepCs S'' G.σ w' cells us) (hm : MutV w' L us) (e : backK s ms cells = some s') :
    Sim E ⟨S'', G.σ⟩ s' a w' := by
  obtain ⟨c1, c2, c3, c4⟩ := back_char hL hc hm e hap
  have inL : ∀ b o, InL L b o → ∃ m ∈ ms, ∃ id off o1 cs, m.1 = .ptr id off ∧ (G.σ id).v = .pointer (some ⟨b, o1, none⟩) ∧ s.mem id = some (.box cs) ∧ o1 + off ≤ o ∧ o < o1 + off + m.2.size := by
    rintro b o ⟨l, hl, rfl, hlo, hhi⟩
    obtain ⟨m, hmm, id, off, b', o', e1, e2, rfl⟩ := All2.mem_right hL hl
    obtain ⟨old, _, _, _, _, _, _, q2, _⟩ := c4 m hmm id off e1
    exact ⟨m, hmm, id, off, o', old, e1, e2, q2, hlo, hhi⟩
  have hold : Holds G.S w w' := fun q hq => hk.block q (h.old q hq) fun o ho => by
    obtain ⟨m, _, id, off, o1, cs, _, e2, e3, _⟩ := inL q o ho
    exact (h.off id _ e3 q (by rw [e2]; rfl)).1 hq
  have hmem : ∀ i bi, s'.mem i = some bi → (∃ b0, s.mem i = some b0) ∧ ((∀ m ∈ ms, ∀ off, m.1 ≠ .ptr i off) ∨ ∃ m ∈ ms, ∃ off, m.1 = .ptr i off) := by
    intro i bi hi
    by_cases hin : ∃ m ∈ ms, ∃ off, m.1 = .ptr i off
    · obtain ⟨m, hmm, off, e1⟩ := hin
      exact ⟨hbox m hmm e1, .inr ⟨m, hmm, off, e1⟩⟩
    · have hno : ∀ m ∈ ms, ∀ off, m.1 ≠ .ptr i off := fun m hmm off e1 => hin ⟨m, hmm, off, e1⟩
      rw [c3 i hno] at hi
      exact ⟨⟨bi, hi⟩, .inl hno⟩
  have hwid : ∀ m ∈ ms, ∀ i off, m.1 = .ptr i off → ∀ {old new : List PV} {seg : List PV} {u : List Value}, s.mem i = some (.box old) → putC old off m.2.size seg = some new → RepCs S'' G.σ w' seg u → u.length = m.2.size →
      ∃ b o vs, (G.σ i).v = .pointer (some ⟨b, o, none⟩) ∧ RepCs G.S G.σ w old vs ∧ w.rangeAt b o vs ∧ w.there b o vs.length ∧ off + m.2.size ≤ vs.length ∧ RepCs S'' G.σ w' new (vs.take off ++ (u ++ vs.drop (off + m.2.size))) ∧ widthC new = widthC old := by
    intro m hmm i off e1 old new seg u ho hput hseg hul
    obtain ⟨b, o, vs, hσ, hcs, hr, ht⟩ := h.mem i _ ho
    have hle : off + m.2.size ≤ vs.length := by
      unfold putC at hput
      split at hput
      · rename_i hd
        have := takeC_le hd
        have h2 := RepCs.length hcs
        omega
      · simp at hput
    have hcs' : RepCs S'' G.σ w' old vs := RepCs.keep hS hold (fun _ _ _ _ => rfl) hcs
    have hp := RepCs.put hcs' hput hseg hul
    refine ⟨b, o, vs, hσ, hcs, hr, ht, hle, hp, ?_⟩
    rw [← RepCs.length hp, ← RepCs.length hcs]
    simp; omega
  refine ⟨h.defers, by rw [c2]; exact h.size, fun t => by rw [c1]; exact RepS.keep hS hold (fun _ _ => rfl) (h.tmp t), fun i bi hi => ?_, fun i j bi bj hi hj hne k hki => ?_, fun i bi hi k hki => ?_, fun q hq => ?_, ?_, fun b hb => hS b (h.sub b hb), fun b hb => ?_, fun i bi hi => ?_, fun b o hM => ⟨fun hb => ?_, (h.sep b o hM).2⟩, fun i bi h63 hi => ?_⟩
  · obtain ⟨⟨b0, h0⟩, hcase⟩ := hmem i bi hi
    rcases hcase with hno | ⟨m, hmm, off, e1⟩
    · rw [c3 i hno] at hi
      refine RepB.keep hS hold rfl (fun _ _ => rfl) (fun k hki => hk.block k (h.off i bi hi k hki).2 fun o ho => ?_) (h.mem i bi hi)
      obtain ⟨m, hmm, id, off, o1, cs, e1, e2, e3, _⟩ := inL k o ho
      have hne : i ≠ id := fun e => hno m hmm off (by rw [e]; exact e1)
      exact h.apart i id _ _ hi e3 hne k hki (by rw [e2]; rfl)
    · obtain ⟨old, new, seg, u, b, o, q1, q2, q3, q4, q5, q6, q7⟩ := c4 m hmm i off e1
      rw [q4] at hi
      simp only [Option.some.injEq] at hi
      subst hi
      obtain ⟨b', o', vs, hσ, hcs, hr, ht, hle, hp, hw⟩ := hwid m hmm i off e1 q2 q3 q5 q6
      rw [q1] at hσ
      simp only [Value.pointer.injEq, Option.some.injEq, Addr.mk.injEq, and_true] at hσ
      obtain ⟨rfl, rfl⟩ := hσ
      have hblt := (h.off i _ q2 b (by rw [q1]; rfl)).2
      refine ⟨b, o, _, q1, hp, ?_, ?_⟩
      · intro j v hv
        by_cases h1 : off ≤ j ∧ j < off + m.2.size
        · rw [List.getElem?_append_right (by simp; omega)] at hv
          have hl : (vs.take off).length = off := by simp; omega
          rw [hl, List.getElem?_append_left (by omega)] at hv
          have := q7 (j - off) v hv
          rwa [show o + off + (j - off) = o + j by omega] at this
        · have hno : ¬ InL L b (o + j) := by
            intro hin
            obtain ⟨m', hmm', id, off', o1, cs, e1', e2, e3, hlo, hhi⟩ := inL b _ hin
            by_cases hid : i = id
            · subst hid
              have := hap.uniq hmm hmm' e1 e1'
              subst this
              rw [e1] at e1'
              simp only [PV.ptr.injEq, true_and] at e1'
              subst e1'
              rw [q1] at e2
              simp only [Value.pointer.injEq, Option.some.injEq, Addr.mk.injEq, and_true, true_and] at e2
              subst e2
              omega
            · exact h.apart i id _ _ q2 e3 hid b (by rw [q1]; rfl) (by rw [e2]; rfl)
          rw [(hk.cells b hblt (o + j) hno).1]
          refine hr j v ?_
          by_cases h2 : j < off
          · rw [List.getElem?_append_left (by simp; omega), List.getElem?_take, if_pos h2] at hv
            exact hv
          · have hl : (vs.take off).length = off := by simp; omega
            rw [List.getElem?_append_right (by omega), hl, List.getElem?_append_right (by omega), List.getElem?_drop, q6, show off + m.2.size + (j - off - m.2.size) = j by omega] at hv
            exact hv
      · have hl : (vs.take off ++ (u ++ vs.drop (off + m.2.size))).length = vs.length := by simp; omega
        rw [hl]
        intro j hj
        exact ⟨by rw [hk.there b hblt]; exact (ht j hj).1, by rw [hk.frozen b hblt]; exact (ht j hj).2⟩
  · obtain ⟨⟨b0, h0⟩, _⟩ := hmem i bi hi
    obtain ⟨⟨b1, h1⟩, _⟩ := hmem j bj hj
    exact h.apart i j _ _ h0 h1 hne k hki
  · obtain ⟨⟨b0, h0⟩, _⟩ := hmem i bi hi
    have := h.off i _ h0 k hki
    exact ⟨fun hs => (hS2 _ hs).elim this.1 fun hs => by omega, Nat.lt_of_lt_of_le this.2 hk.size⟩
  · exact (hS2 _ hq).elim (fun x => Nat.lt_of_lt_of_le (h.old q x) hk.size) (fun x => x.2)
  · have hcov : ∀ b o, b < E.W.heap.size → InL L b o → E.M b o := by
      intro b o hb hin
      obtain ⟨m, hmm, id, off, o1, cs, e1, e2, e3, hlo, hhi⟩ := inL b o hin
      rcases h.mine id _ e3 with hh | ⟨cs0, b0, o0, e0, e4, hM⟩
      · have := hh b (by rw [e2]; rfl); omega
      · simp only [Blk.box.injEq] at e0
        subst e0
        rw [e2] at e4
        simp only [Value.pointer.injEq, Option.some.injEq, Addr.mk.injEq, and_true] at e4
        obtain ⟨rfl, rfl⟩ := e4
        obtain ⟨old, new, seg, u, b', o', q1, q2, q3, q4, q5, q6, q7⟩ := c4 m hmm id off e1
        rw [e3] at q2
        simp only [Option.some.injEq, Blk.box.injEq] at q2
        subst q2
        obtain ⟨b2, o2, vs, _, hcs, _, _, hle, _, _⟩ := hwid m hmm id off e1 e3 q3 q5 q6
        have := hM (o - o1) (by rw [← RepCs.length hcs]; omega)
        rwa [show o1 + (o - o1) = o by omega] at this
    refine ⟨hk.os.trans h.kept.os, hk.tape.trans h.kept.tape, hk.output.trans h.kept.output, Nat.le_trans h.kept.size hk.size, fun b hb hM => ?_, fun b hb o hM => ⟨?_, trivial⟩, fun b hb o => ?_, fun b hb o => ?_⟩
    · rw [hk.block b (Nat.lt_of_lt_of_le hb h.kept.size) fun o ho => hM o (hcov b o hb ho)]
      exact h.kept.block b hb hM
    · rw [(hk.cells b (Nat.lt_of_lt_of_le hb h.kept.size) o fun ho => hM (hcov b o hb ho)).1]
      exact (h.kept.cells b hb o hM).1
    · rw [hk.frozen b (Nat.lt_of_lt_of_le hb h.kept.size)]; exact h.kept.frozen b hb o
    · rw [hk.there b (Nat.lt_of_lt_of_le hb h.kept.size)]; exact h.kept.there b hb o
  · exact (hS2 _ hb).elim (h.new b) fun x => .inr (Nat.le_trans h.kept.size x.1)
  · obtain ⟨⟨b0, h0⟩, hcase⟩ := hmem i bi hi
    rcases hcase with hno | ⟨m, hmm, off, e1⟩
    · rw [c3 i hno] at hi
      exact h.mine i bi hi
    · obtain ⟨old, new, seg, u, b, o, q1, q2, q3, q4, q5, q6, q7⟩ := c4 m hmm i off e1
      rw [q4] at hi
      simp only [Option.some.injEq] at hi
      subst hi
      obtain ⟨_, _, _, _, _, _, _, _, _, hw⟩ := hwid m hmm i off e1 q2 q3 q5 q6
      refine (h.mine i _ q2).imp (fun x => x) ?_
      rintro ⟨cs0, b0, o0, e0, e4, hM⟩
      simp only [Blk.box.injEq] at e0
      subst e0
      exact ⟨new, b0, o0, rfl, e4, by rw [hw]; exact hM⟩
  · refine (hS2 _ hb).elim (h.sep b o hM).1 fun x => ?_
    have := (h.sep b o hM).2
    have := h.kept.size
    omega
  · obtain ⟨⟨b0, h0⟩, _⟩ := hmem i bi hi
    exact h.par i _ h63 h0
end Go.Pr
