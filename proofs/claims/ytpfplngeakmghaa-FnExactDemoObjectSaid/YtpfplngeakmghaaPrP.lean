/- The state at a loop's head. -/
import Derived.Test.YtpfplngeakmghaaPrO
namespace Go.Pr
set_option linter.unusedVariables false
variable {S S' : Nat → Prop} {σ σ' : Sg} {w w' : World} {E : En} {G : Gh} {s s' : St} {a : Act} {C : Cfg} {R : Type} {r : R}

theorem stillLive_sound : ∀ {ls : List (Nat × LK)} {G : Gh} {s : St}, Sim E G s a w → ∃ S', Sim E ⟨S', G.σ⟩ (stillLive s ls) a w
  | [], G, s, h => ⟨G.S, h⟩
  | (t, k) :: r, G, s, h => by
    have step : ∀ s', (∃ S', Sim E ⟨S', G.σ⟩ s' a w) → ∃ S', Sim E ⟨S', G.σ⟩ (stillLive s' r) a w := fun s' ⟨S', h'⟩ => stillLive_sound (G := ⟨S', G.σ⟩) h'
    have st : ∀ cs, ∃ S', Sim E ⟨S', G.σ⟩ (s.still cs) a w := fun cs => let ⟨S', _, _, _, h'⟩ := h.still (cs := cs); ⟨S', h'⟩
    have id' : ∃ S', Sim E ⟨S', G.σ⟩ s a w := ⟨G.S, h⟩
    cases k <;> simp only [stillLive] <;> apply step
    case val τ => split <;> first | exact st _ | exact id'
    case agg τ => split <;> first | exact st _ | exact id'
    case box τ => split <;> (try split) <;> first | exact st _ | exact id'
    case par τ => split <;> (try split) <;> first | exact st _ | exact id'
    all_goals exact id'

/-- A block under its place. -/
def RepL (S : Nat → Prop) (w : World) (L : Loc) (b : Blk) : Prop := RepB S (fun _ => L) w 0 b ∧ b.ids = []

def assocL : List (Nat × Loc) → Sg
  | [], _ => ⟨undef, 0, 0⟩
  | (j, x) :: r, t => bif Nat.beq t j then x else assocL r t

theorem RepB.place {i j : Nat} {b : Blk} (h : RepB S σ w i b) (hb : b.ids = []) (e : σ' j = σ i) : RepB S σ' w j b := by
  cases b with
  | box cs =>
    obtain ⟨b, o, vs, h1, h2, h3, h4⟩ := h
    refine ⟨b, o, vs, by rw [e]; exact h1, RepCs.keep (fun _ x => x) (fun _ _ => rfl) (fun p hp i hi => ?_) h2, h3, h4⟩
    exfalso
    have : i ∈ (Blk.box cs).ids := List.mem_flatMap.2 ⟨p, hp, hi⟩
    rw [hb] at this; simp at this
  | rows T e' xs =>
    obtain ⟨vs, h1, h2, h3, h4⟩ := h
    exact ⟨vs, h1, by rw [e]; exact h2, by rw [e]; exact h3, h4⟩

theorem inj_blk_ids (τ : Ty) (x : τ.den) : (Blk.box (inj τ x)).ids = [] := by
  simp only [Blk.ids, List.flatMap_eq_nil_iff]
  exact fun p hp => inj_ids τ x p hp
theorem inj_agg_ids (τ : Ty) (x : τ.den) : (SV.agg (inj τ x)).ids = [] := by
  simp only [SV.ids, List.flatMap_eq_nil_iff]
  exact fun p hp => inj_ids τ x p hp

theorem shut_rep {p : PV} {vs : List Value} (h : RepC S σ w p vs) : RepC S σ' w p.shut vs := by
  have hone := RepC.one h
  have hlen := RepC.length h
  have un : p.width = 1 → RepC S σ' w .undef vs := fun hw => by
    rw [hw] at hlen
    obtain ⟨v, rfl⟩ := List.length_eq_one_iff.1 hlen
    exact ⟨v, rfl, hone v (by simp)⟩
  have keep : p.ids = [] → RepC S σ' w p vs := fun hi => RepC.keep (fun _ x => x) (fun _ _ => rfl) (fun i h => by rw [hi] at h; simp at h) h
  cases p <;> simp only [PV.shut] <;> first | exact keep rfl | exact un rfl
theorem shutC_rep : ∀ {cs : List PV} {vs : List Value}, RepCs S σ w cs vs → RepCs S σ' w (cs.map PV.shut) vs
  | [], _, h => h
  | p :: cs, _, ⟨u, v, e, x, y⟩ => ⟨u, v, e, shut_rep x, shutC_rep y⟩

/-- What a slot at a loop's head gives. -/
theorem canonAt_sound (h : Sim E G s a w) {t : Nat} {k : LK} {x : SV} {ob : Option (Nat × Blk)} {src : Option Nat} (e : canonAt s t k = some (x, ob, src)) :
    (ob = none ∧ RepS G.S σ0 w x (a.tmps.getD t undef) ∧ x.ids = []) ∨
    (∃ i b L, ob = some (i, b) ∧ RepL G.S w L b ∧ (∀ σ', σ' i = L → RepS G.S σ' w x (a.tmps.getD t undef)) ∧ x.ids = [i] ∧
      ((src = none ∧ blockOf L.v = none ∧ i = 64 * t ∧ ∃ T e, b = .rows T e []) ∨ ∃ id bi, src = some id ∧ s.mem id = some bi ∧ L.v = (G.σ id).v ∧ ((∃ T e xs, b = .rows T e xs ∧ ∃ T' e' xs', bi = .rows T' e' xs') ∨ ∃ cs cs', b = .box cs ∧ bi = .box cs' ∧ widthC cs = widthC cs') ∧ (i = 64 * t ∨ (i = id ∧ i % 64 = 63)))) := by
  have ht := h.tmp t
  unfold canonAt at e
  split at e
  · simp at e
  · rename_i τ p hne hs
    rw [hs] at ht
    split at e
    · rename_i y hy
      split at e
      · rename_i c hc
        simp only [Option.some.injEq, Prod.mk.injEq] at e
        obtain ⟨rfl, rfl, rfl⟩ := e
        left
        have hu : p ≠ .undef := fun e => hne e
        have hT := projAll_rep (σ := σ0) (shutC_rep (cs := [p]) (vs := [a.tmps.getD t undef]) ⟨[a.tmps.getD t undef], [], rfl, RepS.of_v ht hu, rfl⟩) hy
        have hr : RepCs G.S σ0 w (inj τ y) [a.tmps.getD t undef] := inj_rep τ y _ hT
        have hids := inj_ids τ y c (by rw [hc]; simp)
        rw [hc] at hr
        obtain ⟨u, v, e1, hu1, hv⟩ := hr
        cases hv
        simp only [List.append_nil] at e1
        subst e1
        exact ⟨rfl, RepS.v hu1, hids⟩
      · simp at e
    · simp at e
  · rename_i τ cs hs
    rw [hs] at ht
    split at e
    · rename_i y hy
      simp only [Option.some.injEq, Prod.mk.injEq] at e
      obtain ⟨rfl, rfl, rfl⟩ := e
      obtain ⟨vs, hv, hc⟩ := ht
      exact .inl ⟨rfl, ⟨vs, hv, inj_rep τ y _ (projAll_rep (σ := σ0) (shutC_rep hc) hy)⟩, inj_agg_ids τ y⟩
    · simp at e
  · rename_i T e' hs
    rw [hs] at ht
    rcases cond_some e with ⟨hsz, e⟩ | ⟨_, e⟩
    · simp only [Option.some.injEq, Prod.mk.injEq] at e
      obtain ⟨rfl, rfl, rfl⟩ := e
      have hv : a.tmps.getD t undef = .slice none 0 0 := by have := RepS.of_v ht (by simp); simpa [RepC] using this
      refine .inr ⟨64 * t, .rows T e' [], ⟨.slice none 0 0, T, e'.size⟩, rfl, ⟨⟨[], rfl, World.ownsRow_nil w 0 T e'.size, rfl, Nat.le_of_ble_eq_true hsz⟩, rfl⟩, fun σ' hσ => ?_, rfl, .inl ⟨rfl, rfl, rfl, T, e', rfl⟩⟩
      rw [hv]
      exact RepS.v ⟨by rw [hσ], none, 0, 0, by rw [hσ]⟩
    · simp at e
  · rename_i T e' id hs
    rw [hs] at ht
    split at e
    · rename_i T' e2 xs hm
      rcases cond_some e with ⟨hT, e⟩ | ⟨_, e⟩
      · have hT := Nat.eq_of_beq_eq_true hT
        subst hT
        split at e
        · rename_i he _
          subst he
          simp only [Option.some.injEq, Prod.mk.injEq] at e
          obtain ⟨rfl, rfl, rfl⟩ := e
          obtain ⟨hv, p, n, c, hσ⟩ := RepS.of_v ht (by simp)
          simp only [List.cons.injEq, and_true] at hv
          refine .inr ⟨64 * t, _, G.σ id, rfl, ⟨(h.mem id _ hm).place rfl rfl, rfl⟩, fun σ' hσ' => ?_, rfl, .inr ⟨id, _, rfl, hm, rfl, .inl ⟨_, _, _, rfl, _, _, _, rfl⟩, .inl rfl⟩⟩
          rw [hv]
          exact RepS.v ⟨by rw [hσ'], p, n, c, by rw [hσ', hσ]⟩
        · simp at e
      · simp at e
    · simp at e
  · rename_i τ id hs
    rw [hs] at ht
    split at e
    · rename_i cs hm
      split at e
      · rename_i y hy
        rcases cond_some e with ⟨_, e⟩ | ⟨_, e⟩
        · simp only [Option.some.injEq, Prod.mk.injEq] at e
          obtain ⟨rfl, rfl, rfl⟩ := e
          obtain ⟨b, o, vs, h1, h2, h3, h4⟩ := h.mem id _ hm
          obtain ⟨b', o', hσ, hv⟩ := RepS.of_v ht (by simp)
          simp only [List.cons.injEq, and_true] at hv
          have hrep : RepCs G.S (fun _ => G.σ id) w (inj τ y) vs := inj_rep τ y _ (projAll_rep (σ := σ0) (shutC_rep h2) hy)
          refine .inr ⟨64 * t, _, G.σ id, rfl, ⟨⟨b, o, vs, h1, hrep, h3, h4⟩, inj_blk_ids τ y⟩, fun σ' hσ' => ?_, rfl, .inr ⟨id, _, rfl, hm, rfl, .inr ⟨_, _, rfl, rfl, ?_⟩, .inl rfl⟩⟩
          · rw [hv]
            exact RepS.v ⟨b', o', by rw [hσ', hσ], rfl⟩
          · rw [← RepCs.length hrep, ← RepCs.length h2]
        · simp at e
      · simp at e
    · simp at e
  · rename_i τ id hs
    rw [hs] at ht
    split at e
    · rename_i cs hm
      split at e
      · rename_i y hy
        rcases cond_some e with ⟨h63, e⟩ | ⟨_, e⟩
        · simp only [Option.some.injEq, Prod.mk.injEq] at e
          obtain ⟨rfl, rfl, rfl⟩ := e
          obtain ⟨b, o, vs, h1, h2, h3, h4⟩ := h.mem id _ hm
          obtain ⟨b', o', hσ, hv⟩ := RepS.of_v ht (by simp)
          simp only [List.cons.injEq, and_true] at hv
          have hrep : RepCs G.S (fun _ => G.σ id) w (inj τ y) vs := inj_rep τ y _ (projAll_rep (σ := σ0) (shutC_rep h2) hy)
          refine .inr ⟨id, _, G.σ id, rfl, ⟨⟨b, o, vs, h1, hrep, h3, h4⟩, inj_blk_ids τ y⟩, fun σ' hσ' => ?_, rfl, .inr ⟨id, _, rfl, hm, rfl, .inr ⟨_, _, rfl, rfl, ?_⟩, .inr ⟨rfl, Nat.eq_of_beq_eq_true h63⟩⟩⟩
          · rw [hv]
            exact RepS.v ⟨b', o', by rw [hσ', hσ], rfl⟩
          · rw [← RepCs.length hrep, ← RepCs.length h2]
        · simp at e
      · simp at e
    · simp at e
  · rename_i τ τ' y hs
    rw [hs] at ht
    split at e
    · simp only [Option.some.injEq, Prod.mk.injEq] at e
      obtain ⟨rfl, rfl, rfl⟩ := e
      exact .inl ⟨rfl, RepS.v (RepC.keep (fun _ x => x) (fun _ _ => rfl) (fun i hi => by simp [PV.ids] at hi) (RepS.of_v ht (by simp))), rfl⟩
    · simp at e
  · rename_i p hs
    rw [hs] at ht
    rcases cond_some e with ⟨hcl, e⟩ | ⟨_, e⟩
    · simp only [Option.some.injEq, Prod.mk.injEq] at e
      obtain ⟨rfl, rfl, rfl⟩ := e
      have hids : p.ids = [] := by cases p <;> simp [PV.closed, PV.ids] at hcl ⊢
      refine .inl ⟨rfl, ?_, hids⟩
      by_cases hu : p = .undef
      · subst hu; trivial
      · exact RepS.v (RepC.keep (fun _ x => x) (fun _ _ => rfl) (fun i hi => by rw [hids] at hi; simp at hi) (RepS.of_v ht hu))
    · simp at e
  · simp at e

/-- What the whole head gives: slots under the places Ls, blocks at those places; from where. -/
structure HeadOK (E : En) (G : Gh) (s : St) (a : Act) (w : World) (lo : Nat) (used : List Nat) (ts : List (Nat × SV)) (ms : List (Nat × Blk)) (Ls : List (Nat × Loc)) : Prop where
  slots : ∀ p ∈ ts, lo ≤ p.1 ∧ RepS G.S (assocL Ls) w p.2 (a.tmps.getD p.1 undef) ∧ ∀ i ∈ p.2.ids, ∃ L, (i, L) ∈ Ls
  blocks : All2 (fun (m : Nat × Blk) (l : Nat × Loc) => m.1 = l.1 ∧ RepL G.S w l.2 m.2) ms Ls
  keys : ∀ l ∈ Ls, ((∃ t, lo ≤ t ∧ l.1 = 64 * t) ∨ (l.1 % 64 = 63 ∧ ∃ bi, s.mem l.1 = some bi ∧ l.2.v = (G.σ l.1).v ∧ l.1 ∉ used))
  srcs : ∀ m ∈ ms, ∀ l ∈ Ls, m.1 = l.1 → (blockOf l.2.v = none ∧ ∃ T e, m.2 = .rows T e []) ∨ ∃ id bi, s.mem id = some bi ∧ l.2.v = (G.σ id).v ∧ id ∉ used ∧ ((∃ T e xs, m.2 = .rows T e xs ∧ ∃ T' e' xs', bi = .rows T' e' xs') ∨ ∃ cs cs', m.2 = .box cs ∧ bi = .box cs' ∧ widthC cs = widthC cs')
  apart : ∀ l ∈ Ls, ∀ l' ∈ Ls, l.1 ≠ l'.1 → ∀ k, blockOf l.2.v = some k → blockOf l'.2.v ≠ some k
  nodup : (Ls.map (·.1)).Nodup

theorem assocL_mem : ∀ {Ls : List (Nat × Loc)} {i : Nat} {L : Loc}, (Ls.map (·.1)).Nodup → (i, L) ∈ Ls → assocL Ls i = L
  | (j, M) :: Ls, i, L, hn, h => by
    simp only [List.map_cons, List.nodup_cons] at hn
    rcases List.mem_cons.1 h with h | h
    · simp only [Prod.mk.injEq] at h
      obtain ⟨rfl, rfl⟩ := h
      simp [assocL]
    · have : i ≠ j := fun e => hn.1 (e ▸ List.mem_map.2 ⟨_, h, rfl⟩)
      simp only [assocL, beq_ne this, cond_false]
      exact assocL_mem hn.2 h

theorem canonGo_sound (h : Sim E G s a w) : ∀ {ls : List (Nat × LK)} {lo : Nat} {used : List Nat} {ts : List (Nat × SV)} {ms : List (Nat × Blk)}, canonGo s ls lo used = some (ts, ms) → ∃ Ls, HeadOK E G s a w lo used ts ms Ls := by
  intro ls
  induction ls with
  | nil =>
    intro lo used ts ms e
    simp only [canonGo, Option.some.injEq, Prod.mk.injEq] at e
    obtain ⟨rfl, rfl⟩ := e
    exact ⟨[], by simp, .nil, by simp, by simp, by simp, by simp⟩
  | cons q ls ih =>
    obtain ⟨t, k⟩ := q
    intro lo used ts ms e
    simp only [canonGo] at e
    rcases cond_some e with ⟨hlo, e⟩ | ⟨_, e⟩
    · have hlo := Nat.le_of_ble_eq_true hlo
      have plain : ∀ {x ts' ms'}, RepS G.S σ0 w x (a.tmps.getD t undef) → x.ids = [] → (∃ Ls, HeadOK E G s a w (t + 1) used ts' ms' Ls) → ∃ Ls, HeadOK E G s a w lo used ((t, x) :: ts') ms' Ls := by
        rintro x ts' ms' hx hi ⟨Ls, H⟩
        refine ⟨Ls, fun p hp => ?_, H.blocks, fun l hl => ?_, H.srcs, H.apart, H.nodup⟩
        · rcases List.mem_cons.1 hp with rfl | hp
          · exact ⟨hlo, RepS.keep (fun _ x => x) (fun _ _ => rfl) (fun i h => by rw [hi] at h; simp at h) hx, fun i h => by rw [hi] at h; simp at h⟩
          · have := H.slots p hp; exact ⟨by omega, this.2⟩
        · exact (H.keys l hl).imp (fun ⟨q, h1, h2⟩ => ⟨q, by omega, h2⟩) (fun x => x)
      have block : ∀ {x i b ts' ms'} {src : Option Nat} {used' : List Nat}, canonAt s t k = some (x, some (i, b), src) → (∀ j, j ∉ used' → j ∉ used) → (∀ id, src = some id → id ∉ used ∧ id ∈ used') →
          (∃ Ls, HeadOK E G s a w (t + 1) used' ts' ms' Ls) → ∃ Ls, HeadOK E G s a w lo used ((t, x) :: ts') ((i, b) :: ms') Ls := by
        rintro x i b ts' ms' src used' hat hsub hsrc ⟨Ls, H⟩
        rcases canonAt_sound h hat with ⟨h0, _⟩ | ⟨i', b', L, he, hL, hslot, hids, hfrom⟩
        · simp at h0
        · simp only [Option.some.injEq, Prod.mk.injEq] at he
          obtain ⟨rfl, rfl⟩ := he
          have hkey : i = 64 * t ∨ (i % 64 = 63 ∧ src = some i ∧ ∃ bi, s.mem i = some bi ∧ L.v = (G.σ i).v) := by
            rcases hfrom with ⟨_, _, hi, _⟩ | ⟨id, bi, h1, h2, h3, _, h5⟩
            · exact .inl hi
            · rcases h5 with h5 | ⟨rfl, h5⟩
              · exact .inl h5
              · exact .inr ⟨h5, h1, bi, h2, h3⟩
          have hnew : ∀ l ∈ Ls, l.1 ≠ i := by
            intro l hl e1
            rcases H.keys l hl with ⟨t', ht', h1⟩ | ⟨h1, bi, _, _, h4⟩
            · rcases hkey with h2 | ⟨h2, _⟩ <;> omega
            · rcases hkey with h2 | ⟨h2, h3, _⟩
              · omega
              · rw [e1] at h4; exact h4 (hsrc i h3).2
          have hsrcL : (blockOf L.v = none ∧ ∃ T e, b = .rows T e []) ∨ ∃ id bi, s.mem id = some bi ∧ L.v = (G.σ id).v ∧ id ∉ used ∧ id ∈ used' ∧ ((∃ T e xs, b = .rows T e xs ∧ ∃ T' e' xs', bi = .rows T' e' xs') ∨ ∃ cs cs', b = .box cs ∧ bi = .box cs' ∧ widthC cs = widthC cs') := by
            rcases hfrom with ⟨_, h1, _, h2⟩ | ⟨id, bi, h1, h2, h3, h4, _⟩
            · exact .inl ⟨h1, h2⟩
            · exact .inr ⟨id, bi, h2, h3, (hsrc id h1).1, (hsrc id h1).2, h4⟩
          have hcross : ∀ l' ∈ Ls, ∀ k, blockOf L.v = some k → blockOf l'.2.v ≠ some k := by
            intro l' hl' k hk hk'
            rcases hsrcL with ⟨h1, _⟩ | ⟨id, bi, h1, h2, h3, h4, _⟩
            · rw [h1] at hk; simp at hk
            · obtain ⟨m', hm', hmm⟩ := All2.mem_right H.blocks hl'
              rcases H.srcs m' hm' l' hl' hmm.1 with ⟨g1, _⟩ | ⟨id', bi', g1, g2, g3, _⟩
              · rw [g1] at hk'; simp at hk'
              · have hne : id ≠ id' := fun e => g3 (e ▸ h4)
                rw [h2] at hk
                rw [g2] at hk'
                exact h.apart id id' _ _ h1 g1 hne k hk hk'
          refine ⟨(i, L) :: Ls, fun p hp => ?_, .cons ⟨rfl, hL⟩ H.blocks, fun l hl => ?_, fun m hm l hl e1 => ?_, fun l hl l' hl' hne k hk => ?_, ?_⟩
          · rcases List.mem_cons.1 hp with rfl | hp
            · refine ⟨hlo, hslot _ (by simp [assocL]), fun j hj => ?_⟩
              simp only at hj
              rw [hids, List.mem_singleton] at hj
              subst hj
              exact ⟨L, by simp⟩
            · obtain ⟨g1, g2, g3⟩ := H.slots p hp
              refine ⟨by omega, RepS.keep (fun _ x => x) (fun _ _ => rfl) (fun j hj => ?_) g2, fun j hj => let ⟨M, hM⟩ := g3 j hj; ⟨M, by simp [hM]⟩⟩
              obtain ⟨M, hM⟩ := g3 j hj
              have : j ≠ i := hnew _ hM
              simp only [assocL, beq_ne this, cond_false]
          · rcases List.mem_cons.1 hl with rfl | hl
            · rcases hkey with h1 | ⟨h1, h2, bi, h3, h4⟩
              · exact .inl ⟨t, hlo, h1⟩
              · exact .inr ⟨h1, bi, h3, h4, (hsrc i h2).1⟩
            · exact (H.keys l hl).imp (fun ⟨q, h1, h2⟩ => ⟨q, by omega, h2⟩) (fun ⟨h1, bi, h2, h3, h4⟩ => ⟨h1, bi, h2, h3, hsub _ h4⟩)
          · rcases List.mem_cons.1 hm with rfl | hm <;> rcases List.mem_cons.1 hl with rfl | hl
            · exact hsrcL.imp (fun x => x) fun ⟨id, bi, h1, h2, h3, _, h5⟩ => ⟨id, bi, h1, h2, h3, h5⟩
            · exact absurd e1.symm (hnew l hl)
            · obtain ⟨l', hl', hmm⟩ := All2.mem_left H.blocks hm
              exact absurd (hmm.1.symm.trans e1) (hnew l' hl')
            · exact (H.srcs m hm l hl e1).imp (fun x => x) fun ⟨id, bi, h1, h2, h3, h5⟩ => ⟨id, bi, h1, h2, hsub _ h3, h5⟩
          · rcases List.mem_cons.1 hl with rfl | hl <;> rcases List.mem_cons.1 hl' with rfl | hl'
            · exact absurd rfl hne
            · exact hcross l' hl' k hk
            · exact fun hk' => hcross l hl k hk' hk
            · exact H.apart l hl l' hl' hne k hk
          · simp only [List.map_cons, List.nodup_cons]
            refine ⟨fun hin => ?_, H.nodup⟩
            obtain ⟨l, hl, e1⟩ := List.mem_map.1 hin
            exact hnew l hl e1
      split at e
      · rename_i x src hat
        split at e
        · rename_i ts' ms' hrec
          simp only [Option.some.injEq, Prod.mk.injEq] at e
          obtain ⟨rfl, rfl⟩ := e
          rcases canonAt_sound h hat with ⟨_, h1, h2⟩ | ⟨i, b, L, h0, _⟩
          · exact plain h1 h2 (ih hrec)
          · simp at h0
        · simp at e
      · rename_i x b hat
        obtain ⟨i, b⟩ := b
        split at e
        · rename_i ts' ms' hrec
          simp only [Option.some.injEq, Prod.mk.injEq] at e
          obtain ⟨rfl, rfl⟩ := e
          exact block hat (fun _ x => x) (fun id hid => by simp at hid) (ih hrec)
        · simp at e
      · rename_i x b id hat
        obtain ⟨i, b⟩ := b
        rcases cond_some e with ⟨_, e⟩ | ⟨hused, e⟩
        · simp at e
        · split at e
          · rename_i ts' ms' hrec
            simp only [Option.some.injEq, Prod.mk.injEq] at e
            obtain ⟨rfl, rfl⟩ := e
            refine block hat (fun j hj => fun hj' => hj (by simp [hj'])) (fun id' hid => ?_) (ih hrec)
            simp only [Option.some.injEq] at hid
            subst hid
            refine ⟨fun hin => ?_, by simp⟩
            have := List.any_eq_false.1 hused id hin
            simp at this
          · simp at e
      · simp at e
    · simp at e

theorem assocSV_mem : ∀ (ts : List (Nat × SV)) (t : Nat), assocSV ts t = .v .undef ∨ (t, assocSV ts t) ∈ ts
  | [], t => .inl rfl
  | (j, x) :: ts, t => by
    by_cases h : t = j
    · subst h; right; simp [assocSV]
    · simp only [assocSV, beq_ne h, cond_false]
      exact (assocSV_mem ts t).imp (fun x => x) (fun x => by simp [x])
theorem assocB_mem : ∀ (ms : List (Nat × Blk)) (i : Nat) (b : Blk), assocB ms i = some b → (i, b) ∈ ms
  | [], i, b, h => by simp [assocB] at h
  | (j, x) :: ms, i, b, h => by
    by_cases hij : i = j
    · subst hij; simp [assocB] at h; simp [h]
    · simp only [assocB, beq_ne hij, cond_false] at h
      simp [assocB_mem ms i b h]

theorem stillLive_n : ∀ (ls : List (Nat × LK)) (s : St), (stillLive s ls).n = s.n := by
  have hf : ∀ (s : St) (i : Nat), (s.freeze i).n = s.n := fun s i => by unfold St.freeze; split <;> rfl
  have hs : ∀ (cs : List PV) (s : St), (s.still cs).n = s.n := by
    intro cs
    induction cs with
    | nil => intro s; rfl
    | cons p cs ih => intro s; cases p <;> simp only [St.still, ih, hf]
  intro ls
  induction ls with
  | nil => intro s; rfl
  | cons q ls ih =>
    obtain ⟨t, k⟩ := q
    intro s
    cases k <;> simp only [stillLive, ih]
    case val => split <;> simp [hs]
    case agg => split <;> simp [hs]
    case box => split <;> (try split) <;> simp [hs]
    case par => split <;> (try split) <;> simp [hs]

theorem Sim.canon (h : Sim E G s a w) {ls : List (Nat × LK)} (e : canon s ls = some s') : ∃ G', Sim E G' s' a w := by
  unfold Go.Pr.canon at e
  obtain ⟨S', h1⟩ := stillLive_sound (ls := ls) h
  simp only at e
  split at e
  · rename_i ts ms hgo
    simp only [Option.some.injEq] at e
    subst e
    obtain ⟨Ls, H⟩ := canonGo_sound h1 hgo
    have look : ∀ i b, assocB ms i = some b → ∃ L, (i, L) ∈ Ls ∧ (i, b) ∈ ms ∧ RepL S' w L b ∧ assocL Ls i = L := by
      intro i b hb
      have hm := assocB_mem ms i b hb
      obtain ⟨⟨j, L⟩, hl, h2, h3⟩ := All2.mem_left H.blocks hm
      simp only at h2 h3
      subst h2
      exact ⟨L, hl, hm, h3, assocL_mem H.nodup hl⟩
    refine ⟨⟨S', assocL Ls⟩, h1.defers, by rw [h.size]; exact (stillLive_n ls s).symm ▸ rfl, fun t => ?_, fun i b hb => ?_, fun i j bi bj hi hj hne k hk => ?_, fun i bi hi k hk => ?_, h1.old, h1.kept, h1.sub, h1.new, fun i bi hi => ?_, h1.sep, fun i bi h63 hi => ?_⟩
    · rcases assocSV_mem ts t with h2 | h2
      · simp only [h2]; trivial
      · exact (H.slots _ h2).2.1
    · obtain ⟨L, hl, hm, hr, hL⟩ := look i b hb
      exact hr.1.place hr.2 hL
    · obtain ⟨L, hl, hm, hr, hL⟩ := look i bi hi
      obtain ⟨L', hl', hm', hr', hL'⟩ := look j bj hj
      simp only [hL] at hk
      simp only [hL']
      exact H.apart _ hl _ hl' hne k hk
    · obtain ⟨L, hl, hm, hr, hL⟩ := look i bi hi
      simp only [hL] at hk
      rcases H.srcs _ hm _ hl rfl with ⟨h2, _⟩ | ⟨id, b0, h2, h3, _⟩
      · simp only at h2; rw [h2] at hk; simp at hk
      · simp only at h3; rw [h3] at hk; exact h1.off id _ h2 k hk
    · obtain ⟨L, hl, hm, hr, hL⟩ := look i bi hi
      simp only [hL]
      rcases H.srcs _ hm _ hl rfl with ⟨h2, _⟩ | ⟨id, b0, h2, h3, _, h4⟩
      · left; intro k hk; simp only at h2; rw [h2] at hk; simp at hk
      · simp only at h3 h4
        rw [h3]
        rcases h4 with ⟨T, e, xs, hb, T', e', xs', hb'⟩ | ⟨cs, cs', hb, hb', hw⟩
        · subst hb'
          rcases h1.mine id _ h2 with hh | ⟨cs0, b1, o1, e0, _⟩
          · exact .inl hh
          · simp at e0
        · subst hb'
          subst hb
          refine (h1.mine id _ h2).imp (fun x => x) ?_
          rintro ⟨cs0, b1, o1, e0, e1, hM⟩
          simp only [Blk.box.injEq] at e0
          subst e0
          exact ⟨cs, b1, o1, rfl, e1, by rw [hw]; exact hM⟩
    · obtain ⟨L, hl, hm, hr, hL⟩ := look i bi hi
      simp only [hL]
      rcases H.keys _ hl with ⟨q, _, h2⟩ | ⟨_, b0, h2, h3, _⟩
      · simp only at h2; omega
      · simp only at h2 h3; rw [h3]; exact h1.par i b0 h63 h2
  · simp at e
end Go.Pr
