/- Calls: the caller's side. -/
import Derived.Test.YtjebgmofebmgaaaGreatPsI
namespace Go.Ps
set_option linter.unusedVariables false
variable {S S' : Nat → Prop} {σ σ' : Sg} {w w' : World} {E : En} {G : Gh} {s s' : St} {a : Act} {C : Cfg} {R : Type} {r : R}

theorem TupV.length : ∀ {sh : List (Nat × Bool)} {us xs : List Value}, TupV sh us xs → us.length = (sh.map (·.1)).foldr (· + ·) 0 ∧ xs.length = sh.length := by
  intro sh
  induction sh with
  | nil => intro us xs h; obtain ⟨rfl, rfl⟩ := h; exact ⟨rfl, rfl⟩
  | cons q sh ih =>
    intro us xs h
    obtain ⟨u, v, y, ys, rfl, rfl, hl, _, _, h⟩ := h
    obtain ⟨h1, h2⟩ := ih h
    refine ⟨?_, by simp [h2]⟩
    rw [List.length_append, h1, hl]; rfl

theorem resSV_rep {sg : Sig} {cs : List PV} {us ms xs : List Value} {x : SV} (hc : RepCs S σ w cs (us ++ ms)) (ht : TupV sg.shape us xs) (e : resSV sg.res cs = some x) : RepS S σ w x (oneOf xs) := by
  have hlen := ht.length.1
  unfold resSV at e
  split at e
  · rename_i hres
    simp only [Sig.shape, hres, List.map_nil] at ht
    obtain ⟨rfl, rfl⟩ := ht
    simp only [Option.some.injEq] at e
    subst e
    exact ⟨[], rfl, [], rfl, rfl, rfl⟩
  · rename_i τ hres
    simp only [Sig.shape, hres, List.map_cons, List.map_nil] at ht
    obtain ⟨u, v, y, ys, rfl, rfl, hl, h1, _, rfl, rfl⟩ := ht
    split at e
    · rename_i c hc'
      simp only [Option.some.injEq] at e
      subst e
      have := (RepCs.take hc hc').1
      rw [List.append_nil, List.take_append_of_le_length (by omega), List.take_of_length_le (by omega)] at this
      exact ⟨u, h1 rfl, this⟩
    · simp at e
  · rename_i τ hres
    simp only [Sig.shape, hres, List.map_cons, List.map_nil] at ht
    obtain ⟨u, v, y, ys, rfl, rfl, hl, _, h2, rfl, rfl⟩ := ht
    split at e
    · rename_i c hc'
      simp only [Option.some.injEq] at e
      subst e
      have := (RepCs.take hc hc').1
      rw [List.append_nil, List.take_append_of_le_length (by omega), List.take_of_length_le (by omega), h2 rfl] at this
      obtain ⟨p, q, e1, hp, hq⟩ := this
      cases hq
      simp only [List.append_nil] at e1
      subst e1
      exact RepS.v hp
    · simp at e
  · rename_i h1 h2 h3
    split at e
    · rename_i c hc'
      simp only [Option.some.injEq] at e
      subst e
      have h4 := (RepCs.take hc hc').1
      have hsum : (sg.res.map (·.1.size)).foldr (· + ·) 0 = us.length := by rw [hlen]; simp [Sig.shape, List.map_map, Function.comp_def]
      rw [hsum, List.take_left] at h4
      have hx : oneOf xs = .tuple xs.toArray := by
        have hl2 := ht.length.2
        match xs, hl2 with
        | [], _ => rfl
        | [y], hl2 =>
          exfalso
          simp only [Sig.shape, List.length_map, List.length_singleton] at hl2
          match hr : sg.res, hl2 with
          | [(τ, true)], _ => exact h2 τ hr
          | [(τ, false)], _ => exact h3 τ hr
        | y :: z :: xs, _ => rfl
      rw [hx]
      exact ⟨xs, rfl, us, h4, ht⟩
    · simp at e


/-- A block under a number that is free. -/
theorem Sim.addB (h : Sim E G s a w) {id : Nat} {b : Blk} {L : Loc} {B : List Nat} (hm : s.mem id = none ∨ s.mem id = some .dead) (hσ : (G.σ id = none ∧ (id % 128 < 64 ∨ L.v = E.par id)) ∨ G.σ id = some L) (hβ : G.β id = [])
    (hB : RepB G.S (updσ G.σ id L) w L b B) (hnd : B.Nodup) (hk : ∀ k ∈ B, ¬ G.S k ∧ k < w.heap.size ∧ ∀ i, k ∉ G.β i)
    (hmine : ∀ k ∈ B, E.W.heap.size ≤ k ∨ E.O k ∨ (id % 128 = 127 ∧ ∃ cs o, b = .box cs ∧ L.v = .pointer (some ⟨k, o, none⟩) ∧ ∀ j, j < widthC cs → E.M k (o + j))) : Sim E ⟨G.S, updσ G.σ id L, updβ G.β id B⟩ (s.upd (.set id b)) a w := by
  have hle : SgLe G.σ (updσ G.σ id L) := fun i L' hL => by
    by_cases e : i = id
    · subst e
      rcases hσ with ⟨h0, _⟩ | h0
      · rw [h0] at hL; simp at hL
      · rw [h0] at hL; simp only [Option.some.injEq] at hL; subst hL; exact updσ_same _ _ _
    · simp [updσ, e, hL]
  refine h.change (upd_tmps _ _) (upd_n _ _) hle (fun _ x => x) (fun _ _ => rfl) h.kept (fun i c hc => ?_) (fun i hi => ?_) (fun i j hij k hk' => ?_) (fun i => ?_) (fun i k hk' => ?_) (fun q hq => .inl hq) (fun i k hk' => ?_) (fun i L' hi hL' => ?_) (Nat.le_refl _)
  · by_cases e : i = id
    · subst e
      rw [upd_set_same] at hc
      simp only [Option.some.injEq] at hc
      subst hc
      exact .inr ⟨L, updσ_same _ _ _, by simpa [updβ] using hB⟩
    · rw [upd_set_other _ _ e] at hc
      exact .inl ⟨hc, by simp [updβ, e], fun _ _ => rfl⟩
  · by_cases e : i = id
    · subst e; rw [upd_set_same] at hi; simp at hi
    · rw [upd_set_other _ _ e] at hi
      exact ⟨hi, by simp [updσ, e], by simp [updβ, e]⟩
  · by_cases e1 : i = id
    · have e2 : j ≠ id := fun x => hij (e1.trans x.symm)
      simp only [updβ, if_pos e1] at hk'
      simp only [updβ, if_neg e2]
      exact (hk k hk').2.2 j
    · simp only [updβ, if_neg e1] at hk'
      by_cases e2 : j = id
      · simp only [updβ, if_pos e2]; exact fun x => (hk k x).2.2 i hk'
      · simp only [updβ, if_neg e2]; exact h.apart i j hij k hk'
  · by_cases e1 : i = id
    · simp only [updβ, if_pos e1]; exact hnd
    · simp only [updβ, if_neg e1]; exact h.nodup i
  · by_cases e1 : i = id
    · simp only [updβ, if_pos e1] at hk'; exact ⟨(hk k hk').1, (hk k hk').2.1⟩
    · simp only [updβ, if_neg e1] at hk'; exact h.off i k hk'
  · by_cases e1 : i = id
    · subst e1
      simp only [updβ, if_true] at hk'
      refine (hmine k hk').imp (fun x => x) fun x => x.imp (fun x => x) fun ⟨g1, cs, o, g2, g3, g4⟩ => ⟨g1, cs, L, o, by rw [upd_set_same, g2], updσ_same _ _ _, g3, g4⟩
    · simp only [updβ, if_neg e1] at hk'
      refine (h.mine i k hk').imp (fun x => x) fun x => x.imp (fun x => x) fun ⟨g1, cs, L', o, g2, g3, g4⟩ => ⟨g1, cs, L', o, ?_, hle _ _ g3, g4⟩
      rw [upd_set_other _ _ e1]; exact g2
  · by_cases e1 : i = id
    · subst e1
      rcases hσ with ⟨_, h0⟩ | h0
      · have hL2 : updσ G.σ i L i = some L' := hL'
        rw [updσ_same] at hL2; simp only [Option.some.injEq] at hL2; subst hL2
        exact .inr (h0.resolve_left (by omega))
      · have hL2 : updσ G.σ i L i = some L' := hL'
        rw [updσ_same] at hL2; simp only [Option.some.injEq] at hL2; subst hL2; exact .inl h0
    · refine .inl ?_
      simpa [updσ, e1] using hL'

theorem SgLe.trans {σ'' : Sg} (h : SgLe σ σ') (h' : SgLe σ' σ'') : SgLe σ σ'' := fun i L e => h' i L (h i L e)
theorem sets_mem_other : ∀ {l : List (Nat × Blk)} {s : St} {i : Nat}, (∀ p ∈ l, p.1 ≠ i) → (s.upds (sets l)).mem i = s.mem i
  | [], _, _, _ => rfl
  | p :: l, s, i, h => by
    simp only [sets, List.map_cons, St.upds]
    rw [show (List.map (fun p => Upd.set p.1 p.2) l) = sets l from rfl, sets_mem_other (fun q hq => h q (by simp [hq])), upd_set_other _ _ (fun e => h p (by simp) e.symm)]
theorem sets_append (l l' : List (Nat × Blk)) : sets (l ++ l') = sets l ++ sets l' := List.map_append ..

theorem injK_P {id : Nat} : ∀ (τ : Ty) (f : Fl) (x : τ.den) (j : Nat) (k : List PV → List (Nat × Blk) → Nat → Option R), injK id τ f x j k = k (injP id τ f x j).1 (injP id τ f x j).2.1 (injP id τ f x j).2.2 := by
  intro τ
  induction τ with
  | list e ih => intro f x j k; cases f <;> rfl
  | opt e ih =>
    intro f x j k
    cases f with
    | box => cases x <;> rfl
    | _ => rfl
  | pair a b iha ihb =>
    intro f x j k
    cases f with
    | pair f g => simp only [injK, iha, ihb, injP]
    | _ => rfl
  | _ => intro f x j k; cases f <;> rfl
theorem injP_range {id : Nat} : ∀ (τ : Ty) (f : Fl) (x : τ.den) (j : Nat), j ≤ (injP id τ f x j).2.2 ∧ ∀ p ∈ (injP id τ f x j).2.1, id + j ≤ p.1 ∧ p.1 < id + (injP id τ f x j).2.2 := by
  intro τ
  induction τ with
  | list e ih => intro f x j; cases f <;> simp [injP]
  | opt e ih =>
    intro f x j
    cases f with
    | box => cases x <;> simp [injP]
    | _ => simp [injP]
  | pair a b iha ihb =>
    intro f x j
    cases f with
    | pair f g =>
      simp only [injP]
      have h1 := iha f x.1 j
      have h2 := ihb g x.2 (injP id a f x.1 j).2.2
      refine ⟨by omega, fun p hp => ?_⟩
      rcases List.mem_append.1 hp with hp | hp
      · have := h1.2 p hp; omega
      · have := h2.2 p hp; omega
    | _ => simp [injP]
  | _ => intro f x j; cases f <;> simp [injP]

/-- The values of a result's own blocks. -/
def headV (id : Nat) : (τ : Ty) → Fl → List Value → Nat → List (Nat × Value) × Nat
  | .list _, .own _ _, us, j => (us.head?.toList.map fun v => (id + j, v), j + 1)
  | .opt _, .box, us, j => (us.head?.toList.map fun v => (id + j, v), j + 1)
  | .pair a b, .pair f g, us, j => ((headV id a f (us.take a.size) j).1 ++ (headV id b g (us.drop a.size) (headV id a f (us.take a.size) j).2).1, (headV id b g (us.drop a.size) (headV id a f (us.take a.size) j).2).2)
  | _, _, _, j => ([], j)
theorem headV_num {id : Nat} : ∀ (τ : Ty) (f : Fl) (x : τ.den) (us : List Value) (j : Nat), (headV id τ f us j).2 = (injP id τ f x j).2.2 := by
  intro τ
  induction τ with
  | list e ih => intro f x us j; cases f <;> rfl
  | opt e ih => intro f x us j; cases f <;> first | rfl | (cases x <;> rfl)
  | pair a b iha ihb =>
    intro f x us j
    cases f with
    | pair f g => simp only [headV, injP]; rw [ihb g x.2, iha f x.1]
    | _ => rfl
  | _ => intro f x us j; cases f <;> rfl
theorem headV_range {id : Nat} : ∀ (τ : Ty) (f : Fl) (us : List Value) (j : Nat), j ≤ (headV id τ f us j).2 ∧ ∀ p ∈ (headV id τ f us j).1, id + j ≤ p.1 ∧ p.1 < id + (headV id τ f us j).2 := by
  intro τ
  induction τ with
  | list e ih => intro f us j; cases f <;> simp [headV]
  | opt e ih => intro f us j; cases f <;> simp [headV]
  | pair a b iha ihb =>
    intro f us j
    cases f with
    | pair f g =>
      simp only [headV]
      have h1 := iha f (us.take a.size) j
      have h2 := ihb g (us.drop a.size) (headV id a f (us.take a.size) j).2
      refine ⟨by omega, fun p hp => ?_⟩
      rcases List.mem_append.1 hp with hp | hp
      · have := h1.2 p hp; omega
      · have := h2.2 p hp; omega
    | _ => simp [headV]
  | _ => intro f us j; cases f <;> simp [headV]

/-- What a result's own blocks become. -/
theorem injP_sound {id : Nat} : ∀ (τ : Ty) (f : Fl) (x : τ.den) (us : List Value) (B : List Nat) (j : Nat) {G : Gh} {s : St}, Sim E G s a w → RepF G.S w τ f x us B → B.Nodup →
    (∀ q ∈ B, ¬ G.S q ∧ q < w.heap.size ∧ (∀ i, q ∉ G.β i) ∧ (E.W.heap.size ≤ q ∨ E.O q)) → (∀ p ∈ (injP id τ f x j).2.1, s.mem p.1 = none) → (∀ p ∈ (headV id τ f us j).1, p.1 % 128 < 64 ∨ p.2 = E.par p.1) →
      ∃ G', Sim E G' (s.upds (sets (injP id τ f x j).2.1)) a w ∧ G'.S = G.S ∧ SgLe G.σ G'.σ ∧ RepCs G'.S G'.σ w (injP id τ f x j).1 us ∧ (∀ i k, k ∈ G'.β i → k ∈ G.β i ∨ k ∈ B) ∧ (∀ i, (∀ p ∈ (injP id τ f x j).2.1, p.1 ≠ i) → G'.β i = G.β i) := by
  have dt : ∀ (τ : Ty) (x : τ.den) (us : List Value) (B : List Nat) {G : Gh} {s : St}, Sim E G s a w → (RepT G.S w τ x us ∧ B = []) →
        ∃ G', Sim E G' (s.upds (sets [])) a w ∧ G'.S = G.S ∧ SgLe G.σ G'.σ ∧ RepCs G'.S G'.σ w (inj τ x) us ∧ (∀ i k, k ∈ G'.β i → k ∈ G.β i ∨ k ∈ B) ∧ (∀ i, (∀ p ∈ ([] : List (Nat × Blk)), p.1 ≠ i) → G'.β i = G.β i) :=
    fun τ x us B G s h hr => ⟨G, h, rfl, SgLe.refl _, inj_rep _ _ _ hr.1, fun _ _ => .inl, fun _ _ => rfl⟩
  intro τ
  induction τ with
  | list e ih =>
    intro f x us B j G s h hr hnd hB hn hj
    cases f with
    | own T g =>
      simp only [injP] at hn ⊢
      have hn := hn (id + j, .rows T e g x) (by simp)
      have hr' := hr
      obtain ⟨hp, v, vs, B2, rfl, hBe, ho, _⟩ := hr'
      have hm := hj (id + j, v) (by simp [headV])
      simp only at hm
      obtain ⟨hs0, hb0⟩ := h.dom _ hn
      have hsim := h.addB (id := id + j) (b := .rows T e g x) (L := ⟨v, e.size⟩) (B := B) (.inl hn) (.inl ⟨hs0, hm⟩) hb0 ⟨hr, rfl⟩ hnd (fun q hq => ⟨(hB q hq).1, (hB q hq).2.1, (hB q hq).2.2.1⟩) (fun q hq => (hB q hq).2.2.2.imp (fun x => x) .inl)
      refine ⟨_, hsim, rfl, updσ_le hs0, RepCs.one (p := .own (id + j)) ?_, fun i q hq => ?_, fun i hi => ?_⟩
      · rcases At0.ofF ho with ⟨rfl, _⟩ | ⟨_, _, rfl⟩ <;> exact own_rep
      · by_cases e1 : i = id + j
        · simp only [updβ, if_pos e1] at hq; exact .inr hq
        · simp only [updβ, if_neg e1] at hq; exact .inl hq
      · have := hi _ (List.mem_singleton.2 rfl)
        simp only [updβ, if_neg (Ne.symm this)]
    | _ => exact dt _ _ _ _ h hr
  | opt e ih =>
    intro f x us B j G s h hr hnd hB hn hj
    cases f with
    | box =>
      rcases hr with ⟨rfl, rfl, rfl⟩ | ⟨y, b, o, vs, rfl, rfl, rfl, hrg, hth, hy⟩
      · exact ⟨G, h, rfl, SgLe.refl _, ⟨_, [], rfl, rfl, rfl⟩, fun _ _ => .inl, fun _ _ => rfl⟩
      · simp only [injP] at hn ⊢
        have hn := hn (id + j, .box (inj e y)) (by simp)
        have hm := hj (id + j, .pointer (some ⟨b, o, none⟩)) (by simp [headV])
        simp only at hm
        obtain ⟨hs0, hb0⟩ := h.dom _ hn
        have hsim := h.addB (id := id + j) (b := .box (inj e y)) (L := ⟨.pointer (some ⟨b, o, none⟩), 0⟩) (B := [b]) (.inl hn) (.inl ⟨hs0, hm⟩) hb0 ⟨b, o, vs, rfl, inj_rep _ _ _ hy, hrg, hth, rfl⟩ hnd (fun q hq => ⟨(hB q hq).1, (hB q hq).2.1, (hB q hq).2.2.1⟩) (fun q hq => (hB q hq).2.2.2.imp (fun x => x) .inl)
        refine ⟨_, hsim, rfl, updσ_le hs0, RepCs.one (p := .ptr (id + j) (.at 0)) ⟨_, b, o, updσ_same _ _ _, rfl, trivial, by simp [Sub.off]⟩, fun i q hq => ?_, fun i hi => ?_⟩
        · by_cases e1 : i = id + j
          · simp only [updβ, if_pos e1] at hq; exact .inr hq
          · simp only [updβ, if_neg e1] at hq; exact .inl hq
        · have := hi _ (List.mem_singleton.2 rfl)
          simp only [updβ, if_neg (Ne.symm this)]
    | _ => exact dt _ _ _ _ h hr
  | pair τa τb iha ihb =>
    intro f x us B j G s h hr hnd hB hn hj
    cases f with
    | pair f g =>
      simp only [injP] at hn ⊢
      obtain ⟨u, v, B1, B2, rfl, rfl, h1, h2⟩ := hr
      have hlu := RepF.length _ _ _ _ _ h1
      simp only [headV, ← hlu, List.take_left, List.drop_left] at hj
      rw [headV_num τa f x.1] at hj
      obtain ⟨n1, n2, n3⟩ := List.nodup_append.1 hnd
      have r1 := injP_range (id := id) τa f x.1 j
      have r2 := injP_range (id := id) τb g x.2 (injP id τa f x.1 j).2.2
      obtain ⟨G1, hs1, gS, gσ, gc, gβ, gβ'⟩ := iha f x.1 u B1 j h h1 n1 (fun q hq => hB q (by simp [hq])) (fun p hp => hn p (by simp [hp])) (fun p hp => hj p (by simp [hp]))
      obtain ⟨G2, hs2, fS, fσ, fc, fβ, fβ'⟩ := ihb g x.2 v B2 (injP id τa f x.1 j).2.2 hs1 (by rw [gS]; exact h2) n2 (fun q hq => by
          have := hB q (by simp [hq])
          refine ⟨by rw [gS]; exact this.1, this.2.1, fun i hi => ?_, this.2.2.2⟩
          rcases gβ i q hi with x | x
          · exact this.2.2.1 i x
          · exact n3 q x q hq rfl) (fun p hp => by
            rw [sets_mem_other fun q hq => ?_]
            · exact hn p (by simp [hp])
            · have := r1.2 q hq; have := r2.2 p hp; omega) (fun p hp => hj p (by simp [hp]))
      refine ⟨G2, ?_, fS.trans gS, gσ.trans fσ, RepRows.append (RepCs.keep (fun b hb => by rw [fS]; exact hb) (fun _ _ => rfl) fσ gc) fc, fun i q hq => ?_, fun i hi => ?_⟩
      · rw [sets_append, upds_append]; exact hs2
      · rcases fβ i q hq with x | x
        · exact (gβ i q x).imp (fun x => x) fun x => by simp [x]
        · exact .inr (by simp [x])
      · rw [fβ' i fun p hp => hi p (by simp [hp]), gβ' i fun p hp => hi p (by simp [hp])]
    | _ => exact dt _ _ _ _ h hr
  | _ => intro f x us B j G s h hr hnd hB hn hj; cases f <;> exact dt _ _ _ _ h hr

theorem run_callFunc (hC : C.OK) {g : Nat} {sg : Sig} (hsg : C.sig g = some sg) (args : Array Value) : (callFunc (C.real g) args).run C.P w = .ok (.enter (C.real g) args) w := by
  obtain ⟨F, h1, h2, h3⟩ := hC.call g sg hsg
  simp only [callFunc, program, Sem.run_bind]
  have : (Sem.program Sem.pure : Sem Program).run C.P w = .ok C.P w := rfl
  rw [this]
  simp only [Result.andThen_ok, h1, h3, Bool.false_eq_true, if_false]
  have : F.body.isNone = false := by cases hb : F.body <;> simp_all
  simp [this]

end Go.Ps
