/- Calls: what a function owes, and what its caller has of it. -/
import Derived.Test.YtpfplngeakmghaaPrK
namespace Go.Pr
set_option linter.unusedVariables false
variable {S S' : Nat → Prop} {σ σ' : Sg} {w w' : World} {E : En} {G : Gh} {s : St} {a : Act} {C : Cfg} {R : Type} {r : R}

abbrev σ0 : Sg := fun _ => ⟨undef, 0, 0⟩

/-- The arguments of a call. L: where what may be written lies. -/
inductive ArgsRep (S : Nat → Prop) (w : World) : List PK → List SV → List Value → List (Nat × Nat × Ty) → Prop where
  | nil : ArgsRep S w [] [] [] []
  | val {o ps xs vs L x v} (h : RepS S σ0 w x v) (hi : x.ids = []) (t : ArgsRep S w ps xs vs L) : ArgsRep S w (.val o :: ps) (x :: xs) (v :: vs) L
  | var {ps xs vs L b o us} {τ : Ty} {d : τ.den} (h : RepT S w τ d us) (hr : w.rangeAt b o us) (ht : w.there b o us.length) (hb : ¬ S b ∧ b < w.heap.size) (hn : ∀ l ∈ L, l.1 ≠ b) (t : ArgsRep S w ps xs vs L) :
      ArgsRep S w (.var τ :: ps) (.agg (inj τ d) :: xs) (.pointer (some ⟨b, o, none⟩) :: vs) ((b, o, τ) :: L)

def InL (L : List (Nat × Nat × Ty)) (b o : Nat) : Prop := ∃ l ∈ L, l.1 = b ∧ l.2.1 ≤ o ∧ o < l.2.1 + l.2.2.size

/-- What lies behind the pointers. -/
def MutV (w : World) : List (Nat × Nat × Ty) → List Value → Prop
  | [], us => us = []
  | (b, o, τ) :: L, us => ∃ u v, us = u ++ v ∧ u.length = τ.size ∧ w.rangeAt b o u ∧ w.there b o τ.size ∧ MutV w L v

def Sig.shape (sg : Sig) : List (Nat × Bool) := sg.res.map fun x => (x.1.size, x.2)

def oneOf : List Value → Value
  | [x] => x
  | xs => .tuple xs.toArray

def withNew (S : Nat → Prop) (w w' : World) : Nat → Prop := fun b => S b ∨ (w.heap.size ≤ b ∧ b < w'.heap.size)

/-- A slice that is nobody else's. -/
def OwnAt (S : Nat → Prop) (w : World) (T : TypeId) (e : Ty) (xs : List e.den) (v : Value) : Prop := 0 < e.size ∧ ∃ vs, RepRows (RepT S w e) xs vs ∧ w.ownsRow 0 T e.size v xs.length vs
/-- Data of which some slices are nobody else's. -/
def RepF (S : Nat → Prop) (w : World) (lo : Nat) : (τ : Ty) → Fl → τ.den → List Value → List Nat → List Nat → Prop
  | .list e, .own T, xs, us, B, B' => ∃ v, us = [v] ∧ OwnAt S w T e xs v ∧ B' = (blockOf v).toList ++ B ∧ ∀ k, blockOf v = some k → ¬ S k ∧ lo ≤ k ∧ k < w.heap.size ∧ k ∉ B
  | .pair a b, .pair f g, x, us, B, B' => ∃ u v B1, us = u ++ v ∧ RepF S w lo a f x.1 u B B1 ∧ RepF S w lo b g x.2 v B1 B'
  | τ, _, x, us, B, B' => RepT S w τ x us ∧ B' = B

/-- What a call that comes to r owes. -/
def Meets (C : Cfg) (f : FuncId) (args : List SV) (r : C.Res f) : Prop :=
  ∀ sg, C.sig f = some sg → ∀ (S : Nat → Prop) (w : World) (vals : List Value) (L : List (Nat × Nat × Ty)), (∀ b, S b → b < w.heap.size) → ArgsRep S w sg.params args vals L →
    Calls C.P f vals.toArray w fun e w' => ∃ v xs us ms, e = .returned v ∧ v = oneOf xs ∧ TupV sg.shape us xs ∧ MutV w' L ms ∧ RepT (withNew S w w') w' (C.resTy f) r (us ++ ms) ∧ KeptM w w' (InL L) ∧ ∃ S'' B', (∀ b, S b → S'' b) ∧ (∀ b, S'' b → withNew S w w' b) ∧ RepF S'' w' w.heap.size (C.resTy f) sg.outs r (us ++ ms) [] B'

/-- All that an environment says is so. -/
def EnvOK (C : Cfg) (env : C.Env) : Prop := ∀ f args r, env f args = some r → Meets C f args r

/-! ### The arguments -/
theorem dat_ids (s : St) (p : PV) : (s.dat p).ids = [] := by
  cases p <;> simp only [St.dat, St.norm] <;> try rfl
  case own i => split <;> rfl

theorem dat_closed (s : St) (cs : List PV) : (SV.agg (cs.map s.dat)).ids = [] := by
  simp only [SV.ids, List.flatMap_eq_nil_iff]
  intro p hp
  obtain ⟨q, _, rfl⟩ := List.mem_map.1 hp
  exact dat_ids s q

/-- Where a pointer that is handed over points. -/
def LocOf (G : Gh) (m : PV × Ty) (l : Nat × Nat × Ty) : Prop := ∃ id off b o, m.1 = .ptr id off ∧ (G.σ id).v = .pointer (some ⟨b, o, none⟩) ∧ l = (b, o + off, m.2)

theorem All2.mem_right {α β : Type} {Q : α → β → Prop} : ∀ {xs : List α} {ys : List β}, All2 Q xs ys → ∀ {y : β}, y ∈ ys → ∃ x ∈ xs, Q x y
  | _, _, .nil, y, h => by simp at h
  | _, _, .cons h t, y, hy => by
    rcases List.mem_cons.1 hy with rfl | hy
    · exact ⟨_, by simp, h⟩
    · obtain ⟨x, hx, q⟩ := t.mem_right hy; exact ⟨x, by simp [hx], q⟩

theorem All2.mem_left {α β : Type} {Q : α → β → Prop} : ∀ {xs : List α} {ys : List β}, All2 Q xs ys → ∀ {x : α}, x ∈ xs → ∃ y ∈ ys, Q x y
  | _, _, .nil, x, h => by simp at h
  | _, _, .cons h t, x, hx => by
    rcases List.mem_cons.1 hx with rfl | hx
    · exact ⟨_, by simp, h⟩
    · obtain ⟨y, hy, q⟩ := t.mem_left hx; exact ⟨y, by simp [hy], q⟩

/-- What is handed over to be written is a variable of the call's own. -/
theorem argsOf_mem : ∀ {ps : List PK} {xs : List SV} {as : List SV} {ms : List (PV × Ty)} {os : List PV}, argsOf s ps xs = some (as, ms, os) → ∀ m ∈ ms, ∀ {id off : Nat}, m.1 = .ptr id off → ∃ bi, s.mem id = some bi := by
  intro ps
  induction ps with
  | nil =>
    intro xs as ms os e m hm id off h1
    cases xs <;> simp only [argsOf, Option.some.injEq, Prod.mk.injEq] at e
    · obtain ⟨rfl, rfl, rfl⟩ := e; simp at hm
    · simp at e
  | cons p ps ih =>
    intro xs as ms os e m hm id off h1
    cases xs with
    | nil => cases p <;> simp [argsOf] at e
    | cons x xs =>
      cases p with
      | val o =>
        cases x <;> simp only [argsOf] at e <;> try (simp at e; done)
        all_goals
          split at e
          · rename_i hn hrec
            simp only [Option.some.injEq, Prod.mk.injEq] at e
            obtain ⟨rfl, rfl, rfl⟩ := e
            exact ih hrec m hm h1
          · simp at e
      | var τ =>
        simp only [argsOf] at e
        split at e
        · rename_i id' off' hpv
          split at e
          · rename_i cs hlook
            split at e
            · rename_i hrec
              rcases cond_some e with ⟨_, e⟩ | ⟨_, e⟩
              · simp only [Option.some.injEq, Prod.mk.injEq] at e
                obtain ⟨rfl, rfl, rfl⟩ := e
                rcases List.mem_cons.1 hm with rfl | hm
                · simp only [PV.ptr.injEq] at h1
                  obtain ⟨rfl, rfl⟩ := h1
                  simp only [St.look] at hlook
                  split at hlook
                  · rename_i cs0 hm0; exact ⟨_, hm0⟩
                  · simp at hlook
                · exact ih hrec m hm h1
              · simp at e
            · simp at e
          · simp at e
        · simp at e

theorem normA_rep {S : Nat → Prop} {w : World} {o : Option Ty} {x y : SV} {v : Value} (hx : RepS S σ0 w x v) (hi : x.ids = []) (e : normA o x = some y) : RepS S σ0 w y v ∧ y.ids = [] := by
  unfold normA at e
  split at e
  · simp only [Option.some.injEq] at e; subst e; exact ⟨hx, hi⟩
  · rename_i τ
    split at e
    · simp at e
    · rename_i p hne
      split at e
      · rename_i d hd
        split at e
        · rename_i c hc
          simp only [Option.some.injEq] at e
          subst e
          have h1 : RepC S σ0 w p [v] := RepS.of_v hx (fun e => hne (by rw [e]))
          have h2 : RepCs S σ0 w [p] [v] := ⟨[v], [], rfl, h1, rfl⟩
          have h3 := inj_rep (σ := σ0) _ _ _ (projAll_rep h2 hd)
          rw [hc] at h3
          obtain ⟨u, t, e1, h4, h5⟩ := h3
          cases h5
          simp only [List.append_nil] at e1
          subst e1
          exact ⟨RepS.v h4, inj_ids τ d c (by rw [hc]; simp)⟩
        · simp at e
      · simp at e
    · rename_i cs
      split at e
      · rename_i d hd
        simp only [Option.some.injEq] at e
        subst e
        obtain ⟨vs, hv, hc⟩ := hx
        exact ⟨⟨vs, hv, inj_rep _ _ _ (projAll_rep hc hd)⟩, by simp only [SV.ids, List.flatMap_eq_nil_iff]; exact fun p hp => inj_ids τ d p hp⟩
      · simp at e
    · simp at e

theorem argsOf_sound (h : Sim E G s a w) {S' : Nat → Prop} (hS : ∀ b, G.S b → S' b) (hS2 : ∀ i bi, s.mem i = some bi → (∃ cs, bi = .box cs) → ∀ k, blockOf (G.σ i).v = some k → ¬ S' k) :
    ∀ {ps : List PK} {xs : List SV} {vals : List Value} {as : List SV} {ms : List (PV × Ty)} {os : List PV}, All2 (fun x v => RepS G.S G.σ w x v) xs vals → Frozen G s os S' → argsOf s ps xs = some (as, ms, os) →
      ∃ L, All2 (LocOf G) ms L ∧ ArgsRep S' w ps as vals L := by
  intro ps
  induction ps with
  | nil =>
    intro xs vals as ms os hx hf e
    cases hx with
    | nil => simp only [argsOf, Option.some.injEq, Prod.mk.injEq] at e; obtain ⟨rfl, rfl, rfl⟩ := e; exact ⟨[], .nil, .nil⟩
    | cons _ _ => simp [argsOf] at e
  | cons p ps ih =>
    intro xs vals as ms os hx hf e
    cases hx with
    | nil => cases p <;> simp [argsOf] at e
    | @cons x v xs vals hxv ht =>
      cases p with
      | val o =>
        cases x with
        | v q =>
          simp only [argsOf] at e
          split at e
          · rename_i y as' ms' os' hn hrec
            simp only [Option.some.injEq, Prod.mk.injEq] at e
            obtain ⟨rfl, rfl, rfl⟩ := e
            obtain ⟨L, h1, h2⟩ := ih ht (fun i hi => hf i (by simp [hi])) hrec
            have h0 : RepS S' σ0 w (.v (s.dat q)) v := by
              by_cases hq : q = .undef
              · subst hq; trivial
              · exact RepS.v (dat_rep h hS (cs := [q]) (fun i hi => hf i (by simp at hi; simp [hi])) (by simp) (RepS.of_v hxv hq))
            obtain ⟨n1, n2⟩ := normA_rep h0 (dat_ids s q) hn
            exact ⟨L, h1, .val n1 n2 h2⟩
          · simp at e
        | agg cs =>
          simp only [argsOf] at e
          split at e
          · rename_i y as' ms' os' hn hrec
            simp only [Option.some.injEq, Prod.mk.injEq] at e
            obtain ⟨rfl, rfl, rfl⟩ := e
            obtain ⟨L, h1, h2⟩ := ih ht (fun i hi => hf i (by simp [hi])) hrec
            obtain ⟨vs, hv, hc⟩ := hxv
            obtain ⟨n1, n2⟩ := normA_rep (S := S') (x := .agg (cs.map s.dat)) (v := v) ⟨vs, hv, datC_rep h hS (fun i hi => hf i (by simp [hi])) hc⟩ (dat_closed s cs) hn
            exact ⟨L, h1, .val n1 n2 h2⟩
          · simp at e
        | tup cs sh => simp [argsOf] at e
      | var τ =>
        simp only [argsOf] at e
        split at e
        · rename_i id off hpv
          split at e
          · rename_i cs hlook
            split at e
            · rename_i d as' ms' os' hproj hrec
              rcases cond_some e with ⟨hall, e⟩ | ⟨_, e⟩
              · simp only [Option.some.injEq, Prod.mk.injEq] at e
                obtain ⟨rfl, rfl, rfl⟩ := e
                obtain ⟨L, h1, h2⟩ := ih ht (fun i hi => hf i (by simp [hi])) hrec
                have hx1 : x = .v (.ptr id off) := by
                  cases x with
                  | v p => simp only [SV.pv] at hpv; rw [hpv]
                  | agg _ => simp [SV.pv] at hpv
                  | tup _ _ => simp [SV.pv] at hpv
                subst hx1
                have hp := RepS.of_v hxv (by simp)
                have hp' := hp
                obtain ⟨b, o, hσ, hv⟩ := hp'
                simp only [List.cons.injEq, and_true] at hv
                subst hv
                simp only [St.look] at hlook
                split at hlook
                · rename_i cs0 hm
                  obtain ⟨b', o', vs, hσ', hc, hr, hth⟩ := h.mem id _ hm
                  rw [hσ] at hσ'
                  simp only [Value.pointer.injEq, Option.some.injEq, Addr.mk.injEq, and_true] at hσ'
                  obtain ⟨rfl, rfl⟩ := hσ'
                  have hcut := RepCs.cut hc hlook
                  have hT := projAll_rep (datC_rep (σ' := σ0) h hS (fun i hi => hf i (by simp [hi])) hcut.1) hproj
                  have hlen : ((vs.drop off).take τ.size).length = τ.size := by rw [List.length_take, List.length_drop]; omega
                  refine ⟨(b, o + off, τ) :: L, .cons ⟨id, off, b, o, rfl, hσ, rfl⟩ h1, .var hT (rangeAt_sub hr off τ.size) ?_ ⟨hS2 id _ hm ⟨_, rfl⟩ b (by rw [hσ]; rfl), (h.off id _ hm b (by rw [hσ]; rfl)).2⟩ ?_ h2⟩
                  · rw [hlen]
                    intro j hj
                    have := hth (off + j) (by omega)
                    rwa [← Nat.add_assoc] at this
                  · intro l hl hlb
                    obtain ⟨m, hm', id', off', b1, o1, e1, e2, e3⟩ := All2.mem_right h1 hl
                    rw [e3] at hlb
                    simp only at hlb
                    subst hlb
                    have hne := List.all_eq_true.1 hall m hm'
                    rw [e1] at hne
                    simp only [Bool.not_eq_true'] at hne
                    have hne' : id' ≠ id := Nat.ne_of_beq_eq_false hne
                    obtain ⟨bi, hbi⟩ := argsOf_mem hrec m hm' e1
                    exact h.apart id' id bi _ hbi hm hne' b1 (by rw [e2]; rfl) (by rw [hσ]; rfl)
                · simp at hlook
              · simp at e
            · simp at e
          · simp at e
        · simp at e
end Go.Pr
