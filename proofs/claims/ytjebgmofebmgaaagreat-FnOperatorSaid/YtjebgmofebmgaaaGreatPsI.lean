/- Calls: what a function owes; the arguments. -/
import Derived.Test.YtjebgmofebmgaaaGreatPsH
namespace Go.Ps
set_option linter.unusedVariables false
variable {S S' : Nat → Prop} {σ σ' : Sg} {w w' : World} {E : En} {G : Gh} {s : St} {a : Act} {C : Cfg} {R : Type} {r : R}

abbrev σ0 : Sg := fun _ => none
/-- Data as a slot has it. -/
def DatS (τ : Ty) (x : SV) (d : τ.den) (v : Value) (us : List Value) : Prop := (x = .agg (inj τ d) ∧ v = .agg us.toArray) ∨ (∃ c, x = .v c ∧ inj τ d = [c] ∧ c.width = 1 ∧ us = [v])
/-- What comes back: a variable's cells; the values of what was lent. -/
inductive Bq where
  | var (b o n : Nat)
  | lend (us : List Value)
def Bq.blk : Bq → List Nat
  | .var b _ _ => [b]
  | .lend _ => []
def lentV : Ty → Fl → List Value → List Value
  | .list _, .own _ _, us => us.take 1
  | .pair a b, .pair f g, us => lentV a f (us.take a.size) ++ lentV b g (us.drop a.size)
  | _, _, _ => []
def PK.plain : PK → Bool
  | .raw | .val _ | .ro _ => true
  | _ => false
/-- The arguments of a call. K: what comes back; B: the blocks that go over. -/
inductive ArgsRep (S : Nat → Prop) (w : World) : List PK → List SV → List Value → List Bq → List Nat → Prop where
  | nil : ArgsRep S w [] [] [] [] []
  | plain {p ps x xs v vs K B} (hp : p.plain = true) (h : RepS S σ0 w x v) (t : ArgsRep S w ps xs vs K B) : ArgsRep S w (p :: ps) (x :: xs) (v :: vs) K B
  | give {ps x xs v vs K B f us B1} {τ : Ty} {d : τ.den} (hd : DatS τ x d v us) (h : RepF S w τ f d us B1) (t : ArgsRep S w ps xs vs K B) : ArgsRep S w (.give τ f :: ps) (x :: xs) (v :: vs) K (B1 ++ B)
  | lend {ps x xs v vs K B f us B1} {τ : Ty} {d : τ.den} (hd : DatS τ x d v us) (h : RepF S w τ f d us B1) (t : ArgsRep S w ps xs vs K B) : ArgsRep S w (.lend τ f :: ps) (x :: xs) (v :: vs) (.lend (lentV τ f us) :: K) (B1 ++ B)
  | var {ps xs vs K B f us b o B1} {τ : Ty} {d : τ.den} (h : RepF S w τ f d us B1) (hr : w.rangeAt b o us) (ht : w.there b o us.length) (t : ArgsRep S w ps xs vs K B) :
      ArgsRep S w (.var τ f :: ps) (.agg (inj τ d) :: xs) (.pointer (some ⟨b, o, none⟩) :: vs) (.var b o τ.size :: K) (B1 ++ B)
  | dvar {ps xs vs K B f us b o q p B1} {τ : Ty} {d : τ.den} (h : RepF S w τ f d us B1) (hr : w.rangeAt b o us) (ht : w.there b o us.length) (hq : S q) (hc : w.rangeAt q p [.pointer (some ⟨b, o, none⟩)]) (t : ArgsRep S w ps xs vs K B) :
      ArgsRep S w (.dvar τ f :: ps) (.agg (inj τ d) :: xs) (.pointer (some ⟨q, p, none⟩) :: vs) (.var b o τ.size :: K) (B1 ++ B)

/-- What may be written. -/
def InK (K : List Bq) (B : List Nat) (b o : Nat) : Prop := b ∈ B ∨ ∃ o0 n, .var b o0 n ∈ K ∧ o0 ≤ o ∧ o < o0 + n
/-- What comes back. -/
def BackV (w : World) : List Bq → List Value → Prop
  | [], ms => ms = []
  | .var b o n :: K, ms => ∃ u v, ms = u ++ v ∧ u.length = n ∧ w.rangeAt b o u ∧ w.there b o n ∧ BackV w K v
  | .lend us :: K, ms => ∃ v, ms = us ++ v ∧ BackV w K v

def Sig.shape (sg : Sig) : List (Nat × Bool) := sg.res.map fun x => (x.1.size, x.2)
def oneOf : List Value → Value
  | [x] => x
  | xs => .tuple xs.toArray

/-- What a call that comes to r owes. -/
def MeetsI (I : Inv) (C : Cfg) (f : Nat) (args : List SV) (r : C.Res f) : Prop :=
  ∀ sg, C.sig f = some sg → ∀ (S : Nat → Prop) (w : World) (vals : List Value) (K : List Bq) (B : List Nat), (∀ b, S b → b < w.heap.size) → ArgsRep S w sg.params args vals K B →
    Own S w (fun _ => True) B → Own S w (fun b => b ∉ B) (K.flatMap Bq.blk) → I.at_ S w →
    Calls C.P (C.real f) vals.toArray w fun e w' => ∃ v xs us ms S' B', e = .returned v ∧ v = oneOf xs ∧ TupV sg.shape us xs ∧ BackV w' K ms ∧ KeptM w w' (InK K B) ∧
      (∀ b, S b → S' b) ∧ (∀ b, S' b → S b ∨ (w.heap.size ≤ b ∧ b < w'.heap.size) ∨ b ∈ B) ∧ Own S' w' (fun k => w.heap.size ≤ k ∨ k ∈ B) B' ∧ RepF S' w' (C.resTy f) sg.resFl r (us ++ ms) B'
/-- The same, whatever the world holds. -/
def Meets (C : Cfg) (f : Nat) (args : List SV) (r : C.Res f) : Prop :=
  ∀ sg, C.sig f = some sg → ∀ (S : Nat → Prop) (w : World) (vals : List Value) (K : List Bq) (B : List Nat), (∀ b, S b → b < w.heap.size) → ArgsRep S w sg.params args vals K B →
    Own S w (fun _ => True) B → Own S w (fun b => b ∉ B) (K.flatMap Bq.blk) →
    Calls C.P (C.real f) vals.toArray w fun e w' => ∃ v xs us ms S' B', e = .returned v ∧ v = oneOf xs ∧ TupV sg.shape us xs ∧ BackV w' K ms ∧ KeptM w w' (InK K B) ∧
      (∀ b, S b → S' b) ∧ (∀ b, S' b → S b ∨ (w.heap.size ≤ b ∧ b < w'.heap.size) ∨ b ∈ B) ∧ Own S' w' (fun k => w.heap.size ≤ k ∨ k ∈ B) B' ∧ RepF S' w' (C.resTy f) sg.resFl r (us ++ ms) B'
theorem Meets.all {C : Cfg} {f : Nat} {args : List SV} {r : C.Res f} (h : Meets C f args r) (I : Inv) : MeetsI I C f args r := fun sg h1 S w vals K B h2 h3 h4 h5 _ => h sg h1 S w vals K B h2 h3 h4 h5
theorem MeetsI.none {C : Cfg} {f : Nat} {args : List SV} {r : C.Res f} (h : MeetsI Inv.none C f args r) : Meets C f args r := fun sg h1 S w vals K B h2 h3 h4 h5 => h sg h1 S w vals K B h2 h3 h4 h5 trivial
/-- All that an environment says is so. -/
def EnvOK (I : Inv) (C : Cfg) (env : C.Env) : Prop := ∀ f args r, env f args = some r → MeetsI I C f args r

theorem ArgsRep.append {ps ps' : List PK} {xs xs' : List SV} {vs vs' : List Value} {K K' : List Bq} {B B' : List Nat} (h : ArgsRep S w ps xs vs K B) (h' : ArgsRep S w ps' xs' vs' K' B') : ArgsRep S w (ps ++ ps') (xs ++ xs') (vs ++ vs') (K ++ K') (B ++ B') := by
  induction h with
  | nil => exact h'
  | plain hp h _ ih => exact .plain hp h ih
  | give hd h _ ih => rw [List.append_assoc]; exact .give hd h ih
  | lend hd h _ ih => rw [List.append_assoc]; exact .lend hd h ih
  | var h hr ht _ ih => rw [List.append_assoc]; exact .var h hr ht ih
  | dvar h hr ht hq hc _ ih => rw [List.append_assoc]; exact .dvar h hr ht hq hc ih

/-- Data out of cells. -/
theorem projF_sound (h : Sim E G s a w) {S1 : Nat → Prop} (hS : ∀ b, G.S b → S1 b) : ∀ (τ : Ty) (f : Fl) (cs cs' : List PV) (x : τ.den) (U V : List Nat) (vs : List Value), projF s τ f cs = some (x, cs', U, V) → RepCs G.S G.σ w cs vs → (∀ i ∈ V, ∀ k ∈ G.β i, S1 k) →
    ∃ u v, vs = u ++ v ∧ RepF S1 w τ f x u (U.flatMap G.β) ∧ RepCs G.S G.σ w cs' v := by
  have dt : ∀ (τ : Ty) (cs cs' : List PV) (x : τ.den) (U V : List Nat) (vs : List Value), (match takeC cs τ.size, dropC cs τ.size with
      | some a, some b => match projAll τ (a.map s.dat) with
        | some x => some (x, b, ([] : List Nat), ownsC a)
        | none => none
      | _, _ => none) = some (x, cs', U, V) → RepCs G.S G.σ w cs vs → (∀ i ∈ V, ∀ k ∈ G.β i, S1 k) → ∃ u v, vs = u ++ v ∧ (RepT S1 w τ x u ∧ U.flatMap G.β = []) ∧ RepCs G.S G.σ w cs' v := by
    intro τ cs cs' x U V vs e hc hV
    split at e
    · rename_i c b hc1 hb1
      split at e
      · rename_i y hy
        simp only [Option.some.injEq, Prod.mk.injEq] at e
        obtain ⟨rfl, rfl, rfl, rfl⟩ := e
        exact ⟨vs.take τ.size, vs.drop τ.size, by simp, ⟨projAll_rep (datC_rep (σ' := G.σ) h hS hV (RepCs.take hc hc1).1) hy, rfl⟩, RepCs.drop hc hb1⟩
      · simp at e
    · simp at e
  intro τ
  induction τ with
  | list e ih =>
    intro f cs cs' x U V vs e' hc hV
    cases f with
    | own T g =>
      simp only [projF] at e'
      split at e'
      · rename_i i cs1
        split at e'
        · rename_i T' e1 g' xs hm
          rcases cond_some e' with ⟨hb, e2⟩ | ⟨_, e2⟩
          · simp only [Bool.and_eq_true, decide_eq_true_eq] at hb
            obtain ⟨hT, hg⟩ := hb
            have hT := Nat.eq_of_beq_eq_true hT
            clear e'
            subst hT hg
            split at e2
            · rename_i he _
              simp only [Option.some.injEq, Prod.mk.injEq] at e2
              obtain ⟨rfl, rfl, rfl, rfl⟩ := e2
              subst he
              obtain ⟨u, v, rfl, ⟨L, p, n, c, hL, _, hu⟩, hv⟩ := hc
              obtain ⟨L', hL', hB, _⟩ := h.mem i _ hm
              rw [hL] at hL'; simp only [Option.some.injEq] at hL'; subst hL'
              refine ⟨u, v, rfl, ?_, hv⟩
              rw [hu]
              simp only [List.flatMap_cons, List.flatMap_nil, List.append_nil]
              exact RepF.keep hS (fun _ _ => rfl) _ _ _ _ _ (fun _ _ => rfl) hB
            · simp at e2
          · simp at e2
        · simp at e'
      · rename_i cs1
        rcases cond_some e' with ⟨hb, e'⟩ | ⟨_, e'⟩
        · simp only [Option.some.injEq, Prod.mk.injEq] at e'
          obtain ⟨rfl, rfl, rfl, rfl⟩ := e'
          obtain ⟨u, v, rfl, hu, hv⟩ := hc
          refine ⟨u, v, rfl, ⟨Nat.le_of_ble_eq_true hb, .slice none 0 0, [], [], hu, rfl, .inl (World.ownsRow_nil w 0 T e.size), rfl, rfl⟩, hv⟩
        · simp at e'
      · simp at e'
    | _ => exact dt _ _ _ _ _ _ _ e' hc hV
  | opt e ih =>
    intro f cs cs' x U V vs e' hc hV
    cases f with
    | box =>
      simp only [projF] at e'
      split at e'
      · rename_i cs1
        simp only [Option.some.injEq, Prod.mk.injEq] at e'
        obtain ⟨rfl, rfl, rfl, rfl⟩ := e'
        obtain ⟨u, v, rfl, hu, hv⟩ := hc
        exact ⟨u, v, rfl, .inl ⟨rfl, hu, rfl⟩, hv⟩
      · rename_i i cs1
        split at e'
        · rename_i bs hm
          rcases cond_some e' with ⟨hb, e'⟩ | ⟨_, e'⟩
          · split at e'
            · rename_i y hy
              simp only [Option.some.injEq, Prod.mk.injEq] at e'
              obtain ⟨rfl, rfl, rfl, rfl⟩ := e'
              obtain ⟨u, v, rfl, ⟨L, b, o, hL, hv0, _, hu⟩, hv⟩ := hc
              obtain ⟨L', hL', b', o', vs', hv1, hcs, hr, ht, hβ⟩ := h.mem i _ hm
              rw [hL] at hL'; simp only [Option.some.injEq] at hL'; subst hL'
              rw [hv0] at hv1
              simp only [Value.pointer.injEq, Option.some.injEq, Addr.mk.injEq, and_true] at hv1
              obtain ⟨rfl, rfl⟩ := hv1
              refine ⟨u, v, rfl, .inr ⟨y, b, o, vs', rfl, by simpa [Sub.off] using hu, by simp [hβ], hr, ht, ?_⟩, hv⟩
              exact projAll_rep (datC_rep (σ' := G.σ) h hS hV hcs) hy
            · simp at e'
          · simp at e'
        · simp at e'
      · simp at e'
    | _ => exact dt _ _ _ _ _ _ _ e' hc hV
  | pair τa τb iha ihb =>
    intro f cs cs' x U V vs e' hc hV
    cases f with
    | pair f g =>
      simp only [projF] at e'
      split at e'
      · rename_i x1 cs1 U1 V1 h1
        split at e'
        · rename_i x2 cs2 U2 V2 h2
          simp only [Option.some.injEq, Prod.mk.injEq] at e'
          obtain ⟨rfl, rfl, rfl, rfl⟩ := e'
          obtain ⟨u, v, rfl, g1, g2⟩ := iha f _ _ _ _ _ _ h1 hc fun i hi => hV i (by simp [hi])
          obtain ⟨u', v', rfl, g3, g4⟩ := ihb g _ _ _ _ _ _ h2 g2 fun i hi => hV i (by simp [hi])
          exact ⟨u ++ u', v', by simp, ⟨u, u', _, _, rfl, by simp, g1, g3⟩, g4⟩
        · simp at e'
      · simp at e'
    | _ => exact dt _ _ _ _ _ _ _ e' hc hV
  | _ => intro f cs cs' x U V vs e' hc hV; exact dt _ _ _ _ _ _ _ e' hc hV

/-- The value of a type, in a slot. -/
theorem ofData_some {τ : Ty} {agg : Bool} {d : τ.den} {y : SV} (e : ofData τ agg d = some y) : (agg = true ∧ y = .agg (inj τ d)) ∨ (agg = false ∧ ∃ c, inj τ d = [c] ∧ c.width = 1 ∧ y = .v c) := by
  unfold ofData at e
  rcases cond_some e with ⟨ha, e⟩ | ⟨ha, e⟩
  · simp only [Option.some.injEq] at e; exact .inl ⟨ha, e.symm⟩
  · right
    refine ⟨ha, ?_⟩
    generalize inj τ d = l at e
    match l, e with
    | [c], e =>
      rcases cond_some e with ⟨hw, e⟩ | ⟨_, e⟩
      · simp only [Option.some.injEq] at e; exact ⟨c, rfl, Nat.eq_of_beq_eq_true hw, e.symm⟩
      · simp at e
    | [], e => simp at e
    | _ :: _ :: _, e => simp at e
theorem isA_val {x : SV} {v : Value} {cs : List PV} (hx : RepS S σ w x v) (hc : x.cells = some cs) : (x.isA = true → v = .agg v.cells.toList.toArray) ∧ (x.isA = false → v.cells.toList = [v]) := by
  cases x with
  | v p =>
    refine ⟨fun e => by simp [SV.isA] at e, fun _ => ?_⟩
    have hp : p ≠ .undef := fun e => by subst e; simp [SV.cells] at hc
    have := RepC.one (RepS.of_v hx hp) v (by simp)
    rw [cells_of_one this]
  | agg cs' =>
    refine ⟨fun _ => ?_, fun e => by simp [SV.isA] at e⟩
    obtain ⟨vs, rfl, _⟩ := hx
    simp [Value.cells]
  | tup _ _ => simp [SV.cells] at hc
theorem datS_of {τ : Ty} {x y : SV} {d : τ.den} {v : Value} {cs : List PV} (hx : RepS S σ w x v) (hc : x.cells = some cs) (e : ofData τ x.isA d = some y) : DatS τ y d v v.cells.toList := by
  have hv := isA_val hx hc
  rcases ofData_some e with ⟨ha, rfl⟩ | ⟨ha, c, h1, h2, rfl⟩
  · exact .inl ⟨rfl, hv.1 ha⟩
  · exact .inr ⟨c, rfl, h1, h2, hv.2 ha⟩
theorem DatS.rep {τ : Ty} {x : SV} {d : τ.den} {v : Value} {us : List Value} (h : DatS τ x d v us) (ht : RepT S w τ d us) : RepS S σ w x v := by
  rcases h with ⟨rfl, rfl⟩ | ⟨c, rfl, h1, _, rfl⟩
  · exact ⟨us, rfl, inj_rep _ _ _ ht⟩
  · have := inj_rep (σ := σ) _ _ _ ht
    rw [h1] at this
    exact RepS.v (RepCs.of_one this)

theorem dropC_add : ∀ {cs t u : List PV} {m n : Nat}, dropC cs m = some t → dropC t n = some u → dropC cs (m + n) = some u
  | cs, t, u, 0, n, h, h' => by simp only [dropC, Option.some.injEq] at h; subst h; rw [Nat.zero_add]; exact h'
  | [], t, u, m + 1, n, h, _ => by simp [dropC] at h
  | p :: cs, t, u, m + 1, n, h, h' => by
    simp only [dropC] at h
    rcases cond_some h with ⟨hb, h⟩ | ⟨_, h⟩
    · have hb := Nat.le_of_ble_eq_true hb
      have := dropC_add h h'
      rw [show m + 1 + n = (m + n) + 1 by omega]
      simp only [dropC]
      rw [show Nat.ble p.width (m + n + 1) = true from Nat.ble_eq_true_of_le (by omega)]
      simp only [cond_true]
      rw [show m + n + 1 - p.width = m + 1 - p.width + n by omega]
      exact this
    · simp at h
/-- The places of what is lent know the size of its elements. -/
def LentZ (σ : Sg) : Ty → Fl → List PV → Prop
  | .list e, .own _ _, cs => ∀ i t, cs = .own i :: t → ∃ L, σ i = some L ∧ L.z = e.size
  | .pair a b, .pair f g, cs => LentZ σ a f cs ∧ ∀ t, dropC cs a.size = some t → LentZ σ b g t
  | _, _, _ => True
theorem projF_drop : ∀ (τ : Ty) (f : Fl) (cs cs' : List PV) (x : τ.den) (U V : List Nat), projF s τ f cs = some (x, cs', U, V) → dropC cs τ.size = some cs' := by
  have dt : ∀ (τ : Ty) (cs cs' : List PV) (x : τ.den) (U V : List Nat), (match takeC cs τ.size, dropC cs τ.size with
      | some a, some b => match projAll τ (a.map s.dat) with
        | some x => some (x, b, ([] : List Nat), ownsC a)
        | none => none
      | _, _ => none) = some (x, cs', U, V) → dropC cs τ.size = some cs' := by
    intro τ cs cs' x U V e
    split at e
    · rename_i hb1
      split at e
      · simp only [Option.some.injEq, Prod.mk.injEq] at e
        rw [hb1, e.2.1]
      · simp at e
    · simp at e
  have one : ∀ (p : PV) (cs : List PV), p.width = 1 → dropC (p :: cs) 1 = some cs := by
    intro p cs hp
    simp only [dropC, hp]
    cases cs <;> rfl
  intro τ
  induction τ with
  | list e ih =>
    intro f cs cs' x U V e'
    cases f with
    | own T g =>
      simp only [projF] at e'
      split at e'
      · split at e'
        · rcases cond_some e' with ⟨hb, e2⟩ | ⟨_, e2⟩
          · split at e2
            · simp only [Option.some.injEq, Prod.mk.injEq] at e2
              rw [← e2.2.1]; exact one _ _ rfl
            · simp at e2
          · simp at e2
        · simp at e'
      · rcases cond_some e' with ⟨hb, e2⟩ | ⟨_, e2⟩
        · simp only [Option.some.injEq, Prod.mk.injEq] at e2
          rw [← e2.2.1]; exact one _ _ rfl
        · simp at e2
      · simp at e'
    | _ => exact dt _ _ _ _ _ _ e'
  | opt e ih =>
    intro f cs cs' x U V e'
    cases f with
    | box =>
      simp only [projF] at e'
      split at e'
      · simp only [Option.some.injEq, Prod.mk.injEq] at e'
        rw [← e'.2.1]; exact one _ _ rfl
      · split at e'
        · rcases cond_some e' with ⟨hb, e2⟩ | ⟨_, e2⟩
          · split at e2
            · simp only [Option.some.injEq, Prod.mk.injEq] at e2
              rw [← e2.2.1]; exact one _ _ rfl
            · simp at e2
          · simp at e2
        · simp at e'
      · simp at e'
    | _ => exact dt _ _ _ _ _ _ e'
  | pair τa τb iha ihb =>
    intro f cs cs' x U V e'
    cases f with
    | pair f g =>
      simp only [projF] at e'
      split at e'
      · rename_i x1 cs1 U1 V1 h1
        split at e'
        · rename_i x2 cs2 U2 V2 h2
          simp only [Option.some.injEq, Prod.mk.injEq] at e'
          rw [← e'.2.1]
          have g1 := iha f _ _ _ _ _ h1
          have g2 := ihb g _ _ _ _ _ h2
          exact dropC_add g1 g2
        · simp at e'
      · simp at e'
    | _ => exact dt _ _ _ _ _ _ e'
  | _ => intro f cs cs' x U V e'; cases f <;> exact dt _ _ _ _ _ _ e'
theorem projF_lentZ (h : Sim E G s a w) : ∀ (τ : Ty) (f : Fl) (cs cs' : List PV) (x : τ.den) (U V : List Nat), projF s τ f cs = some (x, cs', U, V) → LentZ G.σ τ f cs := by
  intro τ
  induction τ with
  | list e ih =>
    intro f cs cs' x U V e'
    cases f with
    | own T g =>
      intro i t hcs
      subst hcs
      simp only [projF] at e'
      split at e'
      · rename_i T' e1 g' xs hm
        rcases cond_some e' with ⟨hb, e2⟩ | ⟨_, e2⟩
        · split at e2
          · rename_i he _
            obtain ⟨L, hL, _, hz⟩ := h.mem i _ hm
            exact ⟨L, hL, by rw [hz, he]⟩
          · simp at e2
        · simp at e2
      · simp at e'
    | _ => trivial
  | pair τa τb iha ihb =>
    intro f cs cs' x U V e'
    cases f with
    | pair f g =>
      simp only [projF] at e'
      split at e'
      · rename_i x1 cs1 U1 V1 h1
        split at e'
        · rename_i x2 cs2 U2 V2 h2
          refine ⟨iha f _ _ _ _ _ h1, fun t ht => ?_⟩
          have := projF_drop _ _ _ _ _ _ _ h1
          rw [ht] at this
          simp only [Option.some.injEq] at this
          subst this
          exact ihb g _ _ _ _ _ h2
        · simp at e'
      · simp at e'
    | _ => trivial
  | _ => intro f cs cs' x U V e'; cases f <;> trivial

/-- What comes back, on both sides. -/
inductive BkRel (G : Gh) (w : World) (s : St) : List Bk → List Bq → Prop where
  | nil : BkRel G w s [] []
  | var {id o b o0 τ bs K cs L} (hm : s.mem id = some (.box cs)) (hL : G.σ id = some L) (hv : L.v = .pointer (some ⟨b, o0, none⟩)) (hβ : G.β id = [b]) (hl : o + τ.size ≤ widthC cs) (t : BkRel G w s bs K) : BkRel G w s (.var (.ptr id (.at o)) τ :: bs) (.var b (o0 + o) τ.size :: K)
  | lend {cs us τ f bs K} (hc : RepCs G.S G.σ w cs us) (hl : us.length = τ.size) (hz : LentZ G.σ τ f cs) (t : BkRel G w s bs K) : BkRel G w s (.lend cs τ f :: bs) (.lend (lentV τ f us) :: K)
theorem BkRel.append {bs bs' : List Bk} {K K' : List Bq} (h : BkRel G w s bs K) (h' : BkRel G w s bs' K') : BkRel G w s (bs ++ bs') (K ++ K') := by
  induction h with
  | nil => exact h'
  | var hm hL hv hβ hl _ ih => exact .var hm hL hv hβ hl ih
  | lend hc hl hz _ ih => exact .lend hc hl hz ih

theorem dat_σ0 (h : Sim E G s a w) {S1 : Nat → Prop} (hS : ∀ b, G.S b → S1 b) {p : PV} (hf : ∀ i ∈ p.owns, ∀ k ∈ G.β i, S1 k) {v : Value} (hr : RepS G.S G.σ w (.v p) v) : RepS S1 σ0 w (.v (s.dat p)) v := by
  by_cases hp : p = .undef
  · subst hp; trivial
  · exact RepS.v (dat_rep h hS hf (RepS.of_v hr hp))

theorem argOf_sound (h : Sim E G s a w) {S1 : Nat → Prop} (hS : ∀ b, G.S b → S1 b) {p : PK} {x : SV} {v : Value} {A : Ar} (hx : RepS G.S G.σ w x v) (e : argOf s p x = some A) (hV : ∀ i ∈ A.V, ∀ k ∈ G.β i, S1 k) :
    ∃ K, ArgsRep S1 w [p] A.as [v] K (A.U.flatMap G.β) ∧ BkRel G w s A.bk K ∧ K.flatMap Bq.blk = A.P.flatMap G.β := by
  cases p with
  | raw =>
    simp only [argOf] at e
    split at e
    · rename_i p
      simp only [Option.some.injEq] at e; subst e
      exact ⟨[], .plain rfl (dat_σ0 h hS hV hx) .nil, .nil, rfl⟩
    · simp at e
  | val τ =>
    simp only [argOf] at e
    split at e
    · rename_i cs hc
      split at e
      · rename_i d hd
        split at e
        · rename_i y hy
          simp only [Option.some.injEq] at e; subst e
          have ht := projAll_rep (datC_rep (σ' := G.σ) h hS hV (cells_rep hx hc)) hd
          exact ⟨[], .plain rfl ((datS_of hx hc hy).rep ht) .nil, .nil, rfl⟩
        · simp at e
      · simp at e
    · simp at e
  | give τ f =>
    simp only [argOf] at e
    split at e
    · rename_i cs hc
      split at e
      · rename_i d U V hd
        split at e
        · rename_i y hy
          simp only [Option.some.injEq] at e; subst e
          obtain ⟨u, v', e1, h1, h2⟩ := projF_sound h hS _ _ _ _ _ _ _ _ hd (cells_rep hx hc) hV
          cases h2
          rw [List.append_nil] at e1
          refine ⟨[], ?_, .nil, rfl⟩
          have := ArgsRep.give (S := S1) (w := w) (datS_of hx hc hy) (e1 ▸ h1) .nil
          rwa [List.append_nil] at this
        · simp at e
      · simp at e
    · simp at e
  | lend τ f =>
    simp only [argOf] at e
    split at e
    · rename_i cs hc
      split at e
      · rename_i d U V hd
        split at e
        · rename_i y hy
          simp only [Option.some.injEq] at e; subst e
          have hcs := cells_rep hx hc
          obtain ⟨u, v', e1, h1, h2⟩ := projF_sound h hS _ _ _ _ _ _ _ _ hd hcs hV
          cases h2
          rw [List.append_nil] at e1
          refine ⟨[.lend (lentV τ f v.cells.toList)], ?_, .lend hcs (by rw [e1]; exact RepF.length _ _ _ _ _ h1) (projF_lentZ h _ _ _ _ _ _ _ hd) .nil, rfl⟩
          have := ArgsRep.lend (S := S1) (w := w) (datS_of hx hc hy) (e1 ▸ h1) .nil
          rwa [List.append_nil] at this
        · simp at e
      · simp at e
    · simp at e
  | ro τ =>
    simp only [argOf] at e
    split at e
    · rename_i cs hl
      split at e
      · rename_i d hd
        simp only [Option.some.injEq] at e; subst e
        have hne : x.pv ≠ .undef := fun e => by rw [e] at hl; simp [St.look] at hl
        have hpv : RepC G.S G.σ w x.pv [v] := by
          cases x with
          | v p => exact RepS.of_v hx hne
          | agg _ => exact absurd rfl hne
          | tup _ _ => exact absurd rfl hne
        obtain ⟨b, o, vs, rfl, hr, hc, hlen, hb⟩ := look_sound h hpv hl
        refine ⟨[], .plain rfl (RepS.v (p := .cptr τ d 0) ⟨b, o, vs, ?_, hr, projAll_rep (datC_rep (σ' := G.σ) h hS (fun i hi => hV i (by simp [hi])) hc) hd, rfl⟩) .nil, .nil, rfl⟩
        exact hb.elim (hS b) fun ⟨i, hi, hk⟩ => hV i (by simp [hi]) b hk
      · simp at e
    · simp at e
  | var τ f =>
    simp only [argOf] at e
    split at e
    · rename_i id o hpv
      split at e
      · rename_i bs hm
        split at e
        · rename_i cs hl
          split at e
          · rename_i d U V hd
            simp only [Option.some.injEq] at e; subst e
            have hx1 : x = .v (.ptr id (.at o)) := by
              cases x with
              | v p => simp only [SV.pv] at hpv; rw [hpv]
              | agg _ => simp [SV.pv] at hpv
              | tup _ _ => simp [SV.pv] at hpv
            subst hx1
            obtain ⟨L, b, o0, hL, hv, _, hva⟩ := RepS.of_v hx (by simp)
            simp only [List.cons.injEq, and_true] at hva
            subst hva
            obtain ⟨L', hL', b', o', vs, hv', hcs, hr, ht, hβ⟩ := h.mem id _ hm
            rw [hL] at hL'; simp only [Option.some.injEq] at hL'; subst hL'
            rw [hv] at hv'
            simp only [Value.pointer.injEq, Option.some.injEq, Addr.mk.injEq, and_true] at hv'
            obtain ⟨rfl, rfl⟩ := hv'
            obtain ⟨g1, g2, g3⟩ := RepCs.cut hcs hl
            obtain ⟨u, v', e1, h1, h2⟩ := projF_sound h hS _ _ _ _ _ _ _ _ hd g1 hV
            cases h2
            rw [List.append_nil] at e1
            rw [← e1] at h1
            have hlu : ((vs.drop o).take τ.size).length = τ.size := RepF.length _ _ _ _ _ h1
            refine ⟨[.var b (o0 + o) τ.size], ?_, .var hm hL hv hβ (by rw [← RepCs.length hcs]; exact g3) .nil, by simp [hβ, Bq.blk]⟩
            have := ArgsRep.var (S := S1) (w := w) h1 (rangeAt_sub hr o τ.size) (fun j hj => by
              have := ht (o + j) (by rw [hlu] at hj; omega)
              rwa [← Nat.add_assoc] at this) .nil
            rwa [List.append_nil] at this
          · simp at e
        · simp at e
      · simp at e
    · simp at e
  | dvar τ f =>
    simp only [argOf] at e
    split at e
    · rename_i i0 hpv
      split at e
      · rename_i id hm0
        split at e
        · rename_i bs hm
          split at e
          · rename_i cs hl
            split at e
            · rename_i d U V hd
              simp only [Option.some.injEq] at e; subst e
              have hx1 : x = .v (.ptr i0 (.at 0)) := by
                cases x with
                | v p => simp only [SV.pv] at hpv; rw [hpv]
                | agg _ => simp [SV.pv] at hpv
                | tup _ _ => simp [SV.pv] at hpv
              subst hx1
              obtain ⟨L0, q, p0, hL0, hv0, _, hva0⟩ := RepS.of_v hx (by simp)
              simp only [List.cons.injEq, and_true] at hva0
              subst hva0
              have key : ∃ vs0, RepCs G.S G.σ w [.ptr id (.at 0)] vs0 ∧ w.rangeAt q p0 vs0 ∧ S1 q := by
                unfold boxAt at hm0
                split at hm0
                · rename_i cs' hm0'
                  simp only [Option.some.injEq] at hm0; subst hm0
                  obtain ⟨L', hL', b', o', vs, hv', hc, hr, _, hβ⟩ := h.mem i0 _ hm0'
                  rw [hL0] at hL'; simp only [Option.some.injEq] at hL'; subst hL'
                  rw [hv0] at hv'
                  simp only [Value.pointer.injEq, Option.some.injEq, Addr.mk.injEq, and_true] at hv'
                  obtain ⟨rfl, rfl⟩ := hv'
                  exact ⟨vs, hc, hr, hV i0 (by simp) q (by simp [hβ])⟩
                · rename_i cs' hm0'
                  simp only [Option.some.injEq] at hm0; subst hm0
                  obtain ⟨L', hL', _, b', o', vs, hv', hs, hc, hr⟩ := h.mem i0 _ hm0'
                  rw [hL0] at hL'; simp only [Option.some.injEq] at hL'; subst hL'
                  rw [hv0] at hv'
                  simp only [Value.pointer.injEq, Option.some.injEq, Addr.mk.injEq, and_true] at hv'
                  obtain ⟨rfl, rfl⟩ := hv'
                  exact ⟨vs, hc, hr, hS q hs⟩
                · simp at hm0
              obtain ⟨vs0, hcs0, hr0, hq0⟩ := key
              obtain ⟨u0, v0, e0, ⟨L, b, o0, hL, hv, _, hva⟩, hnil⟩ := hcs0
              cases hnil
              rw [List.append_nil] at e0
              subst e0
              subst hva
              obtain ⟨L', hL', b', o', vs, hv', hcs, hr, ht, hβ⟩ := h.mem id _ hm
              rw [hL] at hL'; simp only [Option.some.injEq] at hL'; subst hL'
              rw [hv] at hv'
              simp only [Value.pointer.injEq, Option.some.injEq, Addr.mk.injEq, and_true] at hv'
              obtain ⟨rfl, rfl⟩ := hv'
              obtain ⟨g1, g2, g3⟩ := RepCs.cut hcs hl
              obtain ⟨u, v', e1, h1, h2⟩ := projF_sound h hS _ _ _ _ _ _ _ _ hd g1 (fun i hi => hV i (by simp [hi]))
              cases h2
              rw [List.append_nil] at e1
              rw [← e1] at h1
              have hlu : ((vs.drop 0).take τ.size).length = τ.size := RepF.length _ _ _ _ _ h1
              refine ⟨[.var b (o0 + 0) τ.size], ?_, .var hm hL hv hβ (by rw [← RepCs.length hcs]; exact g3) .nil, by simp [hβ, Bq.blk]⟩
              have := ArgsRep.dvar (S := S1) (w := w) (q := q) (p := p0) h1 (rangeAt_sub hr 0 τ.size) (fun j hj => by
                have := ht (0 + j) (by rw [hlu] at hj; omega)
                rwa [← Nat.add_assoc] at this) hq0 (by exact hr0) .nil
              rwa [List.append_nil] at this
            · simp at e
          · simp at e
        · simp at e
      · simp at e
    · simp at e

theorem argsOf_sound (h : Sim E G s a w) {S1 : Nat → Prop} (hS : ∀ b, G.S b → S1 b) : ∀ {ps : List PK} {xs : List SV} {vs : List Value} {A : Ar}, All2 (fun x v => RepS G.S G.σ w x v) xs vs → argsOf s ps xs = some A → (∀ i ∈ A.V, ∀ k ∈ G.β i, S1 k) →
    ∃ K, ArgsRep S1 w ps A.as vs K (A.U.flatMap G.β) ∧ BkRel G w s A.bk K ∧ K.flatMap Bq.blk = A.P.flatMap G.β := by
  intro ps
  induction ps with
  | nil =>
    intro xs vs A hx e hV
    cases hx with
    | nil => simp only [argsOf, Option.some.injEq] at e; subst e; exact ⟨[], .nil, .nil, rfl⟩
    | cons _ _ => simp [argsOf] at e
  | cons p ps ih =>
    intro xs vs A hx e hV
    cases hx with
    | nil => simp [argsOf] at e
    | @cons x v xs vs hxv ht =>
      simp only [argsOf] at e
      split at e
      · rename_i A1 A2 h1 h2
        simp only [Option.some.injEq] at e; subst e
        obtain ⟨K1, g1, g2, g3⟩ := argOf_sound h hS hxv h1 fun i hi => hV i (by simp [hi])
        obtain ⟨K2, f1, f2, f3⟩ := ih ht h2 fun i hi => hV i (by simp [hi])
        refine ⟨K1 ++ K2, ?_, g2.append f2, by simp [g3, f3]⟩
        have := g1.append f1
        rw [List.flatMap_append]
        exact this
      · simp at e
end Go.Ps
