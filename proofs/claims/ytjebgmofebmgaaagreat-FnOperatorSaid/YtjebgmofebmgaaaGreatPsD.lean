/- What the interpreter's states say of the model's: states. -/
import Derived.Test.YtjebgmofebmgaaaGreatPsC
namespace Go.Ps
set_option linter.unusedVariables false
variable {S S' : Nat → Prop} {σ σ' : Sg} {w w' : World}

/-- A tuple's values out of cells. -/
def TupV : List (Nat × Bool) → List Value → List Value → Prop
  | [], us, xs => us = [] ∧ xs = []
  | (n, agg) :: sh, us, xs => ∃ u v y ys, us = u ++ v ∧ xs = y :: ys ∧ u.length = n ∧ (agg = true → y = .agg u.toArray) ∧ (agg = false → u = [y]) ∧ TupV sh v ys
def RepTup (S : Nat → Prop) (σ : Sg) (w : World) (cs : List PV) (sh : List (Nat × Bool)) (xs : List Value) : Prop := ∃ us, RepCs S σ w cs us ∧ TupV sh us xs

def RepS (S : Nat → Prop) (σ : Sg) (w : World) : SV → Value → Prop
  | .v .undef, _ => True
  | .v p, x => RepC S σ w p [x]
  | .agg cs, x => ∃ vs : List Value, x = .agg vs.toArray ∧ RepCs S σ w cs vs
  | .tup cs sh, x => ∃ xs : List Value, x = .tuple xs.toArray ∧ RepTup S σ w cs sh xs

theorem RepS.v {p : PV} {x : Value} (h : RepC S σ w p [x]) : RepS S σ w (.v p) x := by
  cases p <;> first | trivial | exact h
theorem RepS.of_v {p : PV} {x : Value} (h : RepS S σ w (.v p) x) (hp : p ≠ .undef) : RepC S σ w p [x] := by
  cases p <;> first | exact h | exact absurd rfl hp


theorem RepTup.keep (hS : ∀ b, S b → S' b) (hw : Holds S w w') (hσ : SgLe σ σ') {sh : List (Nat × Bool)} {cs : List PV} {xs : List Value} (h : RepTup S σ w cs sh xs) : RepTup S' σ' w' cs sh xs :=
  let ⟨us, h1, h2⟩ := h; ⟨us, RepCs.keep hS hw hσ h1, h2⟩
theorem RepS.keep (hS : ∀ b, S b → S' b) (hw : Holds S w w') (hσ : SgLe σ σ') {p : SV} {x : Value} (h : RepS S σ w p x) : RepS S' σ' w' p x := by
  cases p with
  | v p =>
    by_cases hp : p = .undef
    · subst hp; trivial
    · exact RepS.v (RepC.keep hS hw hσ (RepS.of_v h hp))
  | agg cs => obtain ⟨vs, e, k⟩ := h; exact ⟨vs, e, RepCs.keep hS hw hσ k⟩
  | tup cs sh => obtain ⟨vs, e, k⟩ := h; exact ⟨vs, e, RepTup.keep hS hw hσ k⟩

/-! ### Slices that are nobody else's -/
def RowsB {α : Type} (Q : α → List Value → List Nat → Prop) : List α → List Value → List Nat → Prop
  | [], vs, B => vs = [] ∧ B = []
  | x :: xs, vs, B => ∃ u v B1 B2, vs = u ++ v ∧ B = B1 ++ B2 ∧ Q x u B1 ∧ RowsB Q xs v B2
/-- A row whose block bears a mark behind its cells (a converted string's bytes). -/
def tailRow (w : World) (e : TypeId) (size : Nat) (v : Value) (n : Nat) (xs : List Value) : Prop :=
  xs.length = n * size ∧ ∃ g cap cur fz, v = .slice (some ⟨g, 0, none⟩) n cap ∧ w.heap[g]? = some (.cells cur e fz) ∧ cur.size ≤ fz.1 ∧ n ≤ cap ∧ cap ≤ maxLen ∧ cur.size = cap * size ∧ cur.toList.take (n * size) = xs
/-- A row of the call's own; under the flag 'box' its block may bear a mark behind its cells (nothing is appended to it). -/
def rowF (w : World) (f : Fl) (e : TypeId) (size : Nat) (v : Value) (n : Nat) (xs : List Value) : Prop := w.ownsRow 0 e size v n xs ∨ (f = .box ∧ tailRow w e size v n xs)
theorem rowF_no {w : World} {e : TypeId} {size : Nat} {v : Value} {n : Nat} {xs : List Value} {f : Fl} (hf : f ≠ .box) (h : rowF w f e size v n xs) : w.ownsRow 0 e size v n xs := h.elim id fun h => absurd h.1 hf
theorem rowF_len1 {w : World} {e : TypeId} {size : Nat} {v : Value} {n : Nat} {xs : List Value} {f : Fl} (h : rowF w f e size v n xs) : xs.length = n * size := h.elim (fun h => h.1) fun h => h.2.1
/-- Data of which some slices (and a variable) are nobody else's: those in the blocks B. -/
def RepF (S : Nat → Prop) (w : World) : (τ : Ty) → Fl → τ.den → List Value → List Nat → Prop
  | .list e, .own T f, xs, us, B => 0 < e.size ∧ ∃ v vs B2, us = [v] ∧ B = (blockOf v).toList ++ B2 ∧ rowF w f T e.size v xs.length vs ∧ RowsB (RepF S w e f) xs vs B2
  | .opt e, .box, x, us, B => (x = none ∧ us = [.pointer none] ∧ B = []) ∨ ∃ y b o vs, x = some y ∧ us = [.pointer (some ⟨b, o, none⟩)] ∧ B = [b] ∧ w.rangeAt b o vs ∧ w.there b o vs.length ∧ RepT S w e y vs
  | .pair a b, .pair f g, x, us, B => ∃ u v B1 B2, us = u ++ v ∧ B = B1 ++ B2 ∧ RepF S w a f x.1 u B1 ∧ RepF S w b g x.2 v B2
  | τ, _, x, us, B => RepT S w τ x us ∧ B = []
/-- Blocks that are one's own. -/
def Own (S : Nat → Prop) (w : World) (ok : Nat → Prop) (B : List Nat) : Prop := B.Nodup ∧ ∀ k ∈ B, ¬ S k ∧ ok k ∧ k < w.heap.size

theorem ownsRow_of_block {w w' : World} {base : Nat} {t : TypeId} {z n : Nat} {v : Value} {vs : List Value} (h : w.ownsRow base t z v n vs) (e : ∀ k, blockOf v = some k → w'.heap[k]? = w.heap[k]?) : w'.ownsRow base t z v n vs := by
  obtain ⟨h1, h2⟩ := h
  refine ⟨h1, h2.imp id ?_⟩
  rintro ⟨g, cap, cur, rfl, hg, hh, r⟩
  exact ⟨g, cap, cur, rfl, hg, (e g rfl).trans hh, r⟩
theorem rowF_of_block {w w' : World} {f : Fl} {t : TypeId} {z n : Nat} {v : Value} {vs : List Value} (h : rowF w f t z v n vs) (e : ∀ k, blockOf v = some k → w'.heap[k]? = w.heap[k]?) : rowF w' f t z v n vs := by
  refine h.imp (fun h => ownsRow_of_block h e) ?_
  rintro ⟨hf, h1, g, cap, cur, fz, rfl, hh, r⟩
  exact ⟨hf, h1, g, cap, cur, fz, rfl, (e g rfl).trans hh, r⟩
theorem lt_of_heap {w w' : World} {k : Nat} (h : k < w.heap.size) (e : w'.heap[k]? = w.heap[k]?) : k < w'.heap.size := by
  rw [Array.getElem?_eq_getElem h] at e
  exact (Array.getElem?_eq_some_iff.1 e).1

theorem RowsB.imp {α : Type} {Q Q' : α → List Value → List Nat → Prop} : ∀ {xs : List α} {vs : List Value} {B : List Nat}, (∀ x us B1, (∀ k ∈ B1, k ∈ B) → Q x us B1 → Q' x us B1) → RowsB Q xs vs B → RowsB Q' xs vs B
  | [], _, _, _, h => h
  | x :: xs, _, _, hQ, ⟨u, v, B1, B2, e, e', h, k⟩ => ⟨u, v, B1, B2, e, e', hQ _ _ _ (fun k hk => by rw [e']; simp [hk]) h, RowsB.imp (fun x us B1 hB => hQ x us B1 fun k hk => by rw [e']; simp [hB k hk]) k⟩
theorem RowsB.rows {α : Type} {Q : α → List Value → List Nat → Prop} {Q' : α → List Value → Prop} : ∀ {xs : List α} {vs : List Value} {B : List Nat}, (∀ x us B1, (∀ k ∈ B1, k ∈ B) → Q x us B1 → Q' x us) → RowsB Q xs vs B → RepRows Q' xs vs
  | [], _, _, _, h => h.1
  | x :: xs, _, _, hQ, ⟨u, v, B1, B2, e, e', h, k⟩ => ⟨u, v, e, hQ _ _ _ (fun k hk => by rw [e']; simp [hk]) h, RowsB.rows (fun x us B1 hB => hQ x us B1 fun k hk => by rw [e']; simp [hB k hk]) k⟩

theorem RowsB.append {α : Type} {Q : α → List Value → List Nat → Prop} : ∀ {xs ys : List α} {us vs : List Value} {B B' : List Nat}, RowsB Q xs us B → RowsB Q ys vs B' → RowsB Q (xs ++ ys) (us ++ vs) (B ++ B')
  | [], _, _, _, _, _, ⟨h1, h2⟩, k => by subst h1 h2; exact k
  | x :: xs, _, _, _, _, _, ⟨u, v, B1, B2, e, e', h, t⟩, k => ⟨u, v ++ _, B1, B2 ++ _, by rw [e, List.append_assoc], by rw [e', List.append_assoc], h, RowsB.append t k⟩
/-- One element by itself. -/
theorem RowsB.split {α : Type} {Q : α → List Value → List Nat → Prop} {n : Nat} (hQ : ∀ x us B, Q x us B → us.length = n) : ∀ {xs : List α} {vs : List Value} {B : List Nat}, RowsB Q xs vs B → ∀ i (hi : i < xs.length),
    ∃ pre u post B1 Bx B2, vs = pre ++ (u ++ post) ∧ B = B1 ++ (Bx ++ B2) ∧ pre.length = i * n ∧ RowsB Q (xs.take i) pre B1 ∧ Q xs[i] u Bx ∧ RowsB Q (xs.drop (i + 1)) post B2
  | [], _, _, _, i, h => by simp at h
  | x :: xs, _, _, ⟨u, v, B1, B2, e, e', h, k⟩, 0, _ => ⟨[], u, v, [], B1, B2, by simpa using e, by simpa using e', by simp, ⟨rfl, rfl⟩, h, by simpa using k⟩
  | x :: xs, _, _, ⟨u, v, B1, B2, e, e', h, k⟩, i + 1, hi => by
    obtain ⟨pre, u', post, C1, Cx, C2, g1, g2, g3, g4, g5, g6⟩ := RowsB.split hQ k i (by simpa using hi)
    refine ⟨u ++ pre, u', post, B1 ++ C1, Cx, C2, by rw [e, g1, List.append_assoc], by rw [e', g2, List.append_assoc], ?_, ⟨u, pre, B1, C1, rfl, rfl, h, g4⟩, by simpa using g5, by simpa using g6⟩
    rw [List.length_append, g3, hQ _ _ _ h, Nat.add_mul]; omega
theorem RowsB.join {α : Type} {Q : α → List Value → List Nat → Prop} {xs : List α} {i : Nat} {y : α} {pre u post : List Value} {B1 Bx B2 : List Nat} (hi : i < xs.length) (h1 : RowsB Q (xs.take i) pre B1) (h2 : Q y u Bx) (h3 : RowsB Q (xs.drop (i + 1)) post B2) :
    RowsB Q (xs.set i y) (pre ++ (u ++ post)) (B1 ++ (Bx ++ B2)) := by
  rw [List.set_eq_take_append_cons_drop, if_pos hi]
  exact h1.append ⟨u, post, Bx, B2, rfl, rfl, h2, h3⟩

theorem RepF.keep (hS : ∀ b, S b → S' b) (hw : Holds S w w') : ∀ (τ : Ty) (f : Fl) (x : τ.den) (us : List Value) (B : List Nat), (∀ k ∈ B, w'.heap[k]? = w.heap[k]?) → RepF S w τ f x us B → RepF S' w' τ f x us B := by
  have dt : ∀ (τ : Ty) (x : τ.den) (us : List Value) (B : List Nat), (RepT S w τ x us ∧ B = []) → (RepT S' w' τ x us ∧ B = []) := fun τ x us B h => ⟨RepT.keep hS hw _ _ _ h.1, h.2⟩
  intro τ
  induction τ with
  | list e ih =>
    intro f x us B hk h
    cases f with
    | own T f =>
      obtain ⟨hp, v, vs, B2, e1, rfl, ho, h⟩ := h
      exact ⟨hp, v, vs, B2, e1, rfl, rowF_of_block ho fun k hv => hk k (by simp [hv]), RowsB.imp (fun y us B1 hB => ih f y us B1 fun k hk' => hk k (by simp [hB k hk'])) h⟩
    | _ => exact dt _ _ _ _ h
  | opt e ih =>
    intro f x us B hk h
    cases f with
    | box =>
      refine h.imp id ?_
      rintro ⟨y, b, o, vs, e1, e2, rfl, hr, ht, hy⟩
      have hb := hk b (by simp)
      exact ⟨y, b, o, vs, e1, e2, rfl, rangeAt_of_block hr hb, there_of_block ht hb, RepT.keep hS hw _ _ _ hy⟩
    | _ => exact dt _ _ _ _ h
  | pair a b iha ihb =>
    intro f x us B hk h
    cases f with
    | pair f g =>
      obtain ⟨u, v, B1, B2, e1, rfl, h1, h2⟩ := h
      exact ⟨u, v, B1, B2, e1, rfl, iha f _ _ _ (fun k hk' => hk k (by simp [hk'])) h1, ihb g _ _ _ (fun k hk' => hk k (by simp [hk'])) h2⟩
    | _ => exact dt _ _ _ _ h
  | _ => intro f x us B hk h; exact dt _ _ _ _ h

theorem RepF.length : ∀ (τ : Ty) (f : Fl) (x : τ.den) (us : List Value) (B : List Nat), RepF S w τ f x us B → us.length = τ.size := by
  intro τ
  induction τ with
  | list e ih =>
    intro f x us B h
    cases f with
    | own T f => obtain ⟨_, v, vs, B1, rfl, _⟩ := h; rfl
    | _ => exact RepT.length _ _ _ h.1
  | opt e ih =>
    intro f x us B h
    cases f with
    | box => rcases h with ⟨_, rfl, _⟩ | ⟨_, _, _, _, _, rfl, _⟩ <;> rfl
    | _ => exact RepT.length _ _ _ h.1
  | pair a b iha ihb =>
    intro f x us B h
    cases f with
    | pair f g => obtain ⟨u, v, B1, B2, rfl, _, h1, h2⟩ := h; rw [List.length_append, iha _ _ _ _ h1, ihb _ _ _ _ h2]; rfl
    | _ => exact RepT.length _ _ _ h.1
  | _ => intro f x us B h; exact RepT.length _ _ _ h.1

theorem own_list0 {T : TypeId} {e : Ty} {xs : List e.den} {v : Value} {vs : List Value} (hr : RepRows (RepT S w e) xs vs) (ho : w.ownsRow 0 T e.size v xs.length vs) (hS : ∀ k, blockOf v = some k → S k) : RepT S w (.list e) xs [v] := by
  obtain ⟨hl, ho⟩ := ho
  rcases ho with ⟨rfl, h0⟩ | ⟨g, cap, cur, rfl, _, hh, hn, _, hc, ht⟩
  · exact ⟨none, 0, by rw [h0], by omega, .inl ⟨List.eq_nil_of_length_eq_zero h0, fun _ => rfl⟩⟩
  · refine ⟨_, cap, rfl, hn, .inr ⟨g, 0, vs, rfl, hS g rfl, ?_, hr⟩⟩
    intro j u hu
    have hu' := hu
    rw [← ht, List.getElem?_take] at hu'
    split at hu'
    · simp only [World.cell?, hh, Option.isSome_none, Bool.false_eq_true, if_false, Nat.zero_add]
      rw [← Array.getElem?_toList]; exact hu'
    · simp at hu'

theorem own_list {T : TypeId} {f : Fl} {e : Ty} {xs : List e.den} {v : Value} {vs : List Value} (hr : RepRows (RepT S w e) xs vs) (ho : rowF w f T e.size v xs.length vs) (hS : ∀ k, blockOf v = some k → S k) : RepT S w (.list e) xs [v] := by
  rcases ho with ho | ⟨_, hl, g, cap, cur, fz, rfl, hh, _, hn, _, hc, ht⟩
  · exact own_list0 hr ho hS
  · refine ⟨_, cap, rfl, hn, .inr ⟨g, 0, vs, rfl, hS g rfl, ?_, hr⟩⟩
    intro j u hu
    have hu' := hu
    rw [← ht, List.getElem?_take] at hu'
    split at hu'
    · simp only [World.cell?, hh, Option.isSome_none, Bool.false_eq_true, if_false, Nat.zero_add]
      rw [← Array.getElem?_toList]; exact hu'
    · simp at hu'

/-- All of it as mere data, once nobody writes its blocks. -/
theorem RepF.data (hS : ∀ b, S b → S' b) : ∀ (τ : Ty) (f : Fl) (x : τ.den) (us : List Value) (B : List Nat), (∀ k ∈ B, S' k) → RepF S w τ f x us B → RepT S' w τ x us := by
  have dt : ∀ (τ : Ty) (x : τ.den) (us : List Value) (B : List Nat), (RepT S w τ x us ∧ B = []) → RepT S' w τ x us := fun τ x us B h => RepT.keep hS (fun _ _ => rfl) _ _ _ h.1
  intro τ
  induction τ with
  | list e ih =>
    intro f x us B hk h
    cases f with
    | own T f =>
      obtain ⟨hp, v, vs, B2, rfl, rfl, ho, h⟩ := h
      exact own_list (RowsB.rows (fun y us B1 hB => ih f y us B1 fun k hk' => hk k (by simp [hB k hk'])) h) ho fun k hv => hk k (by simp [hv])
    | _ => exact dt _ _ _ _ h
  | opt e ih =>
    intro f x us B hk h
    cases f with
    | box =>
      refine h.imp (fun h => ⟨h.1, h.2.1⟩) ?_
      rintro ⟨y, b, o, vs, e1, e2, rfl, hr, ht, hy⟩
      exact ⟨y, b, o, vs, e1, e2, hk b (by simp), hr, RepT.keep hS (fun _ _ => rfl) _ _ _ hy⟩
    | _ => exact dt _ _ _ _ h
  | pair a b iha ihb =>
    intro f x us B hk h
    cases f with
    | pair f g =>
      obtain ⟨u, v, B1, B2, rfl, rfl, h1, h2⟩ := h
      exact ⟨u, v, rfl, iha f _ _ _ (fun k hk' => hk k (by simp [hk'])) h1, ihb g _ _ _ (fun k hk' => hk k (by simp [hk'])) h2⟩
    | _ => exact dt _ _ _ _ h
  | _ => intro f x us B hk h; exact dt _ _ _ _ h

/-- Without other pointers, the blocks that nobody writes don't matter. -/
theorem RepF.free : ∀ (τ : Ty) (f : Fl) (x : τ.den) (us : List Value) (B : List Nat), τ.shares f = false → RepF S w τ f x us B → RepF S' w τ f x us B := by
  have hsl : ∀ τ : Ty, τ.shares .no = τ.lists := by
    intro τ
    induction τ with
    | arr e n ih => simp only [Ty.shares, Ty.lists, ih]
    | pair a b iha ihb => simp only [Ty.shares, Ty.lists, iha, ihb]
    | _ => rfl
  have dt : ∀ (τ : Ty) (x : τ.den) (us : List Value) (B : List Nat), τ.shares .no = false → (RepT S w τ x us ∧ B = []) → (RepT S' w τ x us ∧ B = []) := fun τ x us B hs h => ⟨RepT.free τ (by rw [← hsl]; exact hs) _ _ h.1, h.2⟩
  intro τ
  induction τ with
  | list e ih =>
    intro f x us B hs h
    cases f with
    | own T f =>
      obtain ⟨hp, v, vs, B2, e1, e2, ho, h⟩ := h
      exact ⟨hp, v, vs, B2, e1, e2, ho, RowsB.imp (fun y us B1 _ => ih f y us B1 (by simpa [Ty.shares] using hs)) h⟩
    | _ => simp [Ty.shares] at hs
  | opt e ih =>
    intro f x us B hs h
    cases f with
    | box =>
      refine h.imp id ?_
      rintro ⟨y, b, o, vs, e1, e2, rfl, hr, ht, hy⟩
      exact ⟨y, b, o, vs, e1, e2, rfl, hr, ht, RepT.free e (by rw [← hsl]; simpa [Ty.shares] using hs) _ _ hy⟩
    | _ => simp [Ty.shares] at hs
  | arr e n ih =>
    intro f x us B hs h
    have hs' : (Ty.arr e n).shares .no = false := by simpa [Ty.shares] using hs
    cases f <;> exact dt _ _ _ _ hs' h
  | pair a b iha ihb =>
    intro f x us B hs h
    cases f with
    | pair f g =>
      simp only [Ty.shares, Bool.or_eq_false_iff] at hs
      obtain ⟨u, v, B1, B2, e1, e2, h1, h2⟩ := h
      exact ⟨u, v, B1, B2, e1, e2, iha f _ _ _ hs.1 h1, ihb g _ _ _ hs.2 h2⟩
    | no => exact dt (.pair a b) _ _ _ hs h
    | own _ _ => exact dt (.pair a b) _ _ _ hs h
    | box => exact dt (.pair a b) _ _ _ hs h
  | unit => intro f x us B hs h; cases f <;> exact dt .unit _ _ _ rfl h
  | bool => intro f x us B hs h; cases f <;> exact dt .bool _ _ _ rfl h
  | str => intro f x us B hs h; cases f <;> exact dt .str _ _ _ rfl h
  | int k => intro f x us B hs h; cases f <;> exact dt (.int k) _ _ _ rfl h

theorem RepF_no {τ : Ty} {x : τ.den} {us : List Value} {B : List Nat} : RepF S w τ .no x us B ↔ (RepT S w τ x us ∧ B = []) := by
  cases τ <;> exact Iff.rfl
theorem RowsB_no {e : Ty} : ∀ {xs : List e.den} {vs : List Value} {B : List Nat}, RowsB (RepF S w e .no) xs vs B ↔ (RepRows (RepT S w e) xs vs ∧ B = [])
  | [], _, _ => Iff.rfl
  | x :: xs, vs, B => by
    constructor
    · rintro ⟨u, v, B1, B2, rfl, rfl, h1, h2⟩
      obtain ⟨g1, e1⟩ := RepF_no.1 h1
      obtain ⟨g2, e2⟩ := RowsB_no.1 h2
      exact ⟨⟨u, v, rfl, g1, g2⟩, by rw [e1, e2]; rfl⟩
    · rintro ⟨⟨u, v, rfl, h1, h2⟩, rfl⟩
      exact ⟨u, v, [], [], rfl, rfl, RepF_no.2 ⟨h1, rfl⟩, RowsB_no.2 ⟨h2, rfl⟩⟩

theorem RepF_flat {τ : Ty} {f : Fl} (hf : f.flat τ = true) {x : τ.den} {us : List Value} {B : List Nat} : RepF S w τ f x us B ↔ (RepT S w τ x us ∧ B = []) := by
  cases f with
  | no => exact RepF_no
  | box => cases τ <;> first | exact Iff.rfl | simp [Fl.flat] at hf
  | _ => simp [Fl.flat] at hf
theorem RowsB_flat {e : Ty} {f : Fl} (hf : f.flat e = true) : ∀ {xs : List e.den} {vs : List Value} {B : List Nat}, RowsB (RepF S w e f) xs vs B ↔ (RepRows (RepT S w e) xs vs ∧ B = [])
  | [], _, _ => Iff.rfl
  | x :: xs, vs, B => by
    constructor
    · rintro ⟨u, v, B1, B2, rfl, rfl, h1, h2⟩
      obtain ⟨g1, e1⟩ := (RepF_flat hf).1 h1
      obtain ⟨g2, e2⟩ := (RowsB_flat hf).1 h2
      exact ⟨⟨u, v, rfl, g1, g2⟩, by rw [e1, e2]; rfl⟩
    · rintro ⟨⟨u, v, rfl, h1, h2⟩, rfl⟩
      exact ⟨u, v, [], [], rfl, rfl, (RepF_flat hf).2 ⟨h1, rfl⟩, (RowsB_flat hf).2 ⟨h2, rfl⟩⟩

/-! ### Blocks and states -/
/-- A slice of n elements that begins where its block begins. -/
def At0 (v : Value) (n : Nat) : Prop := (v = .slice none 0 0 ∧ n = 0) ∨ ∃ b c, v = .slice (some ⟨b, 0, none⟩) n c
theorem At0.ofF {f : Fl} {T : TypeId} {z n : Nat} {v : Value} {vs : List Value} (h : rowF w f T z v n vs) : At0 v n := by
  rcases h with h | ⟨_, _, g, cap, _, _, h, _⟩
  · rcases h.2 with h | ⟨g, cap, cur, h, _⟩
    · exact .inl h
    · exact .inr ⟨g, cap, h⟩
  · exact .inr ⟨g, cap, h⟩
theorem At0.of {b0 : Nat} {T : TypeId} {z n : Nat} {v : Value} {vs : List Value} (h : w.ownsRow b0 T z v n vs) : At0 v n := by
  rcases h.2 with h | ⟨g, cap, cur, h, _⟩
  · exact .inl h
  · exact .inr ⟨g, cap, h⟩
def RepB (S : Nat → Prop) (σ : Sg) (w : World) (L : Loc) : Blk → List Nat → Prop
  | .box cs, B => ∃ b o vs, L.v = .pointer (some ⟨b, o, none⟩) ∧ RepCs S σ w cs vs ∧ w.rangeAt b o vs ∧ w.there b o vs.length ∧ B = [b]
  | .rows T e f xs, B => RepF S w (.list e) (.own T f) xs [L.v] B ∧ L.z = e.size
  | .fbox cs, B => B = [] ∧ ∃ b o vs, L.v = .pointer (some ⟨b, o, none⟩) ∧ S b ∧ RepCs S σ w cs vs ∧ w.rangeAt b o vs
  | .frows e xs, B => B = [] ∧ RepT S w (.list e) xs [L.v] ∧ L.z = e.size ∧ 0 < e.size ∧ At0 L.v xs.length
  | .dead, B => B = []
  | .opn T e f xs i cs, B => 0 < e.size ∧ 0 ≤ i ∧ i < (xs.length : Int) ∧ L.z = e.size ∧ ∃ u pre post B1 B2, rowF w f T e.size L.v xs.length (pre ++ (u ++ post)) ∧ pre.length = i.toNat * e.size ∧ u.length = e.size ∧
      RowsB (RepF S w e f) (xs.take i.toNat) pre B1 ∧ RepCs S σ w cs u ∧ RowsB (RepF S w e f) (xs.drop (i.toNat + 1)) post B2 ∧ B = (blockOf L.v).toList ++ (B1 ++ B2)

/-- The ghosts of a call: the blocks that nobody writes; where its own lie; their blocks. -/
structure Gh where
  S : Nat → Prop
  σ : Sg
  β : Nat → List Nat
/-- What is known of the data that the world holds from the begin (tables); it stays. -/
structure Inv where
  at_ : (Nat → Prop) → World → Prop
  keep : ∀ {S S' w w'}, (∀ b, S b → S' b) → Holds S w w' → at_ S w → at_ S' w'
def Inv.none : Inv := ⟨fun _ _ => True, fun _ _ _ => trivial⟩
/-- What stands fixed during a call: the world at its begin, the blocks that were data then, the cells that it may write, the blocks that were handed over; the parameters' values. -/
structure En where
  W : World
  S : Nat → Prop
  M : Nat → Nat → Prop
  O : Nat → Prop
  par : Nat → Value
  I : Inv

/-- Of the old memory nothing has turned but the cells of M. -/
structure KeptM (W w : World) (M : Nat → Nat → Prop) : Prop where
  os : w.os = W.os
  tape : w.tape = W.tape
  output : w.output = W.output
  size : W.heap.size ≤ w.heap.size
  block : ∀ b, b < W.heap.size → (∀ o, ¬ M b o) → w.heap[b]? = W.heap[b]?
  cells : ∀ b, b < W.heap.size → ∀ o, ¬ M b o → w.cell? ⟨b, o, none⟩ = W.cell? ⟨b, o, none⟩ ∧ True
  frozen : ∀ b, b < W.heap.size → ∀ o, w.frozen? ⟨b, o, none⟩ = W.frozen? ⟨b, o, none⟩
  there : ∀ b, b < W.heap.size → ∀ o, (w.cell? ⟨b, o, none⟩).isSome = (W.cell? ⟨b, o, none⟩).isSome

theorem KeptM.refl (W : World) (M : Nat → Nat → Prop) : KeptM W W M := ⟨rfl, rfl, rfl, Nat.le_refl _, fun _ _ _ => rfl, fun _ _ _ _ => ⟨rfl, trivial⟩, fun _ _ _ => rfl, fun _ _ _ => rfl⟩

/-- A step that leaves all old blocks. -/
theorem KeptM.step {W w w' : World} {M : Nat → Nat → Prop} (h : KeptM W w M) (ho : w'.os = w.os) (ht : w'.tape = w.tape) (hu : w'.output = w.output) (hs : w.heap.size ≤ w'.heap.size)
    (hb : ∀ b, b < W.heap.size → w'.heap[b]? = w.heap[b]?) : KeptM W w' M where
  os := ho.trans h.os
  tape := ht.trans h.tape
  output := hu.trans h.output
  size := Nat.le_trans h.size hs
  block b hlt hM := (hb b hlt).trans (h.block b hlt hM)
  cells b hlt o hM := ⟨(World.cell?_of_block (a := ⟨b, o, none⟩) (hb b hlt)).trans (h.cells b hlt o hM).1, trivial⟩
  frozen b hlt o := (World.frozen?_of_block (a := ⟨b, o, none⟩) (hb b hlt)).trans (h.frozen b hlt o)
  there b hlt o := by rw [World.cell?_of_block (a := ⟨b, o, none⟩) (hb b hlt)]; exact h.there b hlt o


structure Sim (E : En) (G : Gh) (s : St) (a : Act) (w : World) : Prop where
  defers : a.defers = []
  size : a.tmps.size = s.n
  tmp : ∀ t, RepS G.S G.σ w (s.tmps t) (a.tmps.getD t undef)
  mem : ∀ i b, s.mem i = some b → ∃ L, G.σ i = some L ∧ RepB G.S G.σ w L b (G.β i)
  dom : ∀ i, s.mem i = none → G.σ i = none ∧ G.β i = []
  apart : ∀ i j, i ≠ j → ∀ k ∈ G.β i, k ∉ G.β j
  nodup : ∀ i, (G.β i).Nodup
  off : ∀ i, ∀ k ∈ G.β i, ¬ G.S k ∧ k < w.heap.size
  old : ∀ b, G.S b → b < w.heap.size
  kept : KeptM E.W w E.M
  sub : ∀ b, E.S b → G.S b
  new : ∀ b, G.S b → E.S b ∨ E.W.heap.size ≤ b ∨ E.O b
  mine : ∀ i, ∀ k ∈ G.β i, E.W.heap.size ≤ k ∨ E.O k ∨ (i % 128 = 127 ∧ ∃ cs L o, s.mem i = some (.box cs) ∧ G.σ i = some L ∧ L.v = .pointer (some ⟨k, o, none⟩) ∧ ∀ j, j < widthC cs → E.M k (o + j))
  sep : ∀ b o, E.M b o → E.O b ∨ (¬ G.S b ∧ b < E.W.heap.size)
  all : ∀ b, E.O b → b < E.W.heap.size ∧ ∀ o, E.M b o
  par : ∀ i L, 64 ≤ i % 128 → G.σ i = some L → L.v = E.par i
  parp : ∀ i, i % 128 = 127 → ∃ x, E.par i = .pointer x
  inv : E.I.at_ G.S w

/-- A block of the call's own that has not turned. -/
theorem RepB.keep (hS : ∀ b, S b → S' b) (hw : Holds S w w') (hσ : SgLe σ σ') {L : Loc} {b : Blk} {B : List Nat} (hB : ∀ k ∈ B, w'.heap[k]? = w.heap[k]? ∧ ¬ S' k) (h : RepB S σ w L b B) : RepB S' σ' w' L b B := by
  cases b with
  | box cs =>
    obtain ⟨b, o, vs, e, k, r, t, rfl⟩ := h
    have := (hB b (by simp)).1
    exact ⟨b, o, vs, e, RepCs.keep hS hw hσ k, rangeAt_of_block r this, there_of_block t this, rfl⟩
  | rows T e f xs => exact ⟨RepF.keep hS hw _ _ _ _ _ (fun k hk => (hB k hk).1) h.1, h.2⟩
  | fbox cs => obtain ⟨e, b, o, vs, e1, hs, hc, hr⟩ := h; exact ⟨e, b, o, vs, e1, hS _ hs, RepCs.keep hS hw hσ hc, rangeAt_of_block hr (hw b hs)⟩
  | frows e xs => obtain ⟨e0, h1, h2⟩ := h; exact ⟨e0, RepT.keep hS hw _ _ _ h1, h2⟩
  | dead => exact h
  | opn T e f xs i cs =>
    obtain ⟨hz, h0, hi, hl, u, pre, post, B1, B2, hr, hp, hu, r1, hc, r2, rfl⟩ := h
    refine ⟨hz, h0, hi, hl, u, pre, post, B1, B2, rowF_of_block hr fun k hk => (hB k (by simp [hk])).1, hp, hu, ?_, RepCs.keep hS hw hσ hc, ?_, rfl⟩
    · exact RowsB.imp (fun x us B h' => RepF.keep hS hw _ _ _ _ _ fun k hk => (hB k (by simp [h' k hk])).1) r1
    · exact RowsB.imp (fun x us B h' => RepF.keep hS hw _ _ _ _ _ fun k hk => (hB k (by simp [h' k hk])).1) r2

variable {E : En} {G G' : Gh} {s s' : St} {a : Act}
/-- A step: what turns is told, all else stays. -/
theorem Sim.change (h : Sim E G s a w) (htm : s'.tmps = s.tmps) (hn : s'.n = s.n) (hσ : SgLe G.σ G'.σ) (hS : ∀ b, G.S b → G'.S b) (hw : Holds G.S w w') (hkept : KeptM E.W w' E.M)
    (hmem : ∀ i b, s'.mem i = some b → (s.mem i = some b ∧ G'.β i = G.β i ∧ ∀ k ∈ G.β i, w'.heap[k]? = w.heap[k]?) ∨ (∃ L, G'.σ i = some L ∧ RepB G'.S G'.σ w' L b (G'.β i)))
    (hdom : ∀ i, s'.mem i = none → s.mem i = none ∧ G'.σ i = G.σ i ∧ G'.β i = G.β i)
    (hap : ∀ i j, i ≠ j → ∀ k ∈ G'.β i, k ∉ G'.β j) (hnd : ∀ i, (G'.β i).Nodup) (hoff : ∀ i, ∀ k ∈ G'.β i, ¬ G'.S k ∧ k < w'.heap.size)
    (hnew : ∀ b, G'.S b → G.S b ∨ (b < w'.heap.size ∧ (E.W.heap.size ≤ b ∨ E.O b)))
    (hmine : ∀ i, ∀ k ∈ G'.β i, E.W.heap.size ≤ k ∨ E.O k ∨ (i % 128 = 127 ∧ ∃ cs L o, s'.mem i = some (.box cs) ∧ G'.σ i = some L ∧ L.v = .pointer (some ⟨k, o, none⟩) ∧ ∀ j, j < widthC cs → E.M k (o + j)))
    (hpar : ∀ i L, 64 ≤ i % 128 → G'.σ i = some L → G.σ i = some L ∨ L.v = E.par i) (hsz : w.heap.size ≤ w'.heap.size) : Sim E G' s' a w' where
  defers := h.defers
  size := by rw [hn]; exact h.size
  tmp t := by rw [htm]; exact RepS.keep hS hw hσ (h.tmp t)
  mem i b hb := by
    rcases hmem i b hb with ⟨h1, h2, h3⟩ | h1
    · obtain ⟨L, hL, hB⟩ := h.mem i b h1
      refine ⟨L, hσ _ _ hL, ?_⟩
      rw [h2]
      exact RepB.keep hS hw hσ (fun k hk => ⟨h3 k hk, (hoff i k (by rw [h2]; exact hk)).1⟩) hB
    · exact h1
  dom i hi := by
    obtain ⟨h1, h2, h3⟩ := hdom i hi
    obtain ⟨h4, h5⟩ := h.dom i h1
    exact ⟨h2.trans h4, h3.trans h5⟩
  apart := hap
  nodup := hnd
  off := hoff
  old b hb := (hnew b hb).elim (fun x => Nat.lt_of_lt_of_le (h.old b x) hsz) (fun x => x.1)
  inv := E.I.keep hS hw h.inv
  kept := hkept
  sub b hb := hS b (h.sub b hb)
  new b hb := (hnew b hb).elim (h.new b) (fun x => .inr x.2)
  mine := hmine
  sep b o hM := (h.sep b o hM).elim .inl fun ⟨h1, h2⟩ => by
    by_cases hO : E.O b
    · exact .inl hO
    · exact .inr ⟨fun hb => (hnew b hb).elim h1 fun x => x.2.elim (fun y => by omega) hO, h2⟩
  all := h.all
  par i L hi hL := (hpar i L hi hL).elim (h.par i L hi) id
  parp := h.parp

theorem beq_self (t : Nat) : Nat.beq t t = true := Nat.beq_refl t
theorem beq_ne {i id : Nat} (h : i ≠ id) : Nat.beq i id = false := by cases hb : Nat.beq i id; rfl; exact absurd (Nat.eq_of_beq_eq_true hb) h
theorem setM_same (s : St) (id : Nat) (b : Option Blk) : (s.setM id b).mem id = b := by simp [St.setM]
theorem setM_other (s : St) {id i : Nat} (b : Option Blk) (h : i ≠ id) : (s.setM id b).mem i = s.mem i := by simp [St.setM, beq_ne h]
theorem upd_set_same (s : St) (id : Nat) (b : Blk) : (s.upd (.set id b)).mem id = some b := setM_same _ _ _
theorem upd_set_other (s : St) {id i : Nat} (b : Blk) (h : i ≠ id) : (s.upd (.set id b)).mem i = s.mem i := setM_other _ _ h
theorem upd_frz_same (s : St) (id : Nat) : (s.upd (.frz id)).mem id = (s.mem id).map Blk.frz := setM_same _ _ _
theorem upd_frz_other (s : St) {id i : Nat} (h : i ≠ id) : (s.upd (.frz id)).mem i = s.mem i := setM_other _ _ h
theorem upd_tmps (s : St) (u : Upd) : (s.upd u).tmps = s.tmps := by cases u <;> rfl
theorem upd_n (s : St) (u : Upd) : (s.upd u).n = s.n := by cases u <;> rfl
theorem upds_tmps : ∀ (us : List Upd) (s : St), (s.upds us).tmps = s.tmps
  | [], _ => rfl
  | u :: us, s => (upds_tmps us _).trans (upd_tmps s u)
theorem upds_n : ∀ (us : List Upd) (s : St), (s.upds us).n = s.n
  | [], _ => rfl
  | u :: us, s => (upds_n us _).trans (upd_n s u)
theorem upds_append : ∀ (us vs : List Upd) (s : St), s.upds (us ++ vs) = (s.upds us).upds vs
  | [], _, _ => rfl
  | u :: us, vs, s => upds_append us vs _

/-! ### Slots -/
theorem getD_put {a : Act} {d t : Nat} {v : Value} (hd : d < a.tmps.size) : (a.put (some d) v).tmps.getD t undef = if t = d then v else a.tmps.getD t undef := by
  simp only [Act.put, Array.getD_eq_getD_getElem?, Array.getElem?_setIfInBounds]
  by_cases h : t = d
  · subst h; simp [hd]
  · rw [if_neg (fun e => h e.symm), if_neg h]
theorem Sim.put (h : Sim E G s a w) {d : Nat} (hd : d < s.n) {x : SV} {v : Value} (hx : RepS G.S G.σ w x v) : Sim E G (s.put d x) (a.put (some d) v) w :=
  { h with
    size := by simp only [Act.put, Array.size_setIfInBounds]; exact h.size
    tmp := fun t => by
      rw [getD_put (by rw [h.size]; exact hd)]
      simp only [St.put]
      by_cases e : t = d
      · subst e; simp [hx]
      · rw [if_neg e, beq_ne e]; exact h.tmp t
    defers := h.defers }
/-- A slot's value is known better: nothing else turns. -/
theorem Sim.put' (h : Sim E G s a w) {d : Nat} {x : SV} (hx : RepS G.S G.σ w x (a.tmps.getD d undef)) : Sim E G (s.put d x) a w :=
  { h with
    tmp := fun t => by
      simp only [St.put]
      by_cases e : t = d
      · subst e; rw [beq_self]; exact hx
      · rw [beq_ne e]; exact h.tmp t }

/-! ### Freezing -/
theorem Sim.frz (h : Sim E G s a w) (id : Nat) (hid : id % 128 ≠ 127) : ∃ S', (∀ b, G.S b → S' b) ∧ (∀ k ∈ G.β id, S' k) ∧ (∀ b, S' b → G.S b ∨ b ∈ G.β id) ∧ Sim E ⟨S', G.σ, fun i => if i = id then [] else G.β i⟩ (s.upd (.frz id)) a w := by
  refine ⟨fun b => G.S b ∨ b ∈ G.β id, fun _ => .inl, fun _ => .inr, fun _ x => x, ?_⟩
  have hnb : ∀ {cs}, ∀ k ∈ G.β id, ¬ (id % 128 = 127 ∧ cs) := fun _ _ x => hid x.1
  refine h.change (upd_tmps _ _) (upd_n _ _) (SgLe.refl _) (fun _ => .inl) (fun _ _ => rfl) h.kept (fun i b hb => ?_) (fun i hi => ?_) (fun i j hij k hk => ?_) (fun i => ?_) (fun i k hk => ?_) (fun b hb => ?_) (fun i k hk => ?_) (fun i L _ hL => .inl hL) (Nat.le_refl _)
  · by_cases hi : i = id
    · subst hi
      rw [upd_frz_same] at hb
      cases hm : s.mem i with
      | none => rw [hm] at hb; simp at hb
      | some b0 =>
        rw [hm] at hb
        simp only [Option.map_some, Option.some.injEq] at hb
        subst hb
        obtain ⟨L, hL, hB⟩ := h.mem i b0 hm
        refine .inr ⟨L, hL, ?_⟩
        simp only [if_true]
        cases b0 with
        | box cs => obtain ⟨b, o, vs, e, k, r, t, hb⟩ := hB; exact ⟨rfl, b, o, vs, e, .inr (by rw [hb]; simp), RepCs.keep (fun _ => .inl) (fun _ _ => rfl) (SgLe.refl _) k, r⟩
        | rows T e f xs => exact ⟨rfl, RepF.data (fun _ => .inl) _ _ _ _ _ (fun k hk => .inr hk) hB.1, hB.2, hB.1.1, by obtain ⟨_, v, vs, B1, e1, _, ho, _⟩ := hB.1; simp only [List.cons.injEq, and_true] at e1; rw [e1]; exact At0.ofF ho⟩
        | fbox cs => obtain ⟨_, b, o, vs, e1, hs, hc, hr⟩ := hB; exact ⟨rfl, b, o, vs, e1, .inl hs, RepCs.keep (fun _ => .inl) (fun _ _ => rfl) (SgLe.refl _) hc, hr⟩
        | frows e xs => obtain ⟨_, h1, h2⟩ := hB; exact ⟨rfl, RepT.keep (fun _ => .inl) (fun _ _ => rfl) _ _ _ h1, h2⟩
        | dead => rfl
        | opn T e f xs i cs => rfl
    · rw [upd_frz_other _ hi] at hb
      exact .inl ⟨hb, by simp [hi], fun _ _ => rfl⟩
  · by_cases hi' : i = id
    · subst hi'
      rw [upd_frz_same] at hi
      have hm : s.mem i = none := by simpa using hi
      exact ⟨hm, rfl, by simp [(h.dom i hm).2]⟩
    · rw [upd_frz_other _ hi'] at hi
      exact ⟨hi, rfl, by simp [hi']⟩
  · by_cases hi : i = id
    · simp [hi] at hk
    · simp only [if_neg hi] at hk
      by_cases hj : j = id
      · simp [hj]
      · simp only [if_neg hj]; exact h.apart i j hij k hk
  · by_cases hi : i = id
    · simp [hi]
    · simp only [if_neg hi]; exact h.nodup i
  · by_cases hi : i = id
    · simp [hi] at hk
    · simp only [if_neg hi] at hk
      have := h.off i k hk
      exact ⟨fun hs => hs.elim this.1 fun hk' => h.apart i id hi k hk hk', this.2⟩
  · refine hb.imp (fun x => x) fun x => ⟨(h.off id b x).2, ?_⟩
    rcases h.mine id b x with h1 | h1 | h1
    · exact .inl h1
    · exact .inr h1
    · exact absurd h1.1 hid
  · by_cases hi : i = id
    · simp [hi] at hk
    · simp only [if_neg hi] at hk
      refine (h.mine i k hk).imp (fun x => x) fun x => x.imp (fun x => x) fun ⟨h1, cs, L, o, h2, h3⟩ => ⟨h1, cs, L, o, ?_, h3⟩
      rw [upd_frz_other _ hi]; exact h2

theorem Sim.frzs : ∀ (l : List Nat) {G : Gh} {s : St}, Sim E G s a w → (∀ i ∈ l, i % 128 ≠ 127) → ∃ G', G'.σ = G.σ ∧ (∀ b, G.S b → G'.S b) ∧ (∀ i ∈ l, ∀ k ∈ G.β i, G'.S k) ∧ (∀ b, G'.S b → G.S b ∨ ∃ i ∈ l, b ∈ G.β i) ∧ (∀ i, i ∉ l → G'.β i = G.β i) ∧ Sim E G' (s.upds (l.map .frz)) a w
  | [], G, s, h, _ => ⟨G, rfl, fun _ x => x, by simp, fun _ => .inl, fun _ _ => rfl, h⟩
  | id :: l, G, s, h, hl => by
    obtain ⟨S', h1, h2, h3, h4⟩ := h.frz id (hl id (by simp))
    obtain ⟨G', g1, g2, g3, g4, g5, g6⟩ := Sim.frzs l h4 fun i hi => hl i (by simp [hi])
    refine ⟨G', g1, fun b hb => g2 b (h1 b hb), fun i hi k hk => ?_, fun b hb => ?_, fun i hi => ?_, g6⟩
    · by_cases e : i = id
      · subst e; exact g2 k (h2 k hk)
      · exact g3 i ((List.mem_cons.1 hi).resolve_left e) k (by simp [e, hk])
    · rcases g4 b hb with x | ⟨i, hi, hk⟩
      · exact (h3 b x).imp (fun x => x) fun x => ⟨id, by simp, x⟩
      · by_cases e : i = id
        · simp [e] at hk
        · simp only [if_neg e] at hk; exact .inr ⟨i, by simp [hi], hk⟩
    · have e : i ≠ id := fun e => hi (by simp [e])
      rw [g5 i fun x => hi (by simp [x])]; simp [e]
end Go.Ps
