/- What the interpreter's states say of the model's: cells and data. -/
import Derived.Test.YtjebgmofebmgaaaGreatPsB
import Derived.Deep.MidRow
import Derived.Laws.AppendOwn
import Derived.Below
namespace Go.Ps
set_option linter.unusedVariables false

def RepRows {α : Type} (R : α → List Value → Prop) : List α → List Value → Prop
  | [], vs => vs = []
  | x :: xs, vs => ∃ u v, vs = u ++ v ∧ R x u ∧ RepRows R xs v

theorem RepRows.imp {α : Type} {R R' : α → List Value → Prop} (h : ∀ x vs, R x vs → R' x vs) : ∀ (xs : List α) (vs : List Value), RepRows R xs vs → RepRows R' xs vs
  | [], _, e => e
  | _ :: xs, _, ⟨u, v, e, a, b⟩ => ⟨u, v, e, h _ _ a, RepRows.imp h xs _ b⟩

theorem RepRows.append {α : Type} {R : α → List Value → Prop} : ∀ {xs ys : List α} {us vs : List Value}, RepRows R xs us → RepRows R ys vs → RepRows R (xs ++ ys) (us ++ vs)
  | [], _, _, _, e, h => by cases e; exact h
  | _ :: _, _, _, _, ⟨u, v, e, a, b⟩, h => ⟨u, v ++ _, by rw [e, List.append_assoc], a, RepRows.append b h⟩

theorem RepRows.length {α : Type} {R : α → List Value → Prop} {n : Nat} (hR : ∀ x vs, R x vs → vs.length = n) : ∀ {xs : List α} {vs : List Value}, RepRows R xs vs → vs.length = xs.length * n
  | [], _, e => by cases e; simp
  | _ :: xs, _, ⟨u, v, e, a, b⟩ => by rw [e, List.length_append, hR _ _ a, RepRows.length hR b, List.length_cons, Nat.add_mul]; omega

theorem RepRows.get {α : Type} {R : α → List Value → Prop} {n : Nat} (hR : ∀ x vs, R x vs → vs.length = n) : ∀ {xs : List α} {vs : List Value}, RepRows R xs vs → ∀ i (h : i < xs.length), R xs[i] ((vs.drop (i * n)).take n)
  | [], _, e, i, h => by simp at h
  | x :: xs, _, ⟨u, v, e, a, b⟩, 0, h => by
    have := hR _ _ a
    rw [e]; simp only [Nat.zero_mul, List.drop_zero, List.getElem_cons_zero]
    rw [List.take_append_of_le_length (by omega), List.take_of_length_le (by omega)]; exact a
  | x :: xs, _, ⟨u, v, e, a, b⟩, i + 1, h => by
    have hu := hR _ _ a
    have := RepRows.get hR b i (by simpa using h)
    rw [e]; simp only [List.getElem_cons_succ]
    rw [Nat.add_mul, Nat.one_mul, List.drop_append, List.drop_eq_nil_of_le (by omega), List.nil_append, show i * n + n - u.length = i * n by omega]
    exact this

theorem RepRows.take {α : Type} {R : α → List Value → Prop} {n : Nat} (hR : ∀ x vs, R x vs → vs.length = n) : ∀ {xs : List α} {vs : List Value}, RepRows R xs vs → ∀ i, RepRows R (xs.take i) (vs.take (i * n))
  | [], _, e, i => by cases e; simp [RepRows]
  | x :: xs, _, ⟨u, v, e, a, b⟩, 0 => by simp [RepRows]
  | x :: xs, _, ⟨u, v, e, a, b⟩, i + 1 => by
    have hu := hR _ _ a
    refine ⟨u, v.take (i * n), ?_, a, RepRows.take hR b i⟩
    rw [e, List.take_append, List.take_of_length_le (by rw [Nat.add_mul]; omega), Nat.add_mul, show i * n + 1 * n - u.length = i * n by omega]

theorem RepRows.drop {α : Type} {R : α → List Value → Prop} {n : Nat} (hR : ∀ x vs, R x vs → vs.length = n) : ∀ {xs : List α} {vs : List Value}, RepRows R xs vs → ∀ i, RepRows R (xs.drop i) (vs.drop (i * n))
  | [], _, e, i => by cases e; simp [RepRows]
  | x :: xs, _, ⟨u, v, e, a, b⟩, 0 => by simpa using ⟨u, v, e, a, b⟩
  | x :: xs, _, ⟨u, v, e, a, b⟩, i + 1 => by
    have hu := hR _ _ a
    have := RepRows.drop hR b i
    rw [e, Nat.add_mul, List.drop_append, List.drop_eq_nil_of_le (as := u) (by omega), List.nil_append, show i * n + 1 * n - u.length = i * n by omega]
    exact this

theorem RepRows.set {α : Type} {R : α → List Value → Prop} {n : Nat} (hR : ∀ x vs, R x vs → vs.length = n) : ∀ {xs : List α} {vs : List Value}, RepRows R xs vs → ∀ i y us, i < xs.length → R y us → RepRows R (xs.set i y) (vs.take (i * n) ++ (us ++ vs.drop (i * n + n)))
  | [], _, e, i, _, _, h, _ => by simp at h
  | x :: xs, _, ⟨u, v, e, a, b⟩, 0, y, us, h, hy => by
    have hu := hR _ _ a
    refine ⟨us, v, ?_, hy, b⟩
    rw [e]; simp [← hu]
  | x :: xs, _, ⟨u, v, e, a, b⟩, i + 1, y, us, h, hy => by
    have hu := hR _ _ a
    refine ⟨u, _, ?_, a, RepRows.set hR b i y us (by simpa using h) hy⟩
    rw [e, Nat.add_mul, Nat.one_mul, List.take_append, List.take_of_length_le (by omega), List.drop_append, List.drop_eq_nil_of_le (as := u) (by omega), List.nil_append, show i * n + n - u.length = i * n by omega, show i * n + n + n - u.length = i * n + n by omega, List.append_assoc]


/-- Data in blocks that nobody writes. -/
def RepT (S : Nat → Prop) (w : World) : (τ : Ty) → τ.den → List Value → Prop
  | .unit, _, vs => vs = []
  | .bool, b, vs => vs = [.bool b]
  | .str, s, vs => vs = [.string s]
  | .int k, n, vs => vs = [.int k n]
  | .list e, xs, vs => ∃ p cap, vs = [.slice p xs.length cap] ∧ xs.length ≤ cap ∧ ((xs = [] ∧ (p = none → cap = 0)) ∨ ∃ b o us, p = some ⟨b, o, none⟩ ∧ S b ∧ w.rangeAt b o us ∧ RepRows (RepT S w e) xs us)
  | .arr e n, xs, vs => xs.length = n ∧ RepRows (RepT S w e) xs vs
  | .pair a b, x, vs => ∃ u v, vs = u ++ v ∧ RepT S w a x.1 u ∧ RepT S w b x.2 v
  | .opt e, x, vs => (x = none ∧ vs = [.pointer none]) ∨ ∃ y b o us, x = some y ∧ vs = [.pointer (some ⟨b, o, none⟩)] ∧ S b ∧ w.rangeAt b o us ∧ RepT S w e y us

theorem RepT.length {S : Nat → Prop} {w : World} : ∀ (τ : Ty) (x : τ.den) (vs : List Value), RepT S w τ x vs → vs.length = τ.size
  | .unit, _, _, h => by cases h; rfl
  | .bool, _, _, h => by cases h; rfl
  | .str, _, _, h => by cases h; rfl
  | .int _, _, _, h => by cases h; rfl
  | .list e, _, _, ⟨_, _, h, _⟩ => by rw [h]; rfl
  | .arr e n, _, _, ⟨h, k⟩ => by rw [RepRows.length (RepT.length e) k, h]; rfl
  | .pair a b, _, _, ⟨u, v, e, h, k⟩ => by rw [e, List.length_append, RepT.length a _ _ h, RepT.length b _ _ k]; rfl
  | .opt e, _, _, h => by
    rcases h with ⟨_, h⟩ | ⟨_, _, _, _, _, h, _⟩ <;> rw [h] <;> rfl

/-- The blocks of S are as they were. -/
def Holds (S : Nat → Prop) (w w' : World) : Prop := ∀ b, S b → w'.heap[b]? = w.heap[b]?

theorem rangeAt_of_block {w w' : World} {b o : Nat} {us : List Value} (h : w.rangeAt b o us) (e : w'.heap[b]? = w.heap[b]?) : w'.rangeAt b o us :=
  fun j v hv => (World.cell?_of_block (a := ⟨b, o + j, none⟩) e).trans (h j v hv)
theorem there_of_block {w w' : World} {b o n : Nat} (h : w.there b o n) (e : w'.heap[b]? = w.heap[b]?) : w'.there b o n :=
  fun j hj => ⟨by rw [World.cell?_of_block (a := ⟨b, o + j, none⟩) e]; exact (h j hj).1, by rw [World.frozen?_of_block (a := ⟨b, o + j, none⟩) e]; exact (h j hj).2⟩

theorem RepT.keep {S S' : Nat → Prop} {w w' : World} (hS : ∀ b, S b → S' b) (hw : Holds S w w') : ∀ (τ : Ty) (x : τ.den) (vs : List Value), RepT S w τ x vs → RepT S' w' τ x vs
  | .unit, _, _, h => h
  | .bool, _, _, h => h
  | .str, _, _, h => h
  | .int _, _, _, h => h
  | .list e, _, _, ⟨p, c, h, hc, k⟩ => ⟨p, c, h, hc, k.imp id fun ⟨b, o, us, hp, hb, hr, hk⟩ => ⟨b, o, us, hp, hS b hb, rangeAt_of_block hr (hw b hb), RepRows.imp (RepT.keep hS hw e) _ _ hk⟩⟩
  | .arr e n, _, _, ⟨h, k⟩ => ⟨h, RepRows.imp (RepT.keep hS hw e) _ _ k⟩
  | .pair a b, _, _, ⟨u, v, e, h, k⟩ => ⟨u, v, e, RepT.keep hS hw a _ _ h, RepT.keep hS hw b _ _ k⟩
  | .opt e, _, _, h => h.imp id fun ⟨y, b, o, us, hx, hv, hb, hr, hk⟩ => ⟨y, b, o, us, hx, hv, hS b hb, rangeAt_of_block hr (hw b hb), RepT.keep hS hw e _ _ hk⟩

/-- Data without pointers speaks of no block. -/
theorem RepT.free {S S' : Nat → Prop} {w w' : World} : ∀ (τ : Ty) (hτ : τ.lists = false) (x : τ.den) (vs : List Value), RepT S w τ x vs → RepT S' w' τ x vs
  | .unit, _, _, _, h => h
  | .bool, _, _, _, h => h
  | .str, _, _, _, h => h
  | .int _, _, _, _, h => h
  | .list e, h, _, _, _ => by simp [Ty.lists] at h
  | .opt e, h, _, _, _ => by simp [Ty.lists] at h
  | .arr e n, hl, _, _, ⟨h, k⟩ => ⟨h, RepRows.imp (RepT.free e hl) _ _ k⟩
  | .pair a b, hl, _, _, ⟨u, v, e, h, k⟩ => by
    simp only [Ty.lists, Bool.or_eq_false_iff] at hl
    exact ⟨u, v, e, RepT.free a hl.1 _ _ h, RepT.free b hl.2 _ _ k⟩

/-- Where a block of the call's own lies: the value that points at it; the size of its elements. -/
structure Loc where
  v : Value
  z : Nat
abbrev Sg := Nat → Option Loc
def SgLe (σ σ' : Sg) : Prop := ∀ i L, σ i = some L → σ' i = some L
theorem SgLe.refl (σ : Sg) : SgLe σ σ := fun _ _ h => h

def blockOf : Value → Option Nat
  | .slice (some a) _ _ => some a.block
  | .pointer (some a) => some a.block
  | _ => none

def Sub.off : Sub → Nat
  | .at o => o
  | .arr o e m j q => o + j.toNat * e.size + q
def Sub.ok : Sub → Prop
  | .at _ => True
  | .arr _ _ m j _ => 0 ≤ j ∧ j < (m : Int)

def RepCap (S : Nat → Prop) (σ : Sg) (w : World) : Cap → Value → Prop
  | .dat τ x, v => RepT S w τ x [v]
  | .agg τ x, v => ∃ us : List Value, v = .agg us.toArray ∧ RepT S w τ x us
  | .cref τ x, v => ∃ b o us, S b ∧ w.rangeAt b o us ∧ RepT S w τ x us ∧ v = .pointer (some ⟨b, o, none⟩)
  | .ref id, v => ∃ L b o, σ id = some L ∧ L.v = .pointer (some ⟨b, o, none⟩) ∧ v = L.v
def RepCaps (S : Nat → Prop) (σ : Sg) (w : World) : List Cap → List Value → Prop
  | [], vs => vs = []
  | c :: cs, vs => ∃ v us, vs = v :: us ∧ RepCap S σ w c v ∧ RepCaps S σ w cs us

/-- Cells. -/
def RepC (S : Nat → Prop) (σ : Sg) (w : World) : PV → List Value → Prop
  | .undef, vs => ∃ v, vs = [v] ∧ v.oneCell' = true
  | .bool b, vs => vs = [.bool b]
  | .int k n, vs => vs = [.int k n]
  | .str s, vs => vs = [.string s]
  | .nils, vs => vs = [.slice none 0 0]
  | .nilp, vs => vs = [.pointer none]
  | .list e xs, vs => RepT S w (.list e) xs vs
  | .seg e n xs, vs => RepT S w (.arr e n) xs vs
  | .own id, vs => ∃ L p n c, σ id = some L ∧ L.v = .slice p n c ∧ vs = [L.v]
  | .ptr id q, vs => ∃ L b o, σ id = some L ∧ L.v = .pointer (some ⟨b, o, none⟩) ∧ q.ok ∧ vs = [.pointer (some ⟨b, o + q.off, none⟩)]
  | .elt id i q, vs => ∃ L b n c, σ id = some L ∧ L.v = .slice (some ⟨b, 0, none⟩) n c ∧ 0 ≤ i ∧ i < (n : Int) ∧ q.ok ∧ vs = [.pointer (some ⟨b, i.toNat * L.z + q.off, none⟩)]
  | .cptr τ x off, vs => ∃ b o us, S b ∧ w.rangeAt b o us ∧ RepT S w τ x us ∧ vs = [.pointer (some ⟨b, o + off, none⟩)]
  | .fn f caps, vs => ∃ us : List Value, vs = [.func (.func f) #[] us.toArray] ∧ RepCaps S σ w caps us
  | .dopt e x, vs => RepT S w (.opt e) x vs
  | .cell id, vs => ∃ L b o q p, σ id = some L ∧ L.v = .pointer (some ⟨b, o, none⟩) ∧ S q ∧ w.rangeAt q p [L.v] ∧ vs = [.pointer (some ⟨q, p, none⟩)]
  | .view id l h, vs => ∃ L p n c, σ id = some L ∧ L.v = .slice p n c ∧ (0 ≤ l ∧ l ≤ h ∧ h ≤ (n : Int)) ∧ vs = [.slice (if c = l.toNat then p else p.map (·.add (l.toNat * L.z))) (h.toNat - l.toNat) (c - l.toNat)]

variable {S S' : Nat → Prop} {σ σ' : Sg} {w w' : World}

theorem RepC.length : ∀ {p : PV} {vs : List Value}, RepC S σ w p vs → vs.length = p.width := by
  intro p vs h
  cases p <;> simp only [RepC, PV.width] at h ⊢
  case undef => obtain ⟨v, rfl, _⟩ := h; rfl
  case list => exact RepT.length _ _ _ h
  case seg => exact RepT.length _ _ _ h
  case own => obtain ⟨_, _, _, _, _, _, rfl⟩ := h; rfl
  case ptr => obtain ⟨_, _, _, _, _, _, rfl⟩ := h; rfl
  case elt => obtain ⟨_, _, _, _, _, _, _, _, _, rfl⟩ := h; rfl
  case cptr => obtain ⟨_, _, _, _, _, _, rfl⟩ := h; rfl
  case fn => obtain ⟨_, rfl, _⟩ := h; rfl
  case dopt => exact RepT.length _ _ _ h
  case cell => obtain ⟨_, _, _, _, _, _, _, _, _, rfl⟩ := h; rfl
  case view => obtain ⟨_, _, _, _, _, _, _, rfl⟩ := h; rfl
  all_goals (rw [h]; rfl)

theorem RepCap.keep (hS : ∀ b, S b → S' b) (hw : Holds S w w') (hσ : SgLe σ σ') {c : Cap} {v : Value} (h : RepCap S σ w c v) : RepCap S' σ' w' c v := by
  cases c with
  | dat => exact RepT.keep hS hw _ _ _ h
  | agg => obtain ⟨us, e, k⟩ := h; exact ⟨us, e, RepT.keep hS hw _ _ _ k⟩
  | cref => obtain ⟨b, o, us, hb, hr, ht, e⟩ := h; exact ⟨b, o, us, hS b hb, rangeAt_of_block hr (hw b hb), RepT.keep hS hw _ _ _ ht, e⟩
  | ref => obtain ⟨L, b, o, hL, e, e'⟩ := h; exact ⟨L, b, o, hσ _ _ hL, e, e'⟩
theorem RepCaps.keep (hS : ∀ b, S b → S' b) (hw : Holds S w w') (hσ : SgLe σ σ') : ∀ {cs : List Cap} {vs : List Value}, RepCaps S σ w cs vs → RepCaps S' σ' w' cs vs
  | [], _, h => h
  | _ :: _, _, ⟨v, us, e, h, k⟩ => ⟨v, us, e, RepCap.keep hS hw hσ h, RepCaps.keep hS hw hσ k⟩

theorem RepC.keep (hS : ∀ b, S b → S' b) (hw : Holds S w w') (hσ : SgLe σ σ') {p : PV} {vs : List Value} (h : RepC S σ w p vs) : RepC S' σ' w' p vs := by
  cases p <;> simp only [RepC] at h ⊢
  case list => exact RepT.keep hS hw _ _ _ h
  case seg => exact RepT.keep hS hw _ _ _ h
  case own => obtain ⟨L, p, n, c, hL, e⟩ := h; exact ⟨L, p, n, c, hσ _ _ hL, e⟩
  case ptr => obtain ⟨L, b, o, hL, e⟩ := h; exact ⟨L, b, o, hσ _ _ hL, e⟩
  case elt => obtain ⟨L, b, n, c, hL, e⟩ := h; exact ⟨L, b, n, c, hσ _ _ hL, e⟩
  case cptr => obtain ⟨b, o, us, hb, hr, ht, rfl⟩ := h; exact ⟨b, o, us, hS b hb, rangeAt_of_block hr (hw b hb), RepT.keep hS hw _ _ _ ht, rfl⟩
  case fn => obtain ⟨us, e, h⟩ := h; exact ⟨us, e, RepCaps.keep hS hw hσ h⟩
  case dopt => exact RepT.keep hS hw _ _ _ h
  case cell => obtain ⟨L, b, o, q, p, hL, e, hq, hr, e'⟩ := h; exact ⟨L, b, o, q, p, hσ _ _ hL, e, hS q hq, rangeAt_of_block hr (hw q hq), e'⟩
  case view => obtain ⟨L, p, n, c, hL, e⟩ := h; exact ⟨L, p, n, c, hσ _ _ hL, e⟩
  all_goals exact h

abbrev RepCs (S : Nat → Prop) (σ : Sg) (w : World) (cs : List PV) (vs : List Value) : Prop := RepRows (RepC S σ w) cs vs

theorem RepCs.keep (hS : ∀ b, S b → S' b) (hw : Holds S w w') (hσ : SgLe σ σ') : ∀ {cs : List PV} {vs : List Value}, RepCs S σ w cs vs → RepCs S' σ' w' cs vs
  | [], _, h => h
  | p :: cs, _, ⟨u, v, e, a, b⟩ => ⟨u, v, e, RepC.keep hS hw hσ a, RepCs.keep hS hw hσ b⟩

theorem RepCs.length : ∀ {cs : List PV} {vs : List Value}, RepCs S σ w cs vs → vs.length = widthC cs
  | [], _, h => by cases h; rfl
  | p :: cs, _, ⟨u, v, e, a, b⟩ => by rw [e, List.length_append, RepC.length a, RepCs.length b]; rfl

theorem RepCs.one {p : PV} {vs : List Value} (h : RepC S σ w p vs) : RepCs S σ w [p] vs := ⟨vs, [], by simp, h, rfl⟩
theorem RepCs.of_one {p : PV} {vs : List Value} (h : RepCs S σ w [p] vs) : RepC S σ w p vs := by
  obtain ⟨u, v, rfl, h, k⟩ := h
  cases k
  simpa using h

theorem RepCs.drop : ∀ {cs cs' : List PV} {vs : List Value} {n : Nat}, RepCs S σ w cs vs → dropC cs n = some cs' → RepCs S σ w cs' (vs.drop n)
  | cs, cs', vs, 0, h, e => by simp only [dropC, Option.some.injEq] at e; subst e; simpa using h
  | [], cs', vs, n + 1, h, e => by simp [dropC] at e
  | p :: cs, cs', _, n + 1, ⟨u, v, rfl, a, b⟩, e => by
    have hu := RepC.length a
    simp only [dropC] at e
    cases hle : Nat.ble p.width (n + 1) with
    | false => rw [hle] at e; simp at e
    | true =>
      rw [hle] at e
      have hle' := Nat.le_of_ble_eq_true hle
      have := RepCs.drop b e
      rw [List.drop_append, List.drop_eq_nil_of_le (as := u) (by omega), List.nil_append, hu]
      exact this

theorem RepCs.take : ∀ {cs cs' : List PV} {vs : List Value} {n : Nat}, RepCs S σ w cs vs → takeC cs n = some cs' → RepCs S σ w cs' (vs.take n) ∧ widthC cs' = n
  | cs, cs', vs, 0, h, e => by simp only [takeC, Option.some.injEq] at e; subst e; simp [RepRows, widthC]
  | [], cs', vs, n + 1, h, e => by simp [takeC] at e
  | p :: cs, cs', _, n + 1, ⟨u, v, rfl, a, b⟩, e => by
    have hu := RepC.length a
    simp only [takeC] at e
    cases hle : Nat.ble p.width (n + 1) with
    | false => rw [hle] at e; simp at e
    | true =>
      rw [hle] at e
      have hle' := Nat.le_of_ble_eq_true hle
      simp only [cond_true] at e
      cases ht : takeC cs (n + 1 - p.width) with
      | none => rw [ht] at e; simp at e
      | some t =>
        rw [ht] at e
        simp only [Option.some.injEq] at e
        subst e
        have := RepCs.take b ht
        refine ⟨⟨u, v.take (n + 1 - p.width), ?_, a, this.1⟩, ?_⟩
        · rw [List.take_append, List.take_of_length_le (by omega), hu]
        · simp only [widthC, this.2]; omega

theorem RepCs.cut {cs cs' : List PV} {vs : List Value} {off n : Nat} (h : RepCs S σ w cs vs) (e : cutC cs off n = some cs') : RepCs S σ w cs' ((vs.drop off).take n) ∧ widthC cs' = n ∧ off + n ≤ vs.length := by
  unfold cutC at e
  cases hd : dropC cs off with
  | none => rw [hd] at e; simp at e
  | some t =>
    rw [hd] at e
    have h1 := RepCs.drop h hd
    have h2 := RepCs.take h1 e
    refine ⟨h2.1, h2.2, ?_⟩
    have l1 := RepCs.length h2.1
    rw [h2.2, List.length_take, List.length_drop] at l1
    by_cases hn : n = 0
    · subst hn
      have l2 := RepCs.length h1
      rw [List.length_drop] at l2
      have : ∀ (cs t : List PV) (k : Nat), dropC cs k = some t → k ≤ widthC cs := by
        intro cs
        induction cs with
        | nil => intro t k hk; cases k with
          | zero => exact Nat.le_refl _
          | succ k => simp [dropC] at hk
        | cons p cs ih => intro t k hk; cases k with
          | zero => exact Nat.zero_le _
          | succ k =>
            simp only [dropC] at hk
            cases hle : Nat.ble p.width (k + 1) with
            | false => rw [hle] at hk; simp at hk
            | true => rw [hle] at hk; have := ih _ _ hk; simp only [widthC]; have := Nat.le_of_ble_eq_true hle; omega
      have := this _ _ _ hd
      have := RepCs.length h
      omega
    · omega

theorem RepCs.put {cs cs' new : List PV} {vs us : List Value} {off n : Nat} (h : RepCs S σ w cs vs) (e : putC cs off n new = some cs') (hn : RepCs S σ w new us) (hl : us.length = n) :
    RepCs S σ w cs' (vs.take off ++ (us ++ vs.drop (off + n))) := by
  unfold putC at e
  cases ht : takeC cs off with
  | none => rw [ht] at e; simp at e
  | some a =>
    cases hd : dropC cs (off + n) with
    | none => rw [ht, hd] at e; simp at e
    | some b =>
      rw [ht, hd] at e
      simp only [Option.some.injEq] at e
      subst e
      exact RepRows.append (RepCs.take h ht).1 (RepRows.append hn (RepCs.drop h hd))

theorem inj_rep : ∀ (τ : Ty) (x : τ.den) (vs : List Value), RepT S w τ x vs → RepCs S σ w (inj τ x) vs
  | .unit, _, _, h => h
  | .bool, b, _, h => ⟨_, [], by simp, h, rfl⟩
  | .str, _, _, h => ⟨_, [], by simp, h, rfl⟩
  | .int _, _, _, h => ⟨_, [], by simp, h, rfl⟩
  | .list _, _, _, h => ⟨_, [], by simp, h, rfl⟩
  | .arr _ _, _, _, h => ⟨_, [], by simp, h, rfl⟩
  | .pair a b, _, _, ⟨u, v, e, h, k⟩ => by subst e; exact RepRows.append (inj_rep a _ _ h) (inj_rep b _ _ k)
  | .opt _, _, vs, h => ⟨vs, [], by simp, h, rfl⟩

theorem castL_rep {e e' : Ty} (h : e' = e) (R : (τ : Ty) → τ.den → List Value → Prop) {xs : List e'.den} {vs : List Value} (k : RepRows (R e') xs vs) : RepRows (R e) (castL h xs) vs := by
  subst h; exact k
theorem castL_length {e e' : Ty} (h : e' = e) (xs : List e'.den) : (castL h xs).length = xs.length := by subst h; rfl
theorem castL_list {e e' : Ty} (h : e' = e) {xs : List e'.den} {vs : List Value} (k : RepT S w (.list e') xs vs) : RepT S w (.list e) (castL h xs) vs := by subst h; exact k
theorem castL_arr {e e' : Ty} {n : Nat} (h : e' = e) {xs : List e'.den} {vs : List Value} (k : RepT S w (.arr e' n) xs vs) : RepT S w (.arr e n) (castL h xs) vs := by subst h; exact k

theorem repeatP_rep {α : Type} {R : α → List Value → Prop} {p : List PV → Option (α × List PV)}
    (hp : ∀ (cs cs' : List PV) (vs : List Value) (x : α), RepCs S σ w cs vs → p cs = some (x, cs') → ∃ u v, vs = u ++ v ∧ R x u ∧ RepCs S σ w cs' v) :
    ∀ (n : Nat) (cs cs' : List PV) (vs : List Value) (xs : List α), RepCs S σ w cs vs → repeatP p n cs = some (xs, cs') → xs.length = n ∧ ∃ u v, vs = u ++ v ∧ RepRows R xs u ∧ RepCs S σ w cs' v
  | 0, cs, cs', vs, xs, h, e => by
    simp only [repeatP, Option.some.injEq, Prod.mk.injEq] at e
    obtain ⟨rfl, rfl⟩ := e
    exact ⟨rfl, [], vs, rfl, rfl, h⟩
  | n + 1, cs, cs', vs, xs, h, e => by
    simp only [repeatP] at e
    split at e
    · rename_i x cs1 hx
      split at e
      · rename_i ys cs2 hy
        simp only [Option.some.injEq, Prod.mk.injEq] at e
        obtain ⟨rfl, rfl⟩ := e
        obtain ⟨u, v, rfl, hu, hv⟩ := hp _ _ _ _ h hx
        obtain ⟨hl, u', v', rfl, hu', hv'⟩ := repeatP_rep hp n _ _ _ _ hv hy
        exact ⟨by simp [hl], u ++ u', v', by simp, ⟨u, u', rfl, hu, hu'⟩, hv'⟩
      · simp at e
    · simp at e

theorem proj_rep : ∀ (τ : Ty) (cs cs' : List PV) (vs : List Value) (x : τ.den), RepCs S σ w cs vs → proj τ cs = some (x, cs') → ∃ u v, vs = u ++ v ∧ RepT S w τ x u ∧ RepCs S σ w cs' v
  | .unit, cs, cs', vs, x, h, e => by
    simp only [proj, Option.some.injEq, Prod.mk.injEq] at e
    obtain ⟨_, rfl⟩ := e
    exact ⟨[], vs, rfl, rfl, h⟩
  | .bool, cs, cs', vs, x, h, e => by
    simp only [proj] at e
    split at e
    · simp only [Option.some.injEq, Prod.mk.injEq] at e
      obtain ⟨rfl, rfl⟩ := e
      obtain ⟨u, v, rfl, hu, hv⟩ := h
      exact ⟨u, v, rfl, hu, hv⟩
    · simp at e
  | .str, cs, cs', vs, x, h, e => by
    simp only [proj] at e
    split at e
    · simp only [Option.some.injEq, Prod.mk.injEq] at e
      obtain ⟨rfl, rfl⟩ := e
      obtain ⟨u, v, rfl, hu, hv⟩ := h
      exact ⟨u, v, rfl, hu, hv⟩
    · simp at e
  | .int k, cs, cs', vs, x, h, e => by
    simp only [proj] at e
    split at e
    · split at e
      · rename_i hk _
        simp only [Option.some.injEq, Prod.mk.injEq] at e
        obtain ⟨rfl, rfl⟩ := e
        obtain ⟨u, v, rfl, hu, hv⟩ := h
        subst hk
        exact ⟨u, v, rfl, hu, hv⟩
      · simp at e
    · simp at e
  | .list e', cs, cs', vs, x, h, e => by
    simp only [proj] at e
    split at e
    · split at e
      · rename_i hk _
        simp only [Option.some.injEq, Prod.mk.injEq] at e
        obtain ⟨rfl, rfl⟩ := e
        obtain ⟨u, v, rfl, hu, hv⟩ := h
        exact ⟨u, v, rfl, castL_list hk hu, hv⟩
      · simp at e
    · simp only [Option.some.injEq, Prod.mk.injEq] at e
      obtain ⟨rfl, rfl⟩ := e
      obtain ⟨u, v, rfl, hu, hv⟩ := h
      simp only [RepC] at hu
      subst hu
      exact ⟨_, v, rfl, ⟨none, 0, rfl, Nat.le_refl _, .inl ⟨rfl, fun _ => rfl⟩⟩, hv⟩
    · simp at e
  | .arr e' n, cs, cs', vs, x, h, e => by
    simp only [proj] at e
    split at e
    · split at e
      · rename_i hk hn _ _
        simp only [Option.some.injEq, Prod.mk.injEq] at e
        obtain ⟨rfl, rfl⟩ := e
        obtain ⟨u, v, rfl, hu, hv⟩ := h
        subst hn
        exact ⟨u, v, rfl, castL_arr hk hu, hv⟩
      · simp at e
    · obtain ⟨hl, u, v, rfl, hu, hv⟩ := repeatP_rep (fun cs cs' vs x h e => proj_rep e' cs cs' vs x h e) _ _ _ _ _ h e
      exact ⟨u, v, rfl, ⟨hl, hu⟩, hv⟩
  | .opt e', cs, cs', vs, x, h, e => by
    simp only [proj] at e
    split at e
    · simp only [Option.some.injEq, Prod.mk.injEq] at e
      obtain ⟨rfl, rfl⟩ := e
      obtain ⟨u, v, rfl, hu, hv⟩ := h
      exact ⟨u, v, rfl, .inl ⟨rfl, hu⟩, hv⟩
    · split at e
      · rename_i hk _
        simp only [Option.some.injEq, Prod.mk.injEq] at e
        obtain ⟨rfl, rfl⟩ := e
        obtain ⟨u, v, rfl, hu, hv⟩ := h
        subst hk
        exact ⟨u, v, rfl, hu, hv⟩
      · simp at e
    · simp at e
  | .pair a b, cs, cs', vs, x, h, e => by
    simp only [proj] at e
    split at e
    · rename_i y cs1 hy
      split at e
      · rename_i z cs2 hz
        simp only [Option.some.injEq, Prod.mk.injEq] at e
        obtain ⟨rfl, rfl⟩ := e
        obtain ⟨u, v, rfl, hu, hv⟩ := proj_rep a _ _ _ _ h hy
        obtain ⟨u', v', rfl, hu', hv'⟩ := proj_rep b _ _ _ _ hv hz
        exact ⟨u ++ u', v', by simp, ⟨u, u', rfl, hu, hu'⟩, hv'⟩
      · simp at e
    · simp at e

theorem projAll_rep {τ : Ty} {cs : List PV} {vs : List Value} {x : τ.den} (h : RepCs S σ w cs vs) (e : projAll τ cs = some x) : RepT S w τ x vs := by
  unfold projAll at e
  split at e
  · rename_i y hy
    simp only [Option.some.injEq] at e
    subst e
    obtain ⟨u, v, rfl, hu, hv⟩ := proj_rep _ _ _ _ _ h hy
    cases hv
    simpa using hu
  · simp at e

theorem segAt_rep {cs : List PV} {vs : List Value} {o m : Nat} {e : Ty} {xs : List e.den} (h : RepCs S σ w cs vs) (he : segAt cs o e m = some xs) :
    RepT S w (.arr e m) xs ((vs.drop o).take (m * e.size)) ∧ o + m * e.size ≤ vs.length := by
  unfold segAt at he
  split at he
  · rename_i c hc
    have := RepCs.cut h hc
    exact ⟨projAll_rep this.1 he, this.2.2⟩
  · simp at he

theorem getD_eq {α : Type} (l : List α) (d : α) (i : Nat) (h : i < l.length) : l.getD i d = l[i] := by simp [List.getD_eq_getElem?_getD, h]

theorem dropC_le : ∀ (cs : List PV) (t : List PV) (k : Nat), dropC cs k = some t → k ≤ widthC cs := by
  intro cs
  induction cs with
  | nil => intro t k hk; cases k with
    | zero => exact Nat.le_refl _
    | succ k => simp [dropC] at hk
  | cons p cs ih => intro t k hk; cases k with
    | zero => exact Nat.zero_le _
    | succ k =>
      simp only [dropC] at hk
      cases hle : Nat.ble p.width (k + 1) with
      | false => rw [hle] at hk; simp at hk
      | true => rw [hle] at hk; have := ih _ _ hk; simp only [widthC]; have := Nat.le_of_ble_eq_true hle; omega
theorem putC_le {cs cs' new : List PV} {off n : Nat} (e : putC cs off n new = some cs') : off + n ≤ widthC cs := by
  unfold putC at e
  cases hd : dropC cs (off + n) with
  | none => rw [hd] at e; split at e <;> simp_all
  | some t => exact dropC_le _ _ _ hd

theorem cut_cut {α : Type} (vs : List α) (o a z q n M : Nat) (h1 : a + z ≤ M) (h2 : q + n ≤ z) : (((((vs.drop o).take M).drop a).take z).drop q).take n = (vs.drop (o + a + q)).take n := by
  simp only [List.drop_take, List.drop_drop, List.take_take]
  rw [show min n (min z (M - a) - q) = n by omega]
theorem splice_splice {α : Type} (vs us : List α) (o a z q n M : Nat) (h1 : a + z ≤ M) (h2 : q + n ≤ z) :
    vs.take o ++ ((((vs.drop o).take M).take a ++ ((((((vs.drop o).take M).drop a).take z).take q ++ (us ++ ((((vs.drop o).take M).drop a).take z).drop (q + n))) ++ ((vs.drop o).take M).drop (a + z))) ++ vs.drop (o + M)) = vs.take (o + a + q) ++ (us ++ vs.drop (o + a + q + n)) := by
  have e1 : vs.take (o + a + q) = vs.take o ++ ((vs.drop o).take a ++ (vs.drop (o + a)).take q) := by rw [← List.append_assoc, ← List.take_add, ← List.take_add]
  have e2 : ((((vs.drop o).take M).drop a).take z).drop (q + n) ++ (((vs.drop o).take M).drop (a + z) ++ vs.drop (o + M)) = vs.drop (o + a + q + n) := by
    have h3 : ((vs.drop o).take M).drop (a + z) ++ vs.drop (o + M) = vs.drop (o + a + z) := by
      rw [List.drop_take, List.drop_drop, show o + M = o + (a + z) + (M - (a + z)) by omega, ← List.drop_drop (i := M - (a + z)), List.take_append_drop, Nat.add_assoc]
    rw [h3]
    simp only [List.drop_take, List.drop_drop, List.take_take]
    rw [show min z (M - a) - (q + n) = z - (q + n) by omega, show o + a + z = o + a + (q + n) + (z - (q + n)) by omega, ← List.drop_drop (i := z - (q + n)), List.take_append_drop]
    congr 1; omega
  rw [e1, ← e2]
  simp only [List.drop_take, List.drop_drop, List.take_take, List.append_assoc]
  rw [show min a M = a by omega, show min q (min z (M - a)) = q by omega]

theorem lookC_rep {cs cs' : List PV} {vs : List Value} {q : Sub} {n : Nat} (h : RepCs S σ w cs vs) (hq : q.ok) (e : lookC cs q n = some cs') :
    RepCs S σ w cs' ((vs.drop q.off).take n) ∧ widthC cs' = n ∧ q.off + n ≤ vs.length := by
  cases q with
  | «at» o => exact RepCs.cut h e
  | arr o e' m j q =>
    simp only [lookC] at e
    cases hx : segAt cs o e' m with
    | none => rw [hx] at e; simp at e
    | some xs =>
      rw [hx] at e
      obtain ⟨⟨h1, h2⟩, h3⟩ := segAt_rep h hx
      obtain ⟨j0, jm⟩ := hq
      have hj : j.toNat < xs.length := by omega
      have h4 := RepRows.get (RepT.length e') h2 _ hj
      have h5 := RepCs.cut (inj_rep (σ := σ) _ _ _ h4) (by rw [← getD_eq _ e'.dflt _ hj]; exact e)
      have hm : (j.toNat + 1) * e'.size ≤ m * e'.size := Nat.mul_le_mul_right _ (by omega)
      rw [Nat.add_mul, Nat.one_mul] at hm
      have hl := RepT.length _ _ _ h4
      have h6 := h5.2.2
      rw [hl] at h6
      refine ⟨?_, h5.2.1, by simp only [Sub.off]; omega⟩
      have := h5.1
      rw [cut_cut _ _ _ _ _ _ _ hm h6] at this
      exact this

theorem storeC_rep {dat : PV → PV} {cs cs' new : List PV} {vs us : List Value} {q : Sub} {n : Nat} (h : RepCs S σ w cs vs) (hq : q.ok) (e : storeC dat cs q n new = some cs') (hn : RepCs S σ w new us) (hd : RepCs S σ w (new.map dat) us) (hl : us.length = n) :
    RepCs S σ w cs' (vs.take q.off ++ (us ++ vs.drop (q.off + n))) ∧ q.off + n ≤ vs.length := by
  cases q with
  | «at» o => exact ⟨RepCs.put h e hn hl, by rw [RepCs.length h]; exact putC_le e⟩
  | arr o e' m j q =>
    simp only [storeC] at e
    cases hx : segAt cs o e' m with
    | none => rw [hx] at e; simp at e
    | some xs =>
      rw [hx] at e
      obtain ⟨⟨h1, h2⟩, h3⟩ := segAt_rep h hx
      obtain ⟨j0, jm⟩ := hq
      have hj : j.toNat < xs.length := by omega
      have h4 := RepRows.get (RepT.length e') h2 _ hj
      have hlz := RepT.length _ _ _ h4
      have hm : (j.toNat + 1) * e'.size ≤ m * e'.size := Nat.mul_le_mul_right _ (by omega)
      rw [Nat.add_mul, Nat.one_mul] at hm
      simp only [rd, getD_eq _ e'.dflt _ hj] at e
      cases hp : putC (inj e' xs[j.toNat]) q n (new.map dat) with
      | none => rw [hp] at e; simp at e
      | some c =>
        rw [hp] at e
        simp only at e
        cases hc : projAll e' c with
        | none => rw [hc] at e; simp at e
        | some x =>
          rw [hc] at e
          have h4' := inj_rep (σ := σ) _ _ _ h4
          have hle := putC_le hp
          rw [← RepCs.length h4', hlz] at hle
          have h5 := projAll_rep (RepCs.put h4' hp hd hl) hc
          have h6 := RepRows.set (RepT.length e') h2 _ _ _ hj h5
          have h7 : RepT S w (.arr e' m) (xs.set j.toNat x) _ := ⟨by simp [h1], h6⟩
          have hl7 := RepT.length _ _ _ h7
          have h8 := RepCs.put h e (RepCs.one (σ := σ) (p := .seg e' m (xs.set j.toNat x)) h7) hl7
          refine ⟨?_, by simp only [Sub.off]; omega⟩
          rw [splice_splice _ _ _ _ _ _ _ _ hm hle] at h8
          exact h8
end Go.Ps
