/- What the interpreter's states say of the model's: states. -/
import Derived.Test.YtpfplngeakmghaaPrC
namespace Go.Pr
set_option linter.unusedVariables false
variable {S S' : Nat → Prop} {σ σ' : Sg} {w w' : World}

/-- A tuple's values out of cells. -/
def TupV : List (Nat × Bool) → List Value → List Value → Prop
  | [], us, xs => us = [] ∧ xs = []
  | (n, agg) :: sh, us, xs => ∃ u v y ys, us = u ++ v ∧ xs = y :: ys ∧ u.length = n ∧ (agg = true → y = .agg u.toArray) ∧ (agg = false → u = [y]) ∧ TupV sh v ys
def RepTup (S : Nat → Prop) (σ : Sg) (w : World) (cs : List PV) (sh : List (Nat × Bool)) (xs : List Value) : Prop := ∃ us, RepCs S σ w cs us ∧ TupV sh us xs

def RepS (S : Nat → Prop) (σ : Sg) (w : World) : SV → Value → Prop
  | .v .undef, _ => True
  | .v p, x => RepC S σ w p [x]
  | .agg cs, x => ∃ vs : List Value, x = .agg vs.toArray ∧ RepCs S σ w cs vs
  | .tup cs sh, x => ∃ xs : List Value, x = .tuple xs.toArray ∧ RepTup S σ w cs sh xs

theorem RepS.v {p : PV} {x : Value} (h : RepC S σ w p [x]) : RepS S σ w (.v p) x := by
  cases p <;> first | trivial | exact h
theorem RepS.of_v {p : PV} {x : Value} (h : RepS S σ w (.v p) x) (hp : p ≠ .undef) : RepC S σ w p [x] := by
  cases p <;> first | exact h | exact absurd rfl hp

def RepB (S : Nat → Prop) (σ : Sg) (w : World) (id : Nat) : Blk → Prop
  | .box cs => ∃ b o vs, (σ id).v = .pointer (some ⟨b, o, none⟩) ∧ RepCs S σ w cs vs ∧ w.rangeAt b o vs ∧ w.there b o vs.length
  | .rows T e xs => ∃ vs, RepRows (RepT S w e) xs vs ∧ w.ownsRow 0 T e.size (σ id).v xs.length vs ∧ (σ id).z = e.size ∧ 0 < e.size

/-- The ghosts of a call: the blocks that nobody writes; where its own lie. -/
structure Gh where
  S : Nat → Prop
  σ : Sg
/-- What stands fixed during a call: the world at its begin, the blocks that were data then, the cells that it may write. -/
structure En where
  W : World
  S : Nat → Prop
  M : Nat → Nat → Prop
  par : Nat → Value

/-- Of the old memory nothing has turned but the cells of M. -/
structure KeptM (W w : World) (M : Nat → Nat → Prop) : Prop where
  os : w.os = W.os
  tape : w.tape = W.tape
  output : w.output = W.output
  size : W.heap.size ≤ w.heap.size
  block : ∀ b, b < W.heap.size → (∀ o, ¬ M b o) → w.heap[b]? = W.heap[b]?
  cells : ∀ b, b < W.heap.size → ∀ o, ¬ M b o → w.cell? ⟨b, o, none⟩ = W.cell? ⟨b, o, none⟩ ∧ True
  frozen : ∀ b, b < W.heap.size → ∀ o, w.frozen? ⟨b, o, none⟩ = W.frozen? ⟨b, o, none⟩
  there : ∀ b, b < W.heap.size → ∀ o, (w.cell? ⟨b, o, none⟩).isSome = (W.cell? ⟨b, o, none⟩).isSome

theorem KeptM.refl (W : World) (M : Nat → Nat → Prop) : KeptM W W M := ⟨rfl, rfl, rfl, Nat.le_refl _, fun _ _ _ => rfl, fun _ _ _ _ => ⟨rfl, trivial⟩, fun _ _ _ => rfl, fun _ _ _ => rfl⟩

/-- A step that leaves all old blocks. -/
theorem KeptM.step {W w w' : World} {M : Nat → Nat → Prop} (h : KeptM W w M) (ho : w'.os = w.os) (ht : w'.tape = w.tape) (hu : w'.output = w.output) (hs : w.heap.size ≤ w'.heap.size)
    (hb : ∀ b, b < W.heap.size → w'.heap[b]? = w.heap[b]?) : KeptM W w' M where
  os := ho.trans h.os
  tape := ht.trans h.tape
  output := hu.trans h.output
  size := Nat.le_trans h.size hs
  block b hlt hM := (hb b hlt).trans (h.block b hlt hM)
  cells b hlt o hM := ⟨(World.cell?_of_block (a := ⟨b, o, none⟩) (hb b hlt)).trans (h.cells b hlt o hM).1, trivial⟩
  frozen b hlt o := (World.frozen?_of_block (a := ⟨b, o, none⟩) (hb b hlt)).trans (h.frozen b hlt o)
  there b hlt o := by rw [World.cell?_of_block (a := ⟨b, o, none⟩) (hb b hlt)]; exact h.there b hlt o

structure Sim (E : En) (G : Gh) (s : St) (a : Act) (w : World) : Prop where
  defers : a.defers = []
  size : a.tmps.size = s.n
  tmp : ∀ t, RepS G.S G.σ w (s.tmps t) (a.tmps.getD t undef)
  mem : ∀ i b, s.mem i = some b → RepB G.S G.σ w i b
  apart : ∀ i j bi bj, s.mem i = some bi → s.mem j = some bj → i ≠ j → ∀ k, blockOf (G.σ i).v = some k → blockOf (G.σ j).v ≠ some k
  off : ∀ i bi, s.mem i = some bi → ∀ k, blockOf (G.σ i).v = some k → ¬ G.S k ∧ k < w.heap.size
  old : ∀ b, G.S b → b < w.heap.size
  kept : KeptM E.W w E.M
  sub : ∀ b, E.S b → G.S b
  new : ∀ b, G.S b → E.S b ∨ E.W.heap.size ≤ b
  mine : ∀ i bi, s.mem i = some bi → (∀ k, blockOf (G.σ i).v = some k → E.W.heap.size ≤ k) ∨ (∃ cs b o, bi = .box cs ∧ (G.σ i).v = .pointer (some ⟨b, o, none⟩) ∧ ∀ j, j < widthC cs → E.M b (o + j))
  sep : ∀ b o, E.M b o → ¬ G.S b ∧ b < E.W.heap.size
  par : ∀ i bi, i % 64 = 63 → s.mem i = some bi → (G.σ i).v = E.par i

theorem RepTup.keep (hS : ∀ b, S b → S' b) (hw : Holds S w w') {sh : List (Nat × Bool)} {cs : List PV} {xs : List Value} (hσ : ∀ p ∈ cs, ∀ i ∈ p.ids, σ' i = σ i) (h : RepTup S σ w cs sh xs) : RepTup S' σ' w' cs sh xs :=
  let ⟨us, h1, h2⟩ := h; ⟨us, RepCs.keep hS hw hσ h1, h2⟩

def SV.ids : SV → List Nat
  | .v p => p.ids
  | .agg cs => cs.flatMap PV.ids
  | .tup cs _ => cs.flatMap PV.ids

theorem RepS.keep (hS : ∀ b, S b → S' b) (hw : Holds S w w') {p : SV} {x : Value} (hσ : ∀ i ∈ p.ids, σ' i = σ i) (h : RepS S σ w p x) : RepS S' σ' w' p x := by
  cases p with
  | v p =>
    by_cases hp : p = .undef
    · subst hp; trivial
    · exact RepS.v (RepC.keep hS hw hσ (RepS.of_v h hp))
  | agg cs => obtain ⟨vs, e, k⟩ := h; exact ⟨vs, e, RepCs.keep hS hw (fun p hp i hi => hσ i (List.mem_flatMap.2 ⟨p, hp, hi⟩)) k⟩
  | tup cs sh => obtain ⟨vs, e, k⟩ := h; exact ⟨vs, e, RepTup.keep hS hw (fun p hp i hi => hσ i (List.mem_flatMap.2 ⟨p, hp, hi⟩)) k⟩

theorem ownsRow_of_block {w w' : World} {base : Nat} {t : TypeId} {z n : Nat} {v : Value} {vs : List Value} (h : w.ownsRow base t z v n vs) (e : ∀ k, blockOf v = some k → w'.heap[k]? = w.heap[k]?) : w'.ownsRow base t z v n vs := by
  obtain ⟨h1, h2⟩ := h
  refine ⟨h1, h2.imp id ?_⟩
  rintro ⟨g, cap, cur, rfl, hg, hh, r⟩
  exact ⟨g, cap, cur, rfl, hg, (e g rfl).trans hh, r⟩

def Blk.ids : Blk → List Nat
  | .box cs => cs.flatMap PV.ids
  | .rows _ _ _ => []

/-- A block of the call's own that has not turned. -/
theorem RepB.keep (hS : ∀ b, S b → S' b) (hw : Holds S w w') {i : Nat} {b : Blk} (hi : σ' i = σ i) (hσ : ∀ j ∈ b.ids, σ' j = σ j) (hb : ∀ k, blockOf (σ i).v = some k → w'.heap[k]? = w.heap[k]?) (h : RepB S σ w i b) : RepB S' σ' w' i b := by
  cases b with
  | box cs =>
    obtain ⟨b, o, vs, e, k, r, t⟩ := h
    have := hb b (by rw [e]; rfl)
    exact ⟨b, o, vs, by rw [hi]; exact e, RepCs.keep hS hw (fun p hp j hj => hσ j (List.mem_flatMap.2 ⟨p, hp, hj⟩)) k, rangeAt_of_block r this, there_of_block t this⟩
  | rows T e xs =>
    obtain ⟨vs, k, r, z, p⟩ := h
    exact ⟨vs, RepRows.imp (RepT.keep hS hw e) _ _ k, by rw [hi]; exact ownsRow_of_block r hb, by rw [hi]; exact z, p⟩

/-! ### Killing -/
theorem kill_ids (id : Nat) (p : PV) : ∀ j ∈ (p.kill id).ids, j ≠ id := by
  intro j hj
  cases p <;> simp only [PV.kill, PV.ids, List.not_mem_nil] at hj
  case own i => cases h : Nat.beq i id <;> simp [h] at hj; subst hj; exact Nat.ne_of_beq_eq_false h
  case ptr i _ => cases h : Nat.beq i id <;> simp [h] at hj; subst hj; exact Nat.ne_of_beq_eq_false h
  case seg1 i _ _ _ => cases h : Nat.beq i id <;> simp [h] at hj; subst hj; exact Nat.ne_of_beq_eq_false h
  case elt i _ _ => cases h : Nat.beq i id <;> simp [h] at hj; subst hj; exact Nat.ne_of_beq_eq_false h
  case fnp f l =>
    cases h : l.any (Nat.beq id) <;> simp [h] at hj
    intro e; subst e
    have := List.any_eq_false.1 h j hj
    simp at this

theorem kill_rep {id : Nat} {p : PV} {vs : List Value} (h : RepC S σ w p vs) : RepC S σ w (p.kill id) vs := by
  cases p <;> simp only [PV.kill] <;> try exact h
  case own i => cases Nat.beq i id <;> simp only [cond_true, cond_false]; exact h; obtain ⟨rfl, p, n, c, e⟩ := h; exact ⟨_, rfl, by rw [e]; rfl⟩
  case ptr i _ => cases Nat.beq i id <;> simp only [cond_true, cond_false]; exact h; obtain ⟨_, _, _, rfl⟩ := h; exact ⟨_, rfl, rfl⟩
  case seg1 i _ _ _ => exact h.elim
  case elt i _ _ => cases Nat.beq i id <;> simp only [cond_true, cond_false]; exact h; obtain ⟨_, _, _, _, _, _, _, rfl, _⟩ := h; exact ⟨_, rfl, rfl⟩
  case fnp f l => exact h.elim

theorem mapC_rep {f : PV → PV} (hf : ∀ p vs, RepC S σ w p vs → RepC S' σ' w' (f p) vs) : ∀ {cs : List PV} {vs : List Value}, RepCs S σ w cs vs → RepCs S' σ' w' (cs.map f) vs
  | [], _, h => h
  | p :: cs, _, ⟨u, v, e, a, b⟩ => ⟨u, v, e, hf _ _ a, mapC_rep hf b⟩

theorem map_width {f : PV → PV} (hf : ∀ p, (f p).width = p.width) : ∀ cs : List PV, widthC (cs.map f) = widthC cs
  | [] => rfl
  | p :: cs => by simp only [List.map_cons, widthC, hf, map_width hf cs]

theorem mapT_rep {f : PV → PV} (hf : ∀ p vs, RepC S σ w p vs → RepC S' σ' w' (f p) vs) {sh : List (Nat × Bool)} {cs : List PV} {xs : List Value} (h : RepTup S σ w cs sh xs) : RepTup S' σ' w' (cs.map f) sh xs :=
  let ⟨us, h1, h2⟩ := h; ⟨us, mapC_rep hf h1, h2⟩

theorem mapS_rep {f : PV → PV} (hu : f .undef = .undef) (hw' : ∀ p, (f p).width = p.width) (hf : ∀ p vs, RepC S σ w p vs → RepC S' σ' w' (f p) vs) {p : SV} {x : Value} (h : RepS S σ w p x) : RepS S' σ' w' (p.map f) x := by
  cases p with
  | v p =>
    by_cases hp : p = .undef
    · subst hp; simp only [SV.map, hu]; trivial
    · exact RepS.v (hf _ _ (RepS.of_v h hp))
  | agg cs => obtain ⟨vs, e, k⟩ := h; exact ⟨vs, e, mapC_rep hf k⟩
  | tup cs sh => obtain ⟨vs, e, k⟩ := h; exact ⟨vs, e, mapT_rep hf k⟩

theorem kill_width (id : Nat) (p : PV) : (p.kill id).width = p.width := by
  cases p <;> simp only [PV.kill] <;> try rfl
  case own i => cases Nat.beq i id <;> rfl
  case ptr i _ => cases Nat.beq i id <;> rfl
  case seg1 i _ _ _ => cases Nat.beq i id <;> rfl
  case elt i _ _ => cases Nat.beq i id <;> rfl
  case fnp f l => cases l.any (Nat.beq id) <;> rfl

theorem mapB_some {f : PV → PV} {s : St} {i : Nat} {b : Blk} (h : (s.mem i).map (Blk.map f) = some b) : ∃ b0, s.mem i = some b0 ∧ b = b0.map f := by
  cases hm : s.mem i with
  | none => rw [hm] at h; simp at h
  | some b0 => rw [hm] at h; simp only [Option.map_some, Option.some.injEq] at h; exact ⟨b0, rfl, h.symm⟩

theorem Sim.kill {E : En} {G : Gh} {s : St} {a : Act} {w : World} (h : Sim E G s a w) (id : Nat) : Sim E G (s.kill id) a w where
  defers := h.defers
  size := h.size
  tmp t := mapS_rep rfl (kill_width id) (fun p vs => kill_rep) (h.tmp t)
  mem i b hb := by
    obtain ⟨b0, h0, rfl⟩ := mapB_some hb
    have := h.mem i b0 h0
    cases b0 with
    | box cs => obtain ⟨b, o, vs, e, k, r, t⟩ := this; exact ⟨b, o, vs, e, mapC_rep (fun p vs => kill_rep) k, r, t⟩
    | rows T e xs => exact this
  apart i j bi bj hi hj := by
    obtain ⟨b0, h0, rfl⟩ := mapB_some hi
    obtain ⟨b1, h1, rfl⟩ := mapB_some hj
    exact h.apart i j _ _ h0 h1
  off i bi hi := by
    obtain ⟨b0, h0, rfl⟩ := mapB_some hi
    exact h.off i _ h0
  old := h.old
  kept := h.kept
  sub := h.sub
  new := h.new
  mine i bi hi := by
    obtain ⟨b0, h0, rfl⟩ := mapB_some hi
    refine (h.mine i _ h0).imp (fun x => x) ?_
    rintro ⟨cs, b, o, rfl, e, hM⟩
    exact ⟨_, b, o, rfl, e, by rw [map_width (kill_width id)]; exact hM⟩
  sep := h.sep
  par i bi h63 hi := by
    obtain ⟨b0, h0, rfl⟩ := mapB_some hi
    exact h.par i _ h63 h0

/-- No slot and no block of a killed state speaks of the number. -/
theorem kill_tmps_ids (s : St) (id t : Nat) : ∀ j ∈ ((s.kill id).tmps t).ids, j ≠ id := by
  intro j hj
  simp only [St.kill] at hj
  cases hs : s.tmps t with
  | v p => rw [hs] at hj; exact kill_ids id p j hj
  | agg cs => rw [hs] at hj; simp only [SV.map, SV.ids, List.mem_flatMap, List.mem_map] at hj; obtain ⟨_, ⟨p, _, rfl⟩, h⟩ := hj; exact kill_ids id p j h
  | tup cs sh => rw [hs] at hj; simp only [SV.map, SV.ids, List.mem_flatMap, List.mem_map] at hj; obtain ⟨_, ⟨p, _, rfl⟩, h⟩ := hj; exact kill_ids id p j h
theorem kill_mem_ids (s : St) (id i : Nat) (b : Blk) (hb : (s.kill id).mem i = some b) : ∀ j ∈ b.ids, j ≠ id := by
  intro j hj
  obtain ⟨b0, h0, rfl⟩ := mapB_some hb
  cases b0 with
  | box cs => simp only [Blk.map, Blk.ids, List.mem_flatMap, List.mem_map] at hj; obtain ⟨_, ⟨p, _, rfl⟩, h⟩ := hj; exact kill_ids id p j h
  | rows T e xs => simp [Blk.map, Blk.ids] at hj

/-! ### Slots -/
theorem getD_put {a : Act} {d t : Nat} {v : Value} (hd : d < a.tmps.size) : (a.put (some d) v).tmps.getD t undef = if t = d then v else a.tmps.getD t undef := by
  simp only [Act.put, Array.getD_eq_getD_getElem?, Array.getElem?_setIfInBounds]
  by_cases h : t = d
  · subst h; simp [hd]
  · rw [if_neg (fun e => h e.symm), if_neg h]
theorem Sim.put {E : En} {G : Gh} {s : St} {a : Act} {w : World} (h : Sim E G s a w) {d : Nat} (hd : d < s.n) {x : SV} {v : Value} (hx : RepS G.S G.σ w x v) : Sim E G (s.put d x) (a.put (some d) v) w where
  defers := h.defers
  size := by simp only [Act.put, Array.size_setIfInBounds]; exact h.size
  tmp t := by
    rw [getD_put (by rw [h.size]; exact hd)]
    simp only [St.put]
    by_cases e : t = d
    · subst e; simp [hx]
    · have : Nat.beq t d = false := by cases hb : Nat.beq t d; rfl; exact absurd (Nat.eq_of_beq_eq_true hb) e
      rw [if_neg e, this]; exact h.tmp t
  mem := h.mem
  apart := h.apart
  off := h.off
  old := h.old
  kept := h.kept
  sub := h.sub
  new := h.new
  mine := h.mine
  sep := h.sep
  par := h.par
/-- A slot's value is known better: nothing else turns. -/
theorem beq_self (t : Nat) : Nat.beq t t = true := Nat.beq_refl t
theorem Sim.put' {E : En} {G : Gh} {s : St} {a : Act} {w : World} (h : Sim E G s a w) {d : Nat} {x : SV} (hx : RepS G.S G.σ w x (a.tmps.getD d undef)) : Sim E G (s.put d x) a w where
  defers := h.defers
  size := h.size
  tmp t := by
    simp only [St.put]
    by_cases e : t = d
    · subst e; rw [beq_self]; exact hx
    · have : Nat.beq t d = false := by cases hb : Nat.beq t d; rfl; exact absurd (Nat.eq_of_beq_eq_true hb) e
      rw [this]; exact h.tmp t
  mem := h.mem
  apart := h.apart
  off := h.off
  old := h.old
  kept := h.kept
  sub := h.sub
  new := h.new
  mine := h.mine
  sep := h.sep
  par := h.par

/-! ### A new block -/
def upd (σ : Sg) (id : Nat) (L : Loc) : Sg := fun i => bif Nat.beq i id then L else σ i
theorem upd_same (σ : Sg) (id : Nat) (L : Loc) : upd σ id L id = L := by simp [upd]
theorem beq_ne {i id : Nat} (h : i ≠ id) : Nat.beq i id = false := by cases hb : Nat.beq i id; rfl; exact absurd (Nat.eq_of_beq_eq_true hb) h
theorem upd_ne {σ : Sg} {id i : Nat} {L : Loc} (h : i ≠ id) : upd σ id L i = σ i := by simp [upd, beq_ne h]

theorem setM_some {s : St} {id i : Nat} {b c : Blk} (h : (s.setM id (some b)).mem i = some c) : (i = id ∧ c = b) ∨ (i ≠ id ∧ s.mem i = some c) := by
  simp only [St.setM] at h
  by_cases e : i = id
  · subst e; simp at h; exact .inl ⟨rfl, h.symm⟩
  · rw [beq_ne e] at h; exact .inr ⟨e, h⟩

theorem Sim.fresh {E : En} {G : Gh} {s : St} {a : Act} {w w' : World} (h : Sim E G s a w) (id : Nat) (b : Blk) (L : Loc) (k0 : Option Nat)
    (hos : w'.os = w.os) (htape : w'.tape = w.tape) (hout : w'.output = w.output) (hsz : w.heap.size ≤ w'.heap.size)
    (hb : ∀ b, b < w.heap.size → some b ≠ k0 → w'.heap[b]? = w.heap[b]?)
    (hk0 : ∀ k, k0 = some k → ¬ G.S k ∧ E.W.heap.size ≤ k ∧ ∀ i bi, s.mem i = some bi → blockOf (G.σ i).v ≠ some k)
    (hL : ∀ k, blockOf L.v = some k → (w.heap.size ≤ k ∨ k0 = some k) ∧ k < w'.heap.size)
    (hid : id % 64 ≠ 63)
    (hB : RepB G.S (upd G.σ id L) w' id (b.map (PV.kill id))) : Sim E ⟨G.S, upd G.σ id L⟩ (s.new id b) a w' := by
  have hk := h.kill id
  have hold : Holds G.S w w' := fun q hq => hb q (h.old q hq) (fun e => (hk0 q e.symm).1 hq)
  have hmemk : ∀ i bi, (s.kill id).mem i = some bi → ∀ k, blockOf (G.σ i).v = some k → some k ≠ k0 := by
    intro i bi hi k hk' e
    obtain ⟨b0, h0, rfl⟩ := mapB_some hi
    exact (hk0 k e.symm).2.2 i b0 h0 hk'
  refine ⟨h.defers, h.size, fun t => ?_, fun i c hc => ?_, fun i j bi bj hi hj hne k hki => ?_, fun i bi hi k hk' => ?_, fun q hq => Nat.lt_of_lt_of_le (h.old q hq) hsz, ?_, h.sub, h.new, fun i bi hi => ?_, h.sep, fun i bi h63 hi => ?_⟩
  · exact RepS.keep (fun _ x => x) hold (fun j hj => upd_ne (kill_tmps_ids s id t j hj)) (hk.tmp t)
  · rcases setM_some hc with ⟨rfl, rfl⟩ | ⟨hne, hc⟩
    · exact hB
    · have hr := hk.mem i c hc
      exact RepB.keep (fun _ x => x) hold (upd_ne hne) (fun j hj => upd_ne (kill_mem_ids s id i c hc j hj)) (fun k hk' => hb k (hk.off i c hc k hk').2 (hmemk i c hc k hk')) hr
  · rcases setM_some hi with ⟨rfl, rfl⟩ | ⟨hi1, hi2⟩ <;> rcases setM_some hj with ⟨rfl, rfl⟩ | ⟨hj1, hj2⟩
    · exact absurd rfl hne
    · show blockOf (upd G.σ i L j).v ≠ some k
      rw [upd_ne hj1]
      have hki' : blockOf (upd G.σ i L i).v = some k := hki
      rw [upd_same] at hki'
      intro e
      rcases (hL k hki').1 with hl | hl
      · exact absurd (hk.off j bj hj2 k e).2 (by omega)
      · exact hmemk j bj hj2 k e hl.symm
    · show blockOf (upd G.σ j L j).v ≠ some k
      rw [upd_same]
      have hki' : blockOf (upd G.σ j L i).v = some k := hki
      rw [upd_ne hi1] at hki'
      intro e
      rcases (hL k e).1 with hl | hl
      · exact absurd (hk.off i bi hi2 k hki').2 (by omega)
      · exact hmemk i bi hi2 k hki' hl.symm
    · show blockOf (upd G.σ id L j).v ≠ some k
      rw [upd_ne hj1]
      have hki' : blockOf (upd G.σ id L i).v = some k := hki
      rw [upd_ne hi1] at hki'
      exact hk.apart i j bi bj hi2 hj2 hne k hki'
  · rcases setM_some hi with ⟨rfl, rfl⟩ | ⟨hi1, hi2⟩
    · have hk'' : blockOf (upd G.σ i L i).v = some k := hk'
      rw [upd_same] at hk''
      refine ⟨fun hS => ?_, (hL k hk'').2⟩
      rcases (hL k hk'').1 with hl | hl
      · exact absurd (h.old k hS) (by omega)
      · exact (hk0 k hl).1 hS
    · have hk'' : blockOf (upd G.σ id L i).v = some k := hk'
      rw [upd_ne hi1] at hk''
      have := hk.off i bi hi2 k hk''
      exact ⟨this.1, Nat.lt_of_lt_of_le this.2 hsz⟩
  · refine h.kept.step hos htape hout hsz fun q hq => hb q (Nat.lt_of_lt_of_le hq h.kept.size) fun e => ?_
    have := (hk0 q e.symm).2.1
    omega
  · rcases setM_some hi with ⟨rfl, rfl⟩ | ⟨hi1, hi2⟩
    · refine .inl fun k hk' => ?_
      have hk'' : blockOf (upd G.σ i L i).v = some k := hk'
      rw [upd_same] at hk''
      rcases (hL k hk'').1 with hl | hl
      · exact Nat.le_trans h.kept.size hl
      · exact (hk0 k hl).2.1
    · show (∀ k, blockOf (upd G.σ id L i).v = some k → _) ∨ (∃ cs b o, bi = .box cs ∧ (upd G.σ id L i).v = _ ∧ _)
      rw [upd_ne hi1]
      exact hk.mine i bi hi2
  · rcases setM_some hi with ⟨rfl, rfl⟩ | ⟨hi1, hi2⟩
    · exact absurd h63 hid
    · show (upd G.σ id L i).v = E.par i
      rw [upd_ne hi1]; exact hk.par i bi h63 hi2

/-! ### Freezing -/
theorem own_list {T : TypeId} {e : Ty} {xs : List e.den} {v : Value} {vs : List Value} (hr : RepRows (RepT S w e) xs vs) (ho : w.ownsRow 0 T e.size v xs.length vs) (hS : ∀ k, blockOf v = some k → S k) : RepT S w (.list e) xs [v] := by
  obtain ⟨hl, ho⟩ := ho
  rcases ho with ⟨rfl, h0⟩ | ⟨g, cap, cur, rfl, _, hh, hn, _, hc, ht⟩
  · exact ⟨none, 0, by rw [h0], by omega, .inl ⟨List.eq_nil_of_length_eq_zero h0, fun _ => rfl⟩⟩
  · refine ⟨_, cap, rfl, hn, .inr ⟨g, 0, vs, rfl, hS g rfl, ?_, hr⟩⟩
    intro j u hu
    have hu' := hu
    rw [← ht, List.getElem?_take] at hu'
    split at hu'
    · simp only [World.cell?, hh, Option.isSome_none, Bool.false_eq_true, if_false, Nat.zero_add]
      rw [← Array.getElem?_toList]; exact hu'
    · simp at hu'

theorem freeze_width (id : Nat) (e : Ty) (xs : List e.den) (p : PV) : (PV.freeze id e xs p).width = p.width := by
  cases p <;> simp only [PV.freeze] <;> try rfl
  case own i => cases Nat.beq i id <;> rfl
  case elt i _ _ => cases Nat.beq i id <;> rfl

theorem getD_eq {α : Type} (l : List α) (d : α) (i : Nat) (h : i < l.length) : l.getD i d = l[i] := by simp [List.getD_eq_getElem?_getD, h]

theorem freeze_rep {id : Nat} {T : TypeId} {e : Ty} {xs : List e.den} {us : List Value} (hr : RepRows (RepT S w e) xs us) (ho : w.ownsRow 0 T e.size (σ id).v xs.length us) (hz : (σ id).z = e.size)
    (hS : ∀ b, S b → S' b) (hk : ∀ k, blockOf (σ id).v = some k → S' k) {p : PV} {vs : List Value} (h : RepC S σ w p vs) : RepC S' σ w (PV.freeze id e xs p) vs := by
  have hrefl : Holds S w w := fun _ _ => rfl
  have hkeep : RepC S' σ w p vs := RepC.keep hS hrefl (fun _ _ => rfl) h
  have hr' : RepRows (RepT S' w e) xs us := RepRows.imp (RepT.keep hS hrefl e) _ _ hr
  cases p <;> simp only [PV.freeze] <;> try exact hkeep
  case own i =>
    cases hb : Nat.beq i id
    · exact hkeep
    · have := Nat.eq_of_beq_eq_true hb; subst this
      obtain ⟨rfl, _⟩ := h
      exact own_list hr' ho hk
  case elt i j o =>
    cases hb : Nat.beq i id
    · exact hkeep
    · have := Nat.eq_of_beq_eq_true hb; subst this
      obtain ⟨b, n, c, z, hv, h0, hn, rfl, rfl⟩ := h
      obtain ⟨hl, ho⟩ := ho
      rcases ho with ⟨hv', _⟩ | ⟨g, cap, cur, hv', _, hh, _, _, hc, ht⟩
      · rw [hv'] at hv; simp at hv
      · rw [hv'] at hv
        simp only [Value.slice.injEq, Option.some.injEq, Addr.mk.injEq, and_true] at hv
        obtain ⟨rfl, rfl, rfl⟩ := hv
        have hi : j.toNat < xs.length := by omega
        refine ⟨g, j.toNat * e.size, (us.drop (j.toNat * e.size)).take e.size, hk g (by rw [hv']; rfl), ?_, ?_, by rw [hz]⟩
        · intro q u hu
          rw [List.getElem?_take] at hu
          split at hu
          · rw [List.getElem?_drop, ← ht, List.getElem?_take] at hu
            split at hu
            · simp only [World.cell?, hh, Option.isSome_none, Bool.false_eq_true, if_false]
              rw [← Array.getElem?_toList]; exact hu
            · simp at hu
          · simp at hu
        · rw [getD_eq _ _ _ hi]
          exact RepRows.get (RepT.length e) hr' _ hi

theorem Sim.freeze {E : En} {G : Gh} {s : St} {a : Act} {w : World} (h : Sim E G s a w) (id : Nat) : ∃ S', (∀ b, G.S b → S' b) ∧ (∀ b, S' b → G.S b ∨ ∃ bi, s.mem id = some bi ∧ blockOf (G.σ id).v = some b) ∧ (∀ T e xs, s.mem id = some (.rows T e xs) → ∀ k, blockOf (G.σ id).v = some k → S' k) ∧ Sim E ⟨S', G.σ⟩ (s.freeze id) a w := by
  cases hm : s.mem id with
  | none => exact ⟨G.S, fun _ x => x, fun _ => .inl, fun _ _ _ h => by simp at h, by simp only [St.freeze, hm]; exact h⟩
  | some b =>
    cases b with
    | box cs => exact ⟨G.S, fun _ x => x, fun _ => .inl, fun _ _ _ h => by simp at h, by simp only [St.freeze, hm]; exact h⟩
    | rows T e xs =>
      obtain ⟨us, hr, ho, hz, hp⟩ := h.mem id _ hm
      let S' : Nat → Prop := fun b => G.S b ∨ blockOf (G.σ id).v = some b
      have hS : ∀ b, G.S b → S' b := fun _ => .inl
      have hk : ∀ k, blockOf (G.σ id).v = some k → S' k := fun _ => .inr
      have hf : ∀ p vs, RepC G.S G.σ w p vs → RepC S' G.σ w (PV.freeze id e xs p) vs := fun p vs => freeze_rep hr ho hz hS hk
      have hwk : ∀ k, blockOf (G.σ id).v = some k → E.W.heap.size ≤ k := by
        rcases h.mine id _ hm with hh | ⟨cs, b, o, hh, _⟩
        · exact hh
        · exact absurd hh (by simp)
      refine ⟨S', hS, fun b hb => hb.imp (fun x => x) fun x => ⟨_, rfl, x⟩, fun _ _ _ _ => hk, ?_⟩
      have hmem : ∀ i bi, (s.freeze id).mem i = some bi → i ≠ id ∧ ∃ b0, s.mem i = some b0 ∧ bi = b0.map (PV.freeze id e xs) := by
        intro i bi hi
        simp only [St.freeze, hm] at hi
        by_cases e' : i = id
        · subst e'; simp at hi
        · rw [beq_ne e'] at hi
          exact ⟨e', mapB_some hi⟩
      refine ⟨h.defers, by simp only [St.freeze, hm]; exact h.size, fun t => ?_, fun i bi hi => ?_, fun i j bi bj hi hj hne k hki => ?_, fun i bi hi k hk' => ?_, fun q hq => ?_, h.kept, fun b hb => .inl (h.sub b hb), fun b hb => ?_, fun i bi hi => ?_, fun b o hM => ⟨fun hb => ?_, (h.sep b o hM).2⟩, fun i bi h63 hi => ?_⟩
      · simp only [St.freeze, hm]
        exact mapS_rep rfl (freeze_width id e xs) hf (h.tmp t)
      · obtain ⟨hne, b0, h0, rfl⟩ := hmem i bi hi
        have := h.mem i b0 h0
        cases b0 with
        | box cs => obtain ⟨b, o, vs, e1, k, r, t⟩ := this; exact ⟨b, o, vs, e1, mapC_rep hf k, r, t⟩
        | rows T' e' ys =>
          obtain ⟨vs, k, r, z, p⟩ := this
          exact ⟨vs, RepRows.imp (RepT.keep hS (fun _ _ => rfl) e') _ _ k, r, z, p⟩
      · obtain ⟨_, b0, h0, rfl⟩ := hmem i bi hi
        obtain ⟨_, b1, h1, rfl⟩ := hmem j bj hj
        exact h.apart i j _ _ h0 h1 hne k hki
      · obtain ⟨hne, b0, h0, rfl⟩ := hmem i bi hi
        have := h.off i _ h0 k hk'
        refine ⟨fun hs => hs.elim this.1 fun e' => ?_, this.2⟩
        exact h.apart id i _ _ hm h0 (fun x => hne x.symm) k e' hk'
      · exact hq.elim (h.old q) fun e' => (h.off id _ hm q e').2
      · exact hb.elim (h.new b) fun e' => .inr (hwk b e')
      · obtain ⟨hne, b0, h0, rfl⟩ := hmem i bi hi
        refine (h.mine i _ h0).imp (fun x => x) ?_
        rintro ⟨cs, b, o, rfl, e1, hM⟩
        exact ⟨_, b, o, rfl, e1, by rw [map_width (freeze_width id e xs)]; exact hM⟩
      · refine hb.elim (h.sep b o hM).1 fun e' => ?_
        have := hwk b e'
        have := (h.sep b o hM).2
        omega
      · obtain ⟨hne, b0, h0, rfl⟩ := hmem i bi hi
        exact h.par i _ h63 h0
end Go.Pr
