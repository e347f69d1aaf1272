/- Each operation does what the interpreter says: slices' literals, stores, append. -/
import Derived.Test.YtpfplngeakmghaaPrH
namespace Go.Pr
set_option linter.unusedVariables false
variable {S S' : Nat → Prop} {σ σ' : Sg} {w w' : World} {E : En} {G : Gh} {s : St} {a : Act} {C : Cfg} {R : Type} {r : R}

/-- Cells as data: under any S' that holds the frozen slices' blocks. -/
def Frozen (G : Gh) (s : St) (cs : List PV) (S' : Nat → Prop) : Prop := ∀ i, PV.own i ∈ cs → ∀ T e xs, s.mem i = some (.rows T e xs) → ∀ k, blockOf (G.σ i).v = some k → S' k

theorem dat_width (s : St) (p : PV) : (s.dat p).width = p.width := by
  cases p <;> simp only [St.dat, St.norm] <;> try rfl
  case own i => split <;> rfl

theorem dat_rep (h : Sim E G s a w) {cs : List PV} {S' : Nat → Prop} (hS : ∀ b, G.S b → S' b) (hf : Frozen G s cs S') {p : PV} (hp : p ∈ cs) {vs : List Value} (hr : RepC G.S G.σ w p vs) : RepC S' σ' w (s.dat p) vs := by
  have hone := RepC.one hr
  have hlen := RepC.length hr
  have un : p.width = 1 → RepC S' σ' w .undef vs := fun hw => by
    rw [hw] at hlen
    obtain ⟨v, rfl⟩ := List.length_eq_one_iff.1 hlen
    exact ⟨v, rfl, hone v (by simp)⟩
  have keep : p.ids = [] → RepC S' σ' w p vs := fun hi => RepC.keep hS (fun _ _ => rfl) (fun i h => by rw [hi] at h; simp at h) hr
  cases p <;> simp only [St.dat] <;> first | exact keep rfl | exact un rfl | skip
  case own i =>
    simp only [St.norm]
    split
    · rename_i T e xs hm
      obtain ⟨us, hrr, ho, _⟩ := h.mem i _ hm
      obtain ⟨rfl, _⟩ := hr
      exact own_list (RepRows.imp (RepT.keep hS (fun _ _ => rfl) e) _ _ hrr) ho (hf i hp T e xs hm)
    · exact un rfl

theorem datC_rep (h : Sim E G s a w) {S' : Nat → Prop} (hS : ∀ b, G.S b → S' b) : ∀ {cs : List PV}, Frozen G s cs S' → ∀ {vs : List Value}, RepCs G.S G.σ w cs vs → RepCs S' σ' w (cs.map s.dat) vs
  | [], _, _, h => h
  | p :: cs, hf, _, ⟨u, v, e, x, y⟩ => ⟨u, v, e, dat_rep h hS hf (by simp) x, datC_rep h hS (fun i hi => hf i (by simp [hi])) y⟩

theorem datS_rep (h : Sim E G s a w) {S' : Nat → Prop} (hS : ∀ b, G.S b → S' b) {x : SV} {v : Value} (hf : Frozen G s (match x with | .v p => [p] | .agg cs => cs | .tup _ _ => []) S') (hx : RepS G.S G.σ w x v) (hx' : ∀ cs sh, x ≠ .tup cs sh) : RepS S' σ' w (x.map s.dat) v := by
  cases x with
  | v p =>
    by_cases hp : p = .undef
    · subst hp; trivial
    · exact RepS.v (dat_rep h hS hf (by simp) (RepS.of_v hx hp))
  | agg cs => obtain ⟨vs, e, k⟩ := hx; exact ⟨vs, e, datC_rep h hS hf k⟩
  | tup cs sh => exact absurd rfl (hx' cs sh)

theorem freeze_mem_ne {s : St} {i j : Nat} (h : i ≠ j) : (s.freeze j).mem i = none ↔ s.mem i = none := by
  unfold St.freeze
  split
  · simp only [beq_ne h, cond_false, Option.map_eq_none_iff]
  · rfl
theorem freeze_rows {s : St} {i j : Nat} {T : TypeId} {e : Ty} {xs : List e.den} (h : (s.freeze j).mem i = some (.rows T e xs)) : s.mem i = some (.rows T e xs) := by
  unfold St.freeze at h
  split at h
  · by_cases hij : i = j
    · subst hij; simp at h
    · simp only [beq_ne hij, cond_false] at h
      cases hm : s.mem i with
      | none => rw [hm] at h; simp at h
      | some b => rw [hm] at h; cases b with
        | box cs => simp [Blk.map] at h
        | rows T' e' ys => simpa [Blk.map] using h
  · exact h
theorem freeze_rows_ne {s : St} {i j : Nat} {T : TypeId} {e : Ty} {xs : List e.den} (hij : i ≠ j) (h : s.mem i = some (.rows T e xs)) : (s.freeze j).mem i = some (.rows T e xs) := by
  unfold St.freeze
  split
  · simp only [beq_ne hij, cond_false, h]; rfl
  · exact h

/-- All slices of the call's own among the cells are data from here on. -/
theorem Sim.still {E : En} {a : Act} {w : World} : ∀ {cs : List PV} {G : Gh} {s : St}, Sim E G s a w → ∃ S', (∀ b, G.S b → S' b) ∧ Frozen G s cs S' ∧ (∀ b, S' b → G.S b ∨ ∃ i T e xs, PV.own i ∈ cs ∧ s.mem i = some (.rows T e xs) ∧ blockOf (G.σ i).v = some b) ∧ Sim E ⟨S', G.σ⟩ (s.still cs) a w
  | [], G, s, h => ⟨G.S, fun _ x => x, fun i hi => by simp at hi, fun _ => .inl, h⟩
  | p :: cs, G, s, h => by
    have other : (s.still (p :: cs) = s.still cs) → (∀ i, p ≠ .own i) → ∃ S', (∀ b, G.S b → S' b) ∧ Frozen G s (p :: cs) S' ∧ (∀ b, S' b → G.S b ∨ ∃ i T e xs, PV.own i ∈ p :: cs ∧ s.mem i = some (.rows T e xs) ∧ blockOf (G.σ i).v = some b) ∧ Sim E ⟨S', G.σ⟩ (s.still (p :: cs)) a w := by
      intro e hne
      obtain ⟨S', h1, h2, h3, h4⟩ := Sim.still (cs := cs) h
      refine ⟨S', h1, fun i hi => ?_, fun b hb => ?_, by rw [e]; exact h4⟩
      · rcases List.mem_cons.1 hi with rfl | hi
        · exact absurd rfl (hne i)
        · exact h2 i hi
      · exact (h3 b hb).imp (fun x => x) fun ⟨i, T, e, xs, hi, r⟩ => ⟨i, T, e, xs, by simp [hi], r⟩
    cases p with
    | own j =>
      obtain ⟨S1, h1, h2, h3, h4⟩ := h.freeze j
      obtain ⟨S', g1, g2, g3, g4⟩ := Sim.still (cs := cs) h4
      refine ⟨S', fun b hb => g1 b (h1 b hb), fun i hi T e xs hm k hk => ?_, fun b hb => ?_, g4⟩
      · by_cases hij : i = j
        · subst hij; exact g1 k (h3 T e xs hm k hk)
        · rcases List.mem_cons.1 hi with hi | hi
          · simp only [PV.own.injEq] at hi; exact absurd hi hij
          · exact g2 i hi T e xs (freeze_rows_ne hij hm) k hk
      · rcases g3 b hb with hb | ⟨i, T, e, xs, hi, hm, hk⟩
        · rcases h2 b hb with hb | ⟨bi, hm, hk⟩
          · exact .inl hb
          · by_cases hS : G.S b
            · exact .inl hS
            · cases bi with
              | rows T e xs => exact .inr ⟨j, T, e, xs, by simp, hm, hk⟩
              | box cs' =>
                exfalso
                have : S1 b → G.S b := fun _ => by
                  have := h4.off
                  exact Classical.byContradiction fun _ => by
                    have hmm : (s.freeze j).mem j = some (.box cs') := by simp only [St.freeze, hm]
                    exact (h4.off j _ hmm b hk).1 hb
                exact hS (this hb)
        · exact .inr ⟨i, T, e, xs, by simp [hi], freeze_rows hm, hk⟩
    | _ => exact other rfl (by intro i h; simp at h)

/-! ### A slice's literal -/
theorem rowsOf_rep (h : Sim E G s a w) {e : Ty} {S' : Nat → Prop} (hS : ∀ b, G.S b → S' b) : ∀ {ps : List (Nat × SV)} {vs : List (Nat × Value)} {i : Nat} {xs : List e.den},
    All2 (fun (p : Nat × SV) (q : Nat × Value) => p.1 = q.1 ∧ RepS G.S G.σ w p.2 q.2) ps vs → Frozen G s (cellsOfAll ps) S' → rowsOf e s i ps = some xs →
    xs.length = ps.length ∧ ∃ us : List (List Value), RepRows (RepT S' w e) xs us.flatten ∧ us.length = ps.length ∧ All2 (fun (q : Nat × Value) (u : List Value) => q.2.cells.toList = u ∧ u.length = e.size) vs us ∧ (∀ j (q : Nat × Value), vs[j]? = some q → q.1 = i + j)
  | [], _, i, xs, .nil, _, e => by simp only [rowsOf, Option.some.injEq] at e; subst e; exact ⟨rfl, [], rfl, rfl, .nil, by simp⟩
  | (j, x) :: ps, _, i, xs, .cons (y := q) (ys := vs) hq ht, hf, e' => by
    obtain ⟨hj, hx⟩ := hq
    simp only [rowsOf] at e'
    rcases cond_some e' with ⟨hij, e'⟩ | ⟨_, e'⟩
    · have hij := Nat.eq_of_beq_eq_true hij
      split at e'
      · rename_i c hc
        split at e'
        · rename_i x0 xs0 hx0 hxs0
          simp only [Option.some.injEq] at e'
          subst e'
          have hcells := cells_rep hx hc
          have hf1 : Frozen G s c S' := fun k hk => hf k (by simp only [cellsOfAll, hc, Option.getD_some, List.mem_append]; exact .inl hk)
          have hf2 : Frozen G s (cellsOfAll ps) S' := fun k hk => hf k (by simp only [cellsOfAll, List.mem_append]; exact .inr hk)
          have hrow := projAll_rep (datC_rep (σ' := G.σ) h hS hf1 hcells) hx0
          obtain ⟨hl, us, h1, h2, h3, h4⟩ := rowsOf_rep h hS ht hf2 hxs0
          refine ⟨by simp [hl], q.2.cells.toList :: us, ⟨_, _, rfl, hrow, h1⟩, by simp [h2], .cons ⟨rfl, RepT.length _ _ _ hrow⟩ h3, ?_⟩
          intro k q' hk
          cases k with
          | zero => simp only [List.getElem?_cons_zero, Option.some.injEq] at hk; subst hk; omega
          | succ k => simp only [List.getElem?_cons_succ] at hk; rw [h4 k q' hk]; omega
        · simp at e'
      · simp at e'
    · simp at e'

theorem fill_rows {z : Nat} : ∀ {vs : List (Nat × Value)} {us : List (List Value)} {i : Nat} {cells : Array Value}, All2 (fun (q : Nat × Value) (u : List Value) => q.2.cells.toList = u ∧ u.length = z) vs us → (∀ j (q : Nat × Value), vs[j]? = some q → q.1 = i + j) →
    (i + vs.length) * z = cells.size → ∃ cells' : Array Value, Instr.fill (fun i => some (i * z, z)) cells vs = some cells' ∧ cells'.toList = cells.toList.take (i * z) ++ us.flatten
  | [], _, i, cells, .nil, _, hs => ⟨cells, rfl, by simp at hs ⊢; rw [List.take_of_length_le (by simp; omega)]⟩
  | q :: vs, _, i, cells, .cons (y := u) (ys := us) h ht, hi, hs => by
    have hq : q.1 = i := by have := hi 0 q (by simp); omega
    have hn : q.2.cells.size = z := by have := h.2; rw [← h.1] at this; simpa using this
    have hle : i * z + z ≤ cells.size := by
      rw [← hs, List.length_cons, show i + (vs.length + 1) = i + 1 + vs.length by omega, Nat.add_mul, Nat.add_mul]; omega
    have hset := toList_foldl_set q.2.cells.toList 0 (i * z) cells (by simp; omega)
    obtain ⟨cells', h1, h2⟩ := fill_rows (i := i + 1) (cells := ((q.2.cells.toList.zipIdx 0).foldl (fun cs (c : Value × Nat) => cs.setIfInBounds (i * z + c.2) c.1) cells)) ht
      (fun j q' hj => by have := hi (j + 1) q' (by simpa using hj); omega) (by
        have : ((q.2.cells.toList.zipIdx 0).foldl (fun cs (c : Value × Nat) => cs.setIfInBounds (i * z + c.2) c.1) cells).size = cells.size := by
          rw [← Array.length_toList, hset]; simp; omega
        rw [this, ← hs, List.length_cons]; congr 1; omega)
    refine ⟨cells', ?_, ?_⟩
    · rw [Instr.fill.eq_2]
      simp only [hq]
      rw [if_neg (by simp [hn]; omega), ← h1]
      congr 1
      rw [← Array.foldl_toList, Array.toList_zipIdx]
    · rw [h2, hset]
      simp only [Nat.add_zero, List.flatten_cons, ← List.append_assoc]
      congr 1
      rw [List.append_assoc, ← h.1, List.take_append, List.take_of_length_le (by simp; rw [Nat.add_mul]; omega)]
      congr 1
      rw [List.length_take, Array.length_toList, Nat.min_eq_left (by omega), Nat.add_mul, Nat.one_mul, Nat.add_sub_cancel_left, List.take_append_of_le_length (by simp [hn]), List.take_of_length_le (by simp [hn])]
end Go.Pr
