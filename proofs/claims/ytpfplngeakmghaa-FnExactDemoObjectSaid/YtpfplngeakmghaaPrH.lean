/- Each operation does what the interpreter says: tuples, new blocks, stores, append. -/
import Derived.Test.YtpfplngeakmghaaPrG
namespace Go.Pr
set_option linter.unusedVariables false
variable {S S' : Nat → Prop} {σ σ' : Sg} {w w' : World} {E : En} {G : Gh} {s : St} {a : Act} {C : Cfg} {R : Type} {r : R}

/-! ### Cells are single values -/
theorem RepRows.one {α : Type} {Q : α → List Value → Prop} (hQ : ∀ x vs, Q x vs → ∀ u ∈ vs, u.oneCell' = true) : ∀ {xs : List α} {vs : List Value}, RepRows Q xs vs → ∀ u ∈ vs, u.oneCell' = true
  | [], _, e, u, hu => by cases e; simp at hu
  | _ :: _, _, ⟨p, q, rfl, h1, h2⟩, u, hu => by
    rcases List.mem_append.1 hu with hu | hu
    · exact hQ _ _ h1 u hu
    · exact RepRows.one hQ h2 u hu
theorem RepT.one : ∀ (τ : Ty) (x : τ.den) (vs : List Value), RepT S w τ x vs → ∀ u ∈ vs, u.oneCell' = true
  | .unit, _, _, h => by cases h; simp
  | .bool, _, _, h => by cases h; simp [Value.oneCell']
  | .str, _, _, h => by cases h; simp [Value.oneCell']
  | .int _, _, _, h => by cases h; simp [Value.oneCell']
  | .list _, _, _, ⟨_, _, h, _⟩ => by rw [h]; simp [Value.oneCell']
  | .arr e n, _, _, ⟨_, k⟩ => RepRows.one (RepT.one e) k
  | .pair a b, _, _, ⟨u, v, e, h, k⟩ => fun q hq => by
    rw [e] at hq
    exact (List.mem_append.1 hq).elim (RepT.one a _ _ h q) (RepT.one b _ _ k q)
theorem RepC.one {p : PV} {vs : List Value} (h : RepC S σ w p vs) : ∀ u ∈ vs, u.oneCell' = true := by
  cases p <;> simp only [RepC] at h
  case undef => obtain ⟨v, rfl, h⟩ := h; simpa using h
  case list => exact RepT.one _ _ _ h
  case seg => exact RepT.one _ _ _ h
  case own => obtain ⟨rfl, p, n, c, e⟩ := h; rw [e]; simp [Value.oneCell']
  case ptr => obtain ⟨_, _, _, rfl⟩ := h; simp [Value.oneCell']
  case elt => obtain ⟨_, _, _, _, _, _, _, rfl, _⟩ := h; simp [Value.oneCell']
  case cptr => obtain ⟨_, _, _, _, _, _, rfl⟩ := h; simp [Value.oneCell']
  case fn => obtain ⟨_, _, rfl⟩ := h; simp [Value.oneCell']
  all_goals first | (subst h; simp [Value.oneCell']) | exact h.elim
theorem RepCs.one {cs : List PV} {vs : List Value} (h : RepCs S σ w cs vs) : ∀ u ∈ vs, u.oneCell' = true := RepRows.one (fun _ _ => RepC.one) h

theorem cells_of_one {v : Value} (h : v.oneCell' = true) : v.cells = #[v] := by
  cases v <;> first | rfl | simp [Value.oneCell'] at h

/-- The cells of a value, on both sides. -/
theorem cells_rep {x : SV} {v : Value} {cs : List PV} (hx : RepS S σ w x v) (e : x.cells = some cs) : RepCs S σ w cs v.cells.toList := by
  cases x with
  | v p =>
    cases p <;> simp only [SV.cells] at e <;> try (simp at e; done)
    all_goals
      simp only [Option.some.injEq] at e
      subst e
      have hx' := RepS.of_v hx (by simp)
      rw [cells_of_one (RepC.one hx' v (by simp))]
      exact ⟨[v], [], rfl, hx', rfl⟩
  | agg cs' =>
    simp only [SV.cells, Option.some.injEq] at e
    subst e
    obtain ⟨vs, rfl, h⟩ := hx
    simpa [Value.cells] using h
  | tup cs sh => simp [SV.cells] at e

/-! ### Tuples -/
theorem TupV.get : ∀ {sh : List (Nat × Bool)} {us xs : List Value}, TupV sh us xs → ∀ {i n : Nat} {agg : Bool}, sh[i]? = some (n, agg) →
    ∃ y, xs[i]? = some y ∧ (agg = true → y = .agg ((us.drop ((sh.take i).foldr (fun a b => a.1 + b) 0)).take n).toArray) ∧ (agg = false → (us.drop ((sh.take i).foldr (fun a b => a.1 + b) 0)).take n = [y]) := by
  intro sh
  induction sh with
  | nil => intro us xs h i n agg e; simp at e
  | cons q sh ih =>
    obtain ⟨m, ag⟩ := q
    intro us xs h i n agg e
    obtain ⟨u, v, y, ys, rfl, rfl, hl, h1, h2, h3⟩ := h
    cases i with
    | zero =>
      simp only [List.getElem?_cons_zero, Option.some.injEq, Prod.mk.injEq] at e
      obtain ⟨rfl, rfl⟩ := e
      have : (u ++ v).take m = u := by rw [List.take_append_of_le_length (by omega), List.take_of_length_le (by omega)]
      refine ⟨y, by simp, fun ha => ?_, fun ha => ?_⟩
      · simp only [List.take_zero, List.foldr_nil, List.drop_zero, this]; exact h1 ha
      · simp only [List.take_zero, List.foldr_nil, List.drop_zero, this]; exact h2 ha
    | succ i =>
      simp only [List.getElem?_cons_succ] at e
      obtain ⟨y', g1, g2, g3⟩ := ih h3 e
      have : ∀ k, (u ++ v).drop (m + k) = v.drop k := fun k => by rw [List.drop_append, List.drop_eq_nil_of_le (by omega), List.nil_append, hl, Nat.add_sub_cancel_left]
      refine ⟨y', by simpa using g1, fun ha => ?_, fun ha => ?_⟩
      · simp only [List.take_succ_cons, List.foldr_cons, this]; exact g2 ha
      · simp only [List.take_succ_cons, List.foldr_cons, this]; exact g3 ha

theorem extractK_sound {P : Program} (h : Sim E G s a w) {x : SV} {vx : Value} {i : Nat} {k : SV → St → Option R} (hx : RepS G.S G.σ w x vx) (e : extractK x i (fun x => k x s) = some r) : Done E a P (Instr.extract vx i) w k r := by
  unfold extractK at e
  split at e
  · rename_i cs sh
    obtain ⟨xs, rfl, us, hc, ht⟩ := hx
    split at e
    · rename_i n agg hi
      split at e
      · rename_i c hcut
        obtain ⟨y, hy, h1, h2⟩ := ht.get hi
        have hr := (RepCs.cut hc hcut).1
        have hrun : (Instr.extract (.tuple xs.toArray) i).run P w = .ok y w := by simp [Instr.extract, hy]
        rcases cond_some e with ⟨ha, e⟩ | ⟨ha, e⟩
        · exact Done.pure (x := .agg c) h hrun ⟨_, h1 ha, hr⟩ e
        · split at e
          · rename_i c0
            rw [h2 ha] at hr
            obtain ⟨u, v, e1, hu, hv⟩ := hr
            cases hv
            simp only [List.append_nil] at e1
            subst e1
            exact Done.pure h hrun (RepS.v hu) e
          · simp at e
      · simp at e
    · simp at e
  · simp at e

theorem pickK_sound {P : Program} (h : Sim E G s a w) {c x y : SV} {vc vx vy : Value} {k : SV → St → Option R} (hc : RepS G.S G.σ w c vc) (hx : RepS G.S G.σ w x vx) (hy : RepS G.S G.σ w y vy) (e : pickK c x y (fun x => k x s) = some r) :
    Done E a P (do pure (if ← asBool vc then vx else vy)) w k r := by
  unfold pickK at e
  split at e
  · rename_i b
    have := bool_of (RepS.of_v hc (by simp)); subst this
    have hrun : (do pure (if ← asBool (.bool b) then vx else vy) : Sem Value).run P w = .ok (if b then vx else vy) w := by simp [asBool]
    split at e
    · rename_i p q
      have := bool_of (RepS.of_v hx (by simp)); subst this
      have := bool_of (RepS.of_v hy (by simp)); subst this
      refine Done.pure (x := .v (.bool (bif b then p else q))) h hrun ?_ e
      cases b <;> rfl
    · rcases cond_some e with ⟨rfl, e⟩ | ⟨rfl, e⟩
      · exact Done.pure h hrun hx e
      · exact Done.pure h hrun hy e
  · simp at e

/-! ### New blocks -/
theorem heap_alloc_old (w : World) (o : Obj) (b : Nat) (h : b < w.heap.size) : (w.alloc o).heap[b]? = w.heap[b]? := RowKit.Below.heap_alloc w o b h
theorem heap_alloc_new (w : World) (o : Obj) : (w.alloc o).heap[w.heap.size]? = some o := by
  show (w.heap.push o)[w.heap.size]? = _
  simp
theorem size_alloc' (w : World) (o : Obj) : (w.alloc o).heap.size = w.heap.size + 1 := by
  show (w.heap.push o).size = _
  simp

theorem new_range (w : World) (cells : Array Value) (t : TypeId) : (w.alloc (.cells cells t)).rangeAt w.heap.size 0 cells.toList := by
  intro j v hv
  simp only [World.cell?, heap_alloc_new, Option.isSome_none, Bool.false_eq_true, if_false, Nat.zero_add]
  rw [← Array.getElem?_toList]; exact hv
theorem new_there (w : World) (cells : Array Value) (t : TypeId) : (w.alloc (.cells cells t)).there w.heap.size 0 cells.toList.length := by
  intro j hj
  refine ⟨?_, ?_⟩
  · simp only [World.cell?, heap_alloc_new, Option.isSome_none, Bool.false_eq_true, if_false, Nat.zero_add]
    rw [← Array.getElem?_toList, List.getElem?_eq_getElem hj]; rfl
  · simp only [World.frozen?, heap_alloc_new]; simp

theorem killed_ids (id : Nat) (cs : List PV) : ∀ p ∈ cs.map (PV.kill id), ∀ i ∈ p.ids, i ≠ id := by
  intro p hp i hi
  obtain ⟨q, _, rfl⟩ := List.mem_map.1 hp
  exact kill_ids id q i hi

/-- A new variable. -/
theorem Sim.box (h : Sim E G s a w) (id : Nat) (hid : id % 64 ≠ 63) {cs : List PV} {v : Value} {t : TypeId} (hc : RepCs G.S G.σ w cs v.cells.toList) :
    Sim E ⟨G.S, upd G.σ id ⟨.pointer (some ⟨w.heap.size, 0, none⟩), 0, 0⟩⟩ (s.new id (.box cs)) a (w.alloc (.cells v.cells t)) := by
  refine h.fresh id (.box cs) ⟨.pointer (some ⟨w.heap.size, 0, none⟩), 0, 0⟩ none rfl rfl rfl (by rw [size_alloc']; omega) (fun b hb _ => heap_alloc_old w _ b hb) (fun k hk => by simp at hk) (fun k hk => ?_) hid ?_
  · simp only [blockOf, Option.some.injEq] at hk; subst hk
    exact ⟨.inl (Nat.le_refl _), by rw [size_alloc']; omega⟩
  · refine ⟨w.heap.size, 0, v.cells.toList, by rw [upd_same], ?_, new_range w _ t, new_there w _ t⟩
    exact RepCs.keep (fun _ x => x) (fun b hb => heap_alloc_old w _ b (h.old b hb)) (fun p hp i hi => upd_ne (killed_ids id cs p hp i hi)) (mapC_rep (fun p vs => kill_rep) hc)

theorem run_newVar {P : Program} (t : TypeId) (v : Value) : (newVar t v).run P w = .ok ⟨w.heap.size, 0, none⟩ (w.alloc (.cells v.cells t)) := by
  simp [newVar, newRow]

theorem ptr_rep {id : Nat} {b : Nat} {t : TypeId} {z : Nat} : RepC S (upd σ id ⟨.pointer (some ⟨b, 0, none⟩), t, z⟩) w (.ptr id 0) [.pointer (some ⟨b, 0, none⟩)] := ⟨b, 0, by rw [upd_same], rfl⟩

theorem alloc_sound (hC : C.OK) (h : Sim E G s a w) {t : TypeId} {I : TI} (hI : C.ti t = some I) {id : Nat} (hid : id % 64 ≠ 63) {k : SV → St → Option R} (e : k (.v (.ptr id 0)) (s.new id (.box I.zero)) = some r) :
    Done E a C.P (Instr.alloc t true (.tuple #[])) w k r := by
  obtain ⟨⟨i, z, hi, hs, _, hz, hsame, _⟩, _⟩ := hC.ti t I hI
  have hrun : (Instr.alloc t true (.tuple #[])).run C.P w = .ok (.pointer (some ⟨w.heap.size, 0, none⟩)) (w.alloc (.cells z.cells t)) := by
    simp [Instr.alloc, zeroValue, typeInfo, hi, hz, run_newVar]
  exact ⟨_, _, _, _, _, hrun, RepS.v ptr_rep, h.box id hid (sameAll_rep hsame), e⟩

theorem box_sound (h : Sim E G s a w) {P : Program} {t : TypeId} {id : Nat} (hid : id % 64 ≠ 63) {x : SV} {v : Value} {cs : List PV} {k : SV → St → Option R} (hx : RepS G.S G.σ w x v) (hcs : x.cells = some cs) (e : k (.v (.ptr id 0)) (s.new id (.box cs)) = some r) :
    Done E a P (Instr.box t v) w k r := by
  have hrun : (Instr.box t v).run P w = .ok (.pointer (some ⟨w.heap.size, 0, none⟩)) (w.alloc (.cells v.cells t)) := by
    simp [Instr.box, run_newVar]
  exact ⟨_, _, _, _, _, hrun, RepS.v ptr_rep, h.box id hid (cells_rep hx hcs), e⟩

/-! ### Structs out of their parts -/
theorem toList_foldl_set : ∀ (new : List Value) (j off : Nat) (cs : Array Value), off + j + new.length ≤ cs.size →
    ((new.zipIdx j).foldl (fun cs (c : Value × Nat) => cs.setIfInBounds (off + c.2) c.1) cs).toList = cs.toList.take (off + j) ++ (new ++ cs.toList.drop (off + j + new.length))
  | [], j, off, cs, _ => by simp
  | v :: new, j, off, cs, h => by
    simp only [List.length_cons] at h
    simp only [List.zipIdx_cons, List.foldl_cons]
    rw [toList_foldl_set new (j + 1) off _ (by simp; omega)]
    simp only [Array.toList_setIfInBounds, List.length_cons]
    have hlt : off + j < cs.toList.length := by simp; omega
    rw [List.take_set, List.drop_set, if_pos (by omega), show off + (j + 1) = off + j + 1 by omega, List.take_succ_eq_append_getElem hlt, List.set_append, if_neg (by simp; omega)]
    have : off + j - (List.take (off + j) cs.toList).length = 0 := by simp; omega
    rw [this]
    simp only [List.set_cons_zero, List.append_assoc, List.cons_append, List.nil_append]
    congr 3
    rw [show off + j + 1 + new.length = off + j + (new.length + 1) by omega]

theorem takeC_le : ∀ {cs t : List PV} {n : Nat}, dropC cs n = some t → n ≤ widthC cs
  | _, _, 0, _ => Nat.zero_le _
  | [], _, n + 1, h => by simp [dropC] at h
  | p :: cs, t, n + 1, h => by
    simp only [dropC] at h
    cases hle : Nat.ble p.width (n + 1) with
    | false => rw [hle] at h; simp at h
    | true =>
      rw [hle] at h
      have := takeC_le h
      have := Nat.le_of_ble_eq_true hle
      simp only [widthC]; omega

theorem fill_sound {place : Nat → Option (Nat × Nat)} : ∀ {ps : List (Nat × SV)} {vs : List (Nat × Value)} {cs out : List PV} {cells : Array Value},
    All2 (fun (p : Nat × SV) (q : Nat × Value) => p.1 = q.1 ∧ RepS S σ w p.2 q.2) ps vs → RepCs S σ w cs cells.toList → fillC place cs ps = some out →
    ∃ cells' : Array Value, Instr.fill place cells vs = some cells' ∧ RepCs S σ w out cells'.toList := by
  intro ps
  induction ps with
  | nil => intro vs cs out cells h hc e; cases h; simp only [fillC, Option.some.injEq] at e; subst e; exact ⟨cells, rfl, hc⟩
  | cons p ps ih =>
    obtain ⟨i, x⟩ := p
    intro vs cs out cells h hc e
    cases h with
    | @cons _ q _ vs hq hps =>
      obtain ⟨j, v⟩ := q
      obtain ⟨rfl, hx⟩ := hq
      simp only [fillC] at e
      split at e
      · rename_i off size new hpl hnew
        rcases cond_some e with ⟨hw, e⟩ | ⟨_, e⟩
        · have hw := Nat.eq_of_beq_eq_true hw
          split at e
          · rename_i cs' hput
            have hn := cells_rep hx hnew
            have hlen := RepCs.length hn
            rw [hw] at hlen
            have hle : off + size ≤ cells.size := by
              unfold putC at hput
              split at hput
              · rename_i hd
                have := takeC_le hd
                have h2 := RepCs.length hc
                simp at h2; omega
              · simp at hput
            have hnl : v.cells.size = size := by simpa using hlen
            have hput' := RepCs.put hc hput hn hlen
            have := toList_foldl_set v.cells.toList 0 off cells (by simp; omega)
            obtain ⟨cells', h1, h2⟩ := ih (cells := ((v.cells.toList.zipIdx 0).foldl (fun cs (c : Value × Nat) => cs.setIfInBounds (off + c.2) c.1) cells)) hps (by rw [this]; simpa [hnl] using hput') e
            refine ⟨cells', ?_, h2⟩
            rw [Instr.fill, hpl]
            simp only
            rw [if_neg (by simp [hnl]; omega)]
            rw [← h1]
            congr 1
            rw [← Array.foldl_toList, Array.toList_zipIdx]
          · simp at e
        · simp at e
      · simp at e

theorem evs_rep (h : Sim E G s a w) : ∀ (ps : List (Nat × Operand)), (∀ p ∈ ps, Operand.fine p.2 = true) → All2 (fun (p : Nat × SV) (q : Nat × Value) => p.1 = q.1 ∧ RepS G.S G.σ w p.2 q.2) (s.evs ps) (ps.map fun p => (p.1, a.eval p.2))
  | [], _ => .nil
  | p :: ps, hf => .cons ⟨rfl, ev_rep h p.2 (hf p (by simp))⟩ (evs_rep h ps fun q hq => hf q (by simp [hq]))

theorem mapM_places {P : Program} : ∀ {l : List Field} {fs : List (Nat × Nat)}, All2 (fun (f : Field) (x : Nat × Nat) => f.offset = x.1 ∧ ∃ i, P.info? f.type = some i ∧ i.size = x.2) l fs →
    (l.mapM (m := Sem) fun f => do pure (f.offset, ← sizeOf f.type)).run P w = .ok fs w
  | _, _, .nil => by simp
  | _, _, .cons ⟨h1, i, h2, h3⟩ t => by
    rw [List.mapM_cons]
    simp only [Sem.run_bind, run_sizeOf' h2, Result.andThen_ok, Sem.run_pure, mapM_places t, h1, h3]


theorem agg_eq {c : Array Value} {v : Value} (h : v = .agg c) : v = .agg c.toList.toArray := by simpa using h

theorem build_sound (hC : C.OK) (h : Sim E G s a w) {t : TypeId} {I : TI} (hI : C.ti t = some I) {ps : Array (Nat × Operand)} (hf : ∀ p ∈ ps.toList, Operand.fine p.2 = true) {cs : List PV} {pl : Nat → Option (Nat × Nat)} {k : SV → St → Option R}
    (hpl : placesOf C I = some pl) (hcs : fillC pl I.zero (s.evs ps.toList) = some cs) (e : k (.agg cs) s = some r) : Done E a C.P (Instr.build t (ps.map fun (i, x) => (i, a.eval x))) w k r := by
  obtain ⟨⟨i, z, hi, hs, _, hz, hsame, _⟩, ⟨d, hu, hd, hsh, _⟩, _⟩ := hC.ti t I hI
  have hev := evs_rep h ps.toList hf
  have hlist : (ps.map fun (i, x) => (i, a.eval x)).toList = ps.toList.map fun p => (p.1, a.eval p.2) := by simp
  have hcells : RepCs G.S G.σ w I.zero z.cells.toList := sameAll_rep hsame
  have hzero : (zeroValue t).run C.P w = .ok z w := by simp [zeroValue, typeInfo, hi, hz]
  obtain ⟨cells', h1, h2⟩ := fill_sound hev hcells hcs
  unfold placesOf at hpl
  split at hpl
  · rename_i fs _ hI'
    rw [hI'] at hsh
    simp only at hsh
    obtain ⟨l, rfl, hl, _⟩ := hsh
    simp only [Option.some.injEq] at hpl
    subst hpl
    refine Done.pure (x := .agg cs) (v := .agg cells') h ?_ ⟨cells'.toList, agg_eq rfl, h2⟩ e
    have hm : (l.toArray.mapM (m := Sem) fun f => do pure (f.offset, ← sizeOf f.type)).run C.P w = .ok fs.toArray w := by
      rw [List.mapM_toArray, map_eq_pure_bind, Sem.run_bind, mapM_places hl]
      rfl
    simp only [Instr.build, Sem.run_bind, hzero, run_underlying hu, Result.andThen_ok, hm, hlist]
    have : (fun i : Nat => fs.toArray[i]?) = fun i => fs[i]? := by funext i; simp
    rw [this, h1]
    simp
  · rename_i n q hI'
    rw [hI'] at hsh
    simp only at hsh
    subst hsh
    split at hpl
    · rename_i Q hq
      simp only [Option.some.injEq] at hpl
      subst hpl
      obtain ⟨⟨i', z', hi', hs', _⟩, _⟩ := hC.ti q Q hq
      refine Done.pure (x := .agg cs) (v := .agg cells') h ?_ ⟨cells'.toList, agg_eq rfl, h2⟩ e
      simp only [Instr.build, Sem.run_bind, hzero, run_underlying hu, Result.andThen_ok, run_sizeOf' hi', hlist, hs', h1]
      simp
    · simp at hpl
  · simp at hpl
end Go.Pr
