/- Each operation does what the interpreter says: slices' literals, stores, append (the operations). -/
import Derived.Test.YtpfplngeakmghaaPrI
namespace Go.Pr
set_option linter.unusedVariables false
variable {S S' : Nat → Prop} {σ σ' : Sg} {w w' : World} {E : En} {G : Gh} {s : St} {a : Act} {C : Cfg} {R : Type} {r : R}

theorem All2.length {α β : Type} {Q : α → β → Prop} : ∀ {xs : List α} {ys : List β}, All2 Q xs ys → xs.length = ys.length
  | _, _, .nil => rfl
  | _, _, .cons _ t => by simp [t.length]

theorem own_rep {id : Nat} {p : Option Addr} {n c : Nat} {t : TypeId} {z : Nat} : RepC S (upd σ id ⟨.slice p n c, t, z⟩) w (.own id) [.slice p n c] := ⟨by rw [upd_same], p, n, c, by rw [upd_same]⟩

theorem buildSlice_sound (hC : C.OK) (h : Sim E G s a w) {t e n : Nat} {I : TI} {Q : TI} (hI : C.ti t = some I) (hsh : I.sh = .slice e) (hQ : C.ti e = some Q) {id : Nat} (hid : id % 64 ≠ 63) {ps : Array (Nat × Operand)} (hf : ∀ p ∈ ps.toList, Operand.fine p.2 = true) {xs : List Q.ty.den} {k : SV → St → Option R}
    (hxs : rowsOf Q.ty s 0 (s.evs ps.toList) = some xs) (hn : ps.toList.length = n) (hz1 : 1 ≤ Q.size) (hz2 : n * Q.size ≤ 16777216)
    (e' : k (.v (.own id)) ((s.still (cellsOfAll (s.evs ps.toList))).new id (.rows e Q.ty xs)) = some r) : Done E a C.P (Instr.buildSlice t n (ps.map fun (i, x) => (i, a.eval x))) w k r := by
  obtain ⟨_, ⟨d, hu, _, hd, _⟩, _⟩ := hC.ti t I hI
  rw [hsh] at hd; simp only at hd; subst hd
  obtain ⟨⟨i, z, hi, hs, _, hz, hsame, _⟩, _, hsz⟩ := hC.ti e Q hQ
  have hev := evs_rep h ps.toList hf
  have hlist : (ps.map fun (i, x) => (i, a.eval x)).toList = ps.toList.map fun p => (p.1, a.eval p.2) := by simp
  obtain ⟨S', hS, hfr, hch, hsim⟩ := h.still (cs := cellsOfAll (s.evs ps.toList))
  obtain ⟨hl, us, h1, h2, h3, h4⟩ := rowsOf_rep h hS hev hfr hxs
  have hlen : (s.evs ps.toList).length = n := by simp [St.evs, hn]
  have hvl : (ps.toList.map fun p => (p.1, a.eval p.2)).length = n := by simpa using hn
  rw [hsz] at h3
  have hxl : xs.length = n := by rw [hl, hlen]
  have hus : us.flatten.length = n * Q.size := by
    have := RepRows.length (RepT.length (S := S') (w := w) Q.ty) h1
    rw [this, hxl, hsz]
  let cells0 : Array Value := (Array.range (n * Q.size)).map fun i => (if n * Q.size = 0 then #[] else z.cells)[i % (if n * Q.size = 0 then (#[] : Array Value) else z.cells).size]!
  obtain ⟨cells', hfill, hcl⟩ := fill_rows (i := 0) (cells := cells0) h3 h4 (by rw [Nat.zero_add, hvl]; simp only [cells0, Array.size_map, Array.size_range])
  simp only [Nat.zero_mul, List.take_zero, List.nil_append] at hcl
  have hrun : (Instr.buildSlice t n (ps.map fun (i, x) => (i, a.eval x))).run C.P w = .ok (.slice (some ⟨w.heap.size, 0, none⟩) n n) (w.alloc (.cells cells' e)) := by
    simp only [Instr.buildSlice, Sem.run_bind, run_underlying hu, Result.andThen_ok, run_sizeOf' hi, hs]
    rw [if_neg (by omega)]
    by_cases h0 : n * Q.size = 0
    · simp only [h0, if_true, pure_bind]
      have : cells0 = (Array.range 0).map fun i => (#[] : Array Value)[i % (#[] : Array Value).size]! := by simp only [cells0, h0, if_true]
      rw [hlist, ← this, hfill]
      simp [newRow]
    · have hzero : (zeroValue e).run C.P w = .ok z w := by simp [zeroValue, typeInfo, hi, hz]
      have : cells0 = (Array.range (n * Q.size)).map fun i => z.cells[i % z.cells.size]! := by simp only [cells0, h0, if_false]
      simp only [h0, if_false, Sem.run_bind, hzero, Result.andThen_ok, pure_bind]
      rw [hlist, ← this, hfill]
      simp [newRow]
  have hnm : n ≤ 16777216 := Nat.le_trans (Nat.le_mul_of_pos_right n hz1) hz2
  refine ⟨_, _, _, _, _, hrun, RepS.v own_rep, hsim.fresh id (.rows e Q.ty xs) ⟨.slice (some ⟨w.heap.size, 0, none⟩) n n, e, Q.size⟩ none rfl rfl rfl (by rw [size_alloc']; omega) (fun b hb _ => heap_alloc_old w _ b hb) (fun k hk => by simp at hk) (fun k hk => ?_) hid ?_, e'⟩
  · simp only [blockOf, Option.some.injEq] at hk; subst hk
    exact ⟨.inl (Nat.le_refl _), by rw [size_alloc']; omega⟩
  · simp only [Blk.map, RepB, upd_same]
    refine ⟨us.flatten, RepRows.imp (RepT.keep (fun _ x => x) (fun b hb => heap_alloc_old w _ b (hsim.old b hb)) Q.ty) _ _ h1, ⟨by rw [hus, hxl, hsz], .inr ⟨w.heap.size, n, cells', by rw [hxl], Nat.zero_le _, heap_alloc_new w _, by rw [hxl]; exact Nat.le_refl _, by simp only [maxLen]; omega, ?_, ?_⟩⟩, hsz.symm, by rw [hsz]; exact hz1⟩
    · rw [hsz, ← hus, ← hcl]; simp
    · rw [hcl, hxl, hsz, ← hus, List.take_length]

/-! ### Stores -/
theorem run_storeAt_any {P : Program} {t : TypeId} {b o : Nat} {v : Value} {i : TypeInfo} (hi : P.info? t = some i) (hs : i.size = v.cells.toList.length) (ht : w.there b o v.cells.toList.length) (h1 : ∀ u ∈ v.cells.toList, u.oneCell' = true) :
    (Instr.storeAt t (.pointer (some ⟨b, o, none⟩)) v).run P w = .ok () (w.setCells b o v.cells.toList) := by
  have := run_storeCells_cells (P := P) b o v.cells.toList 0 w (fun j hj => by simpa using (ht j hj).1) (fun j hj => by simpa using (ht j hj).2) h1
  simp only [Nat.add_zero] at this
  simp only [Instr.storeAt, Instr.sureAddr, storeVar, Sem.run_bind, Sem.run_pure, Result.andThen_ok, run_sizeOf' hi]
  rw [if_neg (by rw [hs]; simp)]
  exact this

theorem heap_setCells_ne (b : Nat) : ∀ (vs : List Value) (o : Nat) (w : World) (k : Nat), k ≠ b → (w.setCells b o vs).heap[k]? = w.heap[k]?
  | [], _, _, _, _ => rfl
  | v :: vs, o, w, k, h => by
    rw [World.setCells, heap_setCells_ne b vs (o + 1) _ k h]
    exact RowKit.Below.heap_setCell w ⟨b, o, none⟩ v k h
theorem size_setCells (b : Nat) : ∀ (vs : List Value) (o : Nat) (w : World), (w.setCells b o vs).heap.size = w.heap.size
  | [], _, _ => rfl
  | v :: vs, o, w => by rw [World.setCells, size_setCells b vs]; simp [World.setCell]
theorem rest_setCells (b : Nat) : ∀ (vs : List Value) (o : Nat) (w : World), (w.setCells b o vs).os = w.os ∧ (w.setCells b o vs).tape = w.tape ∧ (w.setCells b o vs).output = w.output
  | [], _, _ => ⟨rfl, rfl, rfl⟩
  | v :: vs, o, w => by rw [World.setCells]; exact rest_setCells b vs _ _

theorem heap_setCells_same (b : Nat) (t : TypeId) (fr : Nat × Nat) : ∀ (vs : List Value) (o : Nat) (w : World) (cur : Array Value), w.heap[b]? = some (.cells cur t fr) → o + vs.length ≤ cur.size →
    ∃ cur' : Array Value, (w.setCells b o vs).heap[b]? = some (.cells cur' t fr) ∧ cur'.toList = cur.toList.take o ++ (vs ++ cur.toList.drop (o + vs.length))
  | [], o, w, cur, h, hl => ⟨cur, h, by simp⟩
  | v :: vs, o, w, cur, h, hl => by
    simp only [List.length_cons] at hl
    have h1 : (w.setCell ⟨b, o, none⟩ v).heap[b]? = some (.cells (cur.setIfInBounds o v) t fr) := by
      simp only [World.setCell, Array.getElem?_modify, if_true, h, Option.map_some]
      simp
    obtain ⟨cur', h2, h3⟩ := heap_setCells_same b t fr vs (o + 1) _ _ h1 (by simp; omega)
    refine ⟨cur', h2, ?_⟩
    rw [h3]
    have hlt : o < cur.toList.length := by simp; omega
    simp only [Array.toList_setIfInBounds, List.length_cons]
    rw [List.take_set, List.drop_set, if_pos (by omega), List.take_succ_eq_append_getElem hlt, List.set_append, if_neg (by simp; omega)]
    have : o - (List.take o cur.toList).length = 0 := by simp; omega
    rw [this]
    simp only [List.set_cons_zero, List.append_assoc, List.cons_append, List.nil_append]
    rw [show o + 1 + vs.length = o + (vs.length + 1) by omega]

/-- Cells in the middle of a range are written. -/
theorem rangeAt_put {b o off : Nat} {vs us : List Value} (hr : w.rangeAt b o vs) (ht : w.there b o vs.length) (hl : off + us.length ≤ vs.length) : (w.setCells b (o + off) us).rangeAt b o (vs.take off ++ (us ++ vs.drop (off + us.length))) := by
  intro j v hv
  by_cases h1 : j < off
  · rw [List.getElem?_append_left (by simp; omega), List.getElem?_take, if_pos h1] at hv
    rw [World.cell?_setCells_out b us (o + off) w ⟨b, o + j, none⟩ (fun _ _ => .inl (by show o + j < o + off; omega))]
    exact hr j v hv
  · have hlen : (vs.take off).length = off := by simp; omega
    rw [List.getElem?_append_right (by omega), hlen] at hv
    by_cases h2 : j - off < us.length
    · rw [List.getElem?_append_left h2] at hv
      have := World.rangeAt_setCells_same w b (o + off) us (fun q hq => by have := ht (off + q) (by omega); rwa [← Nat.add_assoc] at this) (j - off) v hv
      rwa [show o + off + (j - off) = o + j by omega] at this
    · rw [List.getElem?_append_right (by omega), List.getElem?_drop, show off + us.length + (j - off - us.length) = j by omega] at hv
      rw [World.cell?_setCells_out b us (o + off) w ⟨b, o + j, none⟩ (fun _ _ => .inr (by show o + off + us.length ≤ o + j; omega))]
      exact hr j v hv

theorem isSome_setCell (w : World) (a x : Addr) (v : Value) : ((w.setCell a v).cell? x).isSome = (w.cell? x).isSome := by
  simp only [World.cell?, World.setCell, Array.getElem?_modify]
  by_cases h : a.block = x.block
  · rw [if_pos h]
    cases w.heap[x.block]? with
    | none => rfl
    | some o =>
      cases o <;> simp
      split
      · rfl
      · split
        · rfl
        · rw [Array.getElem?_setIfInBounds]
          split
          · rename_i he
            split
            · rename_i hh; simp; omega
            · rename_i hh; simp; omega
          · rfl
  · rw [if_neg h]
theorem isSome_setCells_eq (b : Nat) : ∀ (vs : List Value) (o : Nat) (w : World) (x : Addr), ((w.setCells b o vs).cell? x).isSome = (w.cell? x).isSome
  | [], _, _, _ => rfl
  | v :: vs, o, w, x => by rw [World.setCells, isSome_setCells_eq b vs, isSome_setCell]

/-- What is kept when cells of a block of the call's own are written. -/
theorem KeptM.put {W : World} {M : Nat → Nat → Prop} (h : KeptM W w M) (b o : Nat) (us : List Value) (hb : W.heap.size ≤ b ∨ ∀ j, j < us.length → M b (o + j)) : KeptM W (w.setCells b o us) M := by
  obtain ⟨h1, h2, h3⟩ := rest_setCells b us o w
  refine ⟨h1.trans h.os, h2.trans h.tape, h3.trans h.output, by rw [size_setCells]; exact h.size, fun k hk hM => ?_, fun k hk q hM => ?_, fun k hk q => ?_, fun k hk q => ?_⟩
  · by_cases hkb : k = b
    · subst hkb
      rcases hb with hb | hb
      · omega
      · cases us with
        | nil => exact h.block k hk hM
        | cons u us => exact absurd (hb 0 (by simp)) (hM _)
    · rw [heap_setCells_ne b us o w k hkb]; exact h.block k hk hM
  · refine ⟨?_, trivial⟩
    rw [World.cell?_setCells_out b us o w ⟨k, q, none⟩ (fun hkb _ => ?_)]
    · exact (h.cells k hk q hM).1
    · simp only at hkb
      subst hkb
      rcases hb with hb | hb
      · omega
      · by_cases hq : q < o
        · exact .inl hq
        · by_cases hq2 : o + us.length ≤ q
          · exact .inr hq2
          · have := hb (q - o) (by omega)
            rw [show o + (q - o) = q by omega] at this
            exact absurd this hM
  · rw [World.frozen?_setCells]; exact h.frozen k hk q
  · by_cases hs : (w.cell? ⟨k, q, none⟩).isSome = true
    · rw [World.isSome_setCells b us o w _ hs, ← h.there k hk q, hs]
    · have : ((w.setCells b o us).cell? ⟨k, q, none⟩).isSome = (w.cell? ⟨k, q, none⟩).isSome := isSome_setCells_eq b us o w ⟨k, q, none⟩
      rw [this]; exact h.there k hk q

theorem there_put {b o n : Nat} (h : w.there b o n) (b' o' : Nat) (us : List Value) : (w.setCells b' o' us).there b o n := World.there_setCells h b' o' us

/-- A variable of the call's own is written. -/
theorem Sim.storeBox (h : Sim E G s a w) {id off n : Nat} {cs cs' new : List PV} {us : List Value} {b o : Nat} (hm : s.mem id = some (.box cs)) (hσ : (G.σ id).v = .pointer (some ⟨b, o, none⟩))
    (hn : RepCs G.S G.σ w new us) (hl : us.length = n) (hput : putC cs off n new = some cs') : Sim E G (s.setM id (some (.box cs'))) a (w.setCells b (o + off) us) := by
  obtain ⟨b', o', vs, hσ', hc, hr, ht⟩ := h.mem id _ hm
  rw [hσ] at hσ'
  simp only [Value.pointer.injEq, Option.some.injEq, Addr.mk.injEq, and_true] at hσ'
  obtain ⟨rfl, rfl⟩ := hσ'
  have hbS := h.off id _ hm b (by rw [hσ]; rfl)
  have hold : Holds G.S w (w.setCells b (o + off) us) := fun q hq => heap_setCells_ne b us _ w q (fun e => hbS.1 (e ▸ hq))
  have hle : off + n ≤ vs.length := by
    unfold putC at hput
    split at hput
    · rename_i hd
      have := takeC_le hd
      have h2 := RepCs.length hc
      omega
    · simp at hput
  have hput' := RepCs.put hc hput hn hl
  have hlen' : widthC cs' = widthC cs := by
    rw [← RepCs.length hput', ← RepCs.length hc]; simp; omega
  refine ⟨h.defers, h.size, fun t => RepS.keep (fun _ x => x) hold (fun _ _ => rfl) (h.tmp t), fun i c hc' => ?_, fun i j bi bj hi hj hne k hk => ?_, fun i bi hi k hk => ?_, fun q hq => by rw [size_setCells]; exact h.old q hq, ?_, h.sub, h.new, fun i bi hi => ?_, h.sep, fun i bi h63 hi => by
    rcases setM_some hi with ⟨rfl, _⟩ | ⟨_, hi⟩
    · exact h.par i _ h63 hm
    · exact h.par i _ h63 hi⟩
  · rcases setM_some hc' with ⟨rfl, rfl⟩ | ⟨hne, hi⟩
    · refine ⟨b, o, vs.take off ++ (us ++ vs.drop (off + us.length)), hσ, ?_, rangeAt_put hr ht (by omega), ?_⟩
      · rw [hl]; exact RepCs.keep (fun _ x => x) hold (fun _ _ _ _ => rfl) hput'
      · have : (vs.take off ++ (us ++ vs.drop (off + us.length))).length = vs.length := by simp; omega
        rw [this]; exact there_put ht _ _ _
    · exact RepB.keep (fun _ x => x) hold rfl (fun _ _ => rfl) (fun k hk => heap_setCells_ne b us _ w k (fun e => by
        subst e
        exact h.apart i id _ _ hi hm hne k hk (by rw [hσ]; rfl))) (h.mem i c hi)
  · have : ∀ {i bi}, (s.setM id (some (.box cs'))).mem i = some bi → ∃ b0, s.mem i = some b0 := fun hi => by
      rcases setM_some hi with ⟨rfl, _⟩ | ⟨_, hi⟩
      · exact ⟨_, hm⟩
      · exact ⟨_, hi⟩
    obtain ⟨b0, h0⟩ := this hi
    obtain ⟨b1, h1⟩ := this hj
    exact h.apart i j b0 b1 h0 h1 hne k hk
  · rcases setM_some hi with ⟨rfl, _⟩ | ⟨_, hi⟩
    · rw [size_setCells]; exact h.off i _ hm k hk
    · rw [size_setCells]; exact h.off i _ hi k hk
  · refine h.kept.put b (o + off) us ?_
    rcases h.mine id _ hm with hh | ⟨cs0, b0, o0, e0, e1, hM⟩
    · exact .inl (hh b (by rw [hσ]; rfl))
    · right
      simp only [Blk.box.injEq] at e0
      subst e0
      rw [hσ] at e1
      simp only [Value.pointer.injEq, Option.some.injEq, Addr.mk.injEq, and_true] at e1
      obtain ⟨rfl, rfl⟩ := e1
      intro j hj
      have := hM (off + j) (by rw [← RepCs.length hc]; omega)
      rwa [← Nat.add_assoc] at this
  · rcases setM_some hi with ⟨rfl, rfl⟩ | ⟨_, hi⟩
    · refine (h.mine i _ hm).imp (fun x => x) ?_
      rintro ⟨cs0, b0, o0, e0, e1, hM⟩
      simp only [Blk.box.injEq] at e0
      subst e0
      exact ⟨cs', b0, o0, rfl, e1, by rw [hlen']; exact hM⟩
    · exact h.mine i _ hi

/-- An element of a slice of the call's own is written. -/
theorem Sim.storeElt (h : Sim E G s a w) {id : Nat} {T : TypeId} {e : Ty} {xs : List e.den} {x' : e.den} {i off : Nat} {us full : List Value} {b c : Nat} (hm : s.mem id = some (.rows T e xs)) (hσ : (G.σ id).v = .slice (some ⟨b, 0, none⟩) xs.length c) (hi : i < xs.length)
    (hfull : RepT G.S w e x' full) (hsub : ∀ vs : List Value, RepRows (RepT G.S w e) xs vs → w.ownsRow 0 T e.size (G.σ id).v xs.length vs → full = ((vs.drop (i * e.size)).take e.size).take off ++ (us ++ ((vs.drop (i * e.size)).take e.size).drop (off + us.length)) ∧ off + us.length ≤ e.size) :
    Sim E G (s.setM id (some (.rows T e (xs.set i x')))) a (w.setCells b (i * e.size + off) us) := by
  obtain ⟨vs, hr, ho, hz, hpos⟩ := h.mem id _ hm
  obtain ⟨hf, hle⟩ := hsub vs hr ho
  have hbS := h.off id _ hm b (by rw [hσ]; rfl)
  have hold : Holds G.S w (w.setCells b (i * e.size + off) us) := fun q hq => heap_setCells_ne b us _ w q (fun e => hbS.1 (e ▸ hq))
  have hvl : vs.length = xs.length * e.size := ho.1
  have hin : i * e.size + e.size ≤ vs.length := by
    rw [hvl]
    have : i * e.size + e.size = (i + 1) * e.size := by rw [Nat.add_mul, Nat.one_mul]
    rw [this]; exact Nat.mul_le_mul_right _ hi
  have hrow' := RepRows.set (RepT.length e) hr i x' full hi hfull
  have hvs' : vs.take (i * e.size) ++ (full ++ vs.drop (i * e.size + e.size)) = vs.take (i * e.size + off) ++ (us ++ vs.drop (i * e.size + off + us.length)) := by
    rw [hf]
    have e1 : ((vs.drop (i * e.size)).take e.size).take off = (vs.drop (i * e.size)).take off := by rw [List.take_take, Nat.min_eq_left (by omega)]
    have e2 : ((vs.drop (i * e.size)).take e.size).drop (off + us.length) ++ vs.drop (i * e.size + e.size) = vs.drop (i * e.size + off + us.length) := by
      rw [List.drop_take, List.drop_drop]
      have : vs.drop (i * e.size + e.size) = (vs.drop (i * e.size + (off + us.length))).drop (e.size - (off + us.length)) := by rw [List.drop_drop]; congr 1; omega
      rw [this, List.take_append_drop, Nat.add_assoc]
    rw [e1, List.append_assoc, List.append_assoc, e2, ← List.append_assoc, List.take_add]
  refine ⟨h.defers, h.size, fun t => RepS.keep (fun _ x => x) hold (fun _ _ => rfl) (h.tmp t), fun j c' hc' => ?_, fun j1 j2 bi bj hj1 hj2 hne k hk => ?_, fun j bi hj k hk => ?_, fun q hq => by rw [size_setCells]; exact h.old q hq, ?_, h.sub, h.new, fun j bi hj => ?_, h.sep, fun i bi h63 hi => by
    rcases setM_some hi with ⟨rfl, _⟩ | ⟨_, hi⟩
    · exact h.par i _ h63 hm
    · exact h.par i _ h63 hi⟩
  · rcases setM_some hc' with ⟨rfl, rfl⟩ | ⟨hne, hj⟩
    · refine ⟨vs.take (i * e.size) ++ (full ++ vs.drop (i * e.size + e.size)), RepRows.imp (RepT.keep (fun _ x => x) hold e) _ _ hrow', ?_, hz, hpos⟩
      rcases ho.2 with ⟨hh, h0⟩ | ⟨g, cap, cur, hh, hg, hheap, hn, hm', hc, ht⟩
      · omega
      · rw [hσ] at hh
        simp only [Value.slice.injEq, Option.some.injEq, Addr.mk.injEq, and_true, true_and] at hh
        obtain ⟨rfl, rfl⟩ := hh
        have hcur : vs.length ≤ cur.size := by rw [hvl, hc]; exact Nat.mul_le_mul_right _ hn
        obtain ⟨cur', h1, h2⟩ := heap_setCells_same b _ _ us (i * e.size + off) w cur hheap (by omega)
        have hfl : full.length = e.size := RepT.length _ _ _ hfull
        refine ⟨?_, .inr ⟨b, c, cur', ?_, Nat.zero_le _, h1, by rw [List.length_set]; exact hn, hm', ?_, ?_⟩⟩
        · rw [List.length_set, ← hvl]; simp; omega
        · rw [hσ, List.length_set]
        · have : cur'.toList.length = cur.toList.length := by rw [h2]; simp; omega
          simpa [hc] using this
        · rw [hvs', h2, List.length_set, ← hvl]
          have hcv : cur.toList.take vs.length = vs := by rw [hvl]; exact ht
          have ht1 : cur.toList.take (i * e.size + off) = vs.take (i * e.size + off) := by
            conv => rhs; rw [← hcv]
            rw [List.take_take, Nat.min_eq_left (by omega)]
          have hd1 : (cur.toList.drop (i * e.size + off + us.length)).take (vs.length - (i * e.size + off + us.length)) = vs.drop (i * e.size + off + us.length) := by
            conv => rhs; rw [← hcv]
            rw [List.drop_take]
          rw [ht1, List.take_append, List.take_of_length_le (by simp; omega)]
          congr 1
          rw [List.take_append, List.take_of_length_le (by simp; omega)]
          congr 1
          rw [← hd1]
          congr 1
          simp; omega
    · exact RepB.keep (fun _ x => x) hold rfl (fun _ _ => rfl) (fun k hk => heap_setCells_ne b us _ w k (fun e => by
        subst e
        exact h.apart j id _ _ hj hm hne k hk (by rw [hσ]; rfl))) (h.mem j c' hj)
  · have : ∀ {i bi}, (s.setM id (some (.rows T e (xs.set i x')))).mem i = some bi → ∃ b0, s.mem i = some b0 := fun hi => by
      rcases setM_some hi with ⟨rfl, _⟩ | ⟨_, hi⟩
      · exact ⟨_, hm⟩
      · exact ⟨_, hi⟩
    have get : ∀ {j bi}, (s.setM id (some (.rows T e (xs.set i x')))).mem j = some bi → ∃ b0, s.mem j = some b0 := fun hi => by
      rcases setM_some hi with ⟨rfl, _⟩ | ⟨_, hi⟩
      · exact ⟨_, hm⟩
      · exact ⟨_, hi⟩
    obtain ⟨b0, h0⟩ := get hj1
    obtain ⟨b1, h1⟩ := get hj2
    exact h.apart j1 j2 b0 b1 h0 h1 hne k hk
  · rcases setM_some hj with ⟨rfl, _⟩ | ⟨_, hj⟩
    · rw [size_setCells]; exact h.off j _ hm k hk
    · rw [size_setCells]; exact h.off j _ hj k hk
  · refine h.kept.put b (i * e.size + off) us (.inl ?_)
    rcases h.mine id _ hm with hh | ⟨cs0, b0, o0, e0, e1, hM⟩
    · exact hh b (by rw [hσ]; rfl)
    · simp at e0
  · rcases setM_some hj with ⟨rfl, rfl⟩ | ⟨_, hj⟩
    · refine .inl ?_
      rcases h.mine j _ hm with hh | ⟨cs0, b0, o0, e0, e1, hM⟩
      · exact hh
      · simp at e0
    · exact h.mine j _ hj
end Go.Pr
