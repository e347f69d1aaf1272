/- Each operation does what the interpreter says: reading operations. -/
import Derived.Test.YtjebgmofebmgaaaGreatPsE
import Derived.Laws.Slices
import Derived.Laws.BytesArg
import Derived.Laws.IdiomStrings
namespace Go.Ps
set_option linter.unusedVariables false
variable {S S' : Nat → Prop} {σ σ' : Sg} {w w' : World} {E : En} {G : Gh} {s : St} {a : Act} {C : Cfg} {R : Type} {r : R}

theorem isStr_under (hC : C.OK) {t : TypeId} (h : isStr C t = true) : C.P.underlying t = some .string := by
  unfold isStr at h
  split at h
  · rename_i I hI
    split at h
    · rename_i hty
      obtain ⟨d, hu, _, _, hd⟩ := (hC.ti t I hI).under
      rw [hty] at hd; simp only at hd; rw [hu, hd]
    · simp at h
  · simp at h
theorem isSlice_under (hC : C.OK) {t : TypeId} (h : isSlice C t = true) : ∃ q, C.P.underlying t = some (.slice q) := by
  unfold isSlice at h
  split at h
  · rename_i I hI
    split at h
    · rename_i q hsh
      obtain ⟨d, hu, _, hd, _⟩ := (hC.ti t I hI).under
      rw [hsh] at hd; simp only at hd; exact ⟨q, by rw [hu, hd]⟩
    · simp at h
  · simp at h
theorem isSliceOf_under (hC : C.OK) {t : TypeId} {e : Ty} (h : isSliceOf C t e = true) : ∃ q i, C.P.underlying t = some (.slice q) ∧ C.P.info? q = some i ∧ i.size = e.size := by
  unfold isSliceOf at h
  split at h
  · rename_i I hI
    split at h
    · rename_i q hsh
      split at h
      · rename_i E hE
        obtain ⟨d, hu, _, hd, _⟩ := (hC.ti t I hI).under
        rw [hsh] at hd; simp only at hd
        obtain ⟨⟨i, z, hi, hs, _⟩, _⟩ := hC.ti q E hE
        exact ⟨q, i, by rw [hu, hd], hi, by rw [hs]; exact Nat.eq_of_beq_eq_true h⟩
      · simp at h
    · simp at h
  · simp at h
theorem sliceElem_under (hC : C.OK) {t : TypeId} {q : TypeId} {e : Ty} (h : sliceElem C t = some (q, e)) : ∃ i, C.P.underlying t = some (.slice q) ∧ C.P.info? q = some i ∧ i.size = e.size ∧ (∀ k, e = .int k → C.P.underlying q = some (.int k)) := by
  unfold sliceElem at h
  split at h
  · rename_i I hI
    split at h
    · rename_i q hsh
      split at h
      · rename_i E hE
        simp only [Option.some.injEq, Prod.mk.injEq] at h
        obtain ⟨rfl, rfl⟩ := h
        obtain ⟨d, hu, _, hd, _⟩ := (hC.ti t I hI).under
        rw [hsh] at hd; simp only at hd
        obtain ⟨⟨i, z, hi, hs, _⟩, ⟨d', hu', _, _, hd'⟩, hsz⟩ := hC.ti q E hE
        exact ⟨i, by rw [hu, hd], hi, by rw [hs, hsz], fun k hk => by rw [hk] at hd'; simp only at hd'; rw [hu', hd']⟩
      · simp at h
    · simp at h
  · simp at h

theorem run_sizeOf' {P : Program} {t : TypeId} {i : TypeInfo} (h : P.info? t = some i) : (sizeOf t).run P w = .ok i.size w := by
  simp [sizeOf, typeInfo, h]

/-! ### Pointers -/
theorem Sub.off_move (q : Sub) (n : Nat) : (q.move n).off = q.off + n := by
  cases q with
  | «at» o => rfl
  | arr o e m j q => simp only [Sub.move, Sub.off]; omega
theorem Sub.ok_move {q : Sub} {n : Nat} (h : q.ok) : (q.move n).ok := by cases q <;> exact h
theorem movePtr_rep {p q : PV} {n : Nat} {v : Value} (h : RepC S σ w p [v]) (e : movePtr p n = some q) : ∃ b o, v = .pointer (some ⟨b, o, none⟩) ∧ RepC S σ w q [.pointer (some ⟨b, o + n, none⟩)] := by
  cases p <;> simp only [movePtr] at e <;> try (simp at e; done)
  case ptr id off =>
    simp only [Option.some.injEq] at e; subst e
    obtain ⟨L, b, o, hL, hv, hq, hx⟩ := h
    simp only [List.cons.injEq, and_true] at hx
    exact ⟨b, o + off.off, hx, L, b, o, hL, hv, Sub.ok_move hq, by rw [Sub.off_move, Nat.add_assoc]⟩
  case elt id i off =>
    simp only [Option.some.injEq] at e; subst e
    obtain ⟨L, b, m, c, hL, hv, h0, hlt, hq, hx⟩ := h
    simp only [List.cons.injEq, and_true] at hx
    exact ⟨b, _, hx, L, b, m, c, hL, hv, h0, hlt, Sub.ok_move hq, by rw [Sub.off_move, Nat.add_assoc]⟩
  case cptr τ x off =>
    simp only [Option.some.injEq] at e; subst e
    obtain ⟨b, o, us, hS, hr, ht, hx⟩ := h
    simp only [List.cons.injEq, and_true] at hx
    exact ⟨b, o + off, hx, b, o, us, hS, hr, ht, by rw [Nat.add_assoc]⟩

theorem fieldOff_under (hC : C.OK) {t : TypeId} {f off size : Nat} (h : fieldOff C t f = some (off, size)) : ∃ l fl i, C.P.underlying t = some (.struct l) ∧ l[f]? = some fl ∧ fl.offset = off ∧ C.P.info? fl.type = some i ∧ i.size = size := by
  unfold fieldOff at h
  split at h
  · rename_i fs _ _ _ _ _ _ _ hI
    obtain ⟨d, hu, _, hd, _⟩ := (hC.ti t _ hI).under
    simp only at hd
    obtain ⟨l, rfl, hl, _⟩ := hd
    obtain ⟨fl, h1, h2, i, h3, h4⟩ := hl.get h
    exact ⟨l.toArray, fl, i, hu, by simpa using h1, h2, h3, h4⟩
  · simp at h
theorem fieldAgg_under (hC : C.OK) {t : TypeId} {f : Nat} {agg : Bool} (h : fieldAgg C t f = some agg) : ∃ l fl d, C.P.underlying t = some (.struct l) ∧ l[f]? = some fl ∧ C.P.underlying fl.type = some d ∧ d.isRow = agg := by
  unfold fieldAgg at h
  split at h
  · rename_i ags _ _ _ _ _ _ hI
    obtain ⟨d, hu, _, hd, _⟩ := (hC.ti t _ hI).under
    simp only at hd
    obtain ⟨l, rfl, _, hl⟩ := hd
    obtain ⟨fl, h1, d, h2, h3⟩ := hl.get h
    exact ⟨l.toArray, fl, d, hu, by simpa using h1, h2, h3⟩
  · simp at h

theorem fieldAddr_run (hC : C.OK) {t : TypeId} {f off size : Nat} (h : fieldOff C t f = some (off, size)) (hs : 1 ≤ size) (b o : Nat) :
    (Instr.fieldAt t (.pointer (some ⟨b, o, none⟩)) f).run C.P w = .ok (.pointer (some ⟨b, o + off, none⟩)) w := by
  obtain ⟨l, fl, i, hu, h1, h2, h3, h4⟩ := fieldOff_under hC h
  simp only [Instr.fieldAt, Sem.run_bind, run_underlying hu, Result.andThen_ok, h1, Instr.sureAddr, Sem.run_pure, fieldPlace, run_sizeOf' h3]
  rw [if_neg (by omega)]
  simp [Addr.add_mid, h2]

theorem field_run (hC : C.OK) {t : TypeId} {f off size : Nat} {agg : Bool} (h : fieldOff C t f = some (off, size)) (h' : fieldAgg C t f = some agg) {vs : List Value} (hl : off + size ≤ vs.length) :
    (agg = true → (Instr.field t (.agg vs.toArray) f).run C.P w = .ok (.agg ((vs.drop off).take size).toArray) w) ∧ (agg = false → ∀ v, (vs.drop off).take size = [v] → (Instr.field t (.agg vs.toArray) f).run C.P w = .ok v w) := by
  obtain ⟨l, fl, i, hu, h1, h2, h3, h4⟩ := fieldOff_under hC h
  obtain ⟨l', fl', d, hu', h1', hd, hr⟩ := fieldAgg_under hC h'
  rw [hu] at hu'
  simp only [Option.some.injEq, TypeDesc.struct.injEq] at hu'
  subst hu'
  rw [h1] at h1'
  simp only [Option.some.injEq] at h1'
  subst h1'
  refine ⟨fun ha => ?_, fun ha v hv => ?_⟩
  · simp only [Instr.field, Sem.run_bind, run_underlying hu, Result.andThen_ok, h1, part, run_isAgg hd, hr, ha, asAgg, Sem.run_pure, h2, if_true, run_sizeOf' h3, h4]
    congr 3
    apply Array.toList_inj.1
    simp [List.take_drop]
  · have hget : vs[off]? = some v := by
      have : ((vs.drop off).take size)[0]? = some v := by rw [hv]; rfl
      rw [List.getElem?_take] at this
      split at this
      · rw [List.getElem?_drop] at this; simpa using this
      · simp at this
    simp only [Instr.field, Sem.run_bind, run_underlying hu, Result.andThen_ok, h1, part, run_isAgg hd, hr, ha, asAgg, Sem.run_pure, h2]
    simp [hget]

/-! ### Elements -/
theorem inL_true {n : Int} {m : Nat} (h : inL n m = true) : 0 ≤ n ∧ n < (m : Int) := by
  simp only [inL, Bool.and_eq_true, decide_eq_true_eq] at h; exact h

theorem indexAt_slice {P : Program} {t q : TypeId} {i : TypeInfo} {kd : IntKind} {n : Int} {b o m c z : Nat} (hu : P.underlying t = some (.slice q)) (hi : P.info? q = some i) (hz : i.size = z) (h0 : 0 ≤ n) (h1 : n < (m : Int)) :
    (Instr.indexAt t (.slice (some ⟨b, o, none⟩) m c) (.int kd n)).run P w = .ok (.pointer (some ⟨b, o + n.toNat * z, none⟩)) w := by
  simp only [Instr.indexAt, Sem.run_bind, asIntOf, Sem.run_pure, Result.andThen_ok, run_underlying hu]
  rw [if_pos ⟨h0, h1⟩]
  simp [run_sizeOf' hi, hz, Addr.add_mid]


theorem arrOf_under (hC : C.OK) {t : TypeId} {m : Nat} {e : Ty} (h : arrOf C t = some (m, e)) : ∃ q i, C.P.underlying t = some (.array m q) ∧ C.P.info? q = some i ∧ i.size = e.size := by
  unfold arrOf at h
  split at h
  · rename_i I hI
    split at h
    · rename_i n q hsh
      split at h
      · rename_i E hE
        simp only [Option.some.injEq, Prod.mk.injEq] at h
        obtain ⟨rfl, rfl⟩ := h
        obtain ⟨d, hu, _, hd, _⟩ := (hC.ti t I hI).under
        rw [hsh] at hd; simp only at hd
        obtain ⟨⟨i, z, hi, hs, _⟩, _, hsz, _⟩ := hC.ti q E hE
        exact ⟨q, i, by rw [hu, hd], hi, by rw [hs, hsz]⟩
      · simp at h
    · simp at h
  · simp at h
theorem indexAt_array {P : Program} {t q : TypeId} {i : TypeInfo} {kd : IntKind} {n : Int} {b o m z : Nat} (hu : P.underlying t = some (.array m q)) (hi : P.info? q = some i) (hz : i.size = z) (h0 : 0 ≤ n) (h1 : n < (m : Int)) :
    (Instr.indexAt t (.pointer (some ⟨b, o, none⟩)) (.int kd n)).run P w = .ok (.pointer (some ⟨b, o + n.toNat * z, none⟩)) w := by
  simp only [Instr.indexAt, Sem.run_bind, asIntOf, Sem.run_pure, Result.andThen_ok, run_underlying hu, Instr.sureAddr]
  rw [if_pos ⟨h0, h1⟩]
  simp [run_sizeOf' hi, hz, Addr.add_mid]

theorem indexAddrK_sound (hC : C.OK) (h : Sim E G s a w) {t : TypeId} {x : PV} {vx vi : Value} {i : PV} {k : PV → Option R} (hx : RepC G.S G.σ w x [vx]) (hi : RepC G.S G.σ w i [vi]) (e : indexAddrK C s t x i k = some r) :
    ∃ p v, (Instr.indexAt t vx vi).run C.P w = .ok v w ∧ RepC G.S G.σ w p [v] ∧ k p = some r := by
  unfold indexAddrK at e
  split at e
  · rename_i kd n
    have := int_of (x := .undef) hi; subst this
    split at e
    · rename_i e' xs
      rcases cond_some e with ⟨ht, e⟩ | ⟨_, e⟩
      · rcases cond_some e with ⟨hn, e⟩ | ⟨_, e⟩
        · obtain ⟨q, i, hu, hi, hz⟩ := isSliceOf_under hC ht
          obtain ⟨h0, h1⟩ := inL_true hn
          obtain ⟨p, cap, hv, hc, hh⟩ := hx
          simp only [List.cons.injEq, and_true] at hv
          subst hv
          rcases hh with ⟨rfl, _⟩ | ⟨b, o, us, rfl, hS, hr, hrows⟩
          · simp at h1; omega
          · refine ⟨_, _, indexAt_slice hu hi hz h0 h1, ?_, e⟩
            have hi' : n.toNat < xs.length := by omega
            refine ⟨b, o + n.toNat * e'.size, _, hS, rangeAt_sub hr _ e'.size, ?_, rfl⟩
            rw [rd, getD_eq _ _ _ hi']
            exact RepRows.get (RepT.length e') hrows _ hi'
        · simp at e
      · simp at e
    · rename_i id
      split at e
      · rename_i e' xs hm
        rcases cond_some e with ⟨ht, e⟩ | ⟨_, e⟩
        · rcases cond_some e with ⟨hn, e⟩ | ⟨_, e⟩
          · obtain ⟨q, i, hu, hi, hz⟩ := isSliceOf_under hC ht
            obtain ⟨h0, h1⟩ := inL_true hn
            obtain ⟨L, hL, hz', hA⟩ := row_view h hm
            obtain ⟨L', p, m, c, hL', _, hx⟩ := hx
            rw [hL] at hL'; simp only [Option.some.injEq] at hL'; subst hL'
            simp only [List.cons.injEq, and_true] at hx
            subst hx
            rcases hA with ⟨_, h0'⟩ | ⟨b, cap, hv⟩
            · rw [h0'] at h1; simp at h1; omega
            · rw [hv]
              refine ⟨.elt id n (.at 0), _, indexAt_slice hu hi hz h0 h1, ⟨L, b, _, cap, hL, hv, h0, h1, trivial, ?_⟩, e⟩
              simp only [Sub.off, Nat.add_zero, Nat.zero_add, hz']
          · simp at e
        · simp at e
      · simp at e
    · rename_i id o
      split at e
      · rename_i m e' ha
        rcases cond_some e with ⟨hn, e⟩ | ⟨_, e⟩
        · obtain ⟨q, i, hu, hi, hz⟩ := arrOf_under hC ha
          obtain ⟨h0, h1⟩ := inL_true hn
          obtain ⟨L, b, o', hL, hv, _, hx⟩ := hx
          simp only [List.cons.injEq, and_true] at hx
          subst hx
          refine ⟨.ptr id (.arr o e' m n 0), _, indexAt_array hu hi hz h0 h1, ⟨L, b, o', hL, hv, ⟨h0, h1⟩, ?_⟩, e⟩
          simp only [Sub.off, Nat.add_zero, Nat.add_assoc]
        · simp at e
      · simp at e
    · rename_i id j o
      split at e
      · rename_i m e' ha
        rcases cond_some e with ⟨hn, e⟩ | ⟨_, e⟩
        · obtain ⟨q, i, hu, hi, hz⟩ := arrOf_under hC ha
          obtain ⟨h0, h1⟩ := inL_true hn
          obtain ⟨L, b, m', c, hL, hv, g0, g1, _, hx⟩ := hx
          simp only [List.cons.injEq, and_true] at hx
          subst hx
          refine ⟨.elt id j (.arr o e' m n 0), _, indexAt_array hu hi hz h0 h1, ⟨L, b, m', c, hL, hv, g0, g1, ⟨h0, h1⟩, ?_⟩, e⟩
          simp only [Sub.off, Nat.add_zero, Nat.add_assoc]
        · simp at e
      · simp at e
    · rename_i τ x o
      split at e
      · rename_i m e' ha
        split at e
        · rename_i xs hs
          rcases cond_some e with ⟨hn, e⟩ | ⟨_, e⟩
          · obtain ⟨q, i, hu, hi, hz⟩ := arrOf_under hC ha
            obtain ⟨h0, h1⟩ := inL_true hn
            obtain ⟨b, o', us, hS, hr, hT, hx⟩ := hx
            simp only [List.cons.injEq, and_true] at hx
            subst hx
            obtain ⟨⟨g1, g2⟩, g3⟩ := segAt_rep (inj_rep (σ := G.σ) _ _ _ hT) hs
            refine ⟨_, _, indexAt_array hu hi hz h0 h1, ?_, e⟩
            have hi' : n.toNat < xs.length := by omega
            refine ⟨b, o' + o + n.toNat * e'.size, _, hS, rangeAt_sub (rangeAt_sub hr o (m * e'.size)) (n.toNat * e'.size) e'.size, ?_, rfl⟩
            rw [rd, getD_eq _ _ _ hi']
            exact RepRows.get (RepT.length e') g2 _ hi'
          · simp at e
        · simp at e
      · simp at e
    · simp at e
  · simp at e

theorem index_run (hC : C.OK) {t : TypeId} {u : ByteArray} {kd : IntKind} {n : Int} (ht : isStr C t = true) (hn : inL n u.size = true) :
    (Instr.index t (.string u) (.int kd n)).run C.P w = .ok (.int .u8 (bt u n)) w := by
  obtain ⟨h0, h1⟩ := inL_true hn
  have hu := isStr_under hC ht
  have hlt : n.toNat < u.size := by omega
  simp only [Instr.index, Sem.run_bind, asIntOf, Sem.run_pure, Result.andThen_ok, run_underlying hu]
  rw [if_pos h0]
  have : u[n.toNat]? = some u[n.toNat] := getElem?_pos u n.toNat hlt
  rw [this]
  simp only [Sem.run_pure, bt]
  have : u.data.getD n.toNat 0 = u[n.toNat] := by
    have hlt' : n.toNat < u.data.size := hlt
    simp only [Array.getD]
    rw [dif_pos hlt']; rfl
  rw [this]


theorem run_part {P : Program} {t : TypeId} {d : TypeDesc} {i : TypeInfo} (hu : P.underlying t = some d) (hi : P.info? t = some i) (vs : List Value) (off : Nat) (hl : off + i.size ≤ vs.length) :
    (d.isRow = true → (part t vs.toArray off).run P w = .ok (.agg ((vs.drop off).take i.size).toArray) w) ∧ (d.isRow = false → ∀ v, (vs.drop off).take i.size = [v] → (part t vs.toArray off).run P w = .ok v w) := by
  refine ⟨fun ha => ?_, fun ha v hv => ?_⟩
  · simp only [part, Sem.run_bind, run_isAgg hu, Result.andThen_ok, ha, if_true, run_sizeOf' hi, Sem.run_pure]
    congr 3
    apply Array.toList_inj.1
    simp [List.take_drop]
  · have hget : vs[off]? = some v := by
      have : ((vs.drop off).take i.size)[0]? = some v := by rw [hv]; rfl
      rw [List.getElem?_take] at this
      split at this
      · rw [List.getElem?_drop] at this; simpa using this
      · simp at this
    simp only [part, Sem.run_bind, run_isAgg hu, Result.andThen_ok, ha]
    simp [hget]

theorem indexK_sound (hC : C.OK) (h : Sim E G s a w) {t : TypeId} {x : SV} {vx vi : Value} {i : PV} {k : SV → List Upd → List Nat → Option R} {rs : List Nat} (hx : RepS G.S G.σ w x vx) (hi : RepC G.S G.σ w i [vi]) (e : indexK C t x i (fun x => k x [] rs) = some r) :
    Done E a C.P (Instr.index t vx vi) w s k r := by
  unfold indexK at e
  split at e
  · rename_i kd n
    have := int_of (x := .undef) hi; subst this
    split at e
    · rename_i u
      rcases cond_some e with ⟨ht, e⟩ | ⟨_, e⟩
      · rcases cond_some e with ⟨hn, e⟩ | ⟨_, e⟩
        · have := str_of (RepS.of_v hx (by simp)); subst this
          exact Done.pure (x := .v (.int .u8 (bt u n))) h (index_run hC ht hn) (RepS.v rfl) e
        · simp at e
      · simp at e
    · rename_i cs
      split at e
      · rename_i m q _ _ _ _ _ hI
        split at e
        · rename_i E' hE
          split at e
          · rename_i xs hs
            rcases cond_some e with ⟨hn, e⟩ | ⟨_, e⟩
            · obtain ⟨vs, rfl, hc⟩ := hx
              obtain ⟨h0, h1⟩ := inL_true hn
              obtain ⟨d, hu, _, hd, _⟩ := (hC.ti t _ hI).under
              simp only at hd
              subst hd
              obtain ⟨⟨i, z, hi, hsz, _⟩, ⟨d', hu', hd', _⟩, hsz', _⟩ := hC.ti q E' hE
              obtain ⟨⟨g1, g2⟩, g3⟩ := segAt_rep hc hs
              have hn' : n.toNat < xs.length := by omega
              have g4 := RepRows.get (RepT.length E'.ty) g2 _ hn'
              have hm : (n.toNat + 1) * E'.ty.size ≤ m * E'.ty.size := Nat.mul_le_mul_right _ (by omega)
              rw [Nat.add_mul, Nat.one_mul] at hm
              rw [List.drop_zero, List.drop_take, List.take_take, show min E'.ty.size (m * E'.ty.size - n.toNat * E'.ty.size) = E'.ty.size by omega, ← getD_eq _ E'.ty.dflt _ hn'] at g4
              have hrun : (Instr.index t (.agg vs.toArray) (.int kd n)).run C.P w = (part q vs.toArray (n.toNat * E'.ty.size)).run C.P w := by
                simp only [Instr.index, Sem.run_bind, asIntOf, Sem.run_pure, Result.andThen_ok, run_underlying hu]
                rw [if_pos ⟨h0, h1⟩, Sem.run_bind, run_sizeOf' hi, Result.andThen_ok, hsz, hsz']
              have hp := run_part (w := w) hu' hi vs (n.toNat * E'.ty.size) (by rw [hsz, ← hsz']; omega)
              rw [hsz, ← hsz'] at hp
              have g5 := inj_rep (σ := G.σ) _ _ _ g4
              rcases asSV_some e with ⟨ha, e⟩ | ⟨ha, c, hc1, hw, e⟩
              · exact Done.pure (x := .agg (inj E'.ty (rd xs n))) h (hrun.trans (hp.1 (by rw [hd', ha]))) ⟨_, rfl, g5⟩ e
              · have g5' := g5
                simp only [rd] at hc1
                rw [hc1] at g5'
                have g6 := RepCs.of_one g5'
                have hl := RepC.length g6
                rw [hw] at hl
                obtain ⟨y, hy⟩ := List.length_eq_one_iff.1 hl
                rw [hy] at g6
                exact Done.pure h (hrun.trans (hp.2 (by rw [hd', ha]) y hy)) (RepS.v g6) e
            · simp at e
          · simp at e
        · simp at e
      · simp at e
    · simp at e
  · simp at e

/-! ### Lengths -/
theorem lenK_sound (hC : C.OK) (h : Sim E G s a w) {t ty : TypeId} {x : PV} {vx : Value} {k : PV → Option R} (hx : RepC G.S G.σ w x [vx]) (e : lenK C s t x k = some r) :
    ∃ p v, (Builtin.len_ #[t] ty #[vx]).run C.P w = .ok v w ∧ RepC G.S G.σ w p [v] ∧ k p = some r := by
  unfold lenK at e
  split at e
  · rename_i u
    rcases cond_some e with ⟨ht, e⟩ | ⟨_, e⟩
    · have := str_of hx; subst this
      exact fin_int e (by simp [Builtin.len_, run_underlying (isStr_under hC ht), goInt])
    · simp at e
  · rcases cond_some e with ⟨ht, e⟩ | ⟨_, e⟩
    · obtain ⟨q, hu⟩ := isSlice_under hC ht
      have hx : vx = .slice none 0 0 := by simpa [RepC] using hx
      subst hx
      exact fin_int e (by simp [Builtin.len_, run_underlying hu, goInt])
    · simp at e
  · split at e
    · rename_i e' xs hl
      rcases cond_some e with ⟨ht, e⟩ | ⟨_, e⟩
      · obtain ⟨q, hu⟩ := isSlice_under hC ht
        obtain ⟨p, cap, hv⟩ := row_len h hx hl
        subst hv
        exact fin_int e (by simp [Builtin.len_, run_underlying hu, goInt])
      · simp at e
    · simp at e

theorem maxF_sound {P : Program} : ∀ (ps : List PV) (vs : List Value) (kd : IntKind) (x : Int) (p : PV), All2 (fun p v => RepC S σ w p [v]) ps vs → maxF kd x ps = some p → ∃ v, (vs.foldlM Builtin.max2 (.int kd x)).run P w = .ok v w ∧ RepC S σ w p [v] := by
  intro ps
  induction ps with
  | nil =>
    intro vs kd x p hs e
    cases hs
    simp only [maxF, Option.some.injEq] at e; subst e; exact ⟨_, rfl, rfl⟩
  | cons q ps ih =>
    intro vs kd x p hs e
    cases hs with
    | cons hq hps =>
      cases q <;> simp only [maxF] at e <;> try (simp at e; done)
      have := int_of (x := .undef) hq; subst this
      obtain ⟨v', hr, hp⟩ := ih _ _ _ _ hps e
      exact ⟨v', by simp only [List.foldlM_cons, Sem.run_bind, Builtin.max2, Sem.run_pure, Result.andThen_ok]; exact hr, hp⟩
theorem minF_sound {P : Program} : ∀ (ps : List PV) (vs : List Value) (kd : IntKind) (x : Int) (p : PV), All2 (fun p v => RepC S σ w p [v]) ps vs → minF kd x ps = some p → ∃ v, (vs.foldlM Builtin.min2 (.int kd x)).run P w = .ok v w ∧ RepC S σ w p [v] := by
  intro ps
  induction ps with
  | nil =>
    intro vs kd x p hs e
    cases hs
    simp only [minF, Option.some.injEq] at e; subst e; exact ⟨_, rfl, rfl⟩
  | cons q ps ih =>
    intro vs kd x p hs e
    cases hs with
    | cons hq hps =>
      cases q <;> simp only [minF] at e <;> try (simp at e; done)
      have := int_of (x := .undef) hq; subst this
      obtain ⟨v', hr, hp⟩ := ih _ _ _ _ hps e
      exact ⟨v', by simp only [List.foldlM_cons, Sem.run_bind, Builtin.min2, Sem.run_pure, Result.andThen_ok]; exact hr, hp⟩
theorem boundK_sound (h : Sim E G s a w) {lo : Option Operand} {d : Int} {f : Int → Option R} (e : boundK (lo.map fun o => (s.ev o).pv) d f = some r) :
    ∃ n, f n = some r ∧ ((lo = none ∧ n = d) ∨ ∃ kd, lo.map a.eval = some (.int kd n)) := by
  cases lo with
  | none => exact ⟨d, e, .inl ⟨rfl, rfl⟩⟩
  | some o =>
    simp only [Option.map_some, boundK] at e
    split at e
    · rename_i hh; simp at hh
    · rename_i kd n hh
      simp only [Option.some.injEq] at hh
      have hr := ev_rep h o
      cases hs : s.ev o with
      | v p =>
        rw [hs] at hr hh
        simp only [SV.pv] at hh
        subst hh
        exact ⟨n, e, .inr ⟨kd, by rw [Option.map_some, int_of (x := .undef) (RepS.of_v hr (by simp))]⟩⟩
      | agg cs => rw [hs] at hh; simp [SV.pv] at hh
      | tup cs sh => rw [hs] at hh; simp [SV.pv] at hh
    · simp at e

theorem run_sliceBound' {P : Program} {kd : IntKind} {n : Int} {y : Nat} {c : BoundsCode} (h0 : 0 ≤ n) (h1 : n ≤ (y : Int)) : (Instr.sliceBound (.int kd n) y c).run P w = .ok n.toNat w := by
  simp [Instr.sliceBound, asIntOf, h0, h1]

theorem run_sliceBounds' {P : Program} {b : Bool} {len cap : Nat} {lo hi : Option Value} {l h : Int} (hl : (lo = none ∧ l = 0) ∨ ∃ kd, lo = some (.int kd l)) (hh : (hi = none ∧ h = (len : Int)) ∨ ∃ kd, hi = some (.int kd h))
    (h0 : 0 ≤ l) (h1 : l ≤ h) (h2 : h ≤ (len : Int)) (h3 : len ≤ cap) : (Instr.sliceBounds b len cap lo hi none).run P w = .ok (l.toNat, h.toNat, cap) w := by
  have hn : (h.toNat : Int) = h := by omega
  rcases hl with ⟨rfl, rfl⟩ | ⟨kl, rfl⟩ <;> rcases hh with ⟨rfl, rfl⟩ | ⟨kh, rfl⟩
  · simp [Instr.sliceBounds]
  · simp [Instr.sliceBounds, run_sliceBound' (P := P) (w := w) (kd := kh) (n := h) (y := cap) (by omega) (by omega)]
  · simp [Instr.sliceBounds, run_sliceBound' (P := P) (w := w) (kd := kl) (n := l) (y := len) h0 h1]
  · simp [Instr.sliceBounds, run_sliceBound' (P := P) (w := w) (kd := kh) (n := h) (y := cap) (by omega) (by omega), run_sliceBound' (P := P) (w := w) (kd := kl) (n := l) (y := h.toNat) h0 (by omega)]

theorem three {l h : Int} {n : Nat} (e : (decide (0 ≤ l) && decide (l ≤ h) && decide (h ≤ (n : Int))) = true) : 0 ≤ l ∧ l ≤ h ∧ h ≤ (n : Int) := by
  simp only [Bool.and_eq_true, decide_eq_true_eq] at e; exact ⟨e.1.1, e.1.2, e.2⟩

theorem run_slice_list {P : Program} {t q : TypeId} {i : TypeInfo} {z : Nat} (hu : P.underlying t = some (.slice q)) (hi : P.info? q = some i) (hz : i.size = z) {p : Option Addr} {len cap : Nat} {lo hi' : Option Value} {l h : Int}
    (hl : (lo = none ∧ l = 0) ∨ ∃ kd, lo = some (.int kd l)) (hh : (hi' = none ∧ h = (len : Int)) ∨ ∃ kd, hi' = some (.int kd h)) (h0 : 0 ≤ l) (h1 : l ≤ h) (h2 : h ≤ (len : Int)) (h3 : len ≤ cap) :
    (Instr.sliceAt t (.slice p len cap) lo hi' none).run P w = .ok (.slice (if cap = l.toNat then p else p.map (·.add (l.toNat * z))) (h.toNat - l.toNat) (cap - l.toNat)) w := by
  simp only [Instr.sliceAt, Instr.slice, Sem.run_bind, run_underlying hu, Result.andThen_ok, run_sliceBounds' hl hh h0 h1 h2 h3, run_sizeOf' hi, Sem.run_pure, hz]


theorem owns_mod {p : PV} {e : Ty} {xs : List e.den} (hl : s.asList p = some ⟨e, xs⟩) : ∀ i ∈ p.owns, ∃ b, s.mem i = some b ∧ (∀ cs, b ≠ .box cs) := by
  intro i hi
  cases p <;> simp only [PV.owns, List.not_mem_nil, List.mem_singleton] at hi
  all_goals
    subst hi
    simp only [St.asList] at hl
    split at hl
    · rename_i hm; exact ⟨_, hm, by simp⟩
    · rename_i hm; exact ⟨_, hm, by simp⟩
    · simp at hl
theorem bytes_cells : ∀ {xs : List Int} {us : List Value}, RepRows (RepT S w (.int .u8)) xs us → ∀ i, i < xs.length → us[i]? = some (.int .u8 (xs.getD i 0))
  | x :: xs, _, ⟨u, v, rfl, hx, hxs⟩, 0, _ => by
    simp only [RepT] at hx; subst hx; simp
  | x :: xs, _, ⟨u, v, rfl, hx, hxs⟩, i + 1, h => by
    simp only [RepT] at hx; subst hx
    have := bytes_cells hxs i (by simpa using h)
    simpa using this

theorem bytes_run (hC : C.OK) {src dst : TypeId} {v : Value} {q : TypeId} {xs : List Int} (hs : sliceElem C src = some (q, .int .u8)) (hd : C.P.underlying dst = some .string) (hx : RepT S w (.list (.int .u8)) xs [v]) :
    (convert src dst v).run C.P w = .ok (.string (bytesOf xs)) w := by
  obtain ⟨i, hu, hi, hz, hq⟩ := sliceElem_under hC hs
  obtain ⟨p, cap, hv, hc, hh⟩ := hx
  simp only [List.cons.injEq, and_true] at hv
  subst hv
  have hq := hq .u8 rfl
  cases p with
  | none =>
    have hxs : xs = [] := by rcases hh with ⟨e, _⟩ | ⟨_, _, _, e, _⟩; exact e; simp at e
    subst hxs
    exact run_convert_bytes_nil w src q hu hq _ _ dst hd
  | some p =>
    rcases hh with ⟨rfl, _⟩ | ⟨b, o, us, hp, hS, hr, hrows⟩
    · have hl : (loadCells p 0).run C.P w = .ok #[] w := by simp [loadCells, loadCellsFrom]
      rw [run_convert_bytes_string w src dst q (some p) _ _ hu hq hd]
      have := run_bytesToString (P := C.P) w p 0 cap [] (by simpa using hl)
      have h2 := (show (Conv.bytesToString (.slice (some p) ([] : List Int).length cap)).run C.P w = _ from this)
      exact h2.trans rfl
    · simp only [Option.some.injEq] at hp
      subst hp
      have := run_convert_bytes_arg (P := C.P) w src q hu hq b o xs.length cap xs rfl (fun i hi => by
        have h1 := bytes_cells hrows i hi
        exact hr i _ h1) dst hd
      exact this

theorem run_under (hC : C.OK) {t : TypeId} {I : TI} (h : C.ti t = some I) : ∃ d, C.P.underlying t = some d := let ⟨d, hu, _⟩ := (hC.ti t I h).under; ⟨d, hu⟩


theorem convK_sound (hC : C.OK) (h : Sim E G s a w) {src dst : TypeId} {x : PV} {vx : Value} {k : PV → Option R} (hx : RepC G.S G.σ w x [vx]) (e : convK C s src dst x k = some r) :
    ∃ p v, (convert src dst vx).run C.P w = .ok v w ∧ RepC G.S G.σ w p [v] ∧ k p = some r := by
  unfold convK at e
  split at e
  · rename_i I D kd n hI hD
    split at e
    · rename_i kd' hty
      have := int_of (x := .undef) hx; subst this
      obtain ⟨d, hu⟩ := run_under hC hI
      obtain ⟨d', hu', _, _, hd'⟩ := (hC.ti dst D hD).under
      rw [hty] at hd'; simp only at hd'; subst hd'
      refine fin_int e ?_
      simp only [convert, Sem.run_bind, run_underlying hu, run_underlying hu', Result.andThen_ok]
      rfl
    · simp at e
  · rename_i I D t hI hD
    split at e
    · rename_i hty1 hty2
      have := str_of hx; subst this
      obtain ⟨d, hu, _, _, hd⟩ := (hC.ti src I hI).under
      rw [hty1] at hd; simp only at hd; subst hd
      obtain ⟨d', hu', _, _, hd'⟩ := (hC.ti dst D hD).under
      rw [hty2] at hd'; simp only at hd'; subst hd'
      refine fin_str e ?_
      simp [convert, run_underlying hu, run_underlying hu']
    · simp at e
  · rename_i I D hI hD _ _
    split at e
    · rename_i q xs hty hs hl
      obtain ⟨d', hu', _, _, hd'⟩ := (hC.ti dst D hD).under
      rw [hty] at hd'; simp only at hd'; subst hd'
      exact fin_str e (bytes_run hC hs hu' (asList_rep h hx hl))
    · simp at e
  · simp at e

theorem RepRows.one {α : Type} {Q : α → List Value → Prop} (hQ : ∀ x vs, Q x vs → ∀ u ∈ vs, u.oneCell' = true) : ∀ {xs : List α} {vs : List Value}, RepRows Q xs vs → ∀ u ∈ vs, u.oneCell' = true
  | [], _, e, u, hu => by cases e; simp at hu
  | _ :: _, _, ⟨p, q, rfl, h1, h2⟩, u, hu => by
    rcases List.mem_append.1 hu with hu | hu
    · exact hQ _ _ h1 u hu
    · exact RepRows.one hQ h2 u hu
theorem RepT.one : ∀ (τ : Ty) (x : τ.den) (vs : List Value), RepT S w τ x vs → ∀ u ∈ vs, u.oneCell' = true
  | .unit, _, _, h => by cases h; simp
  | .bool, _, _, h => by cases h; simp [Value.oneCell']
  | .str, _, _, h => by cases h; simp [Value.oneCell']
  | .int _, _, _, h => by cases h; simp [Value.oneCell']
  | .list _, _, _, ⟨_, _, h, _⟩ => by rw [h]; simp [Value.oneCell']
  | .arr e n, _, _, ⟨_, k⟩ => RepRows.one (RepT.one e) k
  | .opt e, _, _, h => by
    rcases h with ⟨_, h⟩ | ⟨_, _, _, _, _, h, _⟩ <;> rw [h] <;> simp [Value.oneCell']
  | .pair a b, _, _, ⟨u, v, e, h, k⟩ => fun q hq => by
    rw [e] at hq
    exact (List.mem_append.1 hq).elim (RepT.one a _ _ h q) (RepT.one b _ _ k q)
theorem RepCap.one {c : Cap} {v : Value} (h : RepCap S σ w c v) : True := trivial
theorem RepC.one {p : PV} {vs : List Value} (h : RepC S σ w p vs) : ∀ u ∈ vs, u.oneCell' = true := by
  cases p <;> simp only [RepC] at h
  case undef => obtain ⟨v, rfl, h⟩ := h; simpa using h
  case list => exact RepT.one _ _ _ h
  case seg => exact RepT.one _ _ _ h
  case own => obtain ⟨L, p, n, c, _, e, rfl⟩ := h; rw [e]; simp [Value.oneCell']
  case ptr => obtain ⟨_, _, _, _, _, _, rfl⟩ := h; simp [Value.oneCell']
  case elt => obtain ⟨_, _, _, _, _, _, _, _, _, rfl⟩ := h; simp [Value.oneCell']
  case cptr => obtain ⟨_, _, _, _, _, _, rfl⟩ := h; simp [Value.oneCell']
  case fn => obtain ⟨_, rfl, _⟩ := h; simp [Value.oneCell']
  case dopt => exact RepT.one _ _ _ h
  case cell => obtain ⟨_, _, _, _, _, _, _, _, _, rfl⟩ := h; simp [Value.oneCell']
  case view => obtain ⟨_, _, _, _, _, _, _, rfl⟩ := h; simp [Value.oneCell']
  all_goals (subst h; simp [Value.oneCell'])
theorem RepCs.ones {cs : List PV} {vs : List Value} (h : RepCs S σ w cs vs) : ∀ u ∈ vs, u.oneCell' = true := RepRows.one (fun _ _ => RepC.one) h

theorem cells_of_one {v : Value} (h : v.oneCell' = true) : v.cells = #[v] := by
  cases v <;> first | rfl | simp [Value.oneCell'] at h

/-- The cells of a value, on both sides. -/
theorem cells_rep {x : SV} {v : Value} {cs : List PV} (hx : RepS S σ w x v) (e : x.cells = some cs) : RepCs S σ w cs v.cells.toList := by
  cases x with
  | v p =>
    cases p <;> simp only [SV.cells] at e <;> try (simp at e; done)
    all_goals
      simp only [Option.some.injEq] at e
      subst e
      have hx' := RepS.of_v hx (by simp)
      rw [cells_of_one (RepC.one hx' v (by simp))]
      exact ⟨[v], [], rfl, hx', rfl⟩
  | agg cs' =>
    simp only [SV.cells, Option.some.injEq] at e
    subst e
    obtain ⟨vs, rfl, h⟩ := hx
    simpa [Value.cells] using h
  | tup cs sh => simp [SV.cells] at e

/-! ### Tuples -/
theorem TupV.get : ∀ {sh : List (Nat × Bool)} {us xs : List Value}, TupV sh us xs → ∀ {i n : Nat} {agg : Bool}, sh[i]? = some (n, agg) →
    ∃ y, xs[i]? = some y ∧ (agg = true → y = .agg ((us.drop ((sh.take i).foldr (fun a b => a.1 + b) 0)).take n).toArray) ∧ (agg = false → (us.drop ((sh.take i).foldr (fun a b => a.1 + b) 0)).take n = [y]) := by
  intro sh
  induction sh with
  | nil => intro us xs h i n agg e; simp at e
  | cons q sh ih =>
    obtain ⟨m, ag⟩ := q
    intro us xs h i n agg e
    obtain ⟨u, v, y, ys, rfl, rfl, hl, h1, h2, h3⟩ := h
    cases i with
    | zero =>
      simp only [List.getElem?_cons_zero, Option.some.injEq, Prod.mk.injEq] at e
      obtain ⟨rfl, rfl⟩ := e
      have : (u ++ v).take m = u := by rw [List.take_append_of_le_length (by omega), List.take_of_length_le (by omega)]
      refine ⟨y, by simp, fun ha => ?_, fun ha => ?_⟩
      · simp only [List.take_zero, List.foldr_nil, List.drop_zero, this]; exact h1 ha
      · simp only [List.take_zero, List.foldr_nil, List.drop_zero, this]; exact h2 ha
    | succ i =>
      simp only [List.getElem?_cons_succ] at e
      obtain ⟨y', g1, g2, g3⟩ := ih h3 e
      have : ∀ k, (u ++ v).drop (m + k) = v.drop k := fun k => by rw [List.drop_append, List.drop_eq_nil_of_le (by omega), List.nil_append, hl, Nat.add_sub_cancel_left]
      refine ⟨y', by simpa using g1, fun ha => ?_, fun ha => ?_⟩
      · simp only [List.take_succ_cons, List.foldr_cons, this]; exact g2 ha
      · simp only [List.take_succ_cons, List.foldr_cons, this]; exact g3 ha

theorem extractK_sound {P : Program} (h : Sim E G s a w) {x : SV} {vx : Value} {i : Nat} {k : SV → List Upd → List Nat → Option R} {rs : List Nat} (hx : RepS G.S G.σ w x vx) (e : extractK x i (fun x => k x [] rs) = some r) : Done E a P (Instr.extract vx i) w s k r := by
  unfold extractK at e
  split at e
  · rename_i cs sh
    obtain ⟨xs, rfl, us, hc, ht⟩ := hx
    split at e
    · rename_i n agg hi
      split at e
      · rename_i c hcut
        obtain ⟨y, hy, h1, h2⟩ := ht.get hi
        have hr := (RepCs.cut hc hcut).1
        have hrun : (Instr.extract (.tuple xs.toArray) i).run P w = .ok y w := by simp [Instr.extract, hy]
        rcases cond_some e with ⟨ha, e⟩ | ⟨ha, e⟩
        · exact Done.pure (x := .agg c) h hrun ⟨_, h1 ha, hr⟩ e
        · split at e
          · rename_i c0
            rw [h2 ha] at hr
            exact Done.pure h hrun (RepS.v (RepCs.of_one hr)) e
          · simp at e
      · simp at e
    · simp at e
  · simp at e

theorem pickK_sound {P : Program} (h : Sim E G s a w) {c x y : SV} {vc vx vy : Value} {k : SV → List Upd → List Nat → Option R} {rs : List Nat} (hc : RepS G.S G.σ w c vc) (hx : RepS G.S G.σ w x vx) (hy : RepS G.S G.σ w y vy) (e : pickK c x y (fun x => k x [] rs) = some r) :
    Done E a P (do pure (if ← asBool vc then vx else vy)) w s k r := by
  unfold pickK at e
  split at e
  · rename_i b
    have := bool_of (RepS.of_v hc (by simp)); subst this
    have hrun : (do pure (if ← asBool (.bool b) then vx else vy) : Sem Value).run P w = .ok (if b then vx else vy) w := by simp [asBool]
    split at e
    · rename_i p q
      have := bool_of (RepS.of_v hx (by simp)); subst this
      have := bool_of (RepS.of_v hy (by simp)); subst this
      refine Done.pure (x := .v (.bool (bif b then p else q))) h hrun ?_ e
      cases b <;> rfl
    · rcases cond_some e with ⟨rfl, e⟩ | ⟨rfl, e⟩
      · exact Done.pure h hrun hx e
      · exact Done.pure h hrun hy e
  · simp at e

/-! ### Structs out of their parts -/
theorem toList_foldl_set : ∀ (new : List Value) (j off : Nat) (cs : Array Value), off + j + new.length ≤ cs.size →
    ((new.zipIdx j).foldl (fun cs (c : Value × Nat) => cs.setIfInBounds (off + c.2) c.1) cs).toList = cs.toList.take (off + j) ++ (new ++ cs.toList.drop (off + j + new.length))
  | [], j, off, cs, _ => by simp
  | v :: new, j, off, cs, h => by
    simp only [List.length_cons] at h
    simp only [List.zipIdx_cons, List.foldl_cons]
    rw [toList_foldl_set new (j + 1) off _ (by simp; omega)]
    simp only [Array.toList_setIfInBounds, List.length_cons]
    have hlt : off + j < cs.toList.length := by simp; omega
    rw [List.take_set, List.drop_set, if_pos (by omega), show off + (j + 1) = off + j + 1 by omega, List.take_succ_eq_append_getElem hlt, List.set_append, if_neg (by simp; omega)]
    have : off + j - (List.take (off + j) cs.toList).length = 0 := by simp; omega
    rw [this]
    simp only [List.set_cons_zero, List.append_assoc, List.cons_append, List.nil_append]
    congr 3
    rw [show off + j + 1 + new.length = off + j + (new.length + 1) by omega]

theorem fill_sound {place : Nat → Option (Nat × Nat)} : ∀ {ps : List (Nat × SV)} {vs : List (Nat × Value)} {cs out : List PV} {cells : Array Value},
    All2 (fun (p : Nat × SV) (q : Nat × Value) => p.1 = q.1 ∧ RepS S σ w p.2 q.2) ps vs → RepCs S σ w cs cells.toList → fillC place cs ps = some out →
    ∃ cells' : Array Value, Instr.fill place cells vs = some cells' ∧ RepCs S σ w out cells'.toList := by
  intro ps
  induction ps with
  | nil => intro vs cs out cells h hc e; cases h; simp only [fillC, Option.some.injEq] at e; subst e; exact ⟨cells, rfl, hc⟩
  | cons p ps ih =>
    obtain ⟨i, x⟩ := p
    intro vs cs out cells h hc e
    cases h with
    | @cons _ q _ vs hq hps =>
      obtain ⟨j, v⟩ := q
      obtain ⟨rfl, hx⟩ := hq
      simp only [fillC] at e
      split at e
      · rename_i off size new hpl hnew
        rcases cond_some e with ⟨hw, e⟩ | ⟨_, e⟩
        · have hw := Nat.eq_of_beq_eq_true hw
          split at e
          · rename_i cs' hput
            have hn := cells_rep hx hnew
            have hlen := RepCs.length hn
            rw [hw] at hlen
            have hle : off + size ≤ cells.size := by
              unfold putC at hput
              split at hput
              · rename_i hd
                have := dropC_le _ _ _ hd
                have h2 := RepCs.length hc
                simp at h2; omega
              · simp at hput
            have hnl : v.cells.size = size := by simpa using hlen
            have hput' := RepCs.put hc hput hn hlen
            have := toList_foldl_set v.cells.toList 0 off cells (by simp; omega)
            obtain ⟨cells', h1, h2⟩ := ih (cells := ((v.cells.toList.zipIdx 0).foldl (fun cs (c : Value × Nat) => cs.setIfInBounds (off + c.2) c.1) cells)) hps (by rw [this]; simpa [hnl] using hput') e
            refine ⟨cells', ?_, h2⟩
            rw [Instr.fill, hpl]
            simp only
            rw [if_neg (by simp [hnl]; omega)]
            rw [← h1]
            congr 1
            rw [← Array.foldl_toList, Array.toList_zipIdx]
          · simp at e
        · simp at e
      · simp at e

theorem evs_rep (h : Sim E G s a w) : ∀ (ps : List (Nat × Operand)), All2 (fun (p : Nat × SV) (q : Nat × Value) => p.1 = q.1 ∧ RepS G.S G.σ w p.2 q.2) (s.evs ps) (ps.map fun p => (p.1, a.eval p.2))
  | [] => .nil
  | p :: ps => .cons ⟨rfl, ev_rep h p.2⟩ (evs_rep h ps)

theorem mapM_places {P : Program} : ∀ {l : List Field} {fs : List (Nat × Nat)}, All2 (fun (f : Field) (x : Nat × Nat) => f.offset = x.1 ∧ ∃ i, P.info? f.type = some i ∧ i.size = x.2) l fs →
    (l.mapM (m := Sem) fun f => do pure (f.offset, ← sizeOf f.type)).run P w = .ok fs w
  | _, _, .nil => by simp
  | _, _, .cons ⟨h1, i, h2, h3⟩ t => by
    rw [List.mapM_cons]
    simp only [Sem.run_bind, run_sizeOf' h2, Result.andThen_ok, Sem.run_pure, mapM_places t, h1, h3]


theorem agg_eq {c : Array Value} {v : Value} (h : v = .agg c) : v = .agg c.toList.toArray := by simpa using h


theorem build_sound (hC : C.OK) (h : Sim E G s a w) {t : TypeId} {ps : Array (Nat × Operand)} {k : SV → List Upd → List Nat → Option R} {rs : List Nat}
    (e : buildK C t (s.evs ps.toList) (fun cs => k (.agg cs) [] rs) = some r) : Done E a C.P (Instr.build t (ps.map fun (i, x) => (i, a.eval x))) w s k r := by
  unfold buildK at e
  split at e
  · rename_i fs ags tys _ _ _ _ _ hI
    split at e
    · rename_i cs hcs
      obtain ⟨⟨i, z, hi, hs, _, hz, hsame, _⟩, ⟨d, hu, hd, hsh, _⟩, _⟩ := hC.ti t _ hI
      have hev := evs_rep h ps.toList
      have hlist : (ps.map fun (i, x) => (i, a.eval x)).toList = ps.toList.map fun p => (p.1, a.eval p.2) := by simp
      have hcells : RepCs G.S G.σ w _ z.cells.toList := sameAll_rep hsame
      have hzero : (zeroValue t).run C.P w = .ok z w := by simp [zeroValue, typeInfo, hi, hz]
      obtain ⟨cells', h1, h2⟩ := fill_sound hev hcells hcs
      simp only at hsh
      obtain ⟨l, rfl, hl, _⟩ := hsh
      refine Done.pure (x := .agg cs) (v := .agg cells') h ?_ ⟨cells'.toList, agg_eq rfl, h2⟩ e
      have hm : (l.toArray.mapM (m := Sem) fun f => do pure (f.offset, ← sizeOf f.type)).run C.P w = .ok fs.toArray w := by
        rw [List.mapM_toArray, map_eq_pure_bind, Sem.run_bind, mapM_places hl]
        rfl
      simp only [Instr.build, Sem.run_bind, hzero, run_underlying hu, Result.andThen_ok, hm, hlist]
      have : (fun i : Nat => fs.toArray[i]?) = fun i => fs[i]? := by funext i; simp
      rw [this, h1]
      simp
    · simp at e
  · simp at e
end Go.Ps
