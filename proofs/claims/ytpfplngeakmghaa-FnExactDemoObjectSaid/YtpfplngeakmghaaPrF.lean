/- Each operation does what the interpreter says: reading operations. -/
import Derived.Test.YtpfplngeakmghaaPrE
import Derived.Laws.Slices
import Derived.Laws.BytesArg
import Derived.Laws.IdiomStrings
namespace Go.Pr
set_option linter.unusedVariables false
variable {S S' : Nat → Prop} {σ σ' : Sg} {w w' : World} {E : En} {G : Gh} {s : St} {a : Act} {C : Cfg} {R : Type} {r : R}

theorem isStr_under (hC : C.OK) {t : TypeId} (h : isStr C t = true) : C.P.underlying t = some .string := by
  unfold isStr at h
  split at h
  · rename_i I hI
    split at h
    · rename_i hty
      obtain ⟨d, hu, _, _, hd⟩ := (hC.ti t I hI).under
      rw [hty] at hd; simp only at hd; rw [hu, hd]
    · simp at h
  · simp at h
theorem isSlice_under (hC : C.OK) {t : TypeId} (h : isSlice C t = true) : ∃ q, C.P.underlying t = some (.slice q) := by
  unfold isSlice at h
  split at h
  · rename_i I hI
    split at h
    · rename_i q hsh
      obtain ⟨d, hu, _, hd, _⟩ := (hC.ti t I hI).under
      rw [hsh] at hd; simp only at hd; exact ⟨q, by rw [hu, hd]⟩
    · simp at h
  · simp at h
theorem isSliceOf_under (hC : C.OK) {t : TypeId} {e : Ty} (h : isSliceOf C t e = true) : ∃ q i, C.P.underlying t = some (.slice q) ∧ C.P.info? q = some i ∧ i.size = e.size := by
  unfold isSliceOf at h
  split at h
  · rename_i I hI
    split at h
    · rename_i q hsh
      split at h
      · rename_i E hE
        obtain ⟨d, hu, _, hd, _⟩ := (hC.ti t I hI).under
        rw [hsh] at hd; simp only at hd
        obtain ⟨⟨i, z, hi, hs, _⟩, _⟩ := hC.ti q E hE
        exact ⟨q, i, by rw [hu, hd], hi, by rw [hs]; exact Nat.eq_of_beq_eq_true h⟩
      · simp at h
    · simp at h
  · simp at h
theorem sliceElem_under (hC : C.OK) {t : TypeId} {e : Ty} (h : sliceElem C t = some e) : ∃ q i, C.P.underlying t = some (.slice q) ∧ C.P.info? q = some i ∧ i.size = e.size ∧ (∀ k, e = .int k → C.P.underlying q = some (.int k)) := by
  unfold sliceElem at h
  split at h
  · rename_i I hI
    split at h
    · rename_i q hsh
      split at h
      · rename_i E hE
        simp only [Option.some.injEq] at h
        subst h
        obtain ⟨d, hu, _, hd, _⟩ := (hC.ti t I hI).under
        rw [hsh] at hd; simp only at hd
        obtain ⟨⟨i, z, hi, hs, _⟩, ⟨d', hu', _, _, hd'⟩, hsz⟩ := hC.ti q E hE
        exact ⟨q, i, by rw [hu, hd], hi, by rw [hs, hsz], fun k hk => by rw [hk] at hd'; simp only at hd'; rw [hu', hd']⟩
      · simp at h
    · simp at h
  · simp at h

theorem run_sizeOf' {P : Program} {t : TypeId} {i : TypeInfo} (h : P.info? t = some i) : (sizeOf t).run P w = .ok i.size w := by
  simp [sizeOf, typeInfo, h]

/-! ### Pointers -/
theorem movePtr_rep {p q : PV} {n : Nat} {v : Value} (h : RepC S σ w p [v]) (e : movePtr p n = some q) : ∃ b o, v = .pointer (some ⟨b, o, none⟩) ∧ RepC S σ w q [.pointer (some ⟨b, o + n, none⟩)] := by
  cases p <;> simp only [movePtr] at e <;> try (simp at e; done)
  case ptr id off =>
    simp only [Option.some.injEq] at e; subst e
    obtain ⟨b, o, hv, hx⟩ := h
    simp only [List.cons.injEq, and_true] at hx
    exact ⟨b, o + off, hx, b, o, hv, by rw [Nat.add_assoc]⟩
  case elt id i off =>
    simp only [Option.some.injEq] at e; subst e
    obtain ⟨b, m, c, z, hv, h0, hlt, hx, hz⟩ := h
    simp only [List.cons.injEq, and_true] at hx
    exact ⟨b, _, hx, b, m, c, z, hv, h0, hlt, by rw [Nat.add_assoc], hz⟩
  case cptr τ x off =>
    simp only [Option.some.injEq] at e; subst e
    obtain ⟨b, o, us, hS, hr, ht, hx⟩ := h
    simp only [List.cons.injEq, and_true] at hx
    exact ⟨b, o + off, hx, b, o, us, hS, hr, ht, by rw [Nat.add_assoc]⟩

theorem fieldOff_under (hC : C.OK) {t : TypeId} {f off size : Nat} (h : fieldOff C t f = some (off, size)) : ∃ l fl i, C.P.underlying t = some (.struct l) ∧ l[f]? = some fl ∧ fl.offset = off ∧ C.P.info? fl.type = some i ∧ i.size = size := by
  unfold fieldOff at h
  split at h
  · rename_i fs _ _ _ _ _ hI
    obtain ⟨d, hu, _, hd, _⟩ := (hC.ti t _ hI).under
    simp only at hd
    obtain ⟨l, rfl, hl, _⟩ := hd
    obtain ⟨fl, h1, h2, i, h3, h4⟩ := hl.get h
    exact ⟨l.toArray, fl, i, hu, by simpa using h1, h2, h3, h4⟩
  · simp at h
theorem fieldAgg_under (hC : C.OK) {t : TypeId} {f : Nat} {agg : Bool} (h : fieldAgg C t f = some agg) : ∃ l fl d, C.P.underlying t = some (.struct l) ∧ l[f]? = some fl ∧ C.P.underlying fl.type = some d ∧ d.isRow = agg := by
  unfold fieldAgg at h
  split at h
  · rename_i ags _ _ _ _ hI
    obtain ⟨d, hu, _, hd, _⟩ := (hC.ti t _ hI).under
    simp only at hd
    obtain ⟨l, rfl, _, hl⟩ := hd
    obtain ⟨fl, h1, d, h2, h3⟩ := hl.get h
    exact ⟨l.toArray, fl, d, hu, by simpa using h1, h2, h3⟩
  · simp at h

theorem fieldAddr_run (hC : C.OK) {t : TypeId} {f off size : Nat} (h : fieldOff C t f = some (off, size)) (hs : 1 ≤ size) (b o : Nat) :
    (Instr.fieldAt t (.pointer (some ⟨b, o, none⟩)) f).run C.P w = .ok (.pointer (some ⟨b, o + off, none⟩)) w := by
  obtain ⟨l, fl, i, hu, h1, h2, h3, h4⟩ := fieldOff_under hC h
  simp only [Instr.fieldAt, Sem.run_bind, run_underlying hu, Result.andThen_ok, h1, Instr.sureAddr, Sem.run_pure, fieldPlace, run_sizeOf' h3]
  rw [if_neg (by omega)]
  simp [Addr.add_mid, h2]

theorem field_run (hC : C.OK) {t : TypeId} {f off size : Nat} {agg : Bool} (h : fieldOff C t f = some (off, size)) (h' : fieldAgg C t f = some agg) {vs : List Value} (hl : off + size ≤ vs.length) :
    (agg = true → (Instr.field t (.agg vs.toArray) f).run C.P w = .ok (.agg ((vs.drop off).take size).toArray) w) ∧ (agg = false → ∀ v, (vs.drop off).take size = [v] → (Instr.field t (.agg vs.toArray) f).run C.P w = .ok v w) := by
  obtain ⟨l, fl, i, hu, h1, h2, h3, h4⟩ := fieldOff_under hC h
  obtain ⟨l', fl', d, hu', h1', hd, hr⟩ := fieldAgg_under hC h'
  rw [hu] at hu'
  simp only [Option.some.injEq, TypeDesc.struct.injEq] at hu'
  subst hu'
  rw [h1] at h1'
  simp only [Option.some.injEq] at h1'
  subst h1'
  refine ⟨fun ha => ?_, fun ha v hv => ?_⟩
  · simp only [Instr.field, Sem.run_bind, run_underlying hu, Result.andThen_ok, h1, part, run_isAgg hd, hr, ha, asAgg, Sem.run_pure, h2, if_true, run_sizeOf' h3, h4]
    congr 3
    apply Array.toList_inj.1
    simp [List.take_drop]
  · have hget : vs[off]? = some v := by
      have : ((vs.drop off).take size)[0]? = some v := by rw [hv]; rfl
      rw [List.getElem?_take] at this
      split at this
      · rw [List.getElem?_drop] at this; simpa using this
      · simp at this
    simp only [Instr.field, Sem.run_bind, run_underlying hu, Result.andThen_ok, h1, part, run_isAgg hd, hr, ha, asAgg, Sem.run_pure, h2]
    simp [hget]

/-! ### Elements -/
theorem inL_true {n : Int} {m : Nat} (h : inL n m = true) : 0 ≤ n ∧ n < (m : Int) := by
  simp only [inL, Bool.and_eq_true, decide_eq_true_eq] at h; exact h

theorem indexAt_slice {P : Program} {t q : TypeId} {i : TypeInfo} {kd : IntKind} {n : Int} {b o m c z : Nat} (hu : P.underlying t = some (.slice q)) (hi : P.info? q = some i) (hz : i.size = z) (h0 : 0 ≤ n) (h1 : n < (m : Int)) :
    (Instr.indexAt t (.slice (some ⟨b, o, none⟩) m c) (.int kd n)).run P w = .ok (.pointer (some ⟨b, o + n.toNat * z, none⟩)) w := by
  simp only [Instr.indexAt, Sem.run_bind, asIntOf, Sem.run_pure, Result.andThen_ok, run_underlying hu]
  rw [if_pos ⟨h0, h1⟩]
  simp [run_sizeOf' hi, hz, Addr.add_mid]

theorem indexAddrK_sound (hC : C.OK) (h : Sim E G s a w) {t : TypeId} {x : SV} {vx vi : Value} {i : PV} {k : PV → Option R} (hx : RepS G.S G.σ w x vx) (hi : RepS G.S G.σ w (.v i) vi) (e : indexAddrK C s t x i k = some r) :
    ∃ p v, (Instr.indexAt t vx vi).run C.P w = .ok v w ∧ RepC G.S G.σ w p [v] ∧ k p = some r := by
  unfold indexAddrK at e
  split at e
  · rename_i kd n
    have := int_of (x := .undef) (RepS.of_v hi (by simp)); subst this
    split at e
    · rename_i e' xs
      rcases cond_some e with ⟨ht, e⟩ | ⟨_, e⟩
      · rcases cond_some e with ⟨hn, e⟩ | ⟨_, e⟩
        · obtain ⟨q, i, hu, hi, hz⟩ := isSliceOf_under hC ht
          obtain ⟨h0, h1⟩ := inL_true hn
          obtain ⟨p, cap, hv, hc, hh⟩ := hx
          simp only [List.cons.injEq, and_true] at hv
          subst hv
          rcases hh with ⟨rfl, _⟩ | ⟨b, o, us, rfl, hS, hr, hrows⟩
          · simp at h1; omega
          · refine ⟨_, _, indexAt_slice hu hi hz h0 h1, ?_, e⟩
            have hi' : n.toNat < xs.length := by omega
            refine ⟨b, o + n.toNat * e'.size, _, hS, rangeAt_sub hr _ e'.size, ?_, rfl⟩
            rw [rd, getD_eq _ _ _ hi']
            exact RepRows.get (RepT.length e') hrows _ hi'
        · simp at e
      · simp at e
    · rename_i id
      split at e
      · rename_i T e' xs hm
        rcases cond_some e with ⟨ht, e⟩ | ⟨_, e⟩
        · rcases cond_some e with ⟨hn, e⟩ | ⟨_, e⟩
          · obtain ⟨q, i, hu, hi, hz⟩ := isSliceOf_under hC ht
            obtain ⟨h0, h1⟩ := inL_true hn
            obtain ⟨us, hr, ho, hz', hpos⟩ := h.mem id _ hm
            have hv : vx = (G.σ id).v := by
              have := hx.1; simpa using this
            rcases ho.2 with ⟨hh, h0'⟩ | ⟨g, cap, cur, hh, _⟩
            · rw [h0'] at h1; simp at h1; omega
            · rw [hv, hh]
              refine ⟨_, _, indexAt_slice hu hi hz h0 h1, ?_, e⟩
              exact ⟨g, xs.length, cap, e'.size, hh, h0, h1, by rw [Nat.zero_add, Nat.add_zero], hz'.symm⟩
          · simp at e
        · simp at e
      · simp at e
    · simp at e
  · simp at e

theorem index_run (hC : C.OK) {t : TypeId} {u : ByteArray} {kd : IntKind} {n : Int} (ht : isStr C t = true) (hn : inL n u.size = true) :
    (Instr.index t (.string u) (.int kd n)).run C.P w = .ok (.int .u8 (bt u n)) w := by
  obtain ⟨h0, h1⟩ := inL_true hn
  have hu := isStr_under hC ht
  have hlt : n.toNat < u.size := by omega
  simp only [Instr.index, Sem.run_bind, asIntOf, Sem.run_pure, Result.andThen_ok, run_underlying hu]
  rw [if_pos h0]
  have : u[n.toNat]? = some u[n.toNat] := getElem?_pos u n.toNat hlt
  rw [this]
  simp only [Sem.run_pure, bt]
  have : u.data.getD n.toNat 0 = u[n.toNat] := by
    have hlt' : n.toNat < u.data.size := hlt
    simp only [Array.getD]
    rw [dif_pos hlt']; rfl
  rw [this]

/-! ### Lengths -/
theorem lenK_sound (hC : C.OK) (h : Sim E G s a w) {t ty : TypeId} {x : SV} {vx : Value} {k : PV → Option R} (hx : RepS G.S G.σ w x vx) (e : lenK C s t x k = some r) :
    ∃ p v, (Builtin.len_ #[t] ty #[vx]).run C.P w = .ok v w ∧ RepC G.S G.σ w p [v] ∧ k p = some r := by
  unfold lenK at e
  split at e
  · rename_i u
    rcases cond_some e with ⟨ht, e⟩ | ⟨_, e⟩
    · have := str_of (RepS.of_v hx (by simp)); subst this
      exact fin_int e (by simp [Builtin.len_, run_underlying (isStr_under hC ht), goInt])
    · simp at e
  · rcases cond_some e with ⟨ht, e⟩ | ⟨_, e⟩
    · obtain ⟨q, hu⟩ := isSlice_under hC ht
      have hx : vx = .slice none 0 0 := by simpa [RepS, RepC] using hx
      subst hx
      exact fin_int e (by simp [Builtin.len_, run_underlying hu, goInt])
    · simp at e
  · rename_i e' xs
    rcases cond_some e with ⟨ht, e⟩ | ⟨_, e⟩
    · obtain ⟨q, hu⟩ := isSlice_under hC ht
      obtain ⟨p, cap, hv, _⟩ := hx
      simp only [List.cons.injEq, and_true] at hv
      subst hv
      exact fin_int e (by simp [Builtin.len_, run_underlying hu, goInt])
    · simp at e
  · rename_i id
    split at e
    · rename_i T e' xs hm
      rcases cond_some e with ⟨ht, e⟩ | ⟨_, e⟩
      · obtain ⟨q, hu⟩ := isSlice_under hC ht
        obtain ⟨us, hr, ho, _⟩ := h.mem id _ hm
        have hv : vx = (G.σ id).v := by have := hx.1; simpa using this
        rcases ho.2 with ⟨hh, h0'⟩ | ⟨g, cap, cur, hh, _⟩
        · rw [hv, hh]; rw [h0'] at e; exact fin_int e (by simp [Builtin.len_, run_underlying hu, goInt])
        · rw [hv, hh]; exact fin_int e (by simp [Builtin.len_, run_underlying hu, goInt])
      · simp at e
    · simp at e
  · simp at e

theorem maxF_sound {P : Program} : ∀ (ps : List PV) (vs : List Value) (kd : IntKind) (x : Int) (p : PV), All2 (fun p v => RepC S σ w p [v]) ps vs → maxF kd x ps = some p → ∃ v, (vs.foldlM Builtin.max2 (.int kd x)).run P w = .ok v w ∧ RepC S σ w p [v] := by
  intro ps
  induction ps with
  | nil =>
    intro vs kd x p hs e
    cases hs
    simp only [maxF, Option.some.injEq] at e; subst e; exact ⟨_, rfl, rfl⟩
  | cons q ps ih =>
    intro vs kd x p hs e
    cases hs with
    | cons hq hps =>
      cases q <;> simp only [maxF] at e <;> try (simp at e; done)
      have := int_of (x := .undef) hq; subst this
      obtain ⟨v', hr, hp⟩ := ih _ _ _ _ hps e
      exact ⟨v', by simp only [List.foldlM_cons, Sem.run_bind, Builtin.max2, Sem.run_pure, Result.andThen_ok]; exact hr, hp⟩
theorem minF_sound {P : Program} : ∀ (ps : List PV) (vs : List Value) (kd : IntKind) (x : Int) (p : PV), All2 (fun p v => RepC S σ w p [v]) ps vs → minF kd x ps = some p → ∃ v, (vs.foldlM Builtin.min2 (.int kd x)).run P w = .ok v w ∧ RepC S σ w p [v] := by
  intro ps
  induction ps with
  | nil =>
    intro vs kd x p hs e
    cases hs
    simp only [minF, Option.some.injEq] at e; subst e; exact ⟨_, rfl, rfl⟩
  | cons q ps ih =>
    intro vs kd x p hs e
    cases hs with
    | cons hq hps =>
      cases q <;> simp only [minF] at e <;> try (simp at e; done)
      have := int_of (x := .undef) hq; subst this
      obtain ⟨v', hr, hp⟩ := ih _ _ _ _ hps e
      exact ⟨v', by simp only [List.foldlM_cons, Sem.run_bind, Builtin.min2, Sem.run_pure, Result.andThen_ok]; exact hr, hp⟩
end Go.Pr
