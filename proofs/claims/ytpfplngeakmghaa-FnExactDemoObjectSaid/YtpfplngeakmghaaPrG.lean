/- Each operation does what the interpreter says: slices, conversions, tuples, new blocks. -/
import Derived.Test.YtpfplngeakmghaaPrF
namespace Go.Pr
set_option linter.unusedVariables false
variable {S S' : Nat → Prop} {σ σ' : Sg} {w w' : World} {E : En} {G : Gh} {s : St} {a : Act} {C : Cfg} {R : Type} {r : R}

def optFine : Option Operand → Bool
  | some x => Operand.fine x
  | none => true

theorem boundK_sound (h : Sim E G s a w) {lo : Option Operand} (hf : optFine lo = true) {d : Int} {f : Int → Option R} (e : boundK (lo.map fun o => (s.ev o).pv) d f = some r) :
    ∃ n, f n = some r ∧ ((lo = none ∧ n = d) ∨ ∃ kd, lo.map a.eval = some (.int kd n)) := by
  cases lo with
  | none => exact ⟨d, e, .inl ⟨rfl, rfl⟩⟩
  | some o =>
    simp only [Option.map_some, boundK] at e
    split at e
    · rename_i hh; simp at hh
    · rename_i kd n hh
      simp only [Option.some.injEq] at hh
      have hr := ev_rep h o hf
      cases hs : s.ev o with
      | v p =>
        rw [hs] at hr hh
        simp only [SV.pv] at hh
        subst hh
        exact ⟨n, e, .inr ⟨kd, by rw [Option.map_some, int_of (x := .undef) (RepS.of_v hr (by simp))]⟩⟩
      | agg cs => rw [hs] at hh; simp [SV.pv] at hh
      | tup cs sh => rw [hs] at hh; simp [SV.pv] at hh
    · simp at e

theorem run_sliceBound' {P : Program} {kd : IntKind} {n : Int} {y : Nat} {c : BoundsCode} (h0 : 0 ≤ n) (h1 : n ≤ (y : Int)) : (Instr.sliceBound (.int kd n) y c).run P w = .ok n.toNat w := by
  simp [Instr.sliceBound, asIntOf, h0, h1]

theorem run_sliceBounds' {P : Program} {b : Bool} {len cap : Nat} {lo hi : Option Value} {l h : Int} (hl : (lo = none ∧ l = 0) ∨ ∃ kd, lo = some (.int kd l)) (hh : (hi = none ∧ h = (len : Int)) ∨ ∃ kd, hi = some (.int kd h))
    (h0 : 0 ≤ l) (h1 : l ≤ h) (h2 : h ≤ (len : Int)) (h3 : len ≤ cap) : (Instr.sliceBounds b len cap lo hi none).run P w = .ok (l.toNat, h.toNat, cap) w := by
  have hn : (h.toNat : Int) = h := by omega
  rcases hl with ⟨rfl, rfl⟩ | ⟨kl, rfl⟩ <;> rcases hh with ⟨rfl, rfl⟩ | ⟨kh, rfl⟩
  · simp [Instr.sliceBounds]
  · simp [Instr.sliceBounds, run_sliceBound' (P := P) (w := w) (kd := kh) (n := h) (y := cap) (by omega) (by omega)]
  · simp [Instr.sliceBounds, run_sliceBound' (P := P) (w := w) (kd := kl) (n := l) (y := len) h0 h1]
  · simp [Instr.sliceBounds, run_sliceBound' (P := P) (w := w) (kd := kh) (n := h) (y := cap) (by omega) (by omega), run_sliceBound' (P := P) (w := w) (kd := kl) (n := l) (y := h.toNat) h0 (by omega)]

theorem three {l h : Int} {n : Nat} (e : (decide (0 ≤ l) && decide (l ≤ h) && decide (h ≤ (n : Int))) = true) : 0 ≤ l ∧ l ≤ h ∧ h ≤ (n : Int) := by
  simp only [Bool.and_eq_true, decide_eq_true_eq] at e; exact ⟨e.1.1, e.1.2, e.2⟩

theorem sub_rep {e : Ty} {xs : List e.den} {p : Option Addr} {cap z : Nat} {l h : Int} (hx : RepT S w (.list e) xs [.slice p xs.length cap]) (hz : z = e.size) (h0 : 0 ≤ l) (h1 : l ≤ h) (h2 : h ≤ (xs.length : Int)) :
    RepT S w (.list e) ((xs.take h.toNat).drop l.toNat) [.slice (if cap = l.toNat then p else p.map (·.add (l.toNat * z))) (h.toNat - l.toNat) (cap - l.toNat)] := by
  obtain ⟨p', cap', hv, hc, hh⟩ := hx
  simp only [List.cons.injEq, Value.slice.injEq, and_true, true_and] at hv
  obtain ⟨rfl, rfl⟩ := hv
  have hlen : ((xs.take h.toNat).drop l.toNat).length = h.toNat - l.toNat := by simp; omega
  refine ⟨_, cap - l.toNat, by rw [hlen], by rw [hlen]; omega, ?_⟩
  rcases hh with ⟨rfl, hp⟩ | ⟨b, o, us, rfl, hS, hr, hrows⟩
  · left
    refine ⟨by simp, fun hn => ?_⟩
    have hlz : l.toNat = 0 := by simp at h2; omega
    split at hn
    · omega
    · cases p with
      | none => rw [hp rfl]; omega
      | some a => simp at hn
  · by_cases hcl : cap = l.toNat
    · left
      rw [if_pos hcl]
      refine ⟨List.eq_nil_of_length_eq_zero (by rw [hlen]; omega), fun hn => by simp at hn⟩
    · right
      rw [if_neg hcl]
      refine ⟨b, o + l.toNat * e.size, _, by simp [Addr.add_mid, hz], hS, ?_, RepRows.drop (RepT.length e) (RepRows.take (RepT.length e) hrows h.toNat) l.toNat⟩
      intro j u hu
      rw [List.getElem?_drop, List.getElem?_take] at hu
      split at hu
      · have := hr _ _ hu; rwa [← Nat.add_assoc] at this
      · simp at hu

theorem run_slice_list {P : Program} {t q : TypeId} {i : TypeInfo} {z : Nat} (hu : P.underlying t = some (.slice q)) (hi : P.info? q = some i) (hz : i.size = z) {p : Option Addr} {len cap : Nat} {lo hi' : Option Value} {l h : Int}
    (hl : (lo = none ∧ l = 0) ∨ ∃ kd, lo = some (.int kd l)) (hh : (hi' = none ∧ h = (len : Int)) ∨ ∃ kd, hi' = some (.int kd h)) (h0 : 0 ≤ l) (h1 : l ≤ h) (h2 : h ≤ (len : Int)) (h3 : len ≤ cap) :
    (Instr.sliceAt t (.slice p len cap) lo hi' none).run P w = .ok (.slice (if cap = l.toNat then p else p.map (·.add (l.toNat * z))) (h.toNat - l.toNat) (cap - l.toNat)) w := by
  simp only [Instr.sliceAt, Instr.slice, Sem.run_bind, run_underlying hu, Result.andThen_ok, run_sliceBounds' hl hh h0 h1 h2 h3, run_sizeOf' hi, Sem.run_pure, hz]

theorem sliceK_sound (hC : C.OK) (h : Sim E G s a w) {t : TypeId} {x : SV} {vx : Value} {lo hi : Option Operand} (hlo : optFine lo = true) (hhi : optFine hi = true) {k : SV → St → Option R} (hx : RepS G.S G.σ w x vx)
    (e : sliceK C s t x (lo.map fun o => (s.ev o).pv) (hi.map fun o => (s.ev o).pv) (fun p s => k (.v p) s) = some r) : Done E a C.P (Instr.sliceAt t vx (lo.map a.eval) (hi.map a.eval) none) w k r := by
  have lift : ∀ {lo : Option Operand} {n d : Int}, ((lo = none ∧ n = d) ∨ ∃ kd, lo.map a.eval = some (.int kd n)) → (lo.map a.eval = none ∧ n = d) ∨ ∃ kd, lo.map a.eval = some (.int kd n) := fun h => h.imp (fun ⟨x, y⟩ => ⟨by rw [x]; rfl, y⟩) (fun x => x)
  unfold sliceK at e
  split at e
  · rename_i u
    rcases cond_some e with ⟨ht, e⟩ | ⟨_, e⟩
    · obtain ⟨l, e, hl⟩ := boundK_sound h hlo e
      obtain ⟨hh, e, hhh⟩ := boundK_sound h hhi e
      rcases cond_some e with ⟨hb, e⟩ | ⟨_, e⟩
      · obtain ⟨h0, h1, h2⟩ := three hb
        have := str_of (RepS.of_v hx (by simp)); subst this
        refine Done.ofPV h ⟨.str (u.extract l.toNat hh.toNat), .string (u.extract l.toNat hh.toNat), ?_, rfl, e⟩
        simp only [Instr.sliceAt, Instr.slice, Sem.run_bind, run_underlying (isStr_under hC ht), Result.andThen_ok]
        simp [run_sliceBounds' (P := C.P) (w := w) (b := false) (lift hl) (lift hhh) h0 h1 h2 (Nat.le_refl _)]
      · simp at e
    · simp at e
  · rename_i e' xs
    rcases cond_some e with ⟨ht, e⟩ | ⟨_, e⟩
    · obtain ⟨l, e, hl⟩ := boundK_sound h hlo e
      obtain ⟨hh, e, hhh⟩ := boundK_sound h hhi e
      rcases cond_some e with ⟨hb, e⟩ | ⟨_, e⟩
      · obtain ⟨h0, h1, h2⟩ := three hb
        obtain ⟨q, i, hu, hi, hz⟩ := isSliceOf_under hC ht
        have hx' := RepS.of_v hx (by simp)
        have hxx := hx'
        obtain ⟨p, cap, hv, hc, _⟩ := hxx
        simp only [List.cons.injEq, and_true] at hv
        subst hv
        exact Done.ofPV h ⟨.list e' ((xs.take hh.toNat).drop l.toNat), _, run_slice_list hu hi hz (lift hl) (lift hhh) h0 h1 h2 hc, sub_rep hx' rfl h0 h1 h2, e⟩
      · simp at e
    · simp at e
  · rename_i id
    split at e
    · rename_i T e' xs hm
      rcases cond_some e with ⟨ht, e⟩ | ⟨_, e⟩
      · obtain ⟨l, e, hl⟩ := boundK_sound h hlo e
        obtain ⟨hh, e, hhh⟩ := boundK_sound h hhi e
        rcases cond_some e with ⟨hb, e⟩ | ⟨_, e⟩
        · obtain ⟨h0, h1, h2⟩ := three hb
          obtain ⟨q, i, hu, hi, hz⟩ := isSliceOf_under hC ht
          obtain ⟨us, hr, ho, hz', hpos⟩ := h.mem id _ hm
          have hv : vx = (G.σ id).v := by have := hx.1; simpa using this
          obtain ⟨S', hS, hS2, hk, hsim⟩ := h.freeze id
          have hk := hk _ _ _ hm
          have hx' : RepT S' w (.list e') xs [vx] := by
            rw [hv]; exact own_list (RepRows.imp (RepT.keep hS (fun _ _ => rfl) e') _ _ hr) ho hk
          have hxx := hx'
          obtain ⟨p, cap, hv', hc, _⟩ := hxx
          simp only [List.cons.injEq, and_true] at hv'
          rw [hv'] at hx' ⊢
          exact ⟨.v (.list e' ((xs.take hh.toNat).drop l.toNat)), _, s.freeze id, ⟨S', G.σ⟩, w, run_slice_list hu hi hz (lift hl) (lift hhh) h0 h1 h2 hc, sub_rep hx' rfl h0 h1 h2, hsim, e⟩
        · simp at e
      · simp at e
    · simp at e
  · simp at e

/-! ### Conversions -/
theorem bytes_cells : ∀ {xs : List Int} {us : List Value}, RepRows (RepT S w (.int .u8)) xs us → ∀ i, i < xs.length → us[i]? = some (.int .u8 (xs.getD i 0))
  | x :: xs, _, ⟨u, v, rfl, hx, hxs⟩, 0, _ => by
    simp only [RepT] at hx; subst hx; simp
  | x :: xs, _, ⟨u, v, rfl, hx, hxs⟩, i + 1, h => by
    simp only [RepT] at hx; subst hx
    have := bytes_cells hxs i (by simpa using h)
    simpa using this

theorem bytes_run (hC : C.OK) {src dst : TypeId} {v : Value} {xs : List Int} (hs : sliceElem C src = some (.int .u8)) (hd : C.P.underlying dst = some .string) (hx : RepT S w (.list (.int .u8)) xs [v]) :
    (convert src dst v).run C.P w = .ok (.string (bytesOf xs)) w := by
  obtain ⟨q, i, hu, hi, hz, hq⟩ := sliceElem_under hC hs
  obtain ⟨p, cap, hv, hc, hh⟩ := hx
  simp only [List.cons.injEq, and_true] at hv
  subst hv
  have hq := hq .u8 rfl
  cases p with
  | none =>
    have hxs : xs = [] := by rcases hh with ⟨e, _⟩ | ⟨_, _, _, e, _⟩; exact e; simp at e
    subst hxs
    exact run_convert_bytes_nil w src q hu hq _ _ dst hd
  | some p =>
    rcases hh with ⟨rfl, _⟩ | ⟨b, o, us, hp, hS, hr, hrows⟩
    · have hl : (loadCells p 0).run C.P w = .ok #[] w := by simp [loadCells, loadCellsFrom]
      rw [run_convert_bytes_string w src dst q (some p) _ _ hu hq hd]
      have := run_bytesToString (P := C.P) w p 0 cap [] (by simpa using hl)
      have h2 := (show (Conv.bytesToString (.slice (some p) ([] : List Int).length cap)).run C.P w = _ from this)
      exact h2.trans rfl
    · simp only [Option.some.injEq] at hp
      subst hp
      have := run_convert_bytes_arg (P := C.P) w src q hu hq b o xs.length cap xs rfl (fun i hi => by
        have h1 := bytes_cells hrows i hi
        exact hr i _ h1) dst hd
      exact this

theorem asList_rep (h : Sim E G s a w) {p : PV} {e : Ty} {xs : List e.den} {v : Value} (hp : RepC G.S G.σ w p [v]) (e1 : s.asList p = some ⟨e, xs⟩) : ∃ S', RepT S' w (.list e) xs [v] := by
  cases p <;> simp only [St.asList] at e1 <;> try (simp at e1; done)
  case list e' ys =>
    simp only [Option.some.injEq, Sigma.mk.injEq] at e1
    obtain ⟨rfl, e1⟩ := e1
    cases eq_of_heq e1
    exact ⟨_, hp⟩
  case own id =>
    split at e1
    · rename_i T e' ys hm
      simp only [Option.some.injEq, Sigma.mk.injEq] at e1
      obtain ⟨rfl, e1⟩ := e1
      cases eq_of_heq e1
      obtain ⟨us, hr, ho, _⟩ := h.mem id _ hm
      have hv : v = (G.σ id).v := by have := hp.1; simpa using this
      refine ⟨fun b => G.S b ∨ blockOf (G.σ id).v = some b, ?_⟩
      rw [hv]
      exact own_list (RepRows.imp (RepT.keep (fun _ => .inl) (fun _ _ => rfl) e') _ _ hr) ho fun _ => .inr
    · simp at e1

theorem run_under (hC : C.OK) {t : TypeId} {I : TI} (h : C.ti t = some I) : ∃ d, C.P.underlying t = some d := let ⟨d, hu, _⟩ := (hC.ti t I h).under; ⟨d, hu⟩

theorem convK_sound (hC : C.OK) (h : Sim E G s a w) {src dst : TypeId} {x : PV} {vx : Value} {k : PV → Option R} (hx : RepC G.S G.σ w x [vx]) (e : convK C s src dst x k = some r) :
    ∃ p v, (convert src dst vx).run C.P w = .ok v w ∧ RepC G.S G.σ w p [v] ∧ k p = some r := by
  unfold convK at e
  split at e
  · rename_i I D kd n hI hD
    split at e
    · rename_i kd' hty
      have := int_of (x := .undef) hx; subst this
      obtain ⟨d, hu⟩ := run_under hC hI
      obtain ⟨d', hu', _, _, hd'⟩ := (hC.ti dst D hD).under
      rw [hty] at hd'; simp only at hd'; subst hd'
      refine fin_int e ?_
      simp only [convert, Sem.run_bind, run_underlying hu, run_underlying hu', Result.andThen_ok]
      rfl
    · simp at e
  · rename_i I D t hI hD
    split at e
    · rename_i hty1 hty2
      have := str_of hx; subst this
      obtain ⟨d, hu, _, _, hd⟩ := (hC.ti src I hI).under
      rw [hty1] at hd; simp only at hd; subst hd
      obtain ⟨d', hu', _, _, hd'⟩ := (hC.ti dst D hD).under
      rw [hty2] at hd'; simp only at hd'; subst hd'
      refine fin_str e ?_
      simp [convert, run_underlying hu, run_underlying hu']
    · simp at e
  · rename_i I D hI hD _ _
    split at e
    · rename_i xs hty hs hl
      obtain ⟨d', hu', _, _, hd'⟩ := (hC.ti dst D hD).under
      rw [hty] at hd'; simp only at hd'; subst hd'
      obtain ⟨S', hx'⟩ := asList_rep h hx hl
      exact fin_str e (bytes_run hC hs hu' hx')
    · simp at e
  · simp at e

/-- A new block that is data: nothing of the call's own turns. -/
theorem Sim.grow {E : En} {G : Gh} {s : St} {a : Act} {w w' : World} (h : Sim E G s a w) (hos : w'.os = w.os) (htape : w'.tape = w.tape) (hout : w'.output = w.output) (hsz : w.heap.size ≤ w'.heap.size)
    (hb : ∀ b, b < w.heap.size → w'.heap[b]? = w.heap[b]?) : Sim E ⟨fun b => G.S b ∨ (w.heap.size ≤ b ∧ b < w'.heap.size), G.σ⟩ s a w' := by
  have hold : Holds G.S w w' := fun q hq => hb q (h.old q hq)
  refine ⟨h.defers, h.size, fun t => RepS.keep (fun _ => .inl) hold (fun _ _ => rfl) (h.tmp t), fun i c hc => ?_, h.apart, fun i bi hi k hk => ?_, fun q hq => ?_, ?_, fun b hb => .inl (h.sub b hb), fun b hb => ?_, h.mine, fun b o hM => ⟨fun hb => ?_, (h.sep b o hM).2⟩, h.par⟩
  · exact RepB.keep (fun _ => .inl) hold rfl (fun _ _ => rfl) (fun k hk => hb k (h.off i c hc k hk).2) (h.mem i c hc)
  · have := h.off i bi hi k hk
    exact ⟨fun hs => hs.elim this.1 fun hs => by omega, by omega⟩
  · exact hq.elim (fun x => Nat.lt_of_lt_of_le (h.old q x) hsz) (fun x => x.2)
  · exact h.kept.step hos htape hout hsz fun q hq => hb q (Nat.lt_of_lt_of_le hq h.kept.size)
  · exact hb.elim (h.new b) fun x => .inr (Nat.le_trans h.kept.size x.1)
  · refine hb.elim (h.sep b o hM).1 fun x => ?_
    have := (h.sep b o hM).2
    have := h.kept.size
    omega

theorem ints_rows : ∀ (l : List UInt8), RepRows (RepT S w (.int .u8)) (l.map fun b => (b.toNat : Int)) (l.map fun b => Value.int .u8 b.toNat)
  | [] => rfl
  | b :: l => ⟨[.int .u8 b.toNat], _, rfl, rfl, ints_rows l⟩

theorem bytesK_sound (hC : C.OK) (h : Sim E G s a w) {src dst : TypeId} {x : PV} {vx : Value} {k : SV → St → Option R} (hx : RepC G.S G.σ w x [vx]) (e : bytesK C s src dst x (fun p => k (.v p) s) = some r) :
    Done E a C.P (convert src dst vx) w k r := by
  unfold bytesK at e
  split at e
  · rename_i t
    rcases cond_some e with ⟨hs, e⟩ | ⟨_, e⟩
    · split at e
      · rename_i hd
        have := str_of hx; subst this
        obtain ⟨q, i, hu, hi, hz, hq⟩ := sliceElem_under hC hd
        have hrun := run_bytes_of_string (P := C.P) w src dst q t (isStr_under hC hs) hu (hq .u8 rfl)
        have hsz : w.heap.size < (w.drew.alloc (.cells (bytesRow t (grownCap w t.size 0 q)) q ((bytesRow t (grownCap w t.size 0 q)).size, (bytesRow t (grownCap w t.size 0 q)).size + 1))).heap.size := by
          show w.heap.size < (w.heap.push _).size
          simp
        refine ⟨.v (.list (.int .u8) (intsOf t)), _, s, _, _, hrun, ?_, h.grow (w' := w.drew.alloc _) rfl rfl rfl (Nat.le_of_lt hsz) (fun b hb => ?_), e⟩
        · have hlen : (intsOf t).length = t.size := by rw [intsOf, List.length_map, Array.length_toList]; rfl
          refine ⟨_, grownCap w t.size 0 q, by rw [hlen], by rw [hlen]; exact grownCap_ge w t.size 0 q, .inr ⟨w.heap.size, 0, t.data.toList.map fun b => Value.int .u8 b.toNat, rfl, .inr ⟨Nat.le_refl _, hsz⟩, ?_, ints_rows _⟩⟩
          intro j u hj
          have hh : (w.drew.alloc (.cells (bytesRow t (grownCap w t.size 0 q)) q ((bytesRow t (grownCap w t.size 0 q)).size, (bytesRow t (grownCap w t.size 0 q)).size + 1))).heap[w.heap.size]? = some (.cells (bytesRow t (grownCap w t.size 0 q)) q ((bytesRow t (grownCap w t.size 0 q)).size, (bytesRow t (grownCap w t.size 0 q)).size + 1)) := by
            show (w.heap.push _)[w.heap.size]? = _
            simp
          simp only [World.cell?, hh, Option.isSome_none, Bool.false_eq_true, if_false, Nat.zero_add]
          rw [bytesRow, Array.getElem?_append_left (by
            have := (List.getElem?_eq_some_iff.1 hj).1
            rw [Array.size_map]
            rw [List.length_map, Array.length_toList] at this
            exact this)]
          rw [← Array.getElem?_toList, Array.toList_map]
          exact hj
        · show (w.heap.push _)[b]? = _
          rw [Array.getElem?_push, if_neg (by omega)]
      · simp at e
    · simp at e
  · simp at e
end Go.Pr
