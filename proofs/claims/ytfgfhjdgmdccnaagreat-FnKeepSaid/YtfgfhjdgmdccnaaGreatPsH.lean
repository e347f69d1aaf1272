/- Each operation does what the interpreter says: slices' literals, stores, append. -/
import Derived.Test.YtfgfhjdgmdccnaaGreatPsG
namespace Go.Ps
set_option linter.unusedVariables false
variable {S S' : Nat → Prop} {σ σ' : Sg} {w w' : World} {E : En} {G : Gh} {s : St} {a : Act} {C : Cfg} {R : Type} {r : R}

theorem buildSlice_sound (hC : C.OK) (h : Sim E G s a w) {t e n : Nat} {I : TI} {Q : TI} (hI : C.ti t = some I) (hsh : I.sh = .slice e) (hQ : C.ti e = some Q) {id : Nat} (hid : id % 128 < 64) {ps : Array (Nat × Operand)} {xs : List Q.ty.den} {k : SV → List Upd → List Nat → Option R} {rs : List Nat}
    (hxs : rowsOf Q.ty s 0 (s.evs ps.toList) = some xs) (hn : ps.toList.length = n) (hz1 : 1 ≤ Q.size) (hz2 : n * Q.size ≤ 16777216) (hm : s.mem id = none)
    (e' : k (.v (.own id)) (frzC (cellsOfAll (s.evs ps.toList)) ++ [.set id (.rows e Q.ty .no xs)]) rs = some r) : Done E a C.P (Instr.buildSlice t n (ps.map fun (i, x) => (i, a.eval x))) w s k r := by
  obtain ⟨_, ⟨d, hu, _, hd, _⟩, _⟩ := hC.ti t I hI
  rw [hsh] at hd; simp only at hd; subst hd
  obtain ⟨⟨i, z, hi, hs, _, hz, hsame, _⟩, _, hsz, _⟩ := hC.ti e Q hQ
  have hev := evs_rep h ps.toList
  have hlist : (ps.map fun (i, x) => (i, a.eval x)).toList = ps.toList.map fun p => (p.1, a.eval p.2) := by simp
  have hall : ∀ {qs : List (Nat × SV)} {vs : List (Nat × Value)}, All2 (fun (p : Nat × SV) (q : Nat × Value) => p.1 = q.1 ∧ RepS G.S G.σ w p.2 q.2) qs vs → ∀ i ∈ ownsC (cellsOfAll qs), i % 128 ≠ 127 := by
    intro qs
    induction qs with
    | nil => intro vs _ i hi; simp [cellsOfAll, ownsC] at hi
    | cons q qs ih =>
      intro vs hv i hi
      cases hv with
      | @cons _ v _ vs hq ht =>
        simp only [cellsOfAll, ownsC, List.flatMap_append, List.mem_append] at hi
        rcases hi with hi | hi
        · cases hc : q.2.cells with
          | none => rw [hc] at hi; simp at hi
          | some c => rw [hc] at hi; exact owns_ok h (cells_rep hq.2 hc) i hi
        · exact ih ht i hi
  obtain ⟨G', g1, g2, g3, _, _, hsim⟩ := h.frzs (ownsC (cellsOfAll (s.evs ps.toList))) (hall hev)
  obtain ⟨hl, us, h1, h2, h3, h4⟩ := rowsOf_rep h g2 hev g3 hxs
  have hlen : (s.evs ps.toList).length = n := by simp [St.evs, hn]
  have hvl : (ps.toList.map fun p => (p.1, a.eval p.2)).length = n := by simpa using hn
  rw [hsz] at h3
  have hxl : xs.length = n := by rw [hl, hlen]
  let cells0 : Array Value := (Array.range (n * Q.size)).map fun i => (if n * Q.size = 0 then #[] else z.cells)[i % (if n * Q.size = 0 then (#[] : Array Value) else z.cells).size]!
  obtain ⟨cells', hfill, hcl⟩ := fill_rows (i := 0) (cells := cells0) h3 h4 (by rw [Nat.zero_add, hvl]; simp only [cells0, Array.size_map, Array.size_range])
  simp only [Nat.zero_mul, List.take_zero, List.nil_append] at hcl
  have hrun : (Instr.buildSlice t n (ps.map fun (i, x) => (i, a.eval x))).run C.P w = .ok (.slice (some ⟨w.heap.size, 0, none⟩) n n) (w.alloc (.cells cells' e)) := by
    simp only [Instr.buildSlice, Sem.run_bind, run_underlying hu, Result.andThen_ok, run_sizeOf' hi, hs]
    rw [if_neg (by omega)]
    by_cases h0 : n * Q.size = 0
    · simp only [h0, if_true, pure_bind]
      have : cells0 = (Array.range 0).map fun i => (#[] : Array Value)[i % (#[] : Array Value).size]! := by simp only [cells0, h0, if_true]
      rw [hlist, ← this, hfill]
      simp [newRow]
    · have hzero : (zeroValue e).run C.P w = .ok z w := by simp [zeroValue, typeInfo, hi, hz]
      have : cells0 = (Array.range (n * Q.size)).map fun i => z.cells[i % z.cells.size]! := by simp only [cells0, h0, if_false]
      simp only [h0, if_false, Sem.run_bind, hzero, Result.andThen_ok, pure_bind]
      rw [hlist, ← this, hfill]
      simp [newRow]
  have hnm : n ≤ 16777216 := Nat.le_trans (Nat.le_mul_of_pos_right n hz1) hz2
  have hnew := hsim.rows (e := e) (upds_frz_none hm) hid (xs := xs) (by rw [hsz]; exact hz1) h1 hcl (by rw [hxl]; simp [maxLen]; omega)
  rw [hxl] at hnew
  have key : ∀ {G2 : Gh}, Sim E G2 ((s.upds ((ownsC (cellsOfAll (s.evs ps.toList))).map .frz)).upd (.set id (.rows e Q.ty .no xs))) a (w.alloc (.cells cells' e)) → Sim E G2 (s.upds (frzC (cellsOfAll (s.evs ps.toList)) ++ [.set id (.rows e Q.ty .no xs)])) a (w.alloc (.cells cells' e)) := fun hh => by
    rw [upds_append]; exact hh
  exact ⟨_, _, _, rs, _, _, hrun, RepS.v own_rep, key hnew, e'⟩

/-! ### Stores -/
/-- Cells of a block of the call's own are written. -/
theorem Sim.store (h : Sim E G s a w) {id : Nat} {b0 b1 : Blk} {k o : Nat} {us : List Value} (hm : s.mem id = some b0) (hk : k ∈ G.β id) (hW : E.W.heap.size ≤ k ∨ ∀ j, j < us.length → E.M k (o + j))
    (hB : ∀ L, G.σ id = some L → RepB G.S G.σ (w.setCells k o us) L b1 (G.β id)) (hbox : ∀ cs, b0 = .box cs → ∃ cs', b1 = .box cs' ∧ widthC cs' = widthC cs) : Sim E G (s.upd (.set id b1)) a (w.setCells k o us) := by
  obtain ⟨L, hL, _⟩ := h.mem id _ hm
  refine h.change (upd_tmps _ _) (upd_n _ _) (SgLe.refl _) (fun _ x => x) (fun q hq => heap_setCells_ne k us _ w q (fun e => (h.off id k hk).1 (e ▸ hq))) (h.kept.put k o us hW) (fun i c hc => ?_) (fun i hi => ?_) h.apart h.nodup (fun i q hq => by rw [size_setCells]; exact h.off i q hq) (fun q hq => .inl hq) (fun i q hq => ?_) (fun i L' _ hL' => .inl hL') (by rw [size_setCells]; exact Nat.le_refl _)
  · by_cases e : i = id
    · subst e
      rw [upd_set_same] at hc
      simp only [Option.some.injEq] at hc
      subst hc
      exact .inr ⟨L, hL, hB L hL⟩
    · rw [upd_set_other _ _ e] at hc
      exact .inl ⟨hc, rfl, fun q hq => heap_setCells_ne k us _ w q fun x => h.apart i id e q hq (x ▸ hk)⟩
  · by_cases e : i = id
    · subst e; rw [upd_set_same] at hi; simp at hi
    · rw [upd_set_other _ _ e] at hi; exact ⟨hi, rfl, rfl⟩
  · refine (h.mine i q hq).imp (fun x => x) fun x => x.imp (fun x => x) fun ⟨g1, cs, L', o', g2, g3, g4, g5⟩ => ?_
    by_cases e : i = id
    · subst e
      rw [hm] at g2
      simp only [Option.some.injEq] at g2
      obtain ⟨cs', h1, h2⟩ := hbox cs g2
      exact ⟨g1, cs', L', o', by rw [upd_set_same, h1], g3, g4, by rw [h2]; exact g5⟩
    · exact ⟨g1, cs, L', o', by rw [upd_set_other _ _ e]; exact g2, g3, g4, g5⟩

theorem ownsRow_put {T : TypeId} {z b n c off : Nat} {vs us : List Value} (h : w.ownsRow 0 T z (.slice (some ⟨b, 0, none⟩) n c) n vs) (hle : off + us.length ≤ vs.length) :
    (w.setCells b off us).ownsRow 0 T z (.slice (some ⟨b, 0, none⟩) n c) n (vs.take off ++ (us ++ vs.drop (off + us.length))) := by
  obtain ⟨hvl, h⟩ := h
  rcases h with ⟨hh, _⟩ | ⟨g, cap, cur, hh, hg, hheap, hn, hm', hc, ht⟩
  · simp at hh
  · simp only [Value.slice.injEq, Option.some.injEq, Addr.mk.injEq, and_true, true_and] at hh
    obtain ⟨rfl, rfl⟩ := hh
    have hcur : vs.length ≤ cur.size := by rw [hvl, hc]; exact Nat.mul_le_mul_right _ hn
    obtain ⟨cur', h1, h2⟩ := heap_setCells_same b _ _ us off w cur hheap (by omega)
    refine ⟨by simp; omega, .inr ⟨b, c, cur', rfl, Nat.zero_le _, h1, hn, hm', ?_, ?_⟩⟩
    · have : cur'.toList.length = cur.toList.length := by rw [h2]; simp; omega
      simpa [hc] using this
    · rw [h2, ← hvl]
      have hcv : cur.toList.take vs.length = vs := by rw [hvl]; exact ht
      have ht1 : cur.toList.take off = vs.take off := by
        conv => rhs; rw [← hcv]
        rw [List.take_take, Nat.min_eq_left (by omega)]
      have hd1 : (cur.toList.drop (off + us.length)).take (vs.length - (off + us.length)) = vs.drop (off + us.length) := by
        conv => rhs; rw [← hcv]
        rw [List.drop_take]
      rw [ht1, List.take_append, List.take_of_length_le (by simp; omega)]
      congr 1
      rw [List.take_append, List.take_of_length_le (by simp; omega)]
      congr 1
      rw [← hd1]
      congr 1
      simp; omega

theorem rowF_put {f : Fl} {T : TypeId} {z b n c off : Nat} {vs us : List Value} (h : rowF w f T z (.slice (some ⟨b, 0, none⟩) n c) n vs) (hle : off + us.length ≤ vs.length) :
    rowF (w.setCells b off us) f T z (.slice (some ⟨b, 0, none⟩) n c) n (vs.take off ++ (us ++ vs.drop (off + us.length))) := by
  rcases h with h | ⟨hf, hvl, g, cap, cur, fz, hh, hheap, hz, hn, hm', hc, ht⟩
  · exact .inl (ownsRow_put h hle)
  · simp only [Value.slice.injEq, Option.some.injEq, Addr.mk.injEq, and_true, true_and] at hh
    obtain ⟨rfl, rfl⟩ := hh
    have hcur : vs.length ≤ cur.size := by rw [hvl, hc]; exact Nat.mul_le_mul_right _ hn
    obtain ⟨cur', h1, h2⟩ := heap_setCells_same b _ _ us off w cur hheap (by omega)
    have hsz : cur'.size = cur.size := by
      have : cur'.toList.length = cur.toList.length := by rw [h2]; simp; omega
      simpa using this
    refine .inr ⟨hf, by simp; omega, b, c, cur', fz, rfl, h1, by omega, hn, hm', by omega, ?_⟩
    rw [h2, ← hvl]
    have hcv : cur.toList.take vs.length = vs := by rw [hvl]; exact ht
    have ht1 : cur.toList.take off = vs.take off := by
      conv => rhs; rw [← hcv]
      rw [List.take_take, Nat.min_eq_left (by omega)]
    have hd1 : (cur.toList.drop (off + us.length)).take (vs.length - (off + us.length)) = vs.drop (off + us.length) := by
      conv => rhs; rw [← hcv]
      rw [List.drop_take]
    rw [ht1, List.take_append, List.take_of_length_le (by simp; omega)]
    congr 1
    rw [List.take_append, List.take_of_length_le (by simp; omega)]
    congr 1
    rw [← hd1]
    congr 1
    simp; omega
theorem splice2 {α : Type} (vs us : List α) (a z q : Nat) (h1 : a + z ≤ vs.length) (h2 : q + us.length ≤ z) :
    vs.take a ++ ((((vs.drop a).take z).take q ++ (us ++ ((vs.drop a).take z).drop (q + us.length))) ++ vs.drop (a + z)) = vs.take (a + q) ++ (us ++ vs.drop (a + q + us.length)) := by
  have := splice_splice vs us 0 a z q us.length vs.length h1 h2
  simp only [List.take_zero, List.drop_zero, List.nil_append, Nat.zero_add, List.take_length, List.drop_length, List.append_nil] at this
  exact this

theorem dat_dat (s : St) (p : PV) : s.dat (s.dat p) = s.dat p := by
  cases p <;> try rfl
  case own id =>
    have : s.dat (.own id) = match s.asList (.own id) with | some ⟨e, xs⟩ => .list e xs | none => .undef := rfl
    rw [this]
    cases s.asList (.own id) <;> rfl
  case fn f caps =>
    have : s.dat (.fn f caps) = bif caps.all (fun c => match c with | .ref _ => false | _ => true) then .fn f caps else .undef := rfl
    rw [this]
    cases hb : caps.all (fun c => match c with | .ref _ => false | _ => true)
    · rfl
    · simp only [cond_true]; rw [this, hb]; rfl
theorem storeK_sound (hC : C.OK) (h : Sim E G s a w) {t : TypeId} {p : PV} {x : SV} {va vx : Value} {k : List Upd → List Nat → Option R} (hp : RepC G.S G.σ w p [va]) (hx : RepS G.S G.σ w x vx) (e : storeK C s t p x k = some r) :
    ∃ G' us rs w', (Instr.storeAt t va vx).run C.P w = .ok () w' ∧ Sim E G' (s.upds us) a w' ∧ k us rs = some r := by
  unfold storeK at e
  split at e
  · rename_i I new hI hnew
    rcases cond_some e with ⟨hw, e⟩ | ⟨_, e⟩
    · have hw := Nat.eq_of_beq_eq_true hw
      obtain ⟨⟨i0, z, hi, hs, _⟩, _⟩ := hC.ti t I hI
      have hcells := cells_rep hx hnew
      have hlen := RepCs.length hcells
      rw [hw] at hlen
      have hone := RepCs.ones hcells
      split at e
      · rename_i id q _
        split at e
        · rename_i cs hm
          obtain ⟨L, b, o, hL, hv, hq, hva⟩ := hp
          simp only [List.cons.injEq, and_true] at hva
          subst hva
          obtain ⟨L', hL', b', o', vs, hv', hc, hr, ht, hβ⟩ := h.mem id _ hm
          rw [hL] at hL'; simp only [Option.some.injEq] at hL'; subst hL'
          rw [hv] at hv'
          simp only [Value.pointer.injEq, Option.some.injEq, Addr.mk.injEq, and_true] at hv'
          obtain ⟨rfl, rfl⟩ := hv'
          have key : ∀ {cs'}, RepCs G.S G.σ w cs' (vs.take q.off ++ (vx.cells.toList ++ vs.drop (q.off + I.size))) → q.off + I.size ≤ vs.length → k [.set id (.box cs')] [] = some r →
              ∃ G' us rs w', (Instr.storeAt t (.pointer (some ⟨b, o + q.off, none⟩)) vx).run C.P w = .ok () w' ∧ Sim E G' (s.upds us) a w' ∧ k us rs = some r := by
            intro cs' hput hle e
            have hl2 := hlen
            rw [Array.length_toList] at hl2
            have hwid : widthC cs' = widthC cs := by rw [← RepCs.length hput, ← RepCs.length hc]; simp; omega
            have hst : Sim E G (s.upd (.set id (.box cs'))) a (w.setCells b (o + q.off) vx.cells.toList) → _ := fun hh => (⟨G, [.set id (.box cs')], [], _, run_storeAt_any hi (by rw [hs, hlen]) (fun j hj => by
                have := ht (q.off + j) (by omega)
                rwa [← Nat.add_assoc] at this) hone, hh, e⟩ : ∃ G' us rs w', (Instr.storeAt t (.pointer (some ⟨b, o + q.off, none⟩)) vx).run C.P w = .ok () w' ∧ Sim E G' (s.upds us) a w' ∧ k us rs = some r)
            refine hst (h.store hm (b1 := .box cs') (k := b) (o := o + q.off) (us := vx.cells.toList) (by rw [hβ]; simp) ?_ (fun L' hL' => ?_) (fun cs0 h0 => ⟨cs', rfl, by simp only [Blk.box.injEq] at h0; rw [← h0]; exact hwid⟩))
            · rcases h.mine id b (by rw [hβ]; simp) with x | x | ⟨_, cs0, L0, o0, g1, g2, g3, g4⟩
              · exact .inl x
              · exact .inr fun j _ => (h.all b x).2 _
              · right
                rw [hm] at g1
                simp only [Option.some.injEq, Blk.box.injEq] at g1
                subst g1
                rw [hL] at g2; simp only [Option.some.injEq] at g2; subst g2
                rw [hv] at g3
                simp only [Value.pointer.injEq, Option.some.injEq, Addr.mk.injEq, and_true, true_and] at g3
                subst g3
                intro j hj
                have := g4 (q.off + j) (by rw [← RepCs.length hc]; omega)
                rwa [← Nat.add_assoc] at this
            · rw [hL] at hL'; simp only [Option.some.injEq] at hL'; subst hL'
              refine ⟨b, o, vs.take q.off ++ (vx.cells.toList ++ vs.drop (q.off + vx.cells.toList.length)), hv, ?_, rangeAt_put hr ht (by omega), ?_, hβ⟩
              · rw [hlen]; exact RepCs.keep (fun _ x => x) (fun q hq => heap_setCells_ne b _ _ w q fun e => (h.off id b (by rw [hβ]; simp)).1 (e ▸ hq)) (SgLe.refl _) hput
              · have : (vs.take q.off ++ (vx.cells.toList ++ vs.drop (q.off + vx.cells.toList.length))).length = vs.length := by simp; omega
                rw [this]; exact there_put ht _ _ _
          cases q with
          | «at» o1 =>
            simp only at e
            split at e
            · rename_i cs' hput
              have hle := putC_le hput
              rw [← RepCs.length hc] at hle
              exact key (RepCs.put hc hput hcells hlen) hle e
            · simp at e
          | arr o1 e1 m1 j1 q1 =>
            simp only at e
            rcases cond_some e with ⟨hemp, e⟩ | ⟨_, e⟩
            · split at e
              · rename_i cs' hput
                have hd : RepCs G.S G.σ w (new.map s.dat) vx.cells.toList := datC_rep h (fun _ x => x) (fun i hi => by
                  have : ownsC new = [] := List.isEmpty_iff.1 hemp
                  rw [this] at hi; simp at hi) hcells
                obtain ⟨g1, g2⟩ := storeC_rep hc hq hput hcells hd hlen
                exact key g1 g2 e
              · simp at e
            · simp at e
        · simp at e
      · rename_i id i q _
        split at e
        · rename_i T e' f xs hm
          rcases cond_some e with ⟨hf, e⟩ | ⟨_, e⟩
          · simp only [Bool.and_eq_true, Bool.not_eq_true'] at hf
            obtain ⟨hf, hnot⟩ := hf
            split at e
            · rename_i cs' hput
              split at e
              · rename_i x' hproj
                have hnid : id ∉ ownsC new := fun hin => by
                  have := List.any_eq_false.1 hnot id hin
                  simp at this
                obtain ⟨G', gσ, gS, gV, _, gβ, hsim⟩ := h.frzs (ownsC new) (owns_ok h hcells)
                have hmem : (s.upds ((ownsC new).map .frz)).mem id = some (.rows T e' f xs) := by rw [upds_frz_other hnid]; exact hm
                obtain ⟨L, b, n, c, hL, hv, h0, hlt, hq, hva⟩ := hp
                simp only [List.cons.injEq, and_true] at hva
                subst hva
                obtain ⟨L', hL', hB, hz⟩ := hsim.mem id _ hmem
                rw [gσ, hL] at hL'; simp only [Option.some.injEq] at hL'; subst hL'
                obtain ⟨hpos, v, vs, B2, e1, hβ2, ho, hrw⟩ := hB
                simp only [List.cons.injEq, and_true] at e1
                subst e1
                obtain ⟨hrw', hB1⟩ := (RowsB_flat hf).1 hrw
                clear hrw
                have hrw := hrw'
                clear hrw'
                subst hB1
                rw [List.append_nil] at hβ2
                have hn := rowF_len ho hv
                subst hn
                rw [hv] at ho hβ2
                have hi' : i.toNat < xs.length := by omega
                have hel := RepRows.get (RepT.length e') hrw _ hi'
                have hin : i.toNat * e'.size + e'.size ≤ vs.length := by
                  rw [rowF_len1 ho]
                  have : i.toNat * e'.size + e'.size = (i.toNat + 1) * e'.size := by rw [Nat.add_mul, Nat.one_mul]
                  rw [this]; exact Nat.mul_le_mul_right _ hi'
                have hcur : RepCs G'.S G'.σ w (inj e' (rd xs i)) ((vs.drop (i.toNat * e'.size)).take e'.size) := by
                  rw [rd, getD_eq _ _ _ hi']; exact inj_rep _ _ _ hel
                have hnewd : RepCs G'.S G'.σ w (new.map s.dat) vx.cells.toList := datC_rep h gS gV hcells
                have hdd : (new.map s.dat).map s.dat = new.map s.dat := by
                  rw [List.map_map]; exact List.map_congr_left fun p _ => dat_dat s p
                obtain ⟨hst, hle⟩ := storeC_rep hcur hq hput hnewd (by rw [hdd]; exact hnewd) hlen
                have hfull := projAll_rep hst hproj
                have hele : q.off + I.size ≤ e'.size := by rw [List.length_take, List.length_drop] at hle; omega
                have hrow' := RepRows.set (RepT.length e') hrw i.toNat x' _ hi' hfull
                have hsp := splice2 vs vx.cells.toList (i.toNat * e'.size) e'.size q.off hin (by rw [hlen]; exact hele)
                rw [hlen] at hsp
                rw [hsp] at hrow'
                have hbβ : b ∈ G'.β id := by
                  rw [hβ2]; simp [blockOf]
                have hput2 := rowF_put (off := i.toNat * e'.size + q.off) (us := vx.cells.toList) ho (by rw [hlen]; omega)
                refine ⟨G', _, _, _, run_storeAt_any hi (by rw [hs, hlen]) ?_ hone, ?_, e⟩
                · rw [hz]; exact rowF_there ho (by rw [hlen]; omega)
                · rw [upds_append]
                  rw [hz]
                  refine hsim.store hmem (b1 := .rows T e' f (xs.set i.toNat x')) hbβ ?_ (fun L' hL' => ?_) (fun cs h0 => by simp at h0)
                  · rcases hsim.mine id b hbβ with x | x | ⟨_, cs0, L0, o0, g1, _⟩
                    · exact .inl x
                    · exact .inr fun j _ => (hsim.all b x).2 _
                    · rw [hmem] at g1; simp at g1
                  · rw [gσ, hL] at hL'; simp only [Option.some.injEq] at hL'; subst hL'
                    have hold : Holds G'.S w (w.setCells b (i.toNat * e'.size + q.off) vx.cells.toList) := fun p hp => heap_setCells_ne b _ _ w p fun e => (hsim.off id b hbβ).1 (e ▸ hp)
                    refine ⟨⟨hpos, _, _, [], rfl, by rw [hβ2, hv, List.append_nil], ?_, (RowsB_flat hf).2 ⟨RepRows.imp (RepT.keep (fun _ x => x) hold e') _ _ hrow', rfl⟩⟩, hz⟩
                    rw [hv, List.length_set]
                    rw [hlen] at hput2
                    exact hput2
              · simp at e
            · simp at e
          · simp at e
        · simp at e
      · simp at e
    · simp at e
  · simp at e

/-! ### append -/
theorem shape_owned {T : TypeId} {z n m c : Nat} {g : Nat} {xs ys : List Value} (h : w.ownsRow 0 T z (.slice (some ⟨g, 0, none⟩) n c) n xs) (h' : w'.ownsRow 0 T z (.slice (some ⟨g, 0, none⟩) m c) m ys) : Shape' w w' g := by
  intro o
  rcases h.2 with ⟨hh, _⟩ | ⟨g1, cap, cur, hh, _, hg, _, _, hc, _⟩
  · simp at hh
  rcases h'.2 with ⟨hh', _⟩ | ⟨g2, cap', cur', hh', _, hg', _, _, hc', _⟩
  · simp at hh'
  simp only [Value.slice.injEq, Option.some.injEq, Addr.mk.injEq, and_true, true_and] at hh hh'
  obtain ⟨rfl, rfl⟩ := hh
  obtain ⟨rfl, rfl⟩ := hh'
  have hsz : cur'.size = cur.size := by rw [hc, hc']
  refine ⟨?_, ?_⟩
  · simp only [World.cell?, hg, hg', Option.isSome_none, Bool.false_eq_true, if_false]
    by_cases ho : o < cur.size
    · rw [Array.getElem?_eq_getElem ho, Array.getElem?_eq_getElem (by omega)]; rfl
    · rw [Array.getElem?_eq_none (by omega), Array.getElem?_eq_none (by omega)]
  · simp only [World.frozen?, hg, hg']

/-- append onto a row of the call's own, and where the row lies then. -/
theorem run_append_at {P : Program} (w : World) {t ty e : TypeId} {i : TypeInfo} {z : Value} {size bytes : Nat} (ht : P.underlying t = some (.slice e)) (hi : P.info? e = some i) (hz : i.zero = some z)
    (hsize : i.size = size) (hby : i.bytes = bytes) (hzs : z.cells.size = size) (hsz : 0 < size) {v : Value} {n : Nat} {xs : List Value} (hown : w.ownsRow 0 e size v n xs)
    {p : Option Addr} {m c : Nat} {news : List Value} (hl : news.length = m * size) (hp : p = none → m = 0 ∧ c = 0) (hnews : ∀ ad, p = some ad → ∀ j u, news[j]? = some u → w.cell? (ad.add j) = some u) (h1 : ∀ u ∈ news, u.oneCell' = true)
    (h63 : n + m ≤ maxLen) (hbytes : (n + m) * bytes ≤ 140737488355328) :
    ∃ v' w', (Builtin.append_ #[t, t] ty #[v, .slice p m c]).run P w = .ok v' w' ∧ w'.ownsRow 0 e size v' (n + m) (xs ++ news) ∧ w.grownBy w' v.ownBlock ∧ (∀ k, v'.ownBlock = some k → w.heap.size ≤ k ∨ v.ownBlock = some k) ∧ (∀ k, v.ownBlock = some k → Shape' w w' k) := by
  cases p with
  | none =>
    obtain ⟨rfl, rfl⟩ := hp rfl
    have hn : news = [] := List.eq_nil_of_length_eq_zero (by simpa using hl)
    subst hn
    exact ⟨v, w, run_append_owned_none w 0 t ty e i size ht hi v n xs hown, by simpa using hown, ⟨rfl, rfl, rfl, Nat.le_refl _, fun _ _ _ => rfl⟩, fun k hk => .inr hk, fun k _ o => ⟨rfl, rfl⟩⟩
  | some ad =>
    rcases hown.2 with ⟨rfl, rfl⟩ | ⟨g, cap, cur, rfl, hrest⟩
    · have hown' : w.ownsRow w.heap.size e size (.slice none 0 0) 0 xs := ⟨hown.1, .inl ⟨rfl, rfl⟩⟩
      obtain ⟨v', w', hr, ho, hg, _⟩ := run_append_own (P := P) w w.heap.size t ty e i z size bytes ht hi hz hsize hby hzs hsz _ 0 xs hown' ad m c news hl (hnews ad rfl) h1 h63 hbytes (Nat.le_refl _)
      refine ⟨v', w', hr, ⟨ho.1, ho.2.imp (fun x => x) fun ⟨g, cap, cur, a1, a2, a3⟩ => ⟨g, cap, cur, a1, Nat.zero_le _, a3⟩⟩, hg, fun k hk => .inl (ho.lt k hk).1, fun k hk => by simp [Value.ownBlock] at hk⟩
    · by_cases hroom : n + m ≤ cap
      · obtain ⟨w', hr, ho, hg⟩ := run_append_fits (P := P) w 0 t ty e i size ht hi hsize g n cap xs hown ad m c news hl (hnews ad rfl) h1 hroom
        exact ⟨_, w', hr, ho, hg, fun k hk => .inr hk, fun k hk => by
          simp only [Value.ownBlock, Option.some.injEq] at hk
          subst hk
          exact shape_owned hown ho⟩
      · obtain ⟨v', w', hr, ho, hg, _⟩ := run_append_own (P := P) w 0 t ty e i z size bytes ht hi hz hsize hby hzs hsz _ n xs hown ad m c news hl (hnews ad rfl) h1 h63 hbytes (Nat.zero_le _)
        subst hsize
        subst hby
        have hr2 := run_append_grow (P := P) w t ty e i z ht hi hz ⟨g, 0, none⟩ n cap xs hown.1 (hown.cells (g := g) rfl) ad m c news hl (hnews ad rfl) (by omega) (by simp only [maxLen] at h63; omega) (growslice_fits (by omega) hbytes)
        rw [hr] at hr2
        simp only [Result.ok.injEq] at hr2
        refine ⟨v', w', hr, ho, hg, fun k hk => .inl ?_, fun k hk o => ?_⟩
        · rw [hr2.1] at hk
          simp only [Value.ownBlock, Option.some.injEq] at hk
          omega
        · simp only [Value.ownBlock, Option.some.injEq] at hk
          subst hk
          have hb : w'.heap[g]? = w.heap[g]? := by
            rw [hr2.2]
            obtain ⟨_, hh, _⟩ := hrest
            exact heap_alloc_old w.drew _ g (Array.getElem?_eq_some_iff.1 hh).1
          exact ⟨by rw [World.cell?_of_block (a := ⟨g, o, none⟩) hb], World.frozen?_of_block (a := ⟨g, o, none⟩) hb⟩


theorem blockOf_own (v : Value) (h : ∃ p n c, v = .slice p n c) : blockOf v = v.ownBlock := by
  obtain ⟨p, n, c, rfl⟩ := h
  cases p <;> rfl

/-- What is appended; what becomes data for it. -/
theorem moreOf_rep (h : Sim E G s a w) {e : Ty} {y : PV} {vy : Value} {ys : List e.den} (hy : RepC G.S G.σ w y [vy]) (e1 : moreOf s e y = some ys) :
    ∃ G', G'.σ = G.σ ∧ Sim E G' (s.upds (moreU s y)) a w ∧ (∀ i, (∃ T t xs, s.mem i = some (.rows T t .no xs)) → G'.β i = G.β i ∧ (s.upds (moreU s y)).mem i = s.mem i) ∧ (∀ i, s.mem i = none → (s.upds (moreU s y)).mem i = none) ∧
      ∃ p m c news, vy = .slice p m c ∧ m = ys.length ∧ RepRows (RepT G'.S w e) ys news ∧ (p = none → m = 0 ∧ c = 0) ∧ (∀ ad, p = some ad → ∀ j u, news[j]? = some u → w.cell? (ad.add j) = some u) := by
  have list : ∀ {S' : Nat → Prop} (zs : List e.den), RepT S' w (.list e) zs [vy] → ∃ p m c news, vy = .slice p m c ∧ m = zs.length ∧ RepRows (RepT S' w e) zs news ∧ (p = none → m = 0 ∧ c = 0) ∧ (∀ ad, p = some ad → ∀ j u, news[j]? = some u → w.cell? (ad.add j) = some u) := by
    rintro S' zs ⟨p, c, hv, hc, hh⟩
    simp only [List.cons.injEq, and_true] at hv
    rcases hh with ⟨rfl, hp⟩ | ⟨b, o, us, rfl, hS, hr, hrows⟩
    · exact ⟨p, _, c, [], hv, rfl, rfl, fun hn => ⟨rfl, hp hn⟩, by simp⟩
    · refine ⟨_, _, c, us, hv, rfl, hrows, fun hn => by simp at hn, fun ad had j u hu => ?_⟩
      simp only [Option.some.injEq] at had
      subst had
      rw [Addr.add_mid]; exact hr j u hu
  unfold moreOf at e1
  split at e1
  · simp only [Option.some.injEq] at e1; subst e1
    have : vy = .slice none 0 0 := by simpa [RepC] using hy
    exact ⟨G, rfl, h, fun _ _ => ⟨rfl, rfl⟩, fun _ h => h, none, 0, 0, [], this, rfl, rfl, fun _ => ⟨rfl, rfl⟩, by simp⟩
  · rename_i hp
    split at e1
    · rename_i e' xs hl
      split at e1
      · rename_i hh _
        simp only [Option.some.injEq] at e1; subst e1
        subst hh
        cases y with
        | list e0 zs =>
          simp only [St.asList, Option.some.injEq, Sigma.mk.injEq] at hl
          obtain ⟨rfl, hl⟩ := hl
          cases eq_of_heq hl
          exact ⟨G, rfl, h, fun _ _ => ⟨rfl, rfl⟩, fun _ h => h, list _ hy⟩
        | own id =>
          have hT := asList_rep h hy hl
          have hid := own_mod h hy
          obtain ⟨L, p0, n0, c0, hL, hv, hvy⟩ := hy
          simp only [List.cons.injEq, and_true] at hvy
          simp only [moreU]
          cases hm : s.mem id with
          | none => simp [St.asList, hm] at hl
          | some b =>
            cases b with
            | rows T t f zs =>
              simp only
              cases hf : f.isNo with
              | true =>
                have hf : f = .no := by cases f <;> first | rfl | simp [Fl.isNo] at hf
                subst hf
                refine ⟨G, rfl, h, fun _ _ => ⟨rfl, rfl⟩, fun _ h => h, ?_⟩
                have hl2 : t = e' ∧ HEq zs xs := by simpa [St.asList, hm] using hl
                obtain ⟨rfl, hl2⟩ := hl2
                cases eq_of_heq hl2
                obtain ⟨L', hL', hB, _⟩ := h.mem id _ hm
                rw [hL] at hL'; simp only [Option.some.injEq] at hL'; subst hL'
                obtain ⟨_, v, vs, B1, e1, _, ho, hrw⟩ := hB
                simp only [List.cons.injEq, and_true] at e1
                subst e1
                obtain ⟨hrw, _⟩ := RowsB_no.1 hrw
                rw [hvy]
                have ho := rowF_no (by simp) ho
                rcases ho.2 with ⟨hh2, h0⟩ | ⟨g, cap, cur, hh2, hg⟩
                · exact ⟨none, 0, 0, vs, hh2, h0.symm, hrw, fun _ => ⟨rfl, rfl⟩, by simp⟩
                · rw [hh2] at ho
                  refine ⟨_, _, cap, vs, hh2, rfl, hrw, by simp, fun ad had j u hu => ?_⟩
                  simp only [Option.some.injEq] at had
                  subst had
                  rw [Addr.add_mid]; exact ownsRow_range ho j u hu
              | false =>
                obtain ⟨S', h1, h2, h3, h4⟩ := h.frz id hid
                refine ⟨⟨S', G.σ, fun i => if i = id then [] else G.β i⟩, rfl, h4, fun i hi => ?_, fun i hi => ?_, list _ (RepT.keep (fun b hb => hb.elim (h1 b) fun ⟨i, hi, hb'⟩ => h2 b (by simp only [PV.owns, List.mem_singleton] at hi; subst hi; exact hb')) (fun _ _ => rfl) _ _ _ hT)⟩
                · obtain ⟨T2, t2, xs2, hi⟩ := hi
                  have hne : i ≠ id := fun e => by
                    subst e; rw [hm] at hi
                    simp only [Option.some.injEq, Blk.rows.injEq] at hi
                    rw [hi.2.2.1] at hf; simp [Fl.isNo] at hf
                  exact ⟨by simp [hne], upd_frz_other _ hne⟩
                · have hne : i ≠ id := fun e => by subst e; rw [hm] at hi; simp at hi
                  exact (upd_frz_other _ hne).trans hi
            | frows t zs =>
              refine ⟨G, rfl, h, fun _ _ => ⟨rfl, rfl⟩, fun _ h => h, ?_⟩
              have hl2 : t = e' ∧ HEq zs xs := by simpa [St.asList, hm] using hl
              obtain ⟨rfl, hl2⟩ := hl2
              cases eq_of_heq hl2
              obtain ⟨L', hL', _, ht, _⟩ := h.mem id _ hm
              rw [hL] at hL'; simp only [Option.some.injEq] at hL'; subst hL'
              rw [← hvy] at ht
              exact list _ ht
            | _ => simp [St.asList, hm] at hl
        | _ => simp [St.asList] at hl
      · simp at e1
    · simp at e1

theorem appendK_sound (hC : C.OK) (h : Sim E G s a w) {id : Nat} (hid : id % 128 < 64) {sl ty : TypeId} {x y : PV} {vx vy : Value} {k : SV → List Upd → List Nat → Option R} {rs : List Nat} (hx : RepC G.S G.σ w x [vx]) (hy : RepC G.S G.σ w y [vy]) (e : appendK C s id sl x y (fun p us => k (.v p) us rs) = some r) :
    Done E a C.P (Builtin.append_ #[sl, sl] ty #[vx, vy]) w s k r := by
  unfold appendK at e
  split at e
  · rename_i q _ _ _ _ _ hI
    split at e
    · rename_i Q hQ
      rcases cond_some e with ⟨hz1, e⟩ | ⟨_, e⟩
      · have hz1 := Nat.le_of_ble_eq_true hz1
        split at e
        · rename_i ys hys
          obtain ⟨_, ⟨d, hu, _, hd, _⟩, _⟩ := hC.ti sl _ hI
          simp only at hd; subst hd
          obtain ⟨⟨i, z, hi, hs, hby, hz, hsame, hzl⟩, _, hsz, _⟩ := hC.ti q Q hQ
          have hzs : z.cells.size = Q.ty.size := by rw [hzl, hsz]
          obtain ⟨G', gσ, hsim, hrw, hno, p, m, c, news, rfl, rfl, hrows, hp, hnews⟩ := moreOf_rep h hy hys
          have hnl : news.length = ys.length * Q.ty.size := RepRows.length (RepT.length Q.ty) hrows
          have hone : ∀ u ∈ news, u.oneCell' = true := RepRows.one (RepT.one Q.ty) hrows
          have hpos : 0 < Q.ty.size := by rw [hsz]; exact hz1
          split at e
          · obtain ⟨hm, e⟩ := freshK_some e
            rcases cond_some e with ⟨hb, e⟩ | ⟨_, e⟩
            · obtain ⟨hb1, hb2⟩ := room hb
              have : vx = .slice none 0 0 := by simpa [RepC] using hx
              subst this
              have hown := World.ownsRow_nil w 0 q Q.ty.size
              obtain ⟨v', w', hr, ho, hg, hloc, _⟩ := run_append_at (P := C.P) w (ty := ty) hu hi hz (by rw [hs, hsz]) hby hzs hpos hown hnl hp hnews hone (by simp only [maxLen]; omega) (by simpa using hb1)
              simp only [Nat.zero_add, List.nil_append] at ho
              have hsl : ∃ p n c, v' = .slice p n c := by
                rcases ho.2 with ⟨hh, _⟩ | ⟨g, cap, cur, hh, _⟩ <;> exact ⟨_, _, _, hh⟩
              have hgb : ∀ q, q < w.heap.size → w'.heap[q]? = w.heap[q]? := fun q hq => hg.block q hq (by simp [Value.ownBlock])
              have hnew := hsim.fresh (hno id hm) hid (.rows q Q.ty .no ys) ⟨v', Q.ty.size⟩ (blockOf v').toList none hg.os hg.tape hg.output hg.size (fun q hq _ => hgb q hq) (fun q hq => by simp at hq) (fun k hk => by
                simp only [Option.mem_toList] at hk
                rw [blockOf_own v' hsl] at hk
                exact ⟨(hloc k hk).imp (fun x => x) (fun x => by simp [Value.ownBlock] at x), (ho.lt k hk).2⟩) (by cases blockOf v' <;> simp)
                ⟨⟨hpos, _, news, [], rfl, by simp, .inl ho, RowsB_no.2 ⟨RepRows.imp (RepT.keep (fun _ x => x) (fun q hq => hgb q (hsim.old q hq)) Q.ty) _ _ hrows, rfl⟩⟩, rfl⟩
              refine ⟨.v (.own id), v', _, rs, _, w', hr, ?_, by rw [upds_append]; exact hnew, e⟩
              obtain ⟨p', n', c', rfl⟩ := hsl
              exact RepS.v own_rep
            · simp at e
          · rename_i j _
            split at e
            · rename_i T e' f xs hmj
              rcases cond_some e with ⟨hT, e3⟩ | ⟨_, e3⟩
              · simp only [Bool.and_eq_true] at hT
                obtain ⟨hT, hf⟩ := hT
                have hT := Nat.eq_of_beq_eq_true hT
                have hf : f = .no := by cases f <;> first | rfl | simp [Fl.isNo] at hf
                subst hT hf
                split at e3
                · rename_i he _
                  obtain ⟨hm, e4⟩ := freshK_some e3
                  clear e3 e
                  have e := e4
                  clear e4
                  rcases cond_some e with ⟨hb, e⟩ | ⟨_, e⟩
                  · obtain ⟨hb1, hb2⟩ := room hb
                    subst he
                    obtain ⟨hβj, hmj'⟩ := hrw j ⟨_, _, _, hmj⟩
                    rw [hmj] at hmj'
                    obtain ⟨L, hL, hB, hz'⟩ := hsim.mem j _ hmj'
                    obtain ⟨L', p1, n1, c1, hL', hv1, hvx⟩ := hx
                    rw [gσ] at hL
                    rw [hL] at hL'; simp only [Option.some.injEq] at hL'; subst hL'
                    simp only [List.cons.injEq, and_true] at hvx
                    subst hvx
                    obtain ⟨hpos', v0, us, B2, e1, hβ2, hown, hrx⟩ := hB
                    simp only [List.cons.injEq, and_true] at e1
                    subst e1
                    obtain ⟨hrx', hB1⟩ := RowsB_no.1 hrx
                    clear hrx
                    have hrx := hrx'
                    clear hrx'
                    subst hB1
                    rw [List.append_nil] at hβ2
                    have hsl0 : ∃ p n c, L.v = .slice p n c := ⟨_, _, _, hv1⟩
                    have hown := rowF_no (by simp) hown
                    obtain ⟨v', w', hr, ho, hg, hloc, hshape⟩ := run_append_at (P := C.P) w (ty := ty) hu hi hz (by rw [hs, hsz]) hby hzs hpos hown hnl hp hnews hone (by simp only [maxLen]; omega) hb1
                    have hsl : ∃ p n c, v' = .slice p n c := by
                      rcases ho.2 with ⟨hh, _⟩ | ⟨g, cap, cur, hh, _⟩ <;> exact ⟨_, _, _, hh⟩
                    have hidj : id ≠ j := fun e => by subst e; rw [hm] at hmj; simp at hmj
                    have hkill := hsim.kill hmj'
                    have hjβ : ∀ q, L.v.ownBlock = some q → q ∈ G'.β j := fun q hq => by
                      rw [← blockOf_own _ hsl0] at hq
                      rw [hβ2, hq]; simp
                    have hk0 : ∀ q, L.v.ownBlock = some q → ¬ G'.S q ∧ q < w.heap.size ∧ (E.W.heap.size ≤ q ∨ (E.O q ∧ Shape' w w' q)) ∧ ∀ i, q ∉ updβ G'.β j [] i := by
                      intro q hq
                      have hin := hjβ q hq
                      obtain ⟨h1, h2⟩ := hsim.off j q hin
                      refine ⟨h1, h2, ?_, fun i hi => ?_⟩
                      · rcases hsim.mine j q hin with x | x | ⟨_, cs0, L0, o0, g1, _⟩
                        · exact .inl x
                        · exact .inr ⟨x, hshape q hq⟩
                        · rw [hmj'] at g1; simp at g1
                      · by_cases e : i = j
                        · simp [updβ, e] at hi
                        · simp only [updβ, if_neg e] at hi; exact hsim.apart i j e q hi hin
                    have hold : Holds G'.S w w' := fun q hq => hg.block q (hsim.old q hq) fun e => (hk0 q e.symm).1 hq
                    have hnew := hkill.fresh (id := id) (by rw [upd_set_other _ _ hidj]; exact hno id hm) hid (.rows T Q.ty .no (castL rfl xs ++ ys)) ⟨v', Q.ty.size⟩ (blockOf v').toList L.v.ownBlock hg.os hg.tape hg.output hg.size (fun q hq hne => hg.block q hq hne) hk0 (fun k hk => by
                      simp only [Option.mem_toList] at hk
                      rw [blockOf_own v' hsl] at hk
                      exact ⟨hloc k hk, (ho.lt k hk).2⟩) (by cases blockOf v' <;> simp)
                      ⟨⟨hpos, _, us ++ news, [], rfl, by simp, by
                          have hlen : xs.length + ys.length = (castL rfl xs ++ ys).length := by rw [List.length_append, castL_length]
                          rw [hlen] at ho; exact .inl ho, RowsB_no.2 ⟨RepRows.append (RepRows.imp (RepT.keep (fun _ x => x) hold Q.ty) _ _ hrx) (RepRows.imp (RepT.keep (fun _ x => x) hold Q.ty) _ _ hrows), rfl⟩⟩, rfl⟩
                    refine ⟨.v (.own id), v', _, rs, _, w', hr, ?_, by rw [upds_append]; exact hnew, e⟩
                    obtain ⟨p', n', c', rfl⟩ := hsl
                    exact RepS.v own_rep
                  · simp at e
                · simp at e3
              · simp at e3
            · simp at e
          · simp at e
        · simp at e
      · simp at e
    · simp at e
  · simp at e

/-! ### Slices of slices -/
theorem sliceK_sound (hC : C.OK) (h : Sim E G s a w) {t : TypeId} (xo : Operand) {lo hi : Option Operand} {k : SV → List Upd → List Nat → Option R} {rs : List Nat}
    (e : sliceK C s t (s.ev xo).pv (lo.map fun o => (s.ev o).pv) (hi.map fun o => (s.ev o).pv) (fun p us => k (.v p) us rs) = some r) : Done E a C.P (Instr.sliceAt t (a.eval xo) (lo.map a.eval) (hi.map a.eval) none) w s k r := by
  have lift : ∀ {lo : Option Operand} {n d : Int}, ((lo = none ∧ n = d) ∨ ∃ kd, lo.map a.eval = some (.int kd n)) → (lo.map a.eval = none ∧ n = d) ∨ ∃ kd, lo.map a.eval = some (.int kd n) := fun h => h.imp (fun ⟨x, y⟩ => ⟨by rw [x]; rfl, y⟩) (fun x => x)
  have pvr : ∀ {p : PV}, (s.ev xo).pv = p → p ≠ .undef → RepC G.S G.σ w p [a.eval xo] := by
    intro p hp hne
    have hr := ev_rep h xo
    cases hs : s.ev xo with
    | v q => rw [hs] at hr hp; simp only [SV.pv] at hp; subst hp; exact RepS.of_v hr hne
    | agg _ => rw [hs] at hp; exact absurd hp.symm hne
    | tup _ _ => rw [hs] at hp; exact absurd hp.symm hne
  unfold sliceK at e
  split at e
  · rename_i u hu
    rcases cond_some e with ⟨ht, e⟩ | ⟨_, e⟩
    · obtain ⟨l, e, hl⟩ := boundK_sound h e
      obtain ⟨hh, e, hhh⟩ := boundK_sound h e
      rcases cond_some e with ⟨hb, e⟩ | ⟨_, e⟩
      · obtain ⟨h0, h1, h2⟩ := three hb
        have hv := str_of (pvr hu (by simp))
        refine Done.ofPV h ⟨.str (u.extract l.toNat hh.toNat), .string (u.extract l.toNat hh.toNat), ?_, rfl, e⟩
        rw [hv]
        simp only [Instr.sliceAt, Instr.slice, Sem.run_bind, run_underlying (isStr_under hC ht), Result.andThen_ok]
        simp [run_sliceBounds' (P := C.P) (w := w) (b := false) (lift hl) (lift hhh) h0 h1 h2 (Nat.le_refl _)]
      · simp at e
    · simp at e
  · split at e
    · rename_i e' xs hm
      rcases cond_some e with ⟨ht, e⟩ | ⟨_, e⟩
      · obtain ⟨l, e, hl⟩ := boundK_sound h e
        obtain ⟨hh, e, hhh⟩ := boundK_sound h e
        rcases cond_some e with ⟨hb, e⟩ | ⟨_, e⟩
        · obtain ⟨h0, h1, h2⟩ := three hb
          obtain ⟨q, i, hu, hi, hz⟩ := isSliceOf_under hC ht
          have hr := pvr rfl (fun hh => by rw [hh] at hm; simp [St.asList] at hm)
          have hT := asList_rep h hr hm
          obtain ⟨G', g1, g2, g3, g4, _, g6⟩ := h.frzs ((s.ev xo).pv.owns) (owns_ok1 h hr)
          have hT' : RepT G'.S w (.list e') xs [a.eval xo] := RepT.keep (fun b hb => hb.elim (g2 b) fun ⟨i, hi, hb⟩ => g3 i hi b hb) (fun _ _ => rfl) _ _ _ hT
          have hxx := hT'
          obtain ⟨p, cap, hv', hc, _⟩ := hxx
          simp only [List.cons.injEq, and_true] at hv'
          rw [hv'] at hT' ⊢
          exact ⟨.v (.list e' ((xs.take hh.toNat).drop l.toNat)), _, _, rs, G', w, run_slice_list hu hi hz (lift hl) (lift hhh) h0 h1 h2 hc, sub_rep hT' rfl h0 h1 h2, g6, e⟩
        · simp at e
      · simp at e
    · simp at e
end Go.Ps
