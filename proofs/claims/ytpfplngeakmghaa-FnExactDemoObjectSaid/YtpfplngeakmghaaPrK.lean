/- Each operation does what the interpreter says: stores and append. -/
import Derived.Test.YtpfplngeakmghaaPrJ
namespace Go.Pr
set_option linter.unusedVariables false
variable {S S' : Nat → Prop} {σ σ' : Sg} {w w' : World} {E : En} {G : Gh} {s : St} {a : Act} {C : Cfg} {R : Type} {r : R}

theorem ownsRow_len {T : TypeId} {z n m c : Nat} {p : Option Addr} {v : Value} {us : List Value} (h : w.ownsRow 0 T z v n us) (e : v = .slice p m c) : m = n := by
  rcases h.2 with ⟨hh, h0⟩ | ⟨g, cap, cur, hh, _⟩
  · rw [hh] at e; simp only [Value.slice.injEq] at e; omega
  · rw [hh] at e; simp only [Value.slice.injEq] at e; omega

theorem ownsRow_there {T : TypeId} {z n b c : Nat} {us : List Value} (h : w.ownsRow 0 T z (.slice (some ⟨b, 0, none⟩) n c) n us) {o m : Nat} (hl : o + m ≤ us.length) : w.there b o m := by
  intro j hj
  have hlen := h.1
  refine ⟨?_, h.frozenAt (o + j)⟩
  rw [h.cellAt (o + j) (by omega), List.getElem?_eq_getElem (by omega)]; rfl

theorem storeK_sound (hC : C.OK) (h : Sim E G s a w) {t : TypeId} {p : PV} {x : SV} {va vx : Value} {k : St → Option R} (hp : RepC G.S G.σ w p [va]) (hx : RepS G.S G.σ w x vx) (e : storeK C s t p x k = some r) :
    ∃ G' s' w', (Instr.storeAt t va vx).run C.P w = .ok () w' ∧ Sim E G' s' a w' ∧ k s' = some r := by
  unfold storeK at e
  split at e
  · rename_i I new hI hnew
    rcases cond_some e with ⟨hw, e⟩ | ⟨_, e⟩
    · have hw := Nat.eq_of_beq_eq_true hw
      obtain ⟨⟨i0, z, hi, hs, _⟩, _⟩ := hC.ti t I hI
      have hcells := cells_rep hx hnew
      have hlen := RepCs.length hcells
      rw [hw] at hlen
      have hone := RepCs.one hcells
      split at e
      · rename_i id off _
        split at e
        · rename_i cs hm
          split at e
          · rename_i cs' hput
            obtain ⟨b, o, hσ, hv⟩ := hp
            simp only [List.cons.injEq, and_true] at hv
            subst hv
            obtain ⟨b', o', vs, hσ', hc, hr, ht⟩ := h.mem id _ hm
            rw [hσ] at hσ'
            simp only [Value.pointer.injEq, Option.some.injEq, Addr.mk.injEq, and_true] at hσ'
            obtain ⟨rfl, rfl⟩ := hσ'
            have hle : off + I.size ≤ vs.length := by
              unfold putC at hput
              split at hput
              · rename_i hd
                have := takeC_le hd
                have h2 := RepCs.length hc
                omega
              · simp at hput
            refine ⟨G, _, _, run_storeAt_any hi (by rw [hs, hlen]) (fun j hj => ?_) hone, h.storeBox hm hσ hcells hlen hput, e⟩
            have := ht (off + j) (by omega)
            rwa [← Nat.add_assoc] at this
          · simp at e
        · simp at e
      · rename_i id i off _
        split at e
        · rename_i T e' xs hm
          split at e
          · rename_i cs' hput
            split at e
            · rename_i x' hproj
              obtain ⟨S', hS, hfr, _, hsim⟩ := h.still (cs := new)
              obtain ⟨b, n, c, z', hσ, h0, hlt, hv, rfl⟩ := hp
              simp only [List.cons.injEq, and_true] at hv
              subst hv
              obtain ⟨us0, hr, ho, hz, hpos⟩ := hsim.mem id _ hm
              have hn := ownsRow_len ho hσ
              subst hn
              simp only at hσ ho hz
              rw [hσ] at ho
              have hi' : i.toNat < xs.length := by omega
              have hel := RepRows.get (RepT.length e') hr _ hi'
              have hin : i.toNat * e'.size + e'.size ≤ us0.length := by
                rw [ho.1]
                have : i.toNat * e'.size + e'.size = (i.toNat + 1) * e'.size := by rw [Nat.add_mul, Nat.one_mul]
                rw [this]; exact Nat.mul_le_mul_right _ hi'
              have hcur : RepCs S' G.σ w (inj e' (rd xs i)) ((us0.drop (i.toNat * e'.size)).take e'.size) := by
                rw [rd, getD_eq _ _ _ hi']; exact inj_rep _ _ _ hel
              have hnewd := datC_rep (σ' := G.σ) h hS hfr hcells
              have hle : off + I.size ≤ e'.size := by
                unfold putC at hput
                split at hput
                · rename_i hd
                  have := takeC_le hd
                  have h2 := RepCs.length hcur
                  rw [List.length_take, List.length_drop] at h2
                  omega
                · simp at hput
              have hfull := projAll_rep (RepCs.put hcur hput hnewd hlen) hproj
              refine ⟨⟨S', G.σ⟩, _, _, run_storeAt_any hi (by rw [hs, hlen]) ?_ hone, ?_, e⟩
              · rw [hz]; exact ownsRow_there ho (by omega)
              · rw [hz]
                refine hsim.storeElt hm hσ hi' hfull (fun vs hvs hov => ?_)
                have hov' : w.ownsRow 0 T e'.size (.slice (some ⟨b, 0, none⟩) xs.length c) xs.length vs := by rw [← hσ]; exact hov
                have hvs0 : vs = us0 := by
                  rcases ho.2 with ⟨hh, _⟩ | ⟨g, cap, cur, hh, _, hheap, _, _, _, ht1⟩
                  · simp at hh
                  · rcases hov'.2 with ⟨hh2, _⟩ | ⟨g2, cap2, cur2, hh2, _, hheap2, _, _, _, ht2⟩
                    · simp at hh2
                    · simp only [Value.slice.injEq, Option.some.injEq, Addr.mk.injEq, and_true, true_and] at hh hh2
                      obtain ⟨rfl, _⟩ := hh
                      obtain ⟨rfl, _⟩ := hh2
                      rw [hheap] at hheap2
                      simp only [Option.some.injEq, Obj.cells.injEq, and_true] at hheap2
                      rw [← ht1, ← ht2, hheap2]
                subst hvs0
                rw [hlen]
                exact ⟨rfl, by omega⟩
            · simp at e
          · simp at e
        · simp at e
      · simp at e
    · simp at e
  · simp at e

/-! ### append -/
theorem moreOf_rep (h : Sim E G s a w) {e : Ty} {y : PV} {vy : Value} {ys : List e.den} (hy : RepC G.S G.σ w y [vy]) (e1 : moreOf s e y = some ys) :
    ∃ p m c news, vy = .slice p m c ∧ m = ys.length ∧ RepRows (RepT G.S w e) ys news ∧ (p = none → m = 0 ∧ c = 0) ∧ (∀ ad, p = some ad → ∀ j u, news[j]? = some u → w.cell? (ad.add j) = some u) := by
  have list : ∀ (zs : List e.den), RepT G.S w (.list e) zs [vy] → ∃ p m c news, vy = .slice p m c ∧ m = zs.length ∧ RepRows (RepT G.S w e) zs news ∧ (p = none → m = 0 ∧ c = 0) ∧ (∀ ad, p = some ad → ∀ j u, news[j]? = some u → w.cell? (ad.add j) = some u) := by
    rintro zs ⟨p, c, hv, hc, hh⟩
    simp only [List.cons.injEq, and_true] at hv
    rcases hh with ⟨rfl, hp⟩ | ⟨b, o, us, rfl, hS, hr, hrows⟩
    · exact ⟨p, _, c, [], hv, rfl, rfl, fun hn => ⟨rfl, hp hn⟩, by simp⟩
    · refine ⟨_, _, c, us, hv, rfl, hrows, fun hn => by simp at hn, fun ad had j u hu => ?_⟩
      simp only [Option.some.injEq] at had
      subst had
      rw [Addr.add_mid]; exact hr j u hu
  cases y <;> simp only [moreOf] at e1 <;> try (simp at e1; done)
  case nils =>
    simp only [Option.some.injEq] at e1; subst e1
    have : vy = .slice none 0 0 := by simpa [RepC] using hy
    exact ⟨none, 0, 0, [], this, rfl, rfl, fun _ => ⟨rfl, rfl⟩, by simp⟩
  case list e' xs =>
    split at e1
    · rename_i hh _
      simp only [Option.some.injEq] at e1; subst e1
      exact list _ (castL_list hh hy)
    · simp at e1
  case own id =>
    split at e1
    · rename_i T e' xs hm
      split at e1
      · rename_i hh _
        simp only [Option.some.injEq] at e1; subst e1
        subst hh
        obtain ⟨us, hr, ho, _⟩ := h.mem id _ hm
        have hv : vy = (G.σ id).v := by have := hy.1; simpa using this
        rcases ho.2 with ⟨hh2, h0⟩ | ⟨g, cap, cur, hh2, hg⟩
        · refine ⟨none, 0, 0, us, by rw [hv, hh2], by rw [castL_length]; exact h0.symm, hr, fun _ => ⟨rfl, rfl⟩, by simp⟩
        · rw [hh2] at ho
          refine ⟨_, _, cap, us, by rw [hv, hh2], by rw [castL_length], hr, by simp, fun ad had j u hu => ?_⟩
          simp only [Option.some.injEq] at had
          subst had
          rw [Addr.add_mid]; exact ownsRow_range ho j u hu
      · simp at e1
    · simp at e1

theorem setM_none {s : St} {j i : Nat} {b : Blk} (h : (s.setM j none).mem i = some b) : i ≠ j ∧ s.mem i = some b := by
  simp only [St.setM] at h
  by_cases e : i = j
  · subst e; simp at h
  · rw [beq_ne e] at h; exact ⟨e, h⟩

theorem Sim.dropB (h : Sim E G s a w) (j : Nat) : Sim E G (s.setM j none) a w where
  defers := h.defers
  size := h.size
  tmp := h.tmp
  mem i b hb := h.mem i b (setM_none hb).2
  apart i k bi bj hi hk := h.apart i k bi bj (setM_none hi).2 (setM_none hk).2
  off i bi hi := h.off i bi (setM_none hi).2
  old := h.old
  kept := h.kept
  sub := h.sub
  new := h.new
  mine i bi hi := h.mine i bi (setM_none hi).2
  sep := h.sep
  par i bi h63 hi := h.par i bi h63 (setM_none hi).2

theorem blockOf_own (v : Value) (h : ∃ p n c, v = .slice p n c) : blockOf v = v.ownBlock := by
  obtain ⟨p, n, c, rfl⟩ := h
  cases p <;> rfl

/-- What append gives. -/
theorem append_fin (h : Sim E G s a w) {e : TypeId} {τ : Ty} {id : Nat} (hid : id % 64 ≠ 63) {v v' : Value} {xs : List τ.den} {news : List Value} {k0 : Option Nat} (hpos : 0 < τ.size) (hv : v.ownBlock = k0) (hk0 : ∀ k, k0 = some k → ¬ G.S k ∧ E.W.heap.size ≤ k ∧ ∀ i bi, s.mem i = some bi → blockOf (G.σ i).v ≠ some k)
    (hrows : RepRows (RepT G.S w τ) xs news) (hown : w'.ownsRow 0 e τ.size v' xs.length news) (hgr : w.grownBy w' v.ownBlock)  (hlt : ∀ k, v'.ownBlock = some k → w.heap.size ≤ k ∨ k0 = some k) :
    RepS G.S (upd G.σ id ⟨v', e, τ.size⟩) w' (.v (.own id)) v' ∧ Sim E ⟨G.S, upd G.σ id ⟨v', e, τ.size⟩⟩ (s.new id (.rows e τ xs)) a w' := by
  have hsl : ∃ p n c, v' = .slice p n c := by
    rcases hown.2 with ⟨hh, _⟩ | ⟨g, cap, cur, hh, _⟩ <;> exact ⟨_, _, _, hh⟩
  have hold : Holds G.S w w' := fun q hq => hgr.block q (h.old q hq) (fun e => (hk0 q (by rw [← hv, ← e])).1 hq)
  have hrep : RepC G.S (upd G.σ id ⟨v', e, τ.size⟩) w' (.own id) [v'] := ⟨by rw [upd_same], by rw [upd_same]; exact hsl⟩
  refine ⟨RepS.v hrep, h.fresh id (.rows e τ xs) ⟨v', e, τ.size⟩ k0 hgr.os hgr.tape hgr.output hgr.size (fun b hb hne => hgr.block b hb (by rw [hv]; exact hne)) hk0 (fun k hk => ?_) hid ?_⟩
  · rw [blockOf_own v' hsl] at hk
    exact ⟨hlt k hk, (hown.lt k hk).2⟩
  · simp only [Blk.map, RepB, upd_same]
    exact ⟨news, RepRows.imp (RepT.keep (fun _ x => x) hold τ) _ _ hrows, hown, by trivial, hpos⟩

/-- append onto a row of the call's own, and where the row lies then. -/
theorem run_append_at {P : Program} (w : World) {t ty e : TypeId} {i : TypeInfo} {z : Value} {size bytes : Nat} (ht : P.underlying t = some (.slice e)) (hi : P.info? e = some i) (hz : i.zero = some z)
    (hsize : i.size = size) (hby : i.bytes = bytes) (hzs : z.cells.size = size) (hsz : 0 < size) {v : Value} {n : Nat} {xs : List Value} (hown : w.ownsRow 0 e size v n xs)
    {p : Option Addr} {m c : Nat} {news : List Value} (hl : news.length = m * size) (hp : p = none → m = 0 ∧ c = 0) (hnews : ∀ ad, p = some ad → ∀ j u, news[j]? = some u → w.cell? (ad.add j) = some u) (h1 : ∀ u ∈ news, u.oneCell' = true)
    (h63 : n + m ≤ maxLen) (hbytes : (n + m) * bytes ≤ 140737488355328) :
    ∃ v' w', (Builtin.append_ #[t, t] ty #[v, .slice p m c]).run P w = .ok v' w' ∧ w'.ownsRow 0 e size v' (n + m) (xs ++ news) ∧ w.grownBy w' v.ownBlock ∧ (∀ k, v'.ownBlock = some k → w.heap.size ≤ k ∨ v.ownBlock = some k) := by
  cases p with
  | none =>
    obtain ⟨rfl, rfl⟩ := hp rfl
    have hn : news = [] := List.eq_nil_of_length_eq_zero (by simpa using hl)
    subst hn
    exact ⟨v, w, run_append_owned_none w 0 t ty e i size ht hi v n xs hown, by simpa using hown, ⟨rfl, rfl, rfl, Nat.le_refl _, fun _ _ _ => rfl⟩, fun k hk => .inr hk⟩
  | some ad =>
    rcases hown.2 with ⟨rfl, rfl⟩ | ⟨g, cap, cur, rfl, hrest⟩
    · have hown' : w.ownsRow w.heap.size e size (.slice none 0 0) 0 xs := ⟨hown.1, .inl ⟨rfl, rfl⟩⟩
      obtain ⟨v', w', hr, ho, hg, _⟩ := run_append_own (P := P) w w.heap.size t ty e i z size bytes ht hi hz hsize hby hzs hsz _ 0 xs hown' ad m c news hl (hnews ad rfl) h1 h63 hbytes (Nat.le_refl _)
      refine ⟨v', w', hr, ⟨ho.1, ho.2.imp (fun x => x) fun ⟨g, cap, cur, a1, a2, a3⟩ => ⟨g, cap, cur, a1, Nat.zero_le _, a3⟩⟩, hg, fun k hk => .inl (ho.lt k hk).1⟩
    · by_cases hroom : n + m ≤ cap
      · obtain ⟨w', hr, ho, hg⟩ := run_append_fits (P := P) w 0 t ty e i size ht hi hsize g n cap xs hown ad m c news hl (hnews ad rfl) h1 hroom
        exact ⟨_, w', hr, ho, hg, fun k hk => .inr hk⟩
      · obtain ⟨v', w', hr, ho, hg, _⟩ := run_append_own (P := P) w 0 t ty e i z size bytes ht hi hz hsize hby hzs hsz _ n xs hown ad m c news hl (hnews ad rfl) h1 h63 hbytes (Nat.zero_le _)
        subst hsize
        subst hby
        have hr2 := run_append_grow (P := P) w t ty e i z ht hi hz ⟨g, 0, none⟩ n cap xs hown.1 (hown.cells (g := g) rfl) ad m c news hl (hnews ad rfl) (by omega) (by simp only [maxLen] at h63; omega) (growslice_fits (by omega) hbytes)
        rw [hr] at hr2
        simp only [Result.ok.injEq] at hr2
        refine ⟨v', w', hr, ho, hg, fun k hk => .inl ?_⟩
        rw [hr2.1] at hk
        simp only [Value.ownBlock, Option.some.injEq] at hk
        omega

theorem two {x y : Nat} (e : (decide (x ≤ 140737488355328) && decide (y ≤ 9223372036854775807)) = true) : x ≤ 140737488355328 ∧ y ≤ 9223372036854775807 := by
  simp only [Bool.and_eq_true, decide_eq_true_eq] at e; exact e

theorem appendK_sound (hC : C.OK) (h : Sim E G s a w) {id : Nat} (hid : id % 64 ≠ 63) {sl ty : TypeId} {x y : PV} {vx vy : Value} {k : SV → St → Option R} (hx : RepC G.S G.σ w x [vx]) (hy : RepC G.S G.σ w y [vy]) (e : appendK C s id sl x y (fun p s => k (.v p) s) = some r) :
    Done E a C.P (Builtin.append_ #[sl, sl] ty #[vx, vy]) w k r := by
  unfold appendK at e
  split at e
  · rename_i q _ _ _ _ hI
    split at e
    · rename_i Q hQ
      rcases cond_some e with ⟨hz1, e⟩ | ⟨_, e⟩
      · have hz1 := Nat.le_of_ble_eq_true hz1
        split at e
        · rename_i ys hys
          obtain ⟨_, ⟨d, hu, _, hd, _⟩, _⟩ := hC.ti sl _ hI
          simp only at hd; subst hd
          obtain ⟨⟨i, z, hi, hs, hby, hz, hsame, hzl⟩, _, hsz⟩ := hC.ti q Q hQ
          have hzs : z.cells.size = Q.ty.size := by rw [hzl, hsz]
          obtain ⟨p, m, c, news, rfl, rfl, hrows, hp, hnews⟩ := moreOf_rep h hy hys
          have hnl : news.length = ys.length * Q.ty.size := RepRows.length (RepT.length Q.ty) hrows
          have hone : ∀ u ∈ news, u.oneCell' = true := RepRows.one (RepT.one Q.ty) hrows
          split at e
          · rcases cond_some e with ⟨hb, e⟩ | ⟨_, e⟩
            · obtain ⟨hb1, hb2⟩ := two hb
              have : vx = .slice none 0 0 := by simpa [RepC] using hx
              subst this
              have hown := World.ownsRow_nil w 0 q Q.ty.size
              obtain ⟨v', w', hr, ho, hg, hloc⟩ := run_append_at (P := C.P) w (ty := ty) hu hi hz (by rw [hs, hsz]) hby hzs (by rw [hsz]; exact hz1) hown hnl hp hnews hone (by simp only [maxLen]; omega) (by simpa using hb1)
              simp only [Nat.zero_add, List.nil_append] at ho
              obtain ⟨f1, f2⟩ := append_fin (id := id) (k0 := none) h hid (by rw [hsz]; exact hz1) rfl (by simp) hrows ho hg (fun k hk => (hloc k hk).imp (fun x => x) (fun x => x))
              exact ⟨_, v', _, _, w', hr, f1, f2, e⟩
            · simp at e
          · rename_i j _
            split at e
            · rename_i T e' xs hm
              rcases cond_some e with ⟨hT, e⟩ | ⟨_, e⟩
              · have hT := Nat.eq_of_beq_eq_true hT
                subst hT
                split at e
                · rename_i he _
                  rcases cond_some e with ⟨hb, e⟩ | ⟨_, e⟩
                  · obtain ⟨hb1, hb2⟩ := two hb
                    subst he
                    obtain ⟨us, hrx, hown, hz', hpos⟩ := h.mem j _ hm
                    have hv : vx = (G.σ j).v := by have := hx.1; simpa using this
                    have hsl : ∃ p n c, (G.σ j).v = .slice p n c := by
                      rcases hown.2 with ⟨hh, _⟩ | ⟨g, cap, cur, hh, _⟩ <;> exact ⟨_, _, _, hh⟩
                    subst hv
                    obtain ⟨v', w', hr, ho, hg, hloc⟩ := run_append_at (P := C.P) w (ty := ty) hu hi hz (by rw [hs, hsz]) hby hzs (by rw [hsz]; exact hz1) hown hnl hp hnews hone (by simp only [maxLen]; omega) hb1
                    have hlen : xs.length + ys.length = (castL rfl xs ++ ys).length := by rw [List.length_append, castL_length]
                    rw [hlen] at ho
                    have hk0 : ∀ k, (G.σ j).v.ownBlock = some k → ¬ G.S k ∧ E.W.heap.size ≤ k ∧ ∀ i bi, (s.setM j none).mem i = some bi → blockOf (G.σ i).v ≠ some k := by
                      intro k hk
                      rw [← blockOf_own _ hsl] at hk
                      refine ⟨(h.off j _ hm k hk).1, ?_, fun i bi hi => ?_⟩
                      · rcases h.mine j _ hm with hh | ⟨cs0, b0, o0, e0, _⟩
                        · exact hh k hk
                        · simp at e0
                      · obtain ⟨hne, hi⟩ := setM_none hi
                        exact h.apart j i _ _ hm hi (fun x => hne x.symm) k hk
                    obtain ⟨f1, f2⟩ := append_fin (id := id) (k0 := (G.σ j).v.ownBlock) (xs := castL rfl xs ++ ys) (h.dropB j) hid (by rw [hsz]; exact hz1) rfl hk0 (RepRows.append hrx hrows) ho hg hloc
                    exact ⟨_, v', _, _, w', hr, f1, f2, e⟩
                  · simp at e
                · simp at e
              · simp at e
            · simp at e
          · simp at e
        · simp at e
      · simp at e
    · simp at e
  · simp at e
end Go.Pr
