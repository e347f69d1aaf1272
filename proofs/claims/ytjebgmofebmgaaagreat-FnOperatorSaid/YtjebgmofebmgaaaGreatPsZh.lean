/- impl.ownThreads: the threads are cloned, then the outputs of each, one after the other: both are the caller's own. -/
import Derived.Test.YtjebgmofebmgaaaGreatPsZg
import Derived.Deep.MidRow
namespace Go.Ps
open Go.RowKit
set_option linter.unusedVariables false
set_option maxRecDepth 10000
abbrev OTh : Ty := .pair (.int .i64) (.pair (.pair (.arr (.int .i64) 32) (.int .i64)) (.pair (.list (.int .i64)) (.int .i64)))
def ownOK (xs : List OTh.den) : Bool := roomB xs.length 304 && xs.all fun x => roomB x.2.2.1.length 8
def primOwn : List SV → Option (List PV)
  | [.v (.list e' xs)] => match decEq e' OTh with
    | .isTrue h => bif ownOK (castL h xs) then some [.list OTh (castL h xs)] else none
    | .isFalse _ => none
  | _ => none
abbrev OFl (TI : TypeId) : Fl := .pair .no (.pair .no (.pair (.own TI .no) .no))
/-! ### The walk's relation -/
theorem ownsRow_base {w : World} {T z n base : Nat} {v : Value} {us : List Value} (h : w.ownsRow 0 T z v n us) (hb : ∀ k, blockOf v = some k → base ≤ k) : w.ownsRow base T z v n us :=
  ⟨h.1, h.2.imp id fun ⟨g, cap, cur, h1, _, h3⟩ => ⟨g, cap, cur, h1, hb g (by rw [h1]; rfl), h3⟩⟩
theorem RepRows.at_ {α : Type} {Q : α → List Value → Prop} {n : Nat} (hQ : ∀ x u, Q x u → u.length = n) : ∀ {xs : List α} {vs : List Value}, RepRows Q xs vs → ∀ i (hi : i < xs.length), ∃ u, Q xs[i] u ∧ vs.drop (i * n) = u ++ vs.drop ((i + 1) * n)
  | [], _, _, i, hi => by simp at hi
  | x :: xs, _, ⟨u, v, e, a, b⟩, 0, _ => ⟨u, a, by
    have := hQ _ _ a
    rw [e, Nat.zero_mul, List.drop_zero, Nat.zero_add, Nat.one_mul, ← this, List.drop_left]⟩
  | x :: xs, _, ⟨u, v, e, a, b⟩, i + 1, hi => by
    have hu := hQ _ _ a
    obtain ⟨u', h1, h2⟩ := RepRows.at_ hQ b i (by simpa using hi)
    refine ⟨u', by simpa using h1, ?_⟩
    rw [e, show (i + 1) * n = u.length + i * n by rw [Nat.add_mul]; omega, show (i + 1 + 1) * n = u.length + (i + 1) * n by rw [Nat.add_mul (i + 1)]; omega, ← List.drop_drop, ← List.drop_drop, List.drop_left, h2]
structure OwnInv (S : Nat → Prop) (T TI : Nat) (v : Value) (xs : List OTh.den) (news : List Value) (w0 : World) (j : Nat) (w : World) : Prop where
  lo : ∀ k, blockOf v = some k → w0.heap.size ≤ k
  bel : Below w0.heap.size w0 w
  row : ∃ ua B, w.ownsRow 0 T 36 v xs.length (ua ++ news.drop (j * 36)) ∧ ua.length = j * 36 ∧ RowsB (RepF S w OTh (OFl TI)) (xs.take j) ua B ∧ B.Nodup ∧ ∀ k ∈ B, w0.heap.size ≤ k ∧ k < w.heap.size ∧ blockOf v ≠ some k
theorem OwnInv.start {S : Nat → Prop} {T TI : Nat} {v : Value} {xs : List OTh.den} {news : List Value} {w0 w : World} (ho : w.ownsRow w0.heap.size T 36 v xs.length news) (hb : Below w0.heap.size w0 w) : OwnInv S T TI v xs news w0 0 w :=
  ⟨fun k hk => by
    rcases ho.2 with ⟨rfl, _⟩ | ⟨g, cap, cur, rfl, hg, _⟩
    · simp [blockOf] at hk
    · simp only [blockOf, Option.some.injEq] at hk; omega, hb, [], [], by simpa using ownsRow_zero ho, by simp, ⟨rfl, rfl⟩, by simp, by simp⟩
theorem OwnInv.fin {S : Nat → Prop} {T TI : Nat} {v : Value} {xs : List OTh.den} {news : List Value} {w0 w : World} (h : OwnInv S T TI v xs news w0 xs.length w) (hl : news.length = xs.length * 36) :
    ∃ (us : List Value) (B : List Nat), w.ownsRow w0.heap.size T 36 v xs.length us ∧ RowsB (RepF S w OTh (OFl TI)) xs us B ∧ B.Nodup ∧ (∀ k ∈ B, w0.heap.size ≤ k ∧ k < w.heap.size ∧ blockOf v ≠ some k) ∧ Below w0.heap.size w0 w := by
  obtain ⟨lo, hb, ua, B, h1, h2, h3, h4, h5⟩ := h
  rw [List.drop_eq_nil_of_le (by omega), List.append_nil] at h1
  rw [List.take_length] at h3
  exact ⟨ua, B, ownsRow_base h1 lo, h3, h4, h5, hb⟩
/-- An element's cells. -/
theorem elem_cells {S : Nat → Prop} {w0 : World} {xs : List OTh.den} {news : List Value} (hrows : RepRows (RepT S w0 OTh) xs news) (j : Nat) (hj : j < xs.length) :
    ∃ u1 u2 u3 u4, u1.length = 1 ∧ u2.length = 33 ∧ u3.length = 1 ∧ u4.length = 1 ∧ news.drop (j * 36) = (u1 ++ (u2 ++ (u3 ++ u4))) ++ news.drop ((j + 1) * 36) ∧
      RepT S w0 (.int .i64) xs[j].1 u1 ∧ RepT S w0 (.pair (.arr (.int .i64) 32) (.int .i64)) xs[j].2.1 u2 ∧ RepT S w0 (.list (.int .i64)) xs[j].2.2.1 u3 ∧ RepT S w0 (.int .i64) xs[j].2.2.2 u4 := by
  obtain ⟨u, hu, he⟩ := RepRows.at_ (RepT.length OTh) hrows j hj
  have he : news.drop (j * 36) = u ++ news.drop ((j + 1) * 36) := he
  obtain ⟨u1, r1, rfl, a1, u2, r2, rfl, a2, u3, u4, rfl, a3, a4⟩ := hu
  exact ⟨u1, u2, u3, u4, RepT.length _ _ _ a1, RepT.length _ _ _ a2, RepT.length _ _ _ a3, RepT.length _ _ _ a4, he, a1, a2, a3, a4⟩
theorem below_put {B g : Nat} (hg : B ≤ g) (vs : List Value) (o : Nat) (w : World) : Below B w (w.setCells g o vs) :=
  ⟨(rest_setCells g vs o w).1, (rest_setCells g vs o w).2.1, (rest_setCells g vs o w).2.2, Nat.le_of_eq (size_setCells g vs o w).symm, fun k hk => heap_setCells_ne g vs o w k (by omega)⟩
theorem OwnInv.step {S : Nat → Prop} {T TI g n c : Nat} {xs : List OTh.den} {news : List Value} {w0 w w3 : World} {j : Nat} (hS : ∀ k, S k → k < w0.heap.size) (hrows : RepRows (RepT S w0 OTh) xs news)
    (h : OwnInv S T TI (.slice (some ⟨g, 0, none⟩) n c) xs news w0 j w) (hj : j < xs.length) (hb : Below w.heap.size w w3) {v' : Value} {us' : List Value} (ho : w3.ownsRow w.heap.size TI 1 v' (xs[j].2.2.1 : List Int).length us') (hr : RepRows (RepT S w3 (.int .i64)) (xs[j].2.2.1 : List Int) us') :
    OwnInv S T TI (.slice (some ⟨g, 0, none⟩) n c) xs news w0 (j + 1) (w3.setCells g (j * 36 + 34) [v']) := by
  obtain ⟨lo, hbe, ua, B, h1, h2, h3, h4, h5⟩ := h
  obtain ⟨u1, u2, u3, u4, l1, l2, l3, l4, he, a1, a2, a3, a4⟩ := elem_cells hrows j hj
  have hg0 : w0.heap.size ≤ g := lo g rfl
  have hgs : g < w.heap.size := by
    rcases h1.2 with ⟨hh, _⟩ | ⟨g', cap, cur, hh, _, hh2, _⟩
    · simp at hh
    · simp only [Value.slice.injEq, Option.some.injEq, Addr.mk.injEq, and_true] at hh
      obtain ⟨rfl, rfl, rfl⟩ := hh
      exact (Array.getElem?_eq_some_iff.1 hh2).1
  have hnn : n = xs.length := ownsRow_len h1 rfl
  subst hnn
  have hsz : w.heap.size ≤ w3.heap.size := hb.size
  have h1' := ownsRow_of_block h1 (w' := w3) (fun k hk => by simp only [blockOf, Option.some.injEq] at hk; subst hk; exact hb.block _ hgs)
  rw [he] at h1'
  have hp := ownsRow_put (off := j * 36 + 34) (us := [v']) h1' (by simp; omega)
  have hcells : (ua ++ (u1 ++ (u2 ++ (u3 ++ u4)) ++ news.drop ((j + 1) * 36))).take (j * 36 + 34) ++ ([v'] ++ (ua ++ (u1 ++ (u2 ++ (u3 ++ u4)) ++ news.drop ((j + 1) * 36))).drop (j * 36 + 34 + [v'].length)) = (ua ++ (u1 ++ (u2 ++ ([v'] ++ u4)))) ++ news.drop ((j + 1) * 36) := by
    have e1 : (ua ++ (u1 ++ (u2 ++ (u3 ++ u4)) ++ news.drop ((j + 1) * 36))).take (j * 36 + 34) = ua ++ (u1 ++ u2) := by
      have : ua ++ (u1 ++ (u2 ++ (u3 ++ u4)) ++ news.drop ((j + 1) * 36)) = (ua ++ (u1 ++ u2)) ++ (u3 ++ (u4 ++ news.drop ((j + 1) * 36))) := by simp only [List.append_assoc]
      rw [this, List.take_left' (by simp; omega)]
    have e2 : (ua ++ (u1 ++ (u2 ++ (u3 ++ u4)) ++ news.drop ((j + 1) * 36))).drop (j * 36 + 34 + [v'].length) = u4 ++ news.drop ((j + 1) * 36) := by
      have : ua ++ (u1 ++ (u2 ++ (u3 ++ u4)) ++ news.drop ((j + 1) * 36)) = (ua ++ (u1 ++ (u2 ++ u3))) ++ (u4 ++ news.drop ((j + 1) * 36)) := by simp only [List.append_assoc]
      rw [this, List.drop_left' (by simp; omega)]
    rw [e1, e2]; simp only [List.append_assoc]
  rw [hcells] at hp
  have hkeep : ∀ k, k ≠ g → (w3.setCells g (j * 36 + 34) [v']).heap[k]? = w3.heap[k]? := fun k hk => heap_setCells_ne g _ _ _ k hk
  have hsz' : (w3.setCells g (j * 36 + 34) [v']).heap.size = w3.heap.size := size_setCells g _ _ _
  have hHold : Holds S w (w3.setCells g (j * 36 + 34) [v']) := fun b hb' => by
    have := hS b hb'
    rw [hkeep b (by omega)]; exact hb.block b (by omega)
  have hHold0 : Holds S w0 (w3.setCells g (j * 36 + 34) [v']) := fun b hb' => by
    rw [hHold b hb']; exact hbe.block b (hS b hb')
  have hHold3 : Holds S w3 (w3.setCells g (j * 36 + 34) [v']) := fun b hb' => by
    have := hS b hb'
    exact hkeep b (by omega)
  have hvb : ∀ k, blockOf v' = some k → w.heap.size ≤ k ∧ k < w3.heap.size := fun k hk => by
    rcases ho.2 with ⟨rfl, _⟩ | ⟨g', cap, cur, rfl, hg, hh, _⟩
    · simp [blockOf] at hk
    · simp only [blockOf, Option.some.injEq] at hk
      subst hk
      exact ⟨hg, (Array.getElem?_eq_some_iff.1 hh).1⟩
  refine ⟨lo, (hbe.trans (hb.mono hbe.size)).trans (below_put hg0 _ _ _), ua ++ (u1 ++ (u2 ++ ([v'] ++ u4))), B ++ (blockOf v').toList, hp, by simp; omega, ?_, ?_, ?_⟩
  · rw [List.take_succ_eq_append_getElem hj]
    refine RowsB.append (RowsB.imp (fun x us B1 hB1 q => RepF.keep (fun _ x => x) hHold _ _ _ _ _ (fun k hk => ?_) q) h3) ⟨u1 ++ (u2 ++ ([v'] ++ u4)), [], (blockOf v').toList, [], by simp, by simp, ?_, ⟨rfl, rfl⟩⟩
    · obtain ⟨q1, q2, q3⟩ := h5 k (hB1 k hk)
      rw [hkeep k (fun e => q3 (by rw [e]; rfl))]
      exact hb.block k q2
    · refine ⟨u1, u2 ++ ([v'] ++ u4), [], (blockOf v').toList, rfl, rfl, ⟨RepT.keep (fun _ x => x) hHold0 _ _ _ a1, rfl⟩, ⟨u2, [v'] ++ u4, [], (blockOf v').toList, rfl, rfl, ⟨RepT.keep (fun _ x => x) hHold0 _ _ _ a2, rfl⟩, ⟨[v'], u4, (blockOf v').toList, [], rfl, by simp, ⟨by decide, v', us', [], rfl, by simp, .inl ?_, RowsB_no.2 ⟨RepRows.imp (RepT.keep (fun _ x => x) hHold3 _) _ _ hr, rfl⟩⟩, ⟨RepT.keep (fun _ x => x) hHold0 _ _ _ a4, rfl⟩⟩⟩⟩
      exact ownsRow_of_block (ownsRow_zero ho) fun k hk => hkeep k (by have := hvb k hk; omega)
  · rw [List.nodup_append]
    refine ⟨h4, by cases blockOf v' <;> simp, fun a ha b hb' hab => ?_⟩
    subst hab
    have q1 := (h5 a ha).2.1
    have q2 := hvb a (by simpa using hb')
    omega
  · intro k hk
    rcases List.mem_append.1 hk with hk | hk
    · obtain ⟨q1, q2, q3⟩ := h5 k hk
      exact ⟨q1, by rw [hsz']; omega, q3⟩
    · have q2 := hvb k (by simpa using hk)
      have := hbe.size
      exact ⟨by omega, by rw [hsz']; omega, fun e => by simp only [blockOf, Option.some.injEq] at e; omega⟩
/-- A value goes into a variable that has just been made. -/
theorem wpList_store_fresh {P : Program} {ops : Array Oper} {rest : List Oper} {op : Oper} {a : Act} {w0 : World} {Q : Exit → Act → World → Prop} (w : World) (C : Array Value) (t : TypeId) (hw0 : w0 = w.alloc (.cells C t (0, 0))) (cs : List Value) (hC : C.size = cs.length)
    (hgd : op.guard = none) (ty : TypeId) (x y : Operand) (ho : op.op = .store ty x y) (hx : a.eval x = .pointer (some ⟨w.heap.size, 0, none⟩)) (hy : a.eval y = .agg cs.toArray) (hi : (P.info? ty).map (·.size) = some cs.length) (h1 : ∀ v ∈ cs, v.oneCell' = true)
    (h : ∀ w2, Below w.heap.size w w2 → (∀ i u, cs[i]? = some u → w2.cell? ⟨w.heap.size, i, none⟩ = some u) → wpList P ops Q rest (a.put op.dst undef) w2) : wpList P ops Q (op :: rest) a w0 := by
  subst hw0
  have hth : (w.alloc (.cells C t (0, 0))).there w.heap.size 0 cs.length := by
    intro j hj
    have hlt : j < C.size := by omega
    rw [Nat.zero_add]
    exact ⟨by rw [World.cell?_alloc_new, Array.getElem?_eq_getElem hlt]; rfl, World.frozen?_alloc_new ..⟩
  refine wpList_store_mid hgd ty x y ho w.heap.size 0 cs.toArray hx hy (by simpa using hth) (by simpa using hi) (all_oneCell_toArray h1) (h _ ?_ ?_)
  · exact ((Below.refl _ w).alloc (Nat.le_refl _) _).trans (below_put (Nat.le_refl _) _ _ _)
  · intro i u hu
    have := World.rangeAt_setCells_same (w.alloc (.cells C t (0, 0))) w.heap.size 0 cs hth i u hu
    rw [Nat.zero_add] at this
    simpa using this
theorem primOwn_ok {C : Cfg} {f T TI : Nat} (hsig : C.sig f = some ⟨[.val (.list OTh)], [(.list OTh, false)], [.own T (OFl TI)]⟩)
    (H : ∀ (S : Nat → Prop) (p : Option Addr) (m c : Nat) (news : List Value) (xs : List OTh.den) (w : World), (∀ k, S k → k < w.heap.size) → m = xs.length → SliceOf w p m c news 36 → RepRows (RepT S w OTh) xs news → ownOK xs = true →
      Calls C.P (C.real f) #[.slice p m c] w fun x w' => ∃ (v : Value) (us : List Value) (B : List Nat), x = .returned v ∧ w'.ownsRow w.heap.size T 36 v m us ∧ RowsB (RepF S w' OTh (OFl TI)) xs us B ∧ B.Nodup ∧ (∀ k ∈ B, w.heap.size ≤ k ∧ k < w'.heap.size ∧ blockOf v ≠ some k) ∧ Below w.heap.size w w') :
    ∀ args (r : C.Res f), (primOwn args).bind (projAll (C.resTy f)) = some r → Meets C f args r := by
  intro args r hr sg hsg S w vals K B hS hA hOB hOK
  rw [hsig] at hsg
  simp only [Option.some.injEq] at hsg
  subst hsg
  have hT : C.resTy f = .list OTh := by unfold Cfg.resTy; rw [hsig]; rfl
  have hF : (⟨[.val (.list OTh)], [(.list OTh, false)], [.own T (OFl TI)]⟩ : Sig).resFl = .own T (OFl TI) := rfl
  rw [hF]
  change Ty.den (C.resTy f) at r
  change _ = some r at hr
  generalize C.resTy f = τ at *
  subst hT
  unfold primOwn at hr
  split at hr
  · rename_i e' xs
    split at hr
    · rename_i h0 _
      subst h0
      cases hc : ownOK (castL rfl xs) with
      | false => rw [hc] at hr; simp at hr
      | true =>
        rw [hc] at hr
        simp only [cond_true, Option.bind_some] at hr
        have h0 := projAll_inj (τ := .list OTh) (d := castL rfl xs) hr
        subst h0
        cases hA with
        | plain _ h1 t =>
          cases t
          have e1 := RepS.of_v h1 (by simp)
          simp only [RepC] at e1
          obtain ⟨p, c, news, hv, hsl, hrows⟩ := sliceOf_rep e1
          simp only [List.cons.injEq, and_true] at hv
          subst hv
          refine (H S p _ c news _ w hS rfl hsl hrows hc).mono ?_
          rintro x w' ⟨v, us, B2, rfl, ho, hRB, hnd, hB, hb⟩
          have hown := ownsRow_zero ho
          refine ⟨v, [v], [v], [], S, (blockOf v).toList ++ B2, rfl, rfl, ⟨[v], [], v, [], rfl, rfl, rfl, fun h => (by cases h), fun _ => rfl, rfl, rfl⟩, rfl, keptM_of_below hb, fun _ x => x, fun _ => .inl, ⟨?_, fun k hk => ?_⟩,
            ⟨by decide, v, us, B2, rfl, rfl, .inl hown, hRB⟩⟩
          · rw [List.nodup_append]
            refine ⟨by cases blockOf v <;> simp, hnd, fun a ha b hb' hab => ?_⟩
            subst hab
            exact (hB a hb').2.2 (by simpa using ha)
          · rcases List.mem_append.1 hk with hk | hk
            · have hk : blockOf v = some k := by simpa using hk
              rcases ho.2 with ⟨rfl, _⟩ | ⟨g, cap, cur, rfl, hg, hh, _⟩
              · simp [blockOf] at hk
              · simp only [blockOf, Option.some.injEq] at hk
                subst hk
                have hlt := (Array.getElem?_eq_some_iff.1 hh).1
                exact ⟨fun hSk => by have := hS _ hSk; omega, .inl hg, hlt⟩
            · obtain ⟨h1, h2, _⟩ := hB k hk
              exact ⟨fun hSk => by have := hS _ hSk; omega, .inl h1, h2⟩
    · simp at hr
  · simp at hr
/-! ### Functions that come to nothing; the one element of a slice that is deleted -/
def primNone : List SV → Option (List PV) := fun _ => none
theorem primNone_ok {C : Cfg} {f : Nat} : ∀ args (r : C.Res f), (primNone args).bind (projAll (C.resTy f)) = some r → Meets C f args r := fun _ _ h => by simp [primNone] at h
def primDel1 (e : Ty) : List SV → Option (List PV)
  | [.v (.list e1 xs), .v (.int .i64 i), .v (.int .i64 j)] => match decEq e1 e with
    | .isTrue h => bif decide ((castL h xs).length = 1) && decide (i = 0) && decide (j = 1) then some [.list e []] else none
    | .isFalse _ => none
  | _ => none
theorem primDel1_ok {C : Cfg} {f T : Nat} {e : Ty} (he : 0 < e.size) (hsig : C.sig f = some ⟨[.give (.list e) (.own T .no), .val (.int .i64), .val (.int .i64)], [(.list e, false)], [.own T .no]⟩)
    (H : ∀ (v : Value) (us : List Value) (w : World), w.ownsRow 0 T e.size v 1 us →
      Calls C.P (C.real f) #[v, .int .i64 0, .int .i64 1] w fun x w' => ∃ v' : Value, x = .returned v' ∧ w'.ownsRow 0 T e.size v' 0 [] ∧ w.grownBy w' v.ownBlock ∧ v'.ownBlock = v.ownBlock ∧ (∀ k, v.ownBlock = some k → Shape' w w' k)) :
    ∀ args (r : C.Res f), (primDel1 e args).bind (projAll (C.resTy f)) = some r → Meets C f args r := by
  intro args r hr sg hsg S w vals K B hS hA hOB hOK
  rw [hsig] at hsg
  simp only [Option.some.injEq] at hsg
  subst hsg
  have hT : C.resTy f = .list e := by unfold Cfg.resTy; rw [hsig]; rfl
  have hF : (⟨[.give (.list e) (.own T .no), .val (.int .i64), .val (.int .i64)], [(.list e, false)], [.own T .no]⟩ : Sig).resFl = .own T .no := rfl
  rw [hF]
  change Ty.den (C.resTy f) at r
  change _ = some r at hr
  generalize C.resTy f = τ at *
  subst hT
  unfold primDel1 at hr
  split at hr
  · rename_i e1 xs i j
    split at hr
    · rename_i h0 _
      subst h0
      cases hc : decide ((castL rfl xs).length = 1) && decide (i = 0) && decide (j = 1) with
      | false => rw [hc] at hr; simp at hr
      | true =>
        rw [hc] at hr
        simp only [cond_true, Option.bind_some] at hr
        have h0 := projAll_inj (τ := .list e1) (d := ([] : List e1.den)) hr
        subst h0
        simp only [Bool.and_eq_true, decide_eq_true_eq] at hc
        obtain ⟨⟨hx1, hi⟩, hj⟩ := hc
        cases hA with
        | plain hp _ _ => cases hp
        | give hd hf t =>
          cases t with
          | plain _ h2 t =>
            cases t with
            | plain _ h3 t =>
              cases t
              rename_i v0 us0 B1 d0 v1 hp1 v2 hp2
              rcases hd with ⟨hd, _⟩ | ⟨c0, hd, hinj, hw, hus⟩
              · cases hd
              cases hd
              have hd0 : d0 = xs := by
                have : inj (.list _) d0 = [PV.list _ d0] := rfl
                rw [this] at hinj
                simp only [List.cons.injEq, PV.list.injEq, heq_eq_eq, true_and, and_true] at hinj
                exact hinj
              subst hd0
              obtain ⟨_, v, us, B2, h4, h5, hrow, hrowsB⟩ := hf
              rw [hus] at h4
              simp only [List.cons.injEq, and_true] at h4
              subst h4
              obtain ⟨hrows, hB2⟩ := RowsB_no.1 hrowsB
              subst hB2
              have e2 := RepS.of_v h2 (by simp)
              have e3 := RepS.of_v h3 (by simp)
              simp only [RepC, List.cons.injEq, and_true] at e2 e3
              subst e2
              subst e3
              subst hi
              subst hj
              rw [castL_length] at hx1
              have hrow : w.ownsRow 0 T _ v0 d0.length us := hrow.elim id (fun h => by cases h.1)
              rw [hx1] at hrow
              refine (H v0 us w hrow).mono ?_
              rintro x w' ⟨v', rfl, ho, hg, hvv, hshape⟩
              have hslv : ∃ p n c, v0 = .slice p n c := by
                rcases hrow.2 with ⟨hh, _⟩ | ⟨g, cap, cur, hh, _⟩ <;> exact ⟨_, _, _, hh⟩
              have hslv' : ∃ p n c, v' = .slice p n c := by
                rcases ho.2 with ⟨hh, _⟩ | ⟨g, cap, cur, hh, _⟩ <;> exact ⟨_, _, _, hh⟩
              have hB : B1 = (blockOf v0).toList := by rw [h5, List.append_nil]
              refine ⟨v', [v'], [v'], [], S, (blockOf v').toList, rfl, rfl, ⟨[v'], [], v', [], rfl, rfl, rfl, fun h => (by cases h), fun _ => rfl, rfl, rfl⟩, rfl, ?_, fun _ x => x, fun _ => .inl, ⟨?_, fun k hk => ?_⟩,
                ⟨he, v', [], [], rfl, by simp, .inl ho, ⟨rfl, rfl⟩⟩⟩
              · refine (KeptM.refl w _).change hg.os hg.tape hg.output hg.size fun q hq => ?_
                by_cases hk : v0.ownBlock = some q
                · refine .inr ⟨fun o => .inl ?_, hshape q hk⟩
                  rw [← blockOf_own v0 hslv] at hk
                  rw [hB]; simp [hk]
                · exact .inl (hg.block q hq (Ne.symm hk))
              · cases blockOf v' <;> simp
              · have hk : blockOf v' = some k := by simpa using hk
                rw [blockOf_own v' hslv'] at hk
                have hlt := (ho.lt k hk).2
                rw [hvv, ← blockOf_own v0 hslv] at hk
                have hkB : k ∈ B1 := by rw [hB]; simp [hk]
                exact ⟨(hOB.2 k (by simp [hkB])).1, .inr (by simp [hkB]), hlt⟩
    · simp at hr
  · simp at hr
/-- clear, at one element. -/
theorem run_clear_one {P : Program} (w : World) (t e ty : TypeId) (z : Value) (zs : List Value) (ht : P.underlying t = some (.slice e)) (hv : ∀ w, (zeroValue e).run P w = .ok z w) (hz : z.cells = zs.toArray) (hpos : 0 < zs.length) (h1 : ∀ v ∈ zs, v.oneCell' = true) (b o c : Nat)
    (hc : ∀ j, j < zs.length → (w.cell? ⟨b, o + j, none⟩).isSome = true) (hf : ∀ j, j < zs.length → w.frozen? ⟨b, o + j, none⟩ = false) :
    (Builtin.clear_ #[t] ty #[.slice (some ⟨b, o, none⟩) 1 c]).run P w = .ok (.tuple #[]) (w.setCells b o zs) := by
  have hzc : (Builtin.zeroCells z.cells 1).toList = zs := by
    rw [hz]
    simp only [Builtin.zeroCells]
    apply List.ext_getElem
    · simp
    · intro i h1 h2
      simp [Nat.mod_eq_of_lt (show i < zs.length from h2), h2]
  have hst := run_storeCells_cells (P := P) b o zs 0 w (by simpa using hc) (by simpa using hf) h1
  simp only [Nat.add_zero] at hst
  simp [Builtin.clear_, run_underlying ht, hv, hzc, hst]
end Go.Ps
