/- Functions of package slices: Clone; Insert at the end. -/
import Derived.Test.YtjebgmofebmgaaaGreatPsY
namespace Go.Ps
open Go.RowKit
set_option linter.unusedVariables false
def primClone (e : Ty) (b : Nat) : List SV → Option (List PV)
  | [.v (.list e' xs)] => match decEq e' e with
    | .isTrue h => bif roomB xs.length b then some [.list e (castL h xs)] else none
    | .isFalse _ => none
  | _ => none
def primInsert (e : Ty) (b : Nat) : List SV → Option (List PV)
  | [.v (.list e1 xs), .v (.int .i64 i), .v (.list e2 ys)] => match decEq e1 e, decEq e2 e with
    | .isTrue h, .isTrue h' => bif decide (i = (xs.length : Int)) && roomB (xs.length + ys.length) b then some [.list e (castL h xs ++ castL h' ys)] else none
    | _, _ => none
  | _ => none

/-- What a slice's value says of its cells. -/
structure SliceOf (w : World) (p : Option Addr) (m c : Nat) (news : List Value) (z : Nat) : Prop where
  len : news.length = m * z
  nil : p = none → m = 0 ∧ c = 0
  cells : ∀ ad, p = some ad → ∀ j u, news[j]? = some u → w.cell? (ad.add j) = some u
  one : ∀ u ∈ news, u.oneCell' = true
theorem sliceOf_rep {S : Nat → Prop} {w : World} {e : Ty} {xs : List e.den} {vs : List Value} (h : RepT S w (.list e) xs vs) : ∃ p c news, vs = [.slice p xs.length c] ∧ SliceOf w p xs.length c news e.size ∧ RepRows (RepT S w e) xs news := by
  obtain ⟨p, c, hv, hc, hh⟩ := h
  rcases hh with ⟨rfl, hp⟩ | ⟨b, o, us, rfl, hS, hr, hrows⟩
  · exact ⟨p, c, [], hv, ⟨by simp, fun hn => ⟨rfl, hp hn⟩, by simp, by simp⟩, rfl⟩
  · refine ⟨_, c, us, hv, ⟨RepRows.length (RepT.length e) hrows, fun hn => by simp at hn, fun ad had j u hu => ?_, RepRows.one (RepT.one e) hrows⟩, hrows⟩
    simp only [Option.some.injEq] at had
    subst had
    rw [Addr.add_mid]; exact hr j u hu

theorem ownsRow_zero {w' : World} {k T z n : Nat} {v : Value} {us : List Value} (ho : w'.ownsRow k T z v n us) : w'.ownsRow 0 T z v n us :=
  ⟨ho.1, ho.2.imp id fun ⟨g, cap, cur, h1, h2, h3⟩ => ⟨g, cap, cur, h1, Nat.zero_le _, h3⟩⟩
theorem primClone_ok {C : Cfg} {f T b : Nat} {e : Ty} (he : 0 < e.size) (hsig : C.sig f = some ⟨[.val (.list e)], [(.list e, false)], [.own T .no]⟩)
    (H : ∀ (p : Option Addr) (m c : Nat) (news : List Value) (w : World), SliceOf w p m c news e.size → m ≤ maxLen → m * b ≤ 140737488355328 →
      Calls C.P (C.real f) #[.slice p m c] w fun x w' => ∃ v : Value, x = .returned v ∧ w'.ownsRow w.heap.size T e.size v m news ∧ Below w.heap.size w w') :
    ∀ args (r : C.Res f), (primClone e b args).bind (projAll (C.resTy f)) = some r → Meets C f args r := by
  intro args r hr sg hsg S w vals K B hS hA hOB hOK
  rw [hsig] at hsg
  simp only [Option.some.injEq] at hsg
  subst hsg
  have hT : C.resTy f = .list e := by unfold Cfg.resTy; rw [hsig]; rfl
  have hF : (⟨[.val (.list e)], [(.list e, false)], [.own T .no]⟩ : Sig).resFl = .own T .no := rfl
  rw [hF]
  change Ty.den (C.resTy f) at r
  change _ = some r at hr
  generalize C.resTy f = τ at *
  subst hT
  unfold primClone at hr
  split at hr
  · rename_i e' xs
    split at hr
    · rename_i h0 _
      subst h0
      cases hc : roomB xs.length b with
      | false => rw [hc] at hr; simp at hr
      | true =>
        rw [hc] at hr
        simp only [cond_true, Option.bind_some] at hr
        have h0 := projAll_inj (τ := .list e') (d := castL rfl xs) hr
        subst h0
        obtain ⟨hb1, hb2⟩ := room hc
        cases hA with
        | plain _ h1 t =>
          cases t
          have e1 := RepS.of_v h1 (by simp)
          simp only [RepC] at e1
          obtain ⟨p, c, news, hv, hsl, hrows⟩ := sliceOf_rep e1
          simp only [List.cons.injEq, and_true] at hv
          subst hv
          refine (H p _ c news w hsl (by simp only [maxLen]; omega) hb1).mono ?_
          rintro x w' ⟨v, rfl, ho, hb⟩
          have hown := ownsRow_zero ho
          refine ⟨v, [v], [v], [], S, (blockOf v).toList, rfl, rfl, ⟨[v], [], v, [], rfl, rfl, rfl, fun h => (by cases h), fun _ => rfl, rfl, rfl⟩, rfl, keptM_of_below hb, fun _ x => x, fun _ => .inl, ⟨?_, fun k hk => ?_⟩,
            ⟨he, v, news, [], rfl, by simp, .inl hown, RowsB_no.2 ⟨RepRows.imp (RepT.keep (fun _ x => x) (fun q hq => hb.block q (hS q hq)) _) _ _ hrows, rfl⟩⟩⟩
          · cases blockOf v <;> simp
          · have hk : blockOf v = some k := by simpa using hk
            rcases ho.2 with ⟨rfl, _⟩ | ⟨g, cap, cur, rfl, hg, hh, _⟩
            · simp [blockOf] at hk
            · simp only [blockOf, Option.some.injEq] at hk
              subst hk
              have hlt := (Array.getElem?_eq_some_iff.1 hh).1
              exact ⟨fun hSk => by have := hS _ hSk; omega, .inl hg, hlt⟩
    · simp at hr
  · simp at hr

theorem primInsert_ok {C : Cfg} {f T b : Nat} {e : Ty} (he : 0 < e.size) (hsig : C.sig f = some ⟨[.give (.list e) (.own T .no), .val (.int .i64), .val (.list e)], [(.list e, false)], [.own T .no]⟩)
    (H : ∀ (v : Value) (n : Nat) (us : List Value) (p : Option Addr) (m c : Nat) (news : List Value) (w : World), w.ownsRow 0 T e.size v n us → SliceOf w p m c news e.size → n + m ≤ maxLen → (n + m) * b ≤ 140737488355328 →
      Calls C.P (C.real f) #[v, .int .i64 n, .slice p m c] w fun x w' => ∃ v' : Value, x = .returned v' ∧ w'.ownsRow 0 T e.size v' (n + m) (us ++ news) ∧ w.grownBy w' v.ownBlock ∧ (∀ k, v'.ownBlock = some k → w.heap.size ≤ k ∨ v.ownBlock = some k) ∧ (∀ k, v.ownBlock = some k → Shape' w w' k)) :
    ∀ args (r : C.Res f), (primInsert e b args).bind (projAll (C.resTy f)) = some r → Meets C f args r := by
  intro args r hr sg hsg S w vals K B hS hA hOB hOK
  rw [hsig] at hsg
  simp only [Option.some.injEq] at hsg
  subst hsg
  have hT : C.resTy f = .list e := by unfold Cfg.resTy; rw [hsig]; rfl
  have hF : (⟨[.give (.list e) (.own T .no), .val (.int .i64), .val (.list e)], [(.list e, false)], [.own T .no]⟩ : Sig).resFl = .own T .no := rfl
  rw [hF]
  change Ty.den (C.resTy f) at r
  change _ = some r at hr
  generalize C.resTy f = τ at *
  subst hT
  unfold primInsert at hr
  split at hr
  · rename_i e1 xs i e2 ys
    split at hr
    · rename_i h0 h0' _ _
      subst h0
      subst h0'
      cases hc : decide (i = (xs.length : Int)) && roomB (xs.length + ys.length) b with
      | false => rw [hc] at hr; simp at hr
      | true =>
        rw [hc] at hr
        simp only [cond_true, Option.bind_some] at hr
        have h0 := projAll_inj (τ := .list _) (d := castL rfl xs ++ castL rfl ys) hr
        subst h0
        rw [Bool.and_eq_true, decide_eq_true_eq] at hc
        obtain ⟨hi, hc⟩ := hc
        obtain ⟨hb1, hb2⟩ := room hc
        cases hA with
        | plain hp _ _ => cases hp
        | give hd hf t =>
          cases t with
          | plain _ h2 t =>
            cases t with
            | plain _ h3 t =>
              cases t
              rename_i v0 us0 B1 d0 v1 hp1 v2 hp2
              rcases hd with ⟨hd, _⟩ | ⟨c0, hd, hinj, hw, hus⟩
              · cases hd
              cases hd
              have hd0 : d0 = xs := by
                have : inj (.list _) d0 = [PV.list _ d0] := rfl
                rw [this] at hinj
                simp only [List.cons.injEq, PV.list.injEq, heq_eq_eq, true_and, and_true] at hinj
                exact hinj
              subst hd0
              obtain ⟨_, v, us, B2, h4, h5, hrow, hrowsB⟩ := hf
              rw [hus] at h4
              simp only [List.cons.injEq, and_true] at h4
              subst h4
              obtain ⟨hrows, hB2⟩ := RowsB_no.1 hrowsB
              subst hB2
              have e2 := RepS.of_v h2 (by simp)
              have e3 := RepS.of_v h3 (by simp)
              simp only [RepC, List.cons.injEq, and_true] at e2
              subst e2
              simp only [RepC] at e3
              obtain ⟨p, c, news, hv, hsl, hrows2⟩ := sliceOf_rep e3
              simp only [List.cons.injEq, and_true] at hv
              subst hv
              subst hi
              have hrow : w.ownsRow 0 T _ v0 d0.length us := hrow.elim id (fun h => by cases h.1)
              refine (H v0 _ us p _ c news w hrow hsl (by simp only [maxLen]; omega) hb1).mono ?_
              rintro x w' ⟨v', rfl, ho, hg, hloc, hshape⟩
              have hslv : ∃ p n c, v0 = .slice p n c := by
                rcases hrow.2 with ⟨hh, _⟩ | ⟨g, cap, cur, hh, _⟩ <;> exact ⟨_, _, _, hh⟩
              have hslv' : ∃ p n c, v' = .slice p n c := by
                rcases ho.2 with ⟨hh, _⟩ | ⟨g, cap, cur, hh, _⟩ <;> exact ⟨_, _, _, hh⟩
              have hB : B1 = (blockOf v0).toList := by rw [h5, List.append_nil]
              have hSb : ∀ q, S q → w'.heap[q]? = w.heap[q]? := fun q hq => hg.block q (hS q hq) (fun hk => by
                rw [← blockOf_own v0 hslv] at hk
                exact (hOB.2 q (by rw [hB]; simp [hk])).1 hq)
              refine ⟨v', [v'], [v'], [], S, (blockOf v').toList, rfl, rfl, ⟨[v'], [], v', [], rfl, rfl, rfl, fun h => (by cases h), fun _ => rfl, rfl, rfl⟩, rfl, ?_, fun _ x => x, fun _ => .inl, ⟨?_, fun k hk => ?_⟩,
                ⟨he, v', us ++ news, [], rfl, by simp, .inl ?_, RowsB_no.2 ⟨RepRows.append (RepRows.imp (RepT.keep (fun _ x => x) hSb _) _ _ hrows) (RepRows.imp (RepT.keep (fun _ x => x) hSb _) _ _ hrows2), rfl⟩⟩⟩
              · refine (KeptM.refl w _).change hg.os hg.tape hg.output hg.size fun q hq => ?_
                by_cases hk : v0.ownBlock = some q
                · refine .inr ⟨fun o => .inl ?_, hshape q hk⟩
                  rw [← blockOf_own v0 hslv] at hk
                  rw [hB]; simp [hk]
                · exact .inl (hg.block q hq (Ne.symm hk))
              · cases blockOf v' <;> simp
              · have hk : blockOf v' = some k := by simpa using hk
                rw [blockOf_own v' hslv'] at hk
                have hlt := (ho.lt k hk).2
                rcases hloc k hk with h6 | h6
                · exact ⟨fun hSk => by have := hS _ hSk; omega, .inl h6, hlt⟩
                · rw [← blockOf_own v0 hslv] at h6
                  have hkB : k ∈ B1 := by rw [hB]; simp [h6]
                  exact ⟨(hOB.2 k (by simp [hkB])).1, .inr (by simp [hkB]), hlt⟩
              · have hlen : (castL rfl d0 ++ castL rfl ys).length = d0.length + ys.length := by rw [List.length_append, castL_length, castL_length]
                rw [hlen]; exact ho
    · simp at hr
  · simp at hr

/-- append in a walk, onto a row of the call's own. -/
theorem wpList_append_ps {P : Program} {ops : Array Oper} {rest : List Oper} {o : Oper} {a : Act} {Q : Exit → Act → World → Prop} {w : World} (hgd : o.guard = none) (s x : Operand) (t : TypeId)
    (ho : o.op = .call { callee := .builtin .append, args := #[s, x], argTypes := #[t, t] })
    {e : TypeId} {i : TypeInfo} {z : Value} {size bytes : Nat} (ht : P.underlying t = some (.slice e)) (hi : P.info? e = some i) (hz : i.zero = some z)
    (hsize : i.size = size) (hby : i.bytes = bytes) (hzs : z.cells.size = size) (hsz : 0 < size) {v : Value} {n : Nat} {xs : List Value} (hs : a.eval s = v) (hown : w.ownsRow 0 e size v n xs)
    {p : Option Addr} {m c : Nat} {news : List Value} (hx : a.eval x = .slice p m c) (hl : SliceOf w p m c news size) (h63 : n + m ≤ maxLen) (hbytes : (n + m) * bytes ≤ 140737488355328)
    (h : ∀ v' w', w'.ownsRow 0 e size v' (n + m) (xs ++ news) → w.grownBy w' v.ownBlock → (∀ k, v'.ownBlock = some k → w.heap.size ≤ k ∨ v.ownBlock = some k) → (∀ k, v.ownBlock = some k → Shape' w w' k) → wpList P ops Q rest (a.put o.dst v') w') :
    wpList P ops Q (o :: rest) a w := by
  refine wpList_plain hgd fun K hK => ?_
  obtain ⟨v', w', hr, h2, h3, h4, h5⟩ := run_append_at (P := P) w (ty := o.type) ht hi hz hsize hby hzs hsz hown hl.len hl.nil hl.cells hl.one h63 hbytes
  unfold Oper.wp execOp
  simp only [ho, resolve, invoke, builtin, Sem.run_bind, Sem.run_pure, Result.andThen_ok, List.map_toArray, List.map_cons, List.map_nil, hs, hx, hr]
  exact hK _ _ (h v' w' h2 h3 h4 h5)
end Go.Ps
