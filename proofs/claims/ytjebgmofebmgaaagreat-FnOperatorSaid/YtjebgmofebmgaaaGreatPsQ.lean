/- What an operation looks at: its footprint. -/
import Derived.Test.YtjebgmofebmgaaaGreatPsP
namespace Go.Ps
set_option linter.unusedVariables false
variable {C : Cfg} {R : Type} {s s' : St}

/-- As good as the same: equal, or both data at the next look. -/
def Agr (s s' : St) (i : Nat) : Prop := s'.mem i = s.mem i ∨ (deepB s i = false ∧ deepB s' i = false ∧ (s'.mem i).map Blk.frz = (s.mem i).map Blk.frz)

theorem Agr.frz {i : Nat} (h : Agr s s' i) : (s'.mem i).map Blk.frz = (s.mem i).map Blk.frz := by
  rcases h with h | ⟨_, _, h⟩
  · rw [h]
  · exact h
theorem asList_frz (s : St) (i : Nat) : s.asList (.own i) = match (s.mem i).map Blk.frz with
    | some (.frows e xs) => some ⟨e, xs⟩
    | _ => none := by
  simp only [St.asList]
  cases s.mem i with
  | none => rfl
  | some b => cases b <;> rfl
theorem view_frz (s : St) (i : Nat) (l h : Int) : s.asList (.view i l h) = match (s.mem i).map Blk.frz with
    | some (.frows e xs) => some ⟨e, (xs.take h.toNat).drop l.toNat⟩
    | _ => none := by
  simp only [St.asList]
  cases s.mem i with
  | none => rfl
  | some b => cases b <;> rfl
theorem Agr.own {i : Nat} (h : Agr s s' i) : s'.asList (.own i) = s.asList (.own i) := by
  rw [asList_frz, asList_frz, h.frz]
theorem asList_loc {p : PV} (h : ∀ i ∈ p.owns, Agr s s' i) : s'.asList p = s.asList p := by
  cases p <;> try rfl
  · exact (h _ (by simp [PV.owns])).own
  · rw [view_frz, view_frz, (h _ (by simp [PV.owns])).frz]
theorem asRow_low {s : St} {id : Nat} (hd : deepB s id = false) : s.asRow (.own id) = s.asList (.own id) := by
  unfold deepB at hd
  simp only [St.asRow]
  cases hm : s.mem id with
  | none => rfl
  | some b =>
    rw [hm] at hd
    cases b <;> first | rfl | simp at hd
theorem asRow_loc {p : PV} (h : ∀ i ∈ p.owns, Agr s s' i) : s'.asRow p = s.asRow p := by
  have h1 := asList_loc h
  cases p <;> try exact h1
  rename_i id
  rcases h id (by simp [PV.owns]) with h0 | ⟨h2, h3, _⟩
  · simp only [St.asRow, h0, h1]
  · rw [asRow_low h2, asRow_low h3, h1]
theorem dat_loc {p : PV} (h : ∀ i ∈ p.owns, Agr s s' i) : s'.dat p = s.dat p := by
  cases p <;> try rfl
  all_goals simp only [St.dat, asList_loc h]
theorem dats_loc {cs : List PV} (h : ∀ i ∈ ownsC cs, Agr s s' i) : cs.map s'.dat = cs.map s.dat :=
  List.map_congr_left fun p hp => dat_loc fun i hi => h i (List.mem_flatMap.2 ⟨p, hp, hi⟩)
theorem boxAt_frz (s : St) (i : Nat) : boxAt s i = match (s.mem i).map Blk.frz with
    | some (.fbox cs) => some cs
    | _ => none := by
  simp only [boxAt]
  cases s.mem i with
  | none => rfl
  | some b => cases b <;> rfl
theorem Agr.box {i : Nat} (h : Agr s s' i) : boxAt s' i = boxAt s i := by
  rw [boxAt_frz, boxAt_frz, h.frz]
theorem look_ptr (s : St) (i : Nat) (q : Sub) (n : Nat) : s.look (.ptr i q) n = (boxAt s i).bind fun cs => lookC cs q n := by
  simp only [St.look, boxAt]
  cases s.mem i with
  | none => rfl
  | some b => cases b <;> rfl
theorem look_elt {s : St} {id : Nat} (h : deepB s id = false) (i : Int) (q : Sub) (n : Nat) : s.look (.elt id i q) n = match (s.mem id).map Blk.frz with
    | some (.frows e xs) => lookC (inj e (rd xs i)) q n
    | _ => none := by
  unfold deepB at h
  simp only [St.look]
  cases hm : s.mem id with
  | none => rfl
  | some b =>
    rw [hm] at h
    cases b <;> try rfl
    rename_i T e f xs
    simp only [Bool.not_eq_false'] at h
    simp only [h, Bool.true_or, cond_true, Option.map_some, Blk.frz]
    cases lookC (inj e (rd xs i)) q n <;> rfl
theorem look_loc {p : PV} {n : Nat} (h : ∀ i ∈ p.leads, Agr s s' i) : s'.look p n = s.look p n := by
  cases p <;> try rfl
  case ptr id q => rw [look_ptr, look_ptr, (h id (by simp [PV.leads])).box]
  case elt id i q =>
    have h := h id (by simp [PV.leads])
    rcases h with h | ⟨h3, h4, h⟩
    · simp only [St.look, h]
    · rw [look_elt h3, look_elt h4, h]
theorem deep_loc {i : Nat} (h : Agr s s' i) : deepB s' i = deepB s i := by
  rcases h with h | ⟨h1, h2, _⟩
  · unfold deepB; rw [h]
  · rw [h1, h2]

theorem projF_loc : ∀ {τ : Ty} {f : Fl} {cs : List PV} {q : τ.den × List PV × List Nat × List Nat}, projF s τ f cs = some q → (∀ i ∈ q.2.2.1, s'.mem i = s.mem i) → (∀ i ∈ q.2.2.2, Agr s s' i) → projF s' τ f cs = some q := by
  have dt : ∀ {τ : Ty} {cs : List PV} {q : τ.den × List PV × List Nat × List Nat}, (match takeC cs τ.size, dropC cs τ.size with
    | some a, some b => match projAll τ (a.map s.dat) with
      | some x => some (x, b, [], ownsC a)
      | none => none
    | _, _ => none) = some q → (∀ i ∈ q.2.2.2, Agr s s' i) → (match takeC cs τ.size, dropC cs τ.size with
    | some a, some b => match projAll τ (a.map s'.dat) with
      | some x => some (x, b, [], ownsC a)
      | none => none
    | _, _ => none) = some q := by
    intro τ cs q e h
    split at e
    · rename_i a b ha hb
      split at e
      · rename_i x hx
        simp only [Option.some.injEq] at e
        subst e
        rw [dats_loc h, hx]
      · simp at e
    · simp at e
  intro τ
  induction τ with
  | list e ih =>
    intro f cs q h hU hV
    cases f with
    | own T g =>
      simp only [projF] at h ⊢
      split at h
      · rename_i i cs
        split at h
        · rename_i T' e' g' xs hm
          rcases Bool.eq_false_or_eq_true (Nat.beq T' T && decide (g' = g)) with hc | hc
          · rw [hc, cond_true] at h
            split at h
            · rename_i he hd
              simp only [Option.some.injEq] at h
              subst h
              simp only [hU i (by simp), hm, hc, cond_true, hd]
            · simp at h
          · rw [hc] at h; simp at h
        · simp at h
      · exact h
      · simp at h
    | _ => exact dt h hV
  | opt e ih =>
    intro f cs q h hU hV
    cases f with
    | box =>
      simp only [projF] at h ⊢
      split at h
      · exact h
      · rename_i i cs
        split at h
        · rename_i bs hm
          rcases Bool.eq_false_or_eq_true (Nat.blt (i % 128) 127) with hc | hc
          · rw [hc, cond_true] at h
            split at h
            · rename_i x hx
              simp only [Option.some.injEq] at h
              subst h
              simp only [hU i (by simp), hm, hc, cond_true, dats_loc hV, hx]
            · simp at h
          · rw [hc] at h; simp at h
        · simp at h
      · simp at h
    | _ => exact dt h hV
  | pair a b iha ihb =>
    intro f cs q h hU hV
    cases f with
    | pair f g =>
      simp only [projF] at h ⊢
      split at h
      · rename_i x cs1 U V h1
        split at h
        · rename_i y cs2 U' V' h2
          simp only [Option.some.injEq] at h
          subst h
          rw [iha h1 (fun i hi => hU i (by simp; exact .inl hi)) (fun i hi => hV i (by simp; exact .inl hi))]
          simp only []
          rw [ihb h2 (fun i hi => hU i (by simp; exact .inr hi)) (fun i hi => hV i (by simp; exact .inr hi))]
        · simp at h
      · simp at h
    | _ => exact dt h hV
  | _ => intro f cs q h hU hV; exact dt h hV

theorem argOf_loc {p : PK} {x : SV} {A : Ar} (e : argOf s p x = some A) (hU : ∀ i ∈ A.U ++ A.P, s'.mem i = s.mem i) (hV : ∀ i ∈ A.V, Agr s s' i) : argOf s' p x = some A := by
  cases p with
  | raw =>
    simp only [argOf] at e ⊢
    split at e
    · simp only [Option.some.injEq] at e; subst e; rw [dat_loc hV]
    · simp at e
  | val τ =>
    simp only [argOf] at e ⊢
    split at e
    · split at e
      · rename_i d hd
        split at e
        · rename_i y hy
          simp only [Option.some.injEq] at e; subst e
          rw [dats_loc hV, hd]; simp only [hy]
        · simp at e
      · simp at e
    · simp at e
  | give τ f =>
    simp only [argOf] at e ⊢
    split at e
    · split at e
      · rename_i d U V hd
        split at e
        · rename_i y hy
          simp only [Option.some.injEq] at e; subst e
          rw [projF_loc hd (fun i hi => hU i (by simp; exact hi)) hV]; simp only [hy]
        · simp at e
      · simp at e
    · simp at e
  | lend τ f =>
    simp only [argOf] at e ⊢
    split at e
    · split at e
      · rename_i d U V hd
        split at e
        · rename_i y hy
          simp only [Option.some.injEq] at e; subst e
          rw [projF_loc hd (fun i hi => hU i (by simp; exact hi)) hV]; simp only [hy]
        · simp at e
      · simp at e
    · simp at e
  | ro τ =>
    simp only [argOf] at e ⊢
    split at e
    · rename_i cs hcs
      split at e
      · rename_i d hd
        simp only [Option.some.injEq] at e; subst e
        rw [look_loc fun i hi => hV i (by simp; exact .inl hi), hcs]
        simp only []
        rw [dats_loc fun i hi => hV i (by simp; exact .inr hi), hd]
      · simp at e
    · simp at e
  | var τ f =>
    simp only [argOf] at e ⊢
    split at e
    · rename_i id o hx
      split at e
      · rename_i bs hm
        split at e
        · rename_i cs hcs
          split at e
          · rename_i d U V hd
            simp only [Option.some.injEq] at e; subst e
            rw [hU id (by simp), hm]
            simp only [hcs]
            rw [projF_loc hd (fun i hi => hU i (by simp; exact .inl hi)) hV]
          · simp at e
        · simp at e
      · simp at e
    · simp at e
  | dvar τ f =>
    simp only [argOf] at e ⊢
    split at e
    · rename_i i0 hx
      split at e
      · rename_i id hm0
        split at e
        · rename_i bs hm
          split at e
          · rename_i cs hcs
            split at e
            · rename_i d U V hd
              simp only [Option.some.injEq] at e; subst e
              rw [(hV i0 (by simp)).box, hm0]
              simp only []
              rw [hU id (by simp), hm]
              simp only [hcs]
              rw [projF_loc hd (fun i hi => hU i (by simp; exact .inl hi)) (fun i hi => hV i (by simp; exact .inr hi))]
            · simp at e
          · simp at e
        · simp at e
      · simp at e
    · simp at e
theorem argsOf_loc : ∀ {ps : List PK} {xs : List SV} {A : Ar}, argsOf s ps xs = some A → (∀ i ∈ A.U ++ A.P, s'.mem i = s.mem i) → (∀ i ∈ A.V, Agr s s' i) → argsOf s' ps xs = some A
  | [], [], A, e, _, _ => e
  | [], _ :: _, A, e, _, _ => by simp [argsOf] at e
  | _ :: _, [], A, e, _, _ => by simp [argsOf] at e
  | p :: ps, x :: xs, A, e, hU, hV => by
    simp only [argsOf] at e ⊢
    split at e
    · rename_i a b ha hb
      simp only [Option.some.injEq] at e; subst e
      rw [argOf_loc ha (fun i hi => hU i (by simp at hi ⊢; rcases hi with hi | hi <;> simp [hi])) (fun i hi => hV i (by simp; exact .inl hi)),
        argsOf_loc hb (fun i hi => hU i (by simp at hi ⊢; rcases hi with hi | hi <;> simp [hi])) (fun i hi => hV i (by simp; exact .inr hi))]
    · simp at e
theorem capOf_loc {p : PK} {x : SV} {q : Cap × List Nat} (e : capOf s p x = some q) (h : ∀ i ∈ q.2, Agr s s' i) : capOf s' p x = some q := by
  cases p <;> simp only [capOf] at e ⊢ <;> try (simp at e; done)
  case val τ =>
    split at e
    · split at e
      · rename_i d hd
        split at e
        · rename_i y hy
          simp only [Option.some.injEq] at e; subst e
          rw [dats_loc h, hd]; simp only [hy]
        · simp at e
      · simp at e
    · simp at e
  case ro τ =>
    split at e
    · rename_i id hx
      split at e
      · rename_i cs hcs
        split at e
        · rename_i d hd
          simp only [Option.some.injEq] at e; subst e
          rw [(h id (by simp)).box, hcs]
          simp only []
          rw [dats_loc fun i hi => h i (by simp [hi]), hd]
        · simp at e
      · simp at e
    · exact e
    · simp at e
  case var τ f => exact e
  case dvar τ f => exact e
theorem capsOf_loc : ∀ {ps : List PK} {xs : List SV} {q : List Cap × List Nat}, capsOf s ps xs = some q → (∀ i ∈ q.2, Agr s s' i) → capsOf s' ps xs = some q
  | [], [], q, e, _ => e
  | [], _ :: _, q, e, _ => by simp [capsOf] at e
  | _ :: _, [], q, e, _ => by simp [capsOf] at e
  | p :: ps, x :: xs, q, e, h => by
    simp only [capsOf] at e ⊢
    split at e
    · rename_i c i cs is hc hcs
      simp only [Option.some.injEq] at e; subst e
      rw [capOf_loc hc fun j hj => h j (by simp; exact .inl hj), capsOf_loc hcs fun j hj => h j (by simp; exact .inr hj)]
    · simp at e

theorem rowsOf_loc {e : Ty} : ∀ {ps : List (Nat × SV)} {i : Nat}, (∀ j ∈ ownsC (cellsOfAll ps), Agr s s' j) → rowsOf e s' i ps = rowsOf e s i ps
  | [], _, _ => rfl
  | (j, x) :: ps, i, h => by
    simp only [rowsOf]
    refine condN _ _ _ _ _ ?_ rfl
    cases hx : x.cells with
    | none => rfl
    | some c =>
      simp only []
      simp only [cellsOfAll, hx, Option.getD_some, ownsC, List.flatMap_append, List.mem_append] at h
      rw [dats_loc fun k hk => h k (.inl hk), rowsOf_loc fun k hk => h k (.inr hk)]
theorem moreOf_loc {e : Ty} {y : PV} (h : ∀ i ∈ y.owns, Agr s s' i) : moreOf s' e y = moreOf s e y := by
  have h1 := asList_loc h
  unfold moreOf
  cases y <;> first | rfl | simp only [h1]
theorem moreU_loc {y : PV} (h : ∀ i ∈ y.owns, Agr s s' i) : moreU s' y = moreU s y := by
  have go : ∀ id, Agr s s' id → (match s'.mem id with
      | some (.rows _ _ f _) => bif f.isNo then [] else [Upd.frz id]
      | _ => []) = (match s.mem id with
      | some (.rows _ _ f _) => bif f.isNo then [] else [Upd.frz id]
      | _ => []) := by
    intro id h
    rcases h with h | ⟨h1, h2, _⟩
    · rw [h]
    · have key : ∀ s : St, deepB s id = false → (match s.mem id with
        | some (.rows _ _ f _) => bif f.isNo then [] else [Upd.frz id]
        | _ => []) = [] := by
        intro s hd
        unfold deepB at hd
        cases hm : s.mem id with
        | none => rfl
        | some b =>
          rw [hm] at hd
          cases b <;> try rfl
          rename_i T e f xs
          simp only [Bool.not_eq_false'] at hd
          simp only [hd, cond_true]
      exact (key s' h2).trans (key s h1).symm
  cases y <;> try rfl
  · exact go _ (h _ (by simp [PV.owns]))
  · exact go _ (h _ (by simp [PV.owns]))
theorem freshK_loc {id : Nat} {x : Option R} (h : s'.mem id = s.mem id) : freshK s' id x = freshK s id x := by
  unfold freshK; rw [h]

theorem storeC_loc {new : List PV} (h0 : ownsC new = []) (cs : List PV) (q : Sub) (n : Nat) : storeC s'.dat cs q n new = storeC s.dat cs q n new := by
  have := dats_loc (s := s) (s' := s') (cs := new) fun i hi => by rw [h0] at hi; cases hi
  unfold storeC
  cases q with
  | «at» o => rfl
  | arr o e m j q => simp only [this]
theorem owns_dat (s : St) (p : PV) : (s.dat p).owns = [] := by
  cases p <;> try rfl
  case own id => simp only [St.dat]; cases s.asList (.own id) <;> rfl
  case view id l h => simp only [St.dat]; cases s.asList (.view id l h) <;> rfl
  case fn f caps => simp only [St.dat]; generalize List.all caps _ = b; cases b <;> rfl
theorem owns_dats (s : St) (cs : List PV) : ownsC (cs.map s.dat) = [] := by
  induction cs with
  | nil => rfl
  | cons c cs ih => simp only [List.map_cons, ownsC, List.flatMap_cons] at ih ⊢; rw [owns_dat, ih]; rfl
theorem storeK_loc {t : TypeId} {p : PV} {x : SV} {us : List Upd} {rs : List Nat} (e : storeK C s t p x duo = some (us, rs)) (hw : ∀ i ∈ updW us, s'.mem i = s.mem i) (hr : ∀ i ∈ updF us ++ rs, Agr s s' i) : storeK C s' t p x duo = some (us, rs) := by
  rw [← e]
  unfold storeK at e ⊢
  split at e
  · rename_i I new hI hnew
    rcases cond_some e with ⟨hc, e⟩ | ⟨_, e⟩
    · simp only [hc, cond_true]
      split at e
      · rename_i id q _
        split at e
        · rename_i cs hm
          have hid : id ∈ updW us := by
            split at e
            · split at e
              · simp only [duo, Option.some.injEq, Prod.mk.injEq] at e; rw [← e.1]; simp [updW]
              · simp at e
            · rcases cond_some e with ⟨_, e⟩ | ⟨_, e⟩
              · split at e
                · simp only [duo, Option.some.injEq, Prod.mk.injEq] at e; rw [← e.1]; simp [updW]
                · simp at e
              · simp at e
          simp only [hw id hid, hm]
          split at e
          · rfl
          · rcases cond_some e with ⟨hn, e⟩ | ⟨_, e⟩
            · have := storeC_loc (s := s) (s' := s') (show ownsC new = [] by simpa using hn)
              simp only [this]
            · simp at e
        · simp at e
      · rename_i id i q _
        split at e
        · rename_i T el f xs hm
          rcases cond_some e with ⟨hc2, e⟩ | ⟨hc2, e⟩
          · split at e
            · rename_i cs' hcs
              split at e
              · rename_i x' hx'
                simp only [duo, Option.some.injEq, Prod.mk.injEq] at e
                have hid : id ∈ updW us := by
                  rw [← e.1]
                  have : ∀ (l : List Nat) (us : List Upd), updW (l.map .frz ++ us) = updW us := fun l us => by induction l with | nil => rfl | cons _ _ ih => simpa [updW] using ih
                  simp [frzC, this, updW]
                simp only [hw id hid, hm, hc2, cond_true]
                rw [dats_loc fun i hi => hr i (by rw [← e.2]; simp [hi]), storeC_loc (s := s) (owns_dats s new)]; simp only [hcs, hx']
              · simp at e
            · simp at e
          · have hd : (bif (ownsC new).isEmpty then storeF el f (rd xs i) q I.size (new.map s'.dat) else none) = bif (ownsC new).isEmpty then storeF el f (rd xs i) q I.size (new.map s.dat) else none := by
              cases hn : (ownsC new).isEmpty with
              | false => rfl
              | true => rw [dats_loc (s := s) (s' := s') fun i hi => by rw [List.isEmpty_iff.1 hn] at hi; simp at hi]
            have hid : id ∈ updW us := by
              split at e
              · simp only [duo, Option.some.injEq, Prod.mk.injEq] at e; rw [← e.1]; simp [updW]
              · split at e
                · rcases cond_some e with ⟨_, e⟩ | ⟨_, e⟩
                  · split at e
                    · simp only [duo, Option.some.injEq, Prod.mk.injEq] at e; rw [← e.1]; simp [updW]
                    · simp at e
                  · simp at e
                · simp at e
            simp only [hw id hid, hm, hc2, cond_false, hd]
        · rename_i T el f xs i' cs0 hm
          rcases cond_some e with ⟨hc2, e⟩ | ⟨_, e⟩
          · have hid : id ∈ updW us := by
              split at e
              · split at e
                · simp only [duo, Option.some.injEq, Prod.mk.injEq] at e; rw [← e.1]; simp [updW]
                · simp at e
              · rcases cond_some e with ⟨_, e⟩ | ⟨_, e⟩
                · split at e
                  · simp only [duo, Option.some.injEq, Prod.mk.injEq] at e; rw [← e.1]; simp [updW]
                  · simp at e
                · simp at e
            simp only [hw id hid, hm, hc2, cond_true]
            split at e
            · rfl
            · rcases cond_some e with ⟨hn, e⟩ | ⟨_, e⟩
              · have := storeC_loc (s := s) (s' := s') (show ownsC new = [] by simpa using hn)
                simp only [this]
              · simp at e
          · simp at e
        · simp at e
      · simp at e
    · simp at e
  · simp at e

theorem freshL_loc {l : List (Nat × Blk)} (h : ∀ p ∈ l, s'.mem p.1 = s.mem p.1) : freshL s' l = freshL s l := by
  unfold freshL
  induction l with
  | nil => rfl
  | cons p l ih => simp only [List.all_cons]; rw [h p (by simp), ih fun q hq => h q (by simp [hq])]
theorem loadK_loc {id : Nat} {t : TypeId} {p : PV} {x : SV} {us : List Upd} (e : loadK C s id t p duo = some (x, us)) (hw : ∀ i ∈ updW us, s'.mem i = s.mem i) (hr : ∀ i ∈ p.leads, Agr s s' i) : loadK C s' id t p duo = some (x, us) := by
  unfold loadK at e ⊢
  split at e
  · rename_i I hI
    rw [look_loc hr]
    split at e
    · exact e
    · rw [← e]
      unfold openK at e ⊢
      split at e
      · rename_i j i q _
        split at e
        · rename_i T e1 f xs hm
          rcases cond_some e with ⟨hc, e⟩ | ⟨_, e⟩
          · split at e
            · rename_i cs hcs
              have hus : .set j .dead :: (sets (injP id e1 f (rd xs i) 0).2.1 ++ [.set j (.opn T e1 f xs i (injP id e1 f (rd xs i) 0).1)]) = us := by
                rcases asSV_some e with ⟨_, e⟩ | ⟨_, c, _, _, e⟩
                · simp only [duo, Option.some.injEq, Prod.mk.injEq] at e; exact e.2
                · simp only [duo, Option.some.injEq, Prod.mk.injEq] at e; exact e.2
              have hWs : ∀ (l : List (Nat × Blk)) (us : List Upd), updW (sets l ++ us) = l.map (·.1) ++ updW us := fun l us => by
                induction l with
                | nil => rfl
                | cons u a ih => simpa [updW, sets] using ih
              rw [← hus] at hw
              simp only [updW, hWs] at hw
              simp only [hw j (by simp), hm]
              rw [freshL_loc fun p hp => hw p.1 (List.mem_cons_of_mem _ (List.mem_append_left _ (List.mem_map.2 ⟨p, hp, rfl⟩)))]
              simp only [hcs]
            · simp at e
          · simp at e
        · rename_i hm
          have hj : s'.mem j = s.mem j := by
            rcases hr j (by simp [PV.leads]) with h | ⟨h, _⟩
            · exact h
            · unfold deepB at h; rw [hm] at h; simp at h
          simp only [hj, hm]
        · simp at e
      · simp at e
  · simp at e
theorem lenK_loc {t : TypeId} {x : PV} {k : PV → Option R} (h : ∀ i ∈ x.owns, Agr s s' i) : lenK C s' t x k = lenK C s t x k := by
  have h1 := asRow_loc h
  unfold lenK
  cases x <;> first | rfl | simp only [h1]
theorem convK_loc {src dst : TypeId} {x : PV} {k : PV → Option R} (h : ∀ i ∈ x.owns, Agr s s' i) : convK C s' src dst x k = convK C s src dst x k := by
  have h1 := asList_loc h
  unfold convK
  cases C.ti src <;> cases C.ti dst <;> cases x <;> first | rfl | simp only [h1]
theorem indexAddrK_loc {t : TypeId} {x i : PV} {k : PV → Option R} (h : ∀ j ∈ x.owns, Agr s s' j) : indexAddrK C s' t x i k = indexAddrK C s t x i k := by
  unfold indexAddrK
  cases i <;> try rfl
  cases x with
  | own id => have h1 := asRow_loc h; simp only [h1]
  | ptr id p => cases p <;> rfl
  | elt id j p => cases p <;> rfl
  | _ => rfl
theorem updF_frz (l : List Nat) (us : List Upd) : updF (l.map .frz ++ us) = l ++ updF us := by induction l with | nil => rfl | cons _ _ ih => simpa [updF] using ih
theorem updW_frz (l : List Nat) (us : List Upd) : updW (l.map .frz ++ us) = updW us := by induction l with | nil => rfl | cons _ _ ih => simpa [updW] using ih
theorem updF_frz' (l : List Nat) : updF (l.map .frz) = l := by have := updF_frz l []; simpa [updF] using this
theorem boundK_some' {x : Option PV} {d : Int} {k : Int → Option R} {r : R} (e : boundK x d k = some r) : ∃ n, k n = some r := by
  unfold boundK at e; split at e
  · exact ⟨_, e⟩
  · exact ⟨_, e⟩
  · simp at e
theorem sliceK_loc {t : TypeId} {x : PV} {lo hi : Option PV} {p : PV} {us : List Upd} (e : sliceK C s t x lo hi duo = some (p, us)) (hr : ∀ i ∈ updF us, Agr s s' i) : sliceK C s' t x lo hi duo = some (p, us) := by
  have hx : ∀ i ∈ x.owns, Agr s s' i := by
    intro i hi
    cases x <;> simp only [PV.owns, List.not_mem_nil, List.mem_singleton] at hi
    all_goals subst hi
    all_goals refine hr i ?_
    all_goals unfold sliceK at e
    all_goals
      simp only [] at e
      split at e
      · rcases cond_some e with ⟨_, e⟩ | ⟨_, e⟩
        · obtain ⟨l, e⟩ := boundK_some' e
          obtain ⟨m, e⟩ := boundK_some' e
          rcases cond_some e with ⟨_, e⟩ | ⟨_, e⟩
          · simp only [duo, Option.some.injEq, Prod.mk.injEq] at e; rw [← e.2]; simp [PV.owns, updF]
          · simp at e
        · simp at e
      · simp at e
  have h1 := asList_loc hx
  rw [← e]
  unfold sliceK
  cases x <;> first | rfl | simp only [h1]
theorem cutK_loc {id : Nat} {t : TypeId} {x : PV} {lo hi : Option PV} {p : PV} {us : List Upd} (e : cutK C s id t x lo hi duo = some (p, us)) (hw : ∀ i ∈ updW us, s'.mem i = s.mem i) : cutK C s' id t x lo hi duo = some (p, us) := by
  unfold cutK at e ⊢
  split at e
  · rename_i j
    split at e
    · rename_i T e' f xs hm
      have e0 := e
      rcases cond_some e with ⟨hb, e3⟩ | ⟨_, e3⟩
      · obtain ⟨n, e4⟩ := boundK_some' e3
        rcases cond_some e4 with ⟨_, e5⟩ | ⟨_, e5⟩
        · have e6 := (freshK_some e5).2
          simp only [duo, Option.some.injEq, Prod.mk.injEq] at e6
          have hj : s'.mem j = s.mem j := hw j (by rw [← e6.2]; simp [updW])
          have hid : s'.mem id = s.mem id := hw id (by rw [← e6.2]; simp [updW])
          rw [hj, hm]
          simp only []
          rw [← e0]
          refine condN _ _ _ _ _ ?_ rfl
          unfold boundK
          split <;> first | rfl | (refine condN _ _ _ _ _ ?_ rfl; exact freshK_loc hid)
        · simp at e5
      · simp at e3
    · cases e
  · cases e
theorem viewK_loc {t : TypeId} {x : PV} {lo hi : Option PV} (k : PV → Option R) (h : ∀ i ∈ x.owns, Agr s s' i) : viewK C s' t x lo hi k = viewK C s t x lo hi k := by
  unfold viewK
  cases x <;> try rfl
  rename_i j
  simp only []
  rw [asList_loc (p := .own j) h]
theorem makeSliceK_loc {id : Nat} {t : TypeId} {n p : PV} {us : List Upd} (e : makeSliceK C s id t n duo = some (p, us)) (hw : ∀ i ∈ updW us, s'.mem i = s.mem i) : makeSliceK C s' id t n duo = some (p, us) := by
  rw [← e]
  unfold makeSliceK at e ⊢
  split at e
  · split at e
    · split at e
      · rcases cond_some e with ⟨_, e⟩ | ⟨_, e⟩
        · have e1 := (freshK_some e).2
          rcases cond_some e1 with ⟨_, e1⟩ | ⟨_, e1⟩
          · simp only [duo, Option.some.injEq, Prod.mk.injEq] at e1
            rw [freshK_loc (hw id (by rw [← e1.2]; simp [updW]))]
          · simp at e1
        · simp at e
      · simp at e
    · simp at e
  · simp at e
theorem bytesK_loc {id : Nat} {src dst : TypeId} {x p : PV} {us : List Upd} (e : bytesK C s id src dst x duo = some (p, us)) (hw : ∀ i ∈ updW us, s'.mem i = s.mem i) : bytesK C s' id src dst x duo = some (p, us) := by
  rw [← e]
  unfold bytesK at e ⊢
  split at e
  · rcases cond_some e with ⟨hb, e⟩ | ⟨_, e⟩
    · rw [hb, cond_true, cond_true]
      split at e
      · have e1 := (freshK_some e).2
        rcases cond_some e1 with ⟨_, e1⟩ | ⟨_, e1⟩
        · simp only [duo, Option.some.injEq, Prod.mk.injEq] at e1
          rw [freshK_loc (hw id (by rw [← e1.2]; simp [updW]))]
        · simp at e1
      · simp at e
    · simp at e
  · simp at e
theorem appD_loc {id : Nat} {e : TypeId} {τ : Ty} {x y : PV} (hy : ∀ j ∈ y.owns, Agr s s' j) (hx : ∀ l ∈ x.owns, s'.mem l = s.mem l) : appD s' id e τ x y = appD s id e τ x y := by
  cases y <;> try rfl
  rename_i j
  have hx' : ∀ l, x = .own l → s'.mem l = s.mem l := fun l hl => hx l (by rw [hl]; simp [PV.owns])
  rcases hy j (by simp [PV.owns]) with h | ⟨h1, h2, _⟩
  · unfold appD
    simp only [h]
    cases x <;> try rfl
    simp only [hx' _ rfl]
  · have key : ∀ s : St, deepB s j = false → appD s id e τ x (.own j) = none := by
      intro s hd
      unfold deepB at hd
      unfold appD
      simp only []
      cases hm : s.mem j with
      | none => rfl
      | some b =>
        rw [hm] at hd
        cases b <;> first | rfl | simp at hd | skip
        rename_i T e0 f xs
        simp [hd]
    rw [key s h1, key s' h2]
theorem appD_w {id m : Nat} {e : TypeId} {τ : Ty} {x y : PV} {us : List Upd} (h : appD s id e τ x y = some (m, us)) : (∀ i ∈ y.owns, i ∈ updW us) ∧ (∀ i ∈ x.owns, i ∈ updW us) ∧ id ∈ updW us := by
  unfold appD at h
  split at h
  · split at h
    · rcases cond_some h with ⟨_, h⟩ | ⟨_, h⟩
      · split at h
        · split at h
          · simp only [Option.some.injEq, Prod.mk.injEq] at h; rw [← h.2]; simp [PV.owns, updW]
          · split at h
            · rcases cond_some h with ⟨_, h⟩ | ⟨_, h⟩
              · split at h
                · simp only [Option.some.injEq, Prod.mk.injEq] at h; rw [← h.2]; simp [PV.owns, updW]
                · simp at h
              · simp at h
            · simp at h
          · simp at h
        · simp at h
      · simp at h
    · rcases cond_some h with ⟨_, h⟩ | ⟨_, h⟩
      · split at h
        · split at h
          · split at h
            · rcases cond_some h with ⟨_, h⟩ | ⟨_, h⟩
              · split at h
                · simp only [Option.some.injEq, Prod.mk.injEq] at h; rw [← h.2]; simp [PV.owns, updW]
                · simp at h
              · simp at h
            · simp at h
          · simp at h
        · simp at h
      · simp at h
    · simp at h
  · simp at h
theorem appendK_loc {id : Nat} {sl : TypeId} {x y p : PV} {us : List Upd} (e : appendK C s id sl x y duo = some (p, us)) (hw : ∀ i ∈ updW us, s'.mem i = s.mem i) (hy : ∀ i ∈ y.owns, Agr s s' i) : appendK C s' id sl x y duo = some (p, us) := by
  rw [← e]
  have hu := moreU_loc hy
  have hwm : ∀ vs : List Upd, ∀ i ∈ updW vs, i ∈ updW (moreU s y ++ vs) := by
    intro vs i hi
    have : ∀ a b : List Upd, updW (a ++ b) = updW a ++ updW b := fun a b => by
      induction a with
      | nil => rfl
      | cons u a ih => cases u <;> simp [updW, ih]
    rw [this]; simp [hi]
  have hwa : ∀ a b : List Upd, updW (a ++ b) = updW a ++ updW b := fun a b => by
    induction a with
    | nil => rfl
    | cons u a ih => cases u <;> simp [updW, ih]
  have hxw : ∀ l ∈ x.owns, s'.mem l = s.mem l := by
    intro l hl
    refine hw l ?_
    unfold appendK at e
    split at e
    · split at e
      · rcases cond_some e with ⟨hb, e⟩ | ⟨_, e⟩
        · split at e
          · rename_i had
            have e1 := (freshK_some e).2
            rcases cond_some e1 with ⟨_, e1⟩ | ⟨_, e1⟩
            · simp only [duo, Option.some.injEq, Prod.mk.injEq] at e1
              rw [← e1.2]; exact (appD_w had).2.1 l hl
            · simp at e1
          · split at e
            · split at e
              · simp [PV.owns] at hl
              · split at e
                · rcases cond_some e with ⟨_, e⟩ | ⟨_, e⟩
                  · split at e
                    · have e1 := (freshK_some e).2
                      rcases cond_some e1 with ⟨_, e1⟩ | ⟨_, e1⟩
                      · simp only [duo, Option.some.injEq, Prod.mk.injEq] at e1
                        simp only [PV.owns, List.mem_singleton] at hl
                        rw [← e1.2, hwa, hl]; simp [updW]
                      · simp at e1
                    · simp at e
                  · simp at e
                · simp at e
              · simp at e
            · simp at e
        · simp at e
      · simp at e
    · simp at e
  unfold appendK at e ⊢
  split at e
  · split at e
    · rcases cond_some e with ⟨hb, e⟩ | ⟨_, e⟩
      · rw [moreOf_loc hy, appD_loc hy hxw]
        simp only [hb, cond_true]
        split at e
        · rename_i had
          have e1 := (freshK_some e).2
          rcases cond_some e1 with ⟨_, e1⟩ | ⟨_, e1⟩
          · simp only [duo, Option.some.injEq, Prod.mk.injEq] at e1
            rw [freshK_loc (hw id (by rw [← e1.2]; exact (appD_w had).2.2))]
          · simp at e1
        rename_i hno0
        clear hno0
        split at e
        · split at e
          · have e1 := (freshK_some e).2
            rcases cond_some e1 with ⟨_, e1⟩ | ⟨_, e1⟩
            · simp only [duo, Option.some.injEq, Prod.mk.injEq] at e1
              rw [freshK_loc (hw id (by rw [← e1.2]; exact hwm _ _ (by simp [updW]))), hu]
            · simp at e1
          · rename_i j _
            split at e
            · rename_i T e' f xs hm
              rcases cond_some e with ⟨hc, e⟩ | ⟨_, e⟩
              · split at e
                · rename_i h hd
                  have e1 := (freshK_some e).2
                  rcases cond_some e1 with ⟨_, e1⟩ | ⟨_, e1⟩
                  · simp only [duo, Option.some.injEq, Prod.mk.injEq] at e1
                    have hj : s'.mem j = s.mem j := hw j (by rw [← e1.2]; exact hwm _ _ (by simp [updW]))
                    simp only [hj, hm, hc, cond_true, hd]
                    rw [freshK_loc (hw id (by rw [← e1.2]; exact hwm _ _ (by simp [updW]))), hu]
                  · simp at e1
                · simp at e
              · simp at e
            · simp at e
          · simp at e
        · simp at e
      · simp at e
    · simp at e
  · simp at e
theorem makeFuncK_loc {f : FuncId} {xs : List SV} {p : PV} {us : List Upd} {rs : List Nat} (e : makeFuncK C s f xs tri = some (p, us, rs)) (hr : ∀ i ∈ rs, Agr s s' i) : makeFuncK C s' f xs tri = some (p, us, rs) := by
  rw [← e]
  unfold makeFuncK at e ⊢
  split at e
  · split at e
    · split at e
      · rename_i cs is hcs
        rcases cond_some e with ⟨_, e⟩ | ⟨_, e⟩
        · simp only [tri, Option.some.injEq, Prod.mk.injEq] at e
          rw [capsOf_loc hcs fun i hi => hr i (by rw [← e.2.2]; exact hi)]
        · simp at e
      · simp at e
    · simp at e
  · rfl

theorem callK_loc {env : C.Env} {id : Nat} {f : FuncId} {xs : List SV} {q : SV × List Upd × List Nat} (hs : (C.alts f).length ≤ 1) (e : callK C env id s f xs tri = some q) (hw : ∀ i ∈ updW q.2.1, s'.mem i = s.mem i) (hr : ∀ i ∈ updF q.2.1 ++ q.2.2, Agr s s' i) : callK C env id s' f xs tri = some q := by
  unfold callK at e ⊢
  match h : C.alts f, hs with
  | [], _ => rw [h] at e; simp [callL] at e
  | [g], _ =>
    rw [h] at e
    simp only [callL] at e ⊢
    split at e
    · rename_i sg hsg
      split at e
      · rename_i A hA
        rw [call1_f] at e
        rcases cond_some e with ⟨hc, e⟩ | ⟨_, e⟩
        · rw [Option.bind_eq_some_iff] at e
          obtain ⟨r, hr0, e⟩ := e
          have e' := e
          rw [Option.bind_eq_some_iff] at e
          obtain ⟨q', hq, e⟩ := e
          have hqq : q' = q := by simpa using e
          subst hqq
          unfold callR at hq
          generalize hj : injP id (C.resTy g) sg.resFl r 0 = qq at hq
          obtain ⟨cs, new, j⟩ := qq
          simp only [] at hq
          split at hq
          · rename_i x back hx hb
            rcases cond_some hq with ⟨hd, hq⟩ | ⟨_, hq⟩
            · split at hq
              · rename_i us hus
                simp only [Option.some.injEq] at hq
                subst hq
                simp only [] at hw hr
                have hWa : ∀ a b : List Upd, updW (a ++ b) = updW a ++ updW b := fun a b => by
                  induction a with
                  | nil => rfl
                  | cons u a ih => cases u <;> simp [updW, ih]
                have hWd : ∀ l : List Nat, updW (l.map (.set · .dead)) = l := fun l => by
                  induction l with
                  | nil => rfl
                  | cons u a ih => simpa [updW] using ih
                have hWs : ∀ l : List (Nat × Blk), updW (sets l) = l.map (·.1) := fun l => by
                  induction l with
                  | nil => rfl
                  | cons u a ih => simpa [updW, sets] using ih
                rw [hWa, hWa, hWa, hWd, hWs] at hw
                have hUP : ∀ i ∈ A.U ++ A.P, s'.mem i = s.mem i := fun i hi => hw i (List.mem_append_left _ (List.mem_append_right _ (List.mem_append_left _ hi)))
                have hA' := argsOf_loc hA hUP fun i hi => hr i (List.mem_append_right _ hi)
                rw [hA']
                simp only []
                rw [call1_f, hc, cond_true, hr0, Option.bind_some]
                unfold callR
                rw [hj]
                simp only [hx, hb]
                have hf : freshL s' new = freshL s new := by
                  unfold freshL
                  have : ∀ l : List (Nat × Blk), (∀ p ∈ l, s'.mem p.1 = s.mem p.1) → (l.all fun p => match s'.mem p.1 with | none => true | some _ => false) = l.all fun p => match s.mem p.1 with | none => true | some _ => false := fun l hl => by
                    induction l with
                    | nil => rfl
                    | cons p l ih => simp only [List.all_cons]; rw [hl p (by simp), ih fun q hq => hl q (by simp [hq])]
                  exact this new fun p hp => hw p.1 (List.mem_append_left _ (List.mem_append_right _ (List.mem_append_right _ (List.mem_map.2 ⟨p, hp, rfl⟩))))
                rw [hf, hd]
                simp only [callC, Bool.and_eq_true] at hc
                have hbk : ∀ i ∈ bkI A.bk, s.mem i = s'.mem i := fun i hi => by
                  have := List.all_eq_true.1 hc.2 i hi
                  obtain ⟨k, hk, hki⟩ := List.any_eq_true.1 this
                  rw [Nat.eq_of_beq_eq_true hki]
                  exact (hUP k hk).symm
                rw [← backU_congr hbk, hus]
                rfl
              · simp at hq
            · simp at hq
          · simp at hq
        · simp at e
      · simp at e
    · simp at e
  | _ :: _ :: _, hs => simp at hs

theorem evs_loc {ps : List (Nat × Operand)} (h : ∀ x ∈ ps.map (·.2), s'.ev x = s.ev x) : s'.evs ps = s.evs ps :=
  List.map_congr_left fun p hp => by rw [h p.2 (List.mem_map.2 ⟨p, hp, rfl⟩)]
theorem opt_loc {x : Option Operand} (h : ∀ y ∈ x.toArray, s'.ev y = s.ev y) : (x.map fun o => (s'.ev o).pv) = x.map fun o => (s.ev o).pv := by
  cases x with
  | none => rfl
  | some o => simp only [Option.map_some]; rw [h o (by simp)]
theorem do_loc {env : C.Env} {id : Nat} {op : Op} {q : SV × List Upd × List Nat} (hs : soleO C op = true) (h : ∀ x ∈ op.operands, s'.ev x = s.ev x) (e : doK C env id op s tri = some q)
    (hw : ∀ i ∈ updW q.2.1, s'.mem i = s.mem i) (hr : ∀ i ∈ updF q.2.1 ++ q.2.2, Agr s s' i) : doK C env id op s' tri = some q := by
  cases op <;> simp only [doK] at e ⊢ <;> try (simp at e; done)
  case move x => rw [h x (by simp [Op.operands])]; exact e
  case assign x => rw [h x (by simp [Op.operands])]; exact e
  case pick c x y => rw [h c (by simp [Op.operands]), h x (by simp [Op.operands]), h y (by simp [Op.operands])]; exact e
  case binOp op t x y _ => rw [h x (by simp [Op.operands]), h y (by simp [Op.operands])]; exact e
  case unOp op _ x => rw [h x (by simp [Op.operands])]; exact e
  case fieldAddr t x f => rw [h x (by simp [Op.operands])]; exact e
  case field t x f => rw [h x (by simp [Op.operands])]; exact e
  case index t x i => rw [h x (by simp [Op.operands]), h i (by simp [Op.operands])]; exact e
  case nilCheck x => rw [h x (by simp [Op.operands])]; exact e
  case extract t i => rw [h t (by simp [Op.operands])]; exact e
  case build t ps => rw [evs_loc fun x hx => h x (by simpa [Op.operands] using hx)]; exact e
  case alloc t =>
    split at e
    · have e1 := (freshK_some e).2
      simp only [tri, Option.some.injEq] at e1
      rw [freshK_loc (hw id (by rw [← e1]; simp [updW]))]; exact e
    · simp at e
  case box t x =>
    rw [h x (by simp [Op.operands])]
    split at e
    · rcases cond_some e with ⟨hb, e⟩ | ⟨_, e⟩
      · have e1 := (freshK_some e).2
        simp only [tri, Option.some.injEq] at e1
        rw [hb, cond_true, freshK_loc (hw id (by rw [← e1]; simp [updW]))]; exact e
      · simp at e
    · simp at e
  case buildSlice t n ps =>
    rw [evs_loc fun x hx => h x (by simpa [Op.operands] using hx)]
    split at e
    · split at e
      · split at e
        · rename_i b hdp
          rcases cond_some e with ⟨hb, e⟩ | ⟨_, e⟩
          · have e1 := (freshK_some e).2
            simp only [tri, Option.some.injEq] at e1
            simp only [hb, cond_true]
            rw [freshK_loc (hw id (by rw [← e1]; simp [updW]))]; exact e
          · simp at e
        split at e
        · rename_i xs hxs
          rcases cond_some e with ⟨hb, e⟩ | ⟨_, e⟩
          · have e1 := (freshK_some e).2
            simp only [tri, Option.some.injEq] at e1
            have hag : ∀ j ∈ ownsC (cellsOfAll (s.evs ps.toList)), Agr s s' j := fun j hj => hr j (by rw [← e1]; simp [hj])
            rw [rowsOf_loc hag, hxs]
            simp only [hb, cond_true]
            rw [freshK_loc (hw id (by rw [← e1]; simp only [frzC]; rw [updW_frz]; simp [updW]))]; exact e
          · simp at e
        · simp at e
      · simp at e
    · simp at e
  case makeSlice t n c =>
    rw [h n (by simp [Op.operands])]
    rcases cond_some e with ⟨hb, e⟩ | ⟨_, e⟩
    · rw [hb, cond_true]
      rw [makeSliceK_f, Option.bind_eq_some_iff] at e ⊢
      obtain ⟨⟨p, us⟩, e1, e2⟩ := e
      refine ⟨(p, us), makeSliceK_loc e1 fun i hi => hw i ?_, e2⟩
      simp only [un2, tri, Option.some.injEq] at e2
      rw [← e2]; exact hi
    · simp at e
  case load t a =>
    rw [h a (by simp [Op.operands])]
    split at e
    · rename_i p hp
      rw [loadK_f, Option.bind_eq_some_iff] at e ⊢
      obtain ⟨⟨x, us⟩, e1, e2⟩ := e
      simp only [un2, tri, Option.some.injEq] at e2
      exact ⟨(x, us), loadK_loc e1 (fun i hi => hw i (by rw [← e2]; exact hi)) (fun i hi => hr i (by rw [← e2]; simp [hi])), by simp only [un2, tri, e2]⟩
    · simp at e
  case store t a x =>
    rw [h a (by simp [Op.operands]), h x (by simp [Op.operands])]
    split at e
    · rw [storeK_f, Option.bind_eq_some_iff] at e ⊢
      obtain ⟨⟨us, rs⟩, e1, e2⟩ := e
      simp only [un2, tri, Option.some.injEq] at e2
      refine ⟨(us, rs), storeK_loc e1 (fun i hi => hw i ?_) (fun i hi => hr i ?_), by simp only [un2, tri, e2]⟩
      · rw [← e2]; exact hi
      · rw [← e2]; exact hi
    · simp at e
  case indexAddr t x i =>
    rw [h x (by simp [Op.operands]), h i (by simp [Op.operands])]
    rw [indexAddrK_loc fun j hj => hr j (by
      rw [indexAddrK_f, Option.bind_eq_some_iff] at e
      obtain ⟨p, _, e2⟩ := e
      simp only [tri, Option.some.injEq] at e2
      rw [← e2]; simp [hj])]
    exact e
  case slice t x lo hi mx =>
    cases mx with
    | some _ => simp at e
    | none =>
      simp only at e ⊢
      rw [h x (by simp [Op.operands]), opt_loc (s := s) (s' := s') fun y hy => h y (by simp [Op.operands] at hy ⊢; simp [hy]), opt_loc (s := s) (s' := s') fun y hy => h y (by simp [Op.operands] at hy ⊢; simp [hy])]
      rcases cond_some e with ⟨hb, e⟩ | ⟨hb, e⟩
      · rw [hb, cond_true]
        rw [sliceK_f, Option.bind_eq_some_iff] at e ⊢
        obtain ⟨⟨p, us⟩, e1, e2⟩ := e
        simp only [un2, tri, Option.some.injEq] at e2
        exact ⟨(p, us), sliceK_loc e1 fun i hi => hr i (by rw [← e2]; simp [hi]), by simp only [un2, tri, e2]⟩
      rw [hb, cond_false]
      rcases cond_some e with ⟨hb2, e⟩ | ⟨hb2, e⟩
      rotate_left
      · rw [hb2, cond_false]
        rw [viewK_loc _ fun j hj => hr j (by
          rw [viewK_f, Option.bind_eq_some_iff] at e
          obtain ⟨p, _, e2⟩ := e
          simp only [tri, Option.some.injEq] at e2
          rw [← e2]; simp [hj])]
        exact e
      · rw [hb2, cond_true]
        rw [cutK_f, Option.bind_eq_some_iff] at e ⊢
        obtain ⟨⟨p, us⟩, e1, e2⟩ := e
        simp only [un2, tri, Option.some.injEq] at e2
        exact ⟨(p, us), cutK_loc e1 fun i hi => hw i (by rw [← e2]; exact hi), by simp only [un2, tri, e2]⟩
  case convert src dst x =>
    rw [h x (by simp [Op.operands])]
    split at e
    · rename_i p hp
      rcases cond_some e with ⟨hb, e⟩ | ⟨hb, e⟩
      · rw [hb, cond_true]
        rw [bytesK_f, Option.bind_eq_some_iff] at e ⊢
        obtain ⟨⟨p, us⟩, e1, e2⟩ := e
        refine ⟨(p, us), bytesK_loc e1 fun i hi => hw i ?_, e2⟩
        simp only [un2, tri, Option.some.injEq] at e2
        rw [← e2]; exact hi
      · rw [hb, cond_false]
        rw [convK_loc fun j hj => hr j (by
          rw [convK_f, Option.bind_eq_some_iff] at e
          obtain ⟨y, _, e2⟩ := e
          simp only [tri, Option.some.injEq] at e2
          rw [← e2]; simp [hj])]
        exact e
    · simp at e
  case makeFunc fn first captured =>
    cases fn <;> simp only [] at e ⊢ <;> try (simp at e; done)
    split at e
    · have : captured.toList.map s'.ev = captured.toList.map s.ev := List.map_congr_left fun x hx => h x (by simp only [Op.operands]; exact Array.mem_append_right _ (by simpa using hx))
      rw [this, makeFuncK_f, Option.bind_eq_some_iff]
      rw [makeFuncK_f, Option.bind_eq_some_iff] at e
      obtain ⟨⟨p, us, rs⟩, e1, e2⟩ := e
      simp only [un3, tri, Option.some.injEq] at e2
      exact ⟨(p, us, rs), makeFuncK_loc e1 fun i hi => hr i (by rw [← e2]; simp [hi]), by simp only [un3, tri, e2]⟩
    · simp at e
  case call c =>
    obtain ⟨callee, args, argTypes⟩ := c
    have hargs : args.toList.map s'.ev = args.toList.map s.ev := List.map_congr_left fun x hx => h x (by simp only [Op.operands, Call.operands]; exact Array.mem_append_right _ (by simpa using hx))
    have harg : ∀ x ∈ args.toList, s'.ev x = s.ev x := fun x hx => h x (by simp only [Op.operands, Call.operands]; exact Array.mem_append_right _ (by simpa using hx))
    cases callee with
    | value f =>
      have fn : ∀ x : SV, fnK C env id s x (args.toList.map s.ev) tri = some q → fnK C env id s' x (args.toList.map s.ev) tri = some q := by
        intro x e
        unfold fnK at e ⊢
        split at e
        · split at e
          · rcases cond_some e with ⟨hc, e⟩ | ⟨_, e⟩
            · simp only [hc, cond_true]
              exact callK_loc (Nat.le_of_ble_eq_true hc) e hw hr
            · simp at e
          · simp at e
        · simp at e
      have hf : s'.ev f = s.ev f := h f (by simp [Op.operands, Call.operands])
      cases f
      case func f =>
        simp only [soleO] at hs
        simp only at e ⊢
        rw [hargs]
        exact callK_loc (Nat.le_of_ble_eq_true hs) e hw hr
      all_goals
        simp only at e ⊢
        rw [hargs, hf]
        exact fn _ e
    | invoke _ _ => simp at e
    | builtin b =>
      cases b <;> simp only [] at e ⊢ <;> try (simp at e; done)
      case len =>
        split at e
        · rename_i x t h1 h2
          rw [harg x (by rw [h1]; simp)]
          rw [lenK_loc fun j hj => hr j (by
            rw [lenK_f, Option.bind_eq_some_iff] at e
            obtain ⟨y, _, e2⟩ := e
            simp only [tri, Option.some.injEq] at e2
            rw [← e2]; simp [hj])]
          exact e
        · simp at e
      case append =>
        split at e
        · rename_i x y t t' h1 h2
          rw [harg x (by rw [h1]; simp), harg y (by rw [h1]; simp)]
          rcases cond_some e with ⟨hb, e⟩ | ⟨hb, e⟩
          · rw [hb, cond_true]
            rw [appendK_f, Option.bind_eq_some_iff] at e ⊢
            obtain ⟨⟨p, us⟩, e1, e2⟩ := e
            simp only [un2, tri, Option.some.injEq] at e2
            exact ⟨(p, us), appendK_loc e1 (fun i hi => hw i (by rw [← e2]; exact hi)) (fun i hi => hr i (by rw [← e2]; simp [hi])), by simp only [un2, tri, e2]⟩
          · simp at e
        · simp at e
      case max =>
        have : (args.toList.map fun x => (s'.ev x).pv) = args.toList.map fun x => (s.ev x).pv := List.map_congr_left fun x hx => by rw [harg x hx]
        rw [this]; exact e
      case min =>
        have : (args.toList.map fun x => (s'.ev x).pv) = args.toList.map fun x => (s.ev x).pv := List.map_congr_left fun x hx => by rw [harg x hx]
        rw [this]; exact e
end Go.Ps
