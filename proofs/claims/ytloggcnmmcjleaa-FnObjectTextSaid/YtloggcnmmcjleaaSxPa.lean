/- Pure sides: what the functions come to (numbers and lists alone). -/
import Derived.Test.YtloggcnmmcjleaaSxP
namespace Go.Proofs.Ytloggcnmmcjleaa.S
open Go.Ps
set_option linter.unusedVariables false
set_option maxRecDepth 100000
theorem take_good (B : ByteArray) (v : Int) (hz : B.size ≤ 60000) (h4 : 4 ≤ B.size) (hd : B.extract 0 4 = hdO) (hv : impl_withSum B = some (wsB B v)) :
    impl_take (wsB B v) hdO = some (some (B.extract 4 B.size, false), 0) := by
  have hw := wsB_size B v
  have e0 : (wsB B v).extract 0 B.size = B := ByteArray.extract_append_eq_left rfl
  have e1 : (wsB B v).extract 0 4 = hdO := by
    rw [← hd]
    apply bt_ext
    · simp only [ByteArray.size_extract]; omega
    · intro i hi
      simp only [ByteArray.size_extract] at hi
      rw [bt_extract _ _ _ _ (by omega) (by omega), bt_extract _ _ _ _ (by omega) (by omega)]
      unfold wsB; rw [bt_append, if_pos (by omega)]
  have e2 : (wsB B v).extract 4 B.size = B.extract 4 B.size := by
    apply bt_ext
    · simp only [ByteArray.size_extract]; omega
    · intro i hi
      simp only [ByteArray.size_extract] at hi
      rw [bt_extract _ _ _ _ (by omega) (by omega), bt_extract _ _ _ _ (by omega) (by omega)]
      unfold wsB; rw [bt_append, if_pos (by omega)]
  have hs : hdO.size = 4 := rfl
  rw [impl_take_eq, decide_eq_false (by omega), strings_HasPrefix_eq, internal_stringslite_HasPrefix_eq, hs, decide_eq_true (show ((wsB B v).size : Int) ≥ ((4 : Nat) : Int) by omega), decide_eq_true (show (0 : Int) ≤ ((4 : Nat) : Int) by omega), w64 (n := ((wsB B v).size : Int) - 4) (by omega) (by omega), show ((wsB B v).size : Int) - 4 = (B.size : Int) by omega, decide_eq_true (show (0 : Int) ≤ (B.size : Int) by omega), decide_eq_true (show (B.size : Int) ≤ ((wsB B v).size : Int) by omega), decide_eq_true (show (4 : Int) ≤ (B.size : Int) by omega)]
  simp only [Nat.le_refl, Nat.zero_le, decide_true, Bool.and_self, cond_true, cond_false, Option.bind_some, Int.toNat_natCast]
  rw [show (Int.toNat 0) = 0 by rfl, show (Int.toNat 4) = 4 by rfl, e1, e0, strEq_dec, decide_eq_true rfl, hv]
  simp only [Option.bind_some, Bool.not_true, cond_false]
  rw [strEq_dec, decide_eq_true rfl, e2]; rfl
theorem objB_size {o : Obj} (h : ObjQ o) : (objB o).size ≤ 4000 ∧ 4 ≤ (objB o).size := by
  have l1 := h.n; have l2 := h.f; have l3 := h.d; have l4 := h.r; have l5 := h.s
  have z1 := catB_size (E := funE) o.2.2.1 fun f hf => funE_size (h.fs f hf)
  have z2 := catB_size (E := datE) o.2.2.2.1 fun f hf => datE_size (h.ds f hf)
  have z3 := catB_size (E := relE) o.2.2.2.2.1 fun f hf => relE_size (h.rs f hf)
  have z4 := catB_size (E := dclE) o.2.2.2.2.2 fun f _ => dclE_size f
  have e4' : hdO.size = 4 := rfl
  unfold objB; simp only [ByteArray.size_append, nmB_size, oneB_size]; omega
/-- A text of an object with more behind its bytes: with nothing more it is the object, with more it is refused. -/
theorem readO_more {o : Obj} (h : ObjQ o) (hr : RelsR o) (hv : objV o = true) (R : ByteArray) (v : Int) (hR : R.size ≤ 100) (hs : impl_withSum (objB o ++ R) = some (wsB (objB o ++ R) v)) :
    impl_ReadObject (wsB (objB o ++ R) v) = some (if R.size = 0 then (o, 0) else (((⟨#[]⟩ : ByteArray), 0, [], [], [], []), 8)) := by
  obtain ⟨z1, z2⟩ := objB_size h
  have hw := wsB_size (objB o ++ R) v
  have hz : (objB o ++ R).size = (objB o).size + R.size := by rw [ByteArray.size_append]
  obtain ⟨B, hB, hb⟩ := rb_obj h ((⟨#[]⟩ : ByteArray), 0, [], [], [], []) R hdO
  have hd : (objB o ++ R).extract 0 4 = hdO := by rw [hB, ByteArray.append_assoc]; exact ByteArray.extract_append_eq_left rfl
  have he : (objB o ++ R).extract 4 (objB o ++ R).size = B ++ R := by
    rw [hB, ByteArray.append_assoc]; exact ByteArray.extract_append_eq_right rfl (by rw [ByteArray.size_append])
  have ht := take_good (objB o ++ R) v (by omega) (by omega) hd hs
  rw [he] at ht
  rw [impl_ReadObject_eq, impl_isLong_eq, decide_eq_false (show ¬ ((wsB (objB o ++ R) v).size : Int) > 65536 by omega)]
  simp only [Option.bind_some, cond_false]
  rw [show (⟨#[80, 79, 66, 49]⟩ : ByteArray) = hdO from rfl, ht]
  simp only [Option.bind_some, optC, decide_true, Bool.not_true, cond_false]
  rw [hb, impl_ReadObject.l1111111111010_eq]
  simp only [joinB]
  rw [decide_eq_false (show ¬ (0 : Int) > 0 by decide), impl_taker_done_eq, strEq_dec, (object_val o hr).1, hv]
  simp only [cond_false, Option.bind_some]
  by_cases h0 : R.size = 0
  · have e : R = (⟨#[]⟩ : ByteArray) := by apply bt_ext; · rw [h0]; rfl
                                           · intro i hi; omega
    rw [if_pos h0, decide_eq_true e]; rfl
  · rw [if_neg h0, decide_eq_false (fun e => h0 (by rw [e]; rfl))]; rfl
theorem take_bentH (H : ByteArray) (hH : H.size = 4) (T T' : ByteArray) (m : Nat) (hz : T.size ≤ 65536) (h8 : 8 ≤ T.size) (hz' : T'.size = T.size) (hm : m < T.size) (hne : bt T' (m : Int) ≠ bt T (m : Int)) (h : ∀ j : Nat, j ≠ m → bt T' (j : Int) = bt T (j : Int))
    (hd : T.extract 0 4 = H) (v : Int) (hv : 0 ≤ v ∧ v < 65521) (hsum : spec_l01Sum (T.extract 0 (T.size - 4)) = some v) (hT : T = T.extract 0 (T.size - 4) ++ bytesOf (leB v 4)) :
    impl_take T' H = some (none, if m < 4 then 3 else 9) := by
  rw [impl_take_eq, hz', decide_eq_false (by omega), strings_HasPrefix_eq, internal_stringslite_HasPrefix_eq, hz', hH, decide_eq_true (show (T.size : Int) ≥ ((4 : Nat) : Int) by omega), decide_eq_true (show (0 : Int) ≤ ((4 : Nat) : Int) by omega), w64 (n := (T.size : Int) - 4) (by omega) (by omega), show (T.size : Int) - 4 = ((T.size - 4 : Nat) : Int) by omega, decide_eq_true (show (0 : Int) ≤ ((T.size - 4 : Nat) : Int) by omega), decide_eq_true (show ((T.size - 4 : Nat) : Int) ≤ (T.size : Int) by omega), decide_eq_true (show (4 : Int) ≤ ((T.size - 4 : Nat) : Int) by omega)]
  simp only [Nat.le_refl, Nat.zero_le, decide_true, Bool.and_self, cond_true, cond_false, Option.bind_some, Int.toNat_natCast]
  rw [show (Int.toNat 0) = 0 by rfl, show (Int.toNat 4) = 4 by rfl, strEq_dec]
  by_cases h4 : m < 4
  · rw [if_pos h4, decide_eq_false]
    · rfl
    · intro e
      rw [← hd] at e
      have : bt (T'.extract 0 4) (m : Int) = bt (T.extract 0 4) (m : Int) := by rw [e]
      rw [bt_extract _ _ _ _ (by omega) (by omega), bt_extract _ _ _ _ (by omega) (by omega), Nat.zero_add] at this
      exact hne this
  · have e4 : T'.extract 0 4 = H := by
      rw [← hd]
      apply bt_ext
      · simp only [ByteArray.size_extract, hz']
      · intro i hi
        simp only [ByteArray.size_extract] at hi
        rw [bt_extract _ _ _ _ (by omega) (by omega), bt_extract _ _ _ _ (by omega) (by omega)]
        exact h _ (by omega)
    obtain ⟨v', s1, s2, s3, s4⟩ := withSum_val (T'.extract 0 (T.size - 4)) (by simp only [ByteArray.size_extract]; omega)
    rw [if_neg h4, e4, decide_eq_true rfl, s4]
    simp only [Option.bind_some, Bool.not_true, cond_false]
    rw [strEq_dec, decide_eq_false]
    · rfl
    · intro e
      have hsz : (T'.extract 0 (T.size - 4)).size = T.size - 4 := by simp only [ByteArray.size_extract]; omega
      have hsz2 : (T.extract 0 (T.size - 4)).size = T.size - 4 := by simp only [ByteArray.size_extract]; omega
      by_cases hb : m < T.size - 4
      · -- the sum turns, its bytes do not
        have e2 : bytesOf (leB v' 4) = bytesOf (leB v 4) := by
          apply bt_ext
          · simp only [bytesOf_size, leB_length]
          · intro i hi
            rw [bytesOf_size, leB_length] at hi
            have h1 : bt T' ((T.size - 4 + i : Nat) : Int) = bt (bytesOf (leB v' 4)) (i : Int) := by
              rw [← e, bt_append, if_neg (by omega), hsz]; congr 2; omega
            have h2 : bt (T.extract 0 (T.size - 4) ++ bytesOf (leB v 4)) ((T.size - 4 + i : Nat) : Int) = bt (bytesOf (leB v 4)) (i : Int) := by
              rw [bt_append, if_neg (by omega), hsz2]; congr 2; omega
            rw [← hT] at h2
            rw [← h1, ← h2]; exact h _ (by omega)
        have e3 := leB_inj4 ⟨s2, s3⟩ hv e2
        subst e3
        rw [sumN_all _ (by omega), hsz] at s1
        rw [sumN_all _ (by omega), hsz2] at hsum
        have := (Option.some.inj s1).trans (Option.some.inj hsum).symm
        refine sumN_bent (T'.extract 0 (T.size - 4)) (T.extract 0 (T.size - 4)) m ?_ ?_ (T.size - 4) 0 1 (by omega) (by omega) (by omega) (by omega) this
        · rw [bt_extract _ _ _ _ (by omega) (by omega), bt_extract _ _ _ _ (by omega) (by omega), Nat.zero_add]; exact hne
        · intro j hj
          by_cases hjs : j < T.size - 4
          · rw [bt_extract _ _ _ _ (by omega) (by omega), bt_extract _ _ _ _ (by omega) (by omega)]; exact h _ (by omega)
          · have o1 : ∀ t : ByteArray, t.size = T.size - 4 → bt t (j : Int) = 0 := fun t ht => by
              rw [bt_nat]
              have h1 : ¬ j < t.size := by omega
              have h2 : ¬ j < t.data.size := h1
              simp [Array.getD, h1]
            rw [o1 _ hsz, o1 _ hsz2]
      · have e2 : T'.extract 0 (T.size - 4) = T.extract 0 (T.size - 4) := by
          apply bt_ext
          · rw [hsz, hsz2]
          · intro i hi
            rw [bt_extract _ _ _ _ (by omega) (by omega), bt_extract _ _ _ _ (by omega) (by omega)]
            exact h _ (by omega)
        rw [e2] at s1 e
        have e3 := Option.some.inj (s1.symm.trans hsum)
        rw [e3, ← hT] at e
        exact hne (by rw [e])
theorem take_shortH (T H : ByteArray) (h : T.size < 8) : impl_take T H = some (none, 8) := by
  rw [impl_take_eq, decide_eq_true (by omega)]; rfl
theorem readO_none {T : ByteArray} {c : Int} (hz : T.size ≤ 65536) (h : impl_take T hdO = some (none, c)) (hc : c ≠ 0) : impl_ReadObject T = some (((⟨#[]⟩ : ByteArray), 0, [], [], [], []), c) := by
  have h' : impl_take T (⟨#[80, 79, 66, 49]⟩ : ByteArray) = some (none, c) := h
  rw [impl_ReadObject_eq, impl_isLong_eq, decide_eq_false (show ¬ (T.size : Int) > 65536 by omega)]
  simp only [Option.bind_some, cond_false]
  rw [h']
  simp only [Option.bind_some, optC]
  rw [decide_eq_false hc]; rfl
theorem objectText_law (H : HotOK) (a b : List Int) (ha : BytP a) (hb : BytP b) : laws_FnObjectText a b = some true := by
  rw [laws_FnObjectText_eq]
  simp only [joinB]
  by_cases h1 : (a.length : Int) > 1048576
  · rw [decide_eq_true h1]; rfl
  rw [decide_eq_false h1]
  simp only [cond_false]
  by_cases h2 : (b.length : Int) > 1048576
  · rw [decide_eq_true h2]; rfl
  rw [decide_eq_false h2]
  simp only [cond_false]
  obtain ⟨o, e1, hr, hv⟩ := drawnObj_ok H a ha (by omega)
  have hQ := objQ_of hv
  obtain ⟨z1, z2⟩ := objB_size hQ
  obtain ⟨v, s1, s2, s3, s4⟩ := withSum_val (objB o) (by omega)
  have s4' : impl_withSum (objB o) = some (wsB (objB o) v) := s4
  have eI : impl_ObjectText o = some (wsB (objB o) v, 0) := by
    rw [impl_ObjectText_eq, (object_val o hr).1, hv]
    simp only [Option.bind_some, Bool.not_true, cond_false]
    rw [text_iobj hQ, s4']; rfl
  have eS : spec_ObjectText o = some (wsB (objB o) v, 0) := by
    have hvv : spec_l08Text o = some (wsB (objB o) v) := text_l08s hQ v s1
    rw [spec_ObjectText_eq, (object_val o hr).2, hv]
    simp only [Option.bind_some, Bool.not_true, cond_false]
    rw [hvv]; rfl
  have eR : impl_ReadObject (wsB (objB o) v) = some (o, 0) := by
    have := readO_more hQ hr hv ByteArray.empty v (by decide) (by rw [ByteArray.append_empty]; exact s4')
    rw [ByteArray.append_empty] at this
    exact this
  have hsame : impl_SameObject o o = some true := by
    obtain ⟨w, q1, q2⟩ := obj_same o o (objOK_of hv).toObjSz
    have : w = true := q2.2 rfl
    subst this
    rw [impl_SameObject_eq, (object_val o hr).1, hv]; simp only [Option.bind_some, cond_true]; rw [q1]; rfl
  obtain ⟨v2, t1, t2, t3, t4⟩ := withSum_val (objB o ++ (⟨#[120]⟩ : ByteArray)) (by rw [ByteArray.size_append]; have : (⟨#[120]⟩ : ByteArray).size = 1 := rfl; omega)
  have eL := readO_more hQ hr hv (⟨#[120]⟩ : ByteArray) v2 (by decide) t4
  rw [if_neg (by decide)] at eL
  have hw := wsB_size (objB o) v
  have ex0 : (wsB (objB o) v).extract 0 ((wsB (objB o) v).size - 4) = objB o := by
    rw [hw]; exact ByteArray.extract_append_eq_left (by omega)
  have eh : (wsB (objB o) v).extract 0 4 = hdO := by
    obtain ⟨B, hB, _⟩ := rb_obj hQ o ByteArray.empty hdO
    unfold wsB; rw [hB, ByteArray.append_assoc]; exact ByteArray.extract_append_eq_left rfl
  have eT : wsB (objB o) v = (wsB (objB o) v).extract 0 ((wsB (objB o) v).size - 4) ++ bytesOf (leB v 4) := by rw [ex0]; rfl
  rw [e1]
  simp only [Option.bind_some]
  rw [eI, eS]
  simp only [Option.bind_some]
  rw [eR]
  simp only [Option.bind_some]
  rw [hsame, strEq_dec, decide_eq_true rfl]
  simp only [Option.bind_some, decide_true, Bool.not_true, cond_false]
  rw [← ex0] at s1
  have hT8 : 8 ≤ (wsB (objB o) v).size := by omega
  have hTz : (wsB (objB o) v).size ≤ 4010 := by omega
  generalize wsB (objB o) v = T at hw s1 ex0 eh eT hT8 hTz ⊢
  obtain ⟨k0, ek, k1, k2⟩ := at_ok b hb (by omega) 0 (T.size : Int) (by decide) (by omega)
  have k2 := k2 (by omega)
  obtain ⟨k, rfl⟩ : ∃ k : Nat, k0 = k := ⟨k0.toNat, by omega⟩
  obtain ⟨r, er, r1, r2⟩ := at_ok b hb (by omega) 1 255 (by decide) (by decide)
  have r2 := r2 (by decide)
  obtain ⟨q0, eq, q1, q2⟩ := at_ok b hb (by omega) 2 8 (by decide) (by decide)
  have q2 := q2 (by decide)
  obtain ⟨q, rfl⟩ : ∃ q : Nat, q0 = q := ⟨q0.toNat, by omega⟩
  have hk : k < T.size := by omega
  have hbt := bt_range T (k : Int)
  obtain ⟨z, ez, z0, z1', zn⟩ := xor_u8 (bt T (k : Int)) (1 + r) hbt (by omega)
  rw [ek]
  simp only [Option.bind_some]
  rw [inL_nat, decide_eq_true hk, er]
  simp only [Option.bind_some, cond_true]
  rw [w64 (n := 1 + r) (by omega) (by omega), wrap_u8, Int.emod_eq_of_lt (by omega) (by omega), ez, w64_succ k T.size (by omega) (by omega), show (Int.toNat 0) = 0 by rfl, Int.toNat_natCast, Int.toNat_natCast, Int.toNat_natCast]
  have hsz1 : (T.extract 0 k).size = k := by simp only [ByteArray.size_extract]; omega
  have hsz3 : (T.extract (k + 1) T.size).size = T.size - (k + 1) := by simp only [ByteArray.size_extract]; omega
  have hb1 : (bytesOf [z]).size = 1 := by rw [bytesOf_size]; rfl
  rw [show (decide ((0 : Nat) ≤ 0) && decide ((0 : Int) ≤ (k : Int)) && decide ((k : Int) ≤ (T.size : Int))) = true by simp; omega, show (decide ((0 : Int) ≤ ((k + 1 : Nat) : Int)) && decide (((k + 1 : Nat) : Int) ≤ (T.size : Int)) && decide ((T.size : Int) ≤ (T.size : Int))) = true by simp; omega, szc (by omega), szc (by rw [ByteArray.size_append]; omega)]
  simp only [cond_true]
  have hbs := bentB_size T k z hk
  obtain ⟨hb2, hb3⟩ := bentB_bt T k z hk z0 z1'
  have etk := take_bentH hdO rfl T (bentB T k z) k (by omega) (by omega) hbs hk (by rw [hb2]; exact zn) hb3 eh v ⟨s2, s3⟩ s1 eT
  have erd := readO_none (by omega) etk (by split <;> decide)
  have erd' : impl_ReadObject ((T.extract 0 k ++ bytesOf [z]) ++ T.extract (k + 1) T.size) = _ := erd
  rw [erd', eq]
  simp only [Option.bind_some]
  have hq : (T.extract 0 q).size < 8 := by simp only [ByteArray.size_extract]; omega
  rw [Int.toNat_natCast, readO_none (by omega) (take_shortH _ _ hq) (by decide), show (decide ((0 : Nat) ≤ 0) && decide ((0 : Int) ≤ (q : Int)) && decide ((q : Int) ≤ (T.size : Int))) = true by simp; omega]
  simp only [Option.bind_some, cond_true]
  rw [w64 (n := (T.size : Int) - 4) (by omega) (by omega), show (T.size : Int) - 4 = ((T.size - 4 : Nat) : Int) by omega, Int.toNat_natCast, ex0, show (decide ((0 : Nat) ≤ 0) && decide ((0 : Int) ≤ ((T.size - 4 : Nat) : Int)) && decide (((T.size - 4 : Nat) : Int) ≤ (T.size : Int))) = true by rw [decide_eq_true (show (0 : Int) ≤ ((T.size - 4 : Nat) : Int) by omega), decide_eq_true (show ((T.size - 4 : Nat) : Int) ≤ (T.size : Int) by omega)]; rfl]
  have hx : (⟨#[120]⟩ : ByteArray).size = 1 := rfl
  obtain ⟨v3, u1, u2, u3, u4⟩ := sum_both (objB o ++ (⟨#[120]⟩ : ByteArray)) (by rw [ByteArray.size_append]; omega)
  have : v3 = v2 := Option.some.inj (u2.symm.trans t1)
  subst this
  have eU : impl_SumOf (objB o ++ (⟨#[120]⟩ : ByteArray)) = some v3 := by
    rw [impl_SumOf_eq, impl_isLong_eq, decide_eq_false (show ¬ (((objB o ++ (⟨#[120]⟩ : ByteArray)).size : Nat) : Int) > 65536 by rw [ByteArray.size_append]; omega)]
    simp only [Option.bind_some, cond_false]
    rw [u1]; rfl
  have eP : impl_PutLittle v3 4 = some (bytesOf (leB v3 4), 0) := by
    rw [impl_PutLittle_eq, impl_isWidth_eq]
    show (bif !true then some ((⟨#[]⟩ : ByteArray), (4 : Int)) else ((impl_putLittle v3 4).bind fun r2 => some (r2, 0))) = _
    rw [put4]; rfl
  have eL' : impl_ReadObject ((objB o ++ (⟨#[120]⟩ : ByteArray)) ++ bytesOf (leB v3 4)) = some (((⟨#[]⟩ : ByteArray), 0, [], [], [], []), 8) := eL
  rw [szc (by omega)]
  simp only [cond_true]
  rw [eU]
  simp only [Option.bind_some]
  rw [eP]
  simp only [Option.bind_some]
  rw [szc (by rw [ByteArray.size_append, bytesOf_size, leB_length]; omega)]
  simp only [cond_true]
  rw [eL']
  by_cases h4 : k < 4
  · rw [if_pos h4, decide_eq_true (show (k : Int) < 4 by omega)]; rfl
  · rw [if_neg h4, decide_eq_false (show ¬ (k : Int) < 4 by omega)]; rfl
end Go.Proofs.Ytloggcnmmcjleaa.S
