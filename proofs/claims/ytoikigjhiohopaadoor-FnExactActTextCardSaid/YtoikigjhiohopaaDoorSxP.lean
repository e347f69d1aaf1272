/- Pure sides: what the functions come to (numbers and lists alone). -/
import Derived.Test.YtoikigjhiohopaaDoorSxI
import Derived.IntWalk
namespace Go.Proofs.YtoikigjhiohopaaDoor.S
open Go.Ps
set_option linter.unusedVariables false
set_option maxRecDepth 100000
theorem w64 {n : Int} (h : -9223372036854775808 ≤ n) (h' : n ≤ 9223372036854775807) : IntKind.wrap .i64 n = n := IntWalk.i64_in n ⟨h, h'⟩
theorem isLetter_l00 (n : Int) : impl_isLetter n = spec_l00Letter n := by rw [impl_isLetter_eq, spec_l00Letter_eq]
theorem isDigit_l00 (n : Int) : impl_isDigit n = spec_l00Digit n := by rw [impl_isDigit_eq, spec_l00Digit_eq]
theorem name_loop (t : ByteArray) (ht : t.size ≤ 20) : ∀ (k : Nat) (i : Int), 0 ≤ i → t.size ≤ i.toNat + k → impl_NameOK.l11010 t i = spec_l00Word.l11010 t i := by
  intro k
  induction k with
  | zero =>
    intro i h0 hk
    have : decide (i < (t.size : Int)) = false := by simp; omega
    rw [impl_NameOK.l11010_eq, spec_l00Word.l11010_eq, this]; rfl
  | succ k ih =>
    intro i h0 hk
    rw [impl_NameOK.l11010_eq, spec_l00Word.l11010_eq, isLetter_l00, isDigit_l00]
    by_cases hi : i < (t.size : Int)
    · rw [w64 (n := i + 1) (by omega) (by omega), ih (i + 1) (by omega) (by omega)]
    · rw [show decide (i < (t.size : Int)) = false by simp; omega]; rfl
theorem nameOK (t : ByteArray) : impl_NameOK t = spec_l00Word t := by
  rw [impl_NameOK_eq, spec_l00Word_eq, impl_within_eq]
  by_cases h1 : (t.size : Int) < 1
  · rw [show decide ((1 : Int) ≤ (t.size : Int)) = false by simp; omega, show decide ((t.size : Int) < 1) = true by simp; omega]; rfl
  · rw [show decide ((1 : Int) ≤ (t.size : Int)) = true by simp; omega, show decide ((t.size : Int) < 1) = false by simp; omega]
    by_cases h2 : (t.size : Int) > 20
    · rw [show decide ((t.size : Int) > 20) = true by simp; omega, show decide ((t.size : Int) ≤ 20) = false by simp; omega]; rfl
    · rw [show decide ((t.size : Int) > 20) = false by simp; omega, show decide ((t.size : Int) ≤ 20) = true by simp; omega]
      simp only [cond_true, cond_false, Option.bind_some, Bool.not_true]
      rw [isLetter_l00, name_loop t (by omega) t.size 1 (by omega) (by omega)]
/-- Both come to the same. -/
def Both {α : Type} (x y : Option α) : Prop := ∃ v, x = some v ∧ y = some v
theorem Both.some {α : Type} {x y : Option α} (e : x = y) (h : ∃ v, x = some v) : Both x y := by obtain ⟨v, h⟩ := h; exact ⟨v, h, e ▸ h⟩
theorem some_letter (n : Int) : ∃ v, impl_isLetter n = some v := by
  rw [impl_isLetter_eq]
  cases decide (n ≥ 97) <;> cases decide (n ≤ 122) <;> cases decide (n ≥ 65) <;> cases decide (n ≤ 90) <;> exact ⟨_, rfl⟩
theorem some_digit (n : Int) : ∃ v, impl_isDigit n = some v := by
  rw [impl_isDigit_eq]; cases decide (n ≥ 48) <;> exact ⟨_, rfl⟩
theorem some_name_loop (t : ByteArray) (ht : t.size ≤ 20) : ∀ (k : Nat) (i : Int), 0 ≤ i → t.size ≤ i.toNat + k → ∃ v, impl_NameOK.l11010 t i = some v := by
  intro k
  induction k with
  | zero =>
    intro i h0 hk
    have : decide (i < (t.size : Int)) = false := by simp; omega
    rw [impl_NameOK.l11010_eq, this]; exact ⟨_, rfl⟩
  | succ k ih =>
    intro i h0 hk
    rw [impl_NameOK.l11010_eq]
    by_cases hi : i < (t.size : Int)
    · have e : inL i t.size = true := by simp [inL]; omega
      obtain ⟨v1, h1⟩ := some_letter (bt t i)
      obtain ⟨v2, h2⟩ := some_digit (bt t i)
      obtain ⟨v3, h3⟩ := ih (i + 1) (by omega) (by omega)
      rw [w64 (n := i + 1) (by omega) (by omega), e, h1, h2, h3]
      simp only [decide_eq_true hi, cond_true, Option.bind_some]
      cases v1 <;> cases v2 <;> exact ⟨_, rfl⟩
    · rw [show decide (i < (t.size : Int)) = false by simp; omega]; exact ⟨_, rfl⟩
theorem some_name (t : ByteArray) : ∃ v, impl_NameOK t = some v := by
  rw [impl_NameOK_eq, impl_within_eq]
  by_cases h1 : (1 : Int) ≤ (t.size : Int)
  · by_cases h2 : (t.size : Int) ≤ 20
    · obtain ⟨v1, e1⟩ := some_letter (bt t 0)
      obtain ⟨v2, e2⟩ := some_name_loop t (by omega) t.size 1 (by omega) (by omega)
      have e : inL 0 t.size = true := by simp [inL]; omega
      simp only [decide_eq_true h1, decide_eq_true h2, cond_true, Option.bind_some, Bool.not_true, cond_false, e, e1, e2]
      cases v1 <;> exact ⟨_, rfl⟩
    · simp only [decide_eq_true h1, cond_true, Option.bind_some, decide_eq_false h2, Bool.not_false]; exact ⟨_, rfl⟩
  · simp only [decide_eq_false h1, cond_false, Option.bind_some, Bool.not_false, cond_true]; exact ⟨_, rfl⟩
theorem both_name (t : ByteArray) : Both (impl_NameOK t) (spec_l00Word t) := Both.some (nameOK t) (some_name t)
theorem inL_nat (j n : Nat) : inL (j : Int) n = decide (j < n) := by
  unfold inL; rw [show decide (0 ≤ (j : Int)) = true by simp, Bool.true_and]; congr 1; simp
theorem rd_nat {τ : Ty} (xs : List τ.den) (j : Nat) (h : j < xs.length) : rd (τ := τ) xs (j : Int) = xs[j] := by
  unfold rd; rw [Int.toNat_natCast, List.getD_eq_getElem?_getD, List.getElem?_eq_getElem h]; rfl
theorem spec_in_val (n a b : Int) : spec_l01In n a b = some (decide (a ≤ n) && decide (n ≤ b)) := by
  rw [spec_l01In_eq]
  by_cases h : n ≥ a <;> simp [h]
theorem within_val (n a b : Int) : impl_within n a b = some (decide (a ≤ n) && decide (n ≤ b)) := by
  rw [impl_within_eq]
  by_cases h : a ≤ n <;> simp [h]
theorem strEq_iff (a b : ByteArray) : (strEq a b = true) = (a = b) := by
  unfold strEq
  rw [beq_iff_eq]
  refine propext ⟨fun h => ?_, fun h => by rw [h]⟩
  have e : ∀ x : ByteArray, x.toList = x.data.toList := by
    intro x
    have : ∀ (n i : Nat) (r : List UInt8), n = x.size - i → ByteArray.toList.loop x i r = r.reverse ++ x.data.toList.drop i := by
      intro n
      induction n with
      | zero => intro i r hn
                rw [ByteArray.toList.loop, if_neg (by omega), List.drop_eq_nil_of_le (by have : x.size = x.data.size := rfl; simp; omega), List.append_nil]
      | succ n ih =>
        intro i r hn
        have hi : i < x.data.toList.length := by have : x.size = x.data.size := rfl; simp; omega
        rw [ByteArray.toList.loop, if_pos (by omega), ih (i + 1) _ (by omega), List.drop_eq_getElem_cons hi]
        have : x.get! i = x.data.toList[i] := by
          have h2 : i < x.data.size := by simpa using hi
          rw [ByteArray.get!, getElem!_pos x.data i h2]; simp
        rw [this]; simp
    have := this (x.size - 0) 0 [] rfl
    rw [ByteArray.toList, this]; simp
  rw [e, e] at h
  have : a.data = b.data := Array.toList_inj.mp h
  cases a; cases b; simp_all
theorem strEq_dec (a b : ByteArray) : strEq a b = decide (a = b) := by
  have := strEq_iff a b
  by_cases h : a = b
  · rw [decide_eq_true h, this.mpr h]
  · rw [decide_eq_false h]
    cases e : strEq a b
    · rfl
    · exact absurd (this.mp e) h
noncomputable def nameV (t : ByteArray) : Bool := (impl_NameOK t).getD false
theorem name_i (t : ByteArray) : impl_NameOK t = some (nameV t) := by
  obtain ⟨v, h1⟩ := some_name t
  unfold nameV
  rw [h1]; rfl
theorem name_val (t : ByteArray) : impl_NameOK t = some (nameV t) ∧ spec_l00Word t = some (nameV t) := by
  obtain ⟨v, h1, h2⟩ := both_name t
  unfold nameV
  rw [h1, h2]; exact ⟨rfl, rfl⟩
theorem wrap_u8 (n : Int) : IntKind.wrap .u8 n = n % 256 := by simp [IntKind.wrap, IntKind.bits, IntKind.signed]
theorem bytesOf_size (xs : List Int) : (bytesOf xs).size = xs.length := by simp [bytesOf, ByteArray.size]
theorem strEq_refl (a : ByteArray) : strEq a a = true := by rw [strEq_dec, decide_eq_true rfl]
def inR (n a b : Int) : Bool := decide (a ≤ n) && decide (n ≤ b)
theorem in_i (n a b : Int) : impl_within n a b = some (inR n a b) := within_val n a b
theorem in_val (n a b : Int) : impl_within n a b = some (inR n a b) ∧ spec_l01In n a b = some (inR n a b) := ⟨within_val n a b, spec_in_val n a b⟩
theorem inR_iff {n a b : Int} : inR n a b = true ↔ a ≤ n ∧ n ≤ b := by simp [inR]
def I64 (n : Int) : Prop := -9223372036854775808 ≤ n ∧ n ≤ 9223372036854775807
theorem szc {a b : ByteArray} (h : a.size + b.size ≤ 4194304) : decide (a.size + b.size ≤ 9223372036854775807) = true := decide_eq_true (by omega)
def digB (u : Nat) : ByteArray := ⟨(Lib.decDigits u).toArray⟩
theorem digB_lt (u : Nat) (h : u < 10) : digB u = bytesOf [(48 : Int) + u] := by
  unfold digB bytesOf
  rw [Lib.decDigits, dif_pos h]
  congr 1
theorem digB_step (u : Nat) (h : ¬ u < 10) : digB u = digB (u / 10) ++ bytesOf [(48 : Int) + (u % 10 : Nat)] := by
  apply ByteArray.ext
  rw [ByteArray.data_append]
  unfold digB bytesOf
  rw [Lib.decDigits, dif_neg h]
  simp only [List.map_cons, List.map_nil, show ((48 : Int) + (u % 10 : Nat)).toNat = 48 + u % 10 by omega]
  generalize UInt8.ofNat (48 + u % 10) = c
  simp
theorem digB_size : ∀ (k u : Nat), u < 10 ^ k → 1 ≤ k → (digB u).size ≤ k := by
  intro k
  induction k with
  | zero => intro u h h1; omega
  | succ k ih =>
    intro u h _
    by_cases hu : u < 10
    · rw [digB_lt u hu, bytesOf_size]; simp
    · rw [digB_step u hu, ByteArray.size_append, bytesOf_size]
      rw [Nat.pow_succ] at h
      by_cases hk : k = 0
      · subst hk; omega
      · have := ih (u / 10) (by omega) (by omega)
        simp only [List.length_cons, List.length_nil]; omega
theorem itoaB_nat (u : Nat) : itoaB (u : Int) = digB u := by
  unfold itoaB digB Lib.itoa
  rw [if_neg (by omega)]; rfl
theorem itoaB_neg (u : Nat) (h : 0 < u) : itoaB (-(u : Int)) = (⟨#[45]⟩ : ByteArray) ++ digB u := by
  apply ByteArray.ext
  rw [ByteArray.data_append]
  unfold itoaB digB Lib.itoa
  rw [if_pos (by omega), show (-(u : Int)).natAbs = u by omega, List.toArray_cons]
theorem itoaB_size (n : Int) (h : I64 n) : (itoaB n).size ≤ 20 := by
  obtain ⟨h1, h2⟩ := h
  by_cases h0 : 0 ≤ n
  · obtain ⟨u, rfl⟩ := Int.eq_ofNat_of_zero_le h0
    rw [itoaB_nat]
    exact digB_size 20 u (by omega) (by decide)
  · obtain ⟨u, hu⟩ := Int.eq_ofNat_of_zero_le (show 0 ≤ -n by omega)
    have : n = -(u : Int) := by omega
    subst this
    rw [itoaB_neg u (by omega), ByteArray.size_append]
    have := digB_size 19 u (by omega) (by decide)
    show 1 + _ ≤ 20
    omega
theorem digits_nat : ∀ (k u : Nat), u < 10 ^ k → u ≤ 9223372036854775807 → spec_l00Digits (u : Int) = some (digB u) := by
  intro k
  induction k with
  | zero =>
    intro u h h2
    have : u = 0 := by omega
    subst this
    rw [spec_l00Digits_eq, decide_eq_false (by decide), decide_eq_false (by decide), decide_eq_true (by decide)]
    simp only [cond_false, cond_true]
    rw [digB_lt 0 (by decide), w64 (by decide) (by decide)]; rfl
  | succ k ih =>
    intro u h h2
    rw [spec_l00Digits_eq, decide_eq_false (show ¬ (u : Int) = -9223372036854775808 by omega), decide_eq_false (show ¬ (u : Int) < 0 by omega)]
    simp only [cond_false]
    by_cases hu : u < 10
    · rw [decide_eq_true (show (u : Int) < 10 by omega), cond_true, digB_lt u hu, w64 (by omega) (by omega), wrap_u8, Int.emod_eq_of_lt (by omega) (by omega)]
    · rw [Nat.pow_succ] at h
      rw [decide_eq_false (show ¬ (u : Int) < 10 by omega), cond_false, Int.tdiv_eq_ediv_of_nonneg (by omega), Int.tmod_eq_emod_of_nonneg (by omega), show (u : Int) / 10 = ((u / 10 : Nat) : Int) by omega, w64 (n := ((u / 10 : Nat) : Int)) (by omega) (by omega), ih (u / 10) (by omega) (by omega), show (u : Int) % 10 = ((u % 10 : Nat) : Int) by omega, w64 (n := 48 + ((u % 10 : Nat) : Int)) (by omega) (by omega), wrap_u8, Int.emod_eq_of_lt (by omega) (by omega)]
      simp only [Option.bind_some]
      have := digB_size 20 (u / 10) (by omega) (by decide)
      rw [szc (by rw [bytesOf_size]; simp only [List.length_cons, List.length_nil]; omega), cond_true, ← digB_step u hu]
theorem min_digits : itoaB (-9223372036854775808) = (⟨#[45, 57, 50, 50, 51, 51, 55, 50, 48, 51, 54, 56, 53, 52, 55, 55, 53, 56, 48, 56]⟩ : ByteArray) := by
  unfold itoaB Lib.itoa
  rw [if_pos (by decide), show (-9223372036854775808 : Int).natAbs = 9223372036854775808 from rfl]
  simp [Lib.decDigits]
/-- A numeral, both ways. -/
theorem digits_val (n : Int) (h : I64 n) : impl_intText n = some (itoaB n) ∧ spec_l00Digits n = some (itoaB n) := by
  obtain ⟨h1, h2⟩ := h
  constructor
  · rw [impl_intText_eq, strconv_Itoa_eq, internal_strconv_Itoa_eq, internal_strconv_FormatInt_eq, decide_eq_true h1, decide_eq_true h2]; rfl
  · by_cases h0 : 0 ≤ n
    · obtain ⟨u, rfl⟩ := Int.eq_ofNat_of_zero_le h0
      rw [itoaB_nat]
      exact digits_nat 19 u (by omega) (by omega)
    · obtain ⟨u, hu⟩ := Int.eq_ofNat_of_zero_le (show 0 ≤ -n by omega)
      have : n = -(u : Int) := by omega
      subst this
      by_cases hm : u = 9223372036854775808
      · subst hm
        rw [spec_l00Digits_eq, decide_eq_true (by decide), cond_true, ← min_digits]; rfl
      · rw [spec_l00Digits_eq, decide_eq_false (by omega), decide_eq_true (show -(u : Int) < 0 by omega), show (0 : Int) - -(u : Int) = (u : Int) by omega, w64 (n := (u : Int)) (by omega) (by omega), digits_nat 19 u (by omega) (by omega), itoaB_neg u (by omega)]
        simp only [cond_false, cond_true, Option.bind_some]
        have := digB_size 19 u (by omega) (by decide)
        rw [szc (by show 1 + _ ≤ _; omega)]; rfl
theorem dd_range : ∀ (u : Nat), ∀ c ∈ Lib.decDigits u, 48 ≤ c.toNat ∧ c.toNat ≤ 57 := by
  intro u
  induction u using Nat.strongRecOn with
  | _ u ih =>
    intro c hc
    have key : ∀ d : Nat, d < 10 → 48 ≤ (UInt8.ofNat (48 + d)).toNat ∧ (UInt8.ofNat (48 + d)).toNat ≤ 57 := by
      intro d hd
      rw [UInt8.toNat_ofNat_of_lt' (by show 48 + d < 256; omega)]; omega
    rw [Lib.decDigits] at hc
    split at hc
    · rename_i h
      rw [List.mem_singleton] at hc
      rw [hc]; exact key u h
    · rename_i h
      rw [List.mem_append, List.mem_singleton] at hc
      rcases hc with hc | hc
      · exact ih (u / 10) (by omega) c hc
      · rw [hc]; exact key (u % 10) (by omega)
theorem dd_ne (u : Nat) : Lib.decDigits u ≠ [] := by
  rw [Lib.decDigits]
  split <;> simp
theorem digB_big : ∀ (k u : Nat), 10 ^ k ≤ u → k + 1 ≤ (digB u).size := by
  intro k
  induction k with
  | zero =>
    intro u h
    by_cases hu : u < 10
    · rw [digB_lt u hu, bytesOf_size]; simp
    · rw [digB_step u hu, ByteArray.size_append, bytesOf_size]; simp only [List.length_cons, List.length_nil]; omega
  | succ k ih =>
    intro u h
    have h10 : 1 ≤ 10 ^ k := Nat.one_le_pow _ _ (by decide)
    rw [Nat.pow_succ] at h
    have hu : ¬ u < 10 := by omega
    rw [digB_step u hu, ByteArray.size_append, bytesOf_size]
    have := ih (u / 10) (by omega)
    simp only [List.length_cons, List.length_nil]; omega
theorem pu_append : ∀ (l : List UInt8) (acc v d : Nat), d < 10 → v < 1844674407370955161 → Lib.parseUint10 acc l = .ok v → Lib.parseUint10 acc (l ++ [UInt8.ofNat (48 + d)]) = .ok (v * 10 + d) := by
  intro l
  induction l with
  | nil =>
    intro acc v d hd hv h
    simp only [Lib.parseUint10] at h
    injection h with h
    subst h
    have e : (UInt8.ofNat (48 + d)).toNat = 48 + d := UInt8.toNat_ofNat_of_lt' (by show 48 + d < 256; omega)
    rw [List.nil_append, Lib.parseUint10, e, if_pos (by omega), if_neg (by omega), if_neg (by omega), show 48 + d - 48 = d by omega]
    rfl
  | cons c r ih =>
    intro acc v d hd hv h
    rw [List.cons_append]
    rw [Lib.parseUint10] at h ⊢
    split at h
    · rename_i hc
      rw [if_pos hc]
      split at h
      · cases h
      · rename_i h1
        rw [if_neg h1]
        split at h
        · cases h
        · rename_i h2
          rw [if_neg h2]
          exact ih _ v d hd hv h
    · cases h
theorem pu_digits : ∀ (u : Nat), u < 1000000000000000000 → Lib.parseUint10 0 (Lib.decDigits u) = .ok u := by
  intro u
  induction u using Nat.strongRecOn with
  | _ u ih =>
    intro hu
    rw [Lib.decDigits]
    split
    · rename_i h
      have := pu_append [] 0 0 u h (by omega) rfl
      rw [List.nil_append] at this
      rw [this]; congr 1; omega
    · rename_i h
      have := pu_append (Lib.decDigits (u / 10)) 0 (u / 10) (u % 10) (by omega) (by omega) (ih (u / 10) (by omega) (by omega))
      rw [this]; congr 1; omega
theorem itoa_list (n : Int) : (itoaB n).data.toList = Lib.itoa n := rfl
theorem trim_itoa (n : Int) : readTrim (itoaB n) = digB n.natAbs := by
  unfold readTrim digB
  rw [itoa_list]
  congr 2
  unfold Lib.itoa Lib.trimPrefix Lib.hasPrefix
  split
  · simp
  · rename_i h
    have e : n.toNat = n.natAbs := by omega
    rw [e]
    cases hd : Lib.decDigits n.natAbs with
    | nil => exact absurd hd (dd_ne _)
    | cons c r =>
      have hc := (dd_range n.natAbs c (by rw [hd]; exact List.mem_cons_self ..)).1
      have : c ≠ 45 := by
        intro h45
        subst h45
        exact absurd hc (by decide)
      simp [List.isPrefixOf, this.symm]
theorem end_itoa (n : Int) (h : n.natAbs < 1000000000000000000) : readEnd (itoaB n) = .ok n := by
  unfold readEnd
  rw [itoa_list]
  unfold Lib.itoa
  have hp := pu_digits n.natAbs h
  split
  · rename_i h0
    unfold Lib.atoiAll
    simp only [show (45 : UInt8).toNat = 45 from rfl, or_true, if_true]
    unfold Lib.parseMag
    rw [if_neg (dd_ne _), hp]
    simp only
    rw [if_neg (by simp), if_neg (by omega)]
    congr 1; omega
  · rename_i h0
    have e : n.toNat = n.natAbs := by omega
    rw [e]
    cases hd : Lib.decDigits n.natAbs with
    | nil => exact absurd hd (dd_ne _)
    | cons c r =>
      have hc := (dd_range n.natAbs c (by rw [hd]; exact List.mem_cons_self ..))
      unfold Lib.atoiAll
      simp only
      rw [if_neg (by omega)]
      unfold Lib.parseMag
      rw [if_neg (by simp), ← hd, hp]
      simp only
      rw [if_neg (by omega), if_neg (by omega), if_neg (by omega)]
      congr 1; omega
theorem short_val (n : Int) (h : I64 n) : impl_isShort n = some (inR n (-999999999999999999) 999999999999999999) := by
  rw [impl_isShort_eq, (digits_val n h).1, Option.bind_some, impl_readInt_eq]
  have hr : readIn (itoaB n) = inR n (-999999999999999999) 999999999999999999 := by
    unfold readIn inR
    rw [trim_itoa]
    have h1 : 1 ≤ (digB n.natAbs).size := by
      by_cases hz : n.natAbs < 10
      · rw [digB_lt _ hz, bytesOf_size]; simp
      · have := digB_big 1 n.natAbs (by omega); omega
    by_cases hn : n.natAbs < 10 ^ 18
    · have h2 := digB_size 18 n.natAbs hn (by decide)
      rw [decide_eq_true (show (1 : Int) ≤ ((digB n.natAbs).size : Int) by omega), decide_eq_true (show ((digB n.natAbs).size : Int) ≤ 18 by omega), decide_eq_true (by omega), decide_eq_true (by omega)]
    · have h2 := digB_big 18 n.natAbs (by omega)
      rw [decide_eq_false (show ¬ ((digB n.natAbs).size : Int) ≤ 18 by omega), Bool.and_false]
      by_cases h3 : (-999999999999999999 : Int) ≤ n
      · rw [decide_eq_false (show ¬ n ≤ 999999999999999999 by omega), Bool.and_false]
      · rw [decide_eq_false h3, Bool.false_and]
  unfold readOK readV
  rw [hr]
  cases hi : inR n (-999999999999999999) 999999999999999999 with
  | false => rfl
  | true =>
    rw [inR_iff] at hi
    rw [end_itoa n (by omega)]
    simp only [cond_true, Option.bind_some, strEq_refl]
abbrev TAct : Ty := .pair (.int .i64) (.pair (.int .i64) (.pair (.int .i64) (.pair (.int .i64) .str)))
abbrev Actn : Type := Int × Int × Int × Int × ByteArray
theorem optB (b : Bool) {x y : Option Bool} (hx : ∃ v, x = some v) (hy : ∃ v, y = some v) : ∃ v, (bif b then x else y) = some v := by cases b <;> assumption
theorem l11_id (n : Int) : spec_l11Id n = some (inR n 0 255) := by rw [spec_l11Id_eq, (in_val n 0 255).2]; rfl
theorem act_same (a : Actn) : impl_ActOK a = spec_ActOK a := by
  rw [impl_ActOK_eq, spec_ActOK_eq]
  simp only [in_i, fun n a b => (in_val n a b).2, name_i, fun t => (name_val t).2, l11_id, Option.bind_some, joinB]
theorem act_some (a : Actn) : ∃ v, spec_ActOK a = some v ∧ (v = true → 1 ≤ a.1 ∧ a.1 ≤ 8) := by
  rw [spec_ActOK_eq]
  simp only [fun n a b => (in_val n a b).2, fun t => (name_val t).2, l11_id, Option.bind_some, joinB]
  have key : ∀ {x : Option Bool}, 1 ≤ a.1 ∧ a.1 ≤ 8 → (∃ v, x = some v) → ∃ v, x = some v ∧ (v = true → 1 ≤ a.1 ∧ a.1 ≤ 8) := fun h ⟨v, hv⟩ => ⟨v, hv, fun _ => h⟩
  by_cases h1 : a.1 = 1
  · rw [decide_eq_true h1, cond_true]; refine key (by omega) ?_; repeat (first | exact ⟨_, rfl⟩ | refine optB _ ?_ ?_)
  by_cases h2 : a.1 = 2
  · rw [decide_eq_false h1, decide_eq_true h2, cond_false, cond_true]; refine key (by omega) ?_; repeat (first | exact ⟨_, rfl⟩ | refine optB _ ?_ ?_)
  by_cases h3 : a.1 = 3
  · rw [decide_eq_false h1, decide_eq_false h2, decide_eq_true h3, cond_false, cond_false, cond_true]; refine key (by omega) ?_; repeat (first | exact ⟨_, rfl⟩ | refine optB _ ?_ ?_)
  by_cases h4 : a.1 = 4
  · rw [decide_eq_false h1, decide_eq_false h2, decide_eq_false h3, decide_eq_true h4]; simp only [cond_false, cond_true]; refine key (by omega) ?_; repeat (first | exact ⟨_, rfl⟩ | refine optB _ ?_ ?_)
  by_cases h5 : 5 ≤ a.1 ∧ a.1 ≤ 8
  · refine key (by omega) ?_; repeat (first | exact ⟨_, rfl⟩ | refine optB _ ?_ ?_)
  · rw [decide_eq_false h1, decide_eq_false h2, decide_eq_false h3, decide_eq_false h4, decide_eq_false (show ¬ a.1 = 5 by omega), decide_eq_false (show ¬ a.1 = 6 by omega), decide_eq_false (show ¬ a.1 = 7 by omega), decide_eq_false (show ¬ a.1 = 8 by omega)]
    exact ⟨false, rfl, fun h => by cases h⟩
def actW9 : List ByteArray := [(⟨#[]⟩ : ByteArray), (⟨#[112, 105, 99, 107]⟩ : ByteArray), (⟨#[114, 111, 117, 110, 100, 115]⟩ : ByteArray), (⟨#[97, 112, 112, 108, 121]⟩ : ByteArray), (⟨#[114, 101, 118, 101, 114, 116]⟩ : ByteArray), (⟨#[97, 108, 108, 111, 99]⟩ : ByteArray), (⟨#[112, 117, 116]⟩ : ByteArray), (⟨#[102, 114, 101, 101]⟩ : ByteArray), (⟨#[103, 101, 116]⟩ : ByteArray)]
theorem actW9_size : ∀ w ∈ actW9, w.size ≤ 10 := by unfold actW9; decide
theorem act_word (k : Int) (h : 1 ≤ k ∧ k ≤ 8) : ∃ w : ByteArray, w.size ≤ 10 ∧ inL k actW9.length = true ∧ inL (IntKind.wrap .i64 (k - 1)) (actW9.tail).length = true ∧ rd (τ := .str) actW9 k = w ∧ rd (τ := .str) actW9.tail (IntKind.wrap .i64 (k - 1)) = w := by
  obtain ⟨n, rfl⟩ : ∃ n : Nat, k = ((n + 1 : Nat) : Int) := ⟨(k - 1).toNat, by omega⟩
  have e : IntKind.wrap .i64 (((n + 1 : Nat) : Int) - 1) = (n : Int) := by rw [w64 (by omega) (by omega)]; omega
  rw [e]
  have hn : n < 8 := by omega
  have hl : actW9.length = 9 := rfl
  have hl' : actW9.tail.length = 8 := rfl
  refine ⟨actW9[n + 1], ?_, by rw [inL_nat, decide_eq_true (by omega)], by rw [inL_nat, decide_eq_true (by omega)], rd_nat (τ := .str) actW9 (n + 1) (by omega), ?_⟩
  · exact actW9_size _ (List.getElem_mem _)
  · rw [rd_nat (τ := .str) actW9.tail n (by omega), List.getElem_tail]
theorem actText_both (a : Actn) (h : 1 ≤ a.1 ∧ a.1 ≤ 8) (h1 : I64 a.2.1) (h2 : I64 a.2.2.1) (h3 : I64 a.2.2.2.1) (hs : a.2.2.2.2.size ≤ 1048576) : ∃ v, impl_actText a = some v ∧ spec_l17Act a = some v := by
  obtain ⟨w, hw, e1, e2, e3, e4⟩ := act_word a.1 h
  have z1 := itoaB_size _ h1
  have z2 := itoaB_size _ h2
  have z3 := itoaB_size _ h3
  have s32 : (⟨#[32]⟩ : ByteArray).size = 1 := rfl
  rw [impl_actText_eq, spec_l17Act_eq, show impl_actWords = some actW9 from impl_actWords_eq, show spec_l17Words = some actW9.tail from spec_l17Words_eq]
  simp only [Option.bind_some]
  rw [e1, e2, e3, e4, (digits_val _ h1).1, (digits_val _ h1).2, (digits_val _ h2).1, (digits_val _ h2).2, (digits_val _ h3).1, (digits_val _ h3).2]
  simp only [Option.bind_some, joinB, cond_true]
  refine (fun ⟨v, h⟩ => ⟨v, h, h⟩ : (∃ v, _ = some v) → _) ?_
  by_cases h4 : a.1 = 4
  · rw [decide_eq_true h4, cond_true, szc, szc]
    · exact ⟨_, rfl⟩
    all_goals simp only [ByteArray.size_append, s32]; omega
  rw [decide_eq_false h4, cond_false]
  by_cases h5 : a.1 = 5
  · rw [decide_eq_true h5]
    simp only [cond_true]
    rw [szc, szc, szc, szc, szc, szc]
    · exact ⟨_, rfl⟩
    all_goals simp only [ByteArray.size_append, s32]; omega
  rw [decide_eq_false h5]
  by_cases h6 : a.1 = 6
  · rw [decide_eq_true h6]
    simp only [cond_true, cond_false]
    rw [szc, szc, szc, szc, szc, szc]
    · exact ⟨_, rfl⟩
    all_goals simp only [ByteArray.size_append, s32]; omega
  rw [decide_eq_false h6]
  by_cases h7 : a.1 = 7
  · rw [decide_eq_true h7]
    simp only [cond_true, cond_false]
    rw [szc, szc, szc, szc]
    · exact ⟨_, rfl⟩
    all_goals simp only [ByteArray.size_append, s32]; omega
  rw [decide_eq_false h7]
  by_cases h8 : a.1 = 8
  · rw [decide_eq_true h8]
    simp only [cond_true, cond_false]
    rw [szc, szc, szc, szc]
    · exact ⟨_, rfl⟩
    all_goals simp only [ByteArray.size_append, s32]; omega
  rw [decide_eq_false h8]
  simp only [cond_false]
  rw [szc, szc]
  · exact ⟨_, rfl⟩
  all_goals simp only [ByteArray.size_append, s32]; omega
theorem actText_law (a : Actn) (hw : wfT TAct a) : laws_FnExactActText a = some true := by
  obtain ⟨w1, w2, w3, w4, w5⟩ := hw
  change (ByteArray.size a.2.2.2.2 ≤ 9223372036854775807) at w5
  rw [laws_FnExactActText_eq, laws_szAct_eq]
  rw [w64 (n := 1048576 - (a.2.2.2.2.size : Int)) (by omega) (by omega)]
  by_cases hz : (1048576 - (a.2.2.2.2.size : Int)) < 0
  · rw [decide_eq_true hz]; rfl
  rw [decide_eq_false hz]
  simp only [cond_false, Option.bind_some]
  rw [decide_eq_false hz]
  simp only [cond_false, laws_toAct_eq, Option.bind_some]
  have : spec_ActText a = impl_ActText a ∧ ∃ v, impl_ActText a = some v := by
    obtain ⟨v, v1, v2⟩ := act_some a
    rw [spec_ActText_eq, impl_ActText_eq, act_same, v1]
    simp only [Option.bind_some]
    cases v with
    | false => exact ⟨rfl, _, rfl⟩
    | true =>
      obtain ⟨t, t1, t2⟩ := actText_both a (v2 rfl) w2 w3 w4 (by omega)
      simp only [Bool.not_true, cond_false, short_val _ w2, short_val _ w4, spec_l17Short_eq, (in_val _ _ _).2, Option.bind_some, t1, t2]
      cases inR a.2.1 (-999999999999999999) 999999999999999999 <;> cases inR a.2.2.2.1 (-999999999999999999) 999999999999999999 <;> exact ⟨by first | trivial | rfl, _, rfl⟩
  obtain ⟨e, v, hv⟩ := this
  rw [e, hv]
  simp only [Option.bind_some, strEq_refl, decide_true, Bool.not_true, cond_false]
end Go.Proofs.YtoikigjhiohopaaDoor.S
