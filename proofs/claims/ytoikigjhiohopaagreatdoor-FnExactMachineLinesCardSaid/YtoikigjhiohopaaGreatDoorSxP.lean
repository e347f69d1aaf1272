/- Pure sides: what the functions come to (numbers and lists alone). -/
import Derived.Test.YtoikigjhiohopaaGreatDoorSxI
import Derived.IntWalk
namespace Go.Proofs.YtoikigjhiohopaaGreatDoor.S
open Go.Ps
set_option linter.unusedVariables false
set_option maxRecDepth 100000
theorem w64 {n : Int} (h : -9223372036854775808 ≤ n) (h' : n ≤ 9223372036854775807) : IntKind.wrap .i64 n = n := IntWalk.i64_in n ⟨h, h'⟩
theorem isLetter_l00 (n : Int) : impl_isLetter n = spec_l00Letter n := by rw [impl_isLetter_eq, spec_l00Letter_eq]
theorem isDigit_l00 (n : Int) : impl_isDigit n = spec_l00Digit n := by rw [impl_isDigit_eq, spec_l00Digit_eq]
theorem name_loop (t : ByteArray) (ht : t.size ≤ 20) : ∀ (k : Nat) (i : Int), 0 ≤ i → t.size ≤ i.toNat + k → impl_NameOK.l11010 t i = spec_l00Word.l11010 t i := by
  intro k
  induction k with
  | zero =>
    intro i h0 hk
    have : decide (i < (t.size : Int)) = false := by simp; omega
    rw [impl_NameOK.l11010_eq, spec_l00Word.l11010_eq, this]; rfl
  | succ k ih =>
    intro i h0 hk
    rw [impl_NameOK.l11010_eq, spec_l00Word.l11010_eq, isLetter_l00, isDigit_l00]
    by_cases hi : i < (t.size : Int)
    · rw [w64 (n := i + 1) (by omega) (by omega), ih (i + 1) (by omega) (by omega)]
    · rw [show decide (i < (t.size : Int)) = false by simp; omega]; rfl
theorem nameOK (t : ByteArray) : impl_NameOK t = spec_l00Word t := by
  rw [impl_NameOK_eq, spec_l00Word_eq, impl_within_eq]
  by_cases h1 : (t.size : Int) < 1
  · rw [show decide ((1 : Int) ≤ (t.size : Int)) = false by simp; omega, show decide ((t.size : Int) < 1) = true by simp; omega]; rfl
  · rw [show decide ((1 : Int) ≤ (t.size : Int)) = true by simp; omega, show decide ((t.size : Int) < 1) = false by simp; omega]
    by_cases h2 : (t.size : Int) > 20
    · rw [show decide ((t.size : Int) > 20) = true by simp; omega, show decide ((t.size : Int) ≤ 20) = false by simp; omega]; rfl
    · rw [show decide ((t.size : Int) > 20) = false by simp; omega, show decide ((t.size : Int) ≤ 20) = true by simp; omega]
      simp only [cond_true, cond_false, Option.bind_some, Bool.not_true]
      rw [isLetter_l00, name_loop t (by omega) t.size 1 (by omega) (by omega)]
/-- Both come to the same. -/
def Both {α : Type} (x y : Option α) : Prop := ∃ v, x = some v ∧ y = some v
theorem Both.bind {α β : Type} {x y : Option α} {f g : α → Option β} (h : Both x y) (k : ∀ v, x = some v → Both (f v) (g v)) : Both (x.bind f) (y.bind g) := by
  obtain ⟨v, h1, h2⟩ := h
  rw [h1, h2]; exact k v h1
theorem Both.some {α : Type} {x y : Option α} (e : x = y) (h : ∃ v, x = some v) : Both x y := by obtain ⟨v, h⟩ := h; exact ⟨v, h, e ▸ h⟩
theorem some_letter (n : Int) : ∃ v, impl_isLetter n = some v := by
  rw [impl_isLetter_eq]
  cases decide (n ≥ 97) <;> cases decide (n ≤ 122) <;> cases decide (n ≥ 65) <;> cases decide (n ≤ 90) <;> exact ⟨_, rfl⟩
theorem some_digit (n : Int) : ∃ v, impl_isDigit n = some v := by
  rw [impl_isDigit_eq]; cases decide (n ≥ 48) <;> exact ⟨_, rfl⟩
theorem some_name_loop (t : ByteArray) (ht : t.size ≤ 20) : ∀ (k : Nat) (i : Int), 0 ≤ i → t.size ≤ i.toNat + k → ∃ v, impl_NameOK.l11010 t i = some v := by
  intro k
  induction k with
  | zero =>
    intro i h0 hk
    have : decide (i < (t.size : Int)) = false := by simp; omega
    rw [impl_NameOK.l11010_eq, this]; exact ⟨_, rfl⟩
  | succ k ih =>
    intro i h0 hk
    rw [impl_NameOK.l11010_eq]
    by_cases hi : i < (t.size : Int)
    · have e : inL i t.size = true := by simp [inL]; omega
      obtain ⟨v1, h1⟩ := some_letter (bt t i)
      obtain ⟨v2, h2⟩ := some_digit (bt t i)
      obtain ⟨v3, h3⟩ := ih (i + 1) (by omega) (by omega)
      rw [w64 (n := i + 1) (by omega) (by omega), e, h1, h2, h3]
      simp only [decide_eq_true hi, cond_true, Option.bind_some]
      cases v1 <;> cases v2 <;> exact ⟨_, rfl⟩
    · rw [show decide (i < (t.size : Int)) = false by simp; omega]; exact ⟨_, rfl⟩
theorem some_name (t : ByteArray) : ∃ v, impl_NameOK t = some v := by
  rw [impl_NameOK_eq, impl_within_eq]
  by_cases h1 : (1 : Int) ≤ (t.size : Int)
  · by_cases h2 : (t.size : Int) ≤ 20
    · obtain ⟨v1, e1⟩ := some_letter (bt t 0)
      obtain ⟨v2, e2⟩ := some_name_loop t (by omega) t.size 1 (by omega) (by omega)
      have e : inL 0 t.size = true := by simp [inL]; omega
      simp only [decide_eq_true h1, decide_eq_true h2, cond_true, Option.bind_some, Bool.not_true, cond_false, e, e1, e2]
      cases v1 <;> exact ⟨_, rfl⟩
    · simp only [decide_eq_true h1, cond_true, Option.bind_some, decide_eq_false h2, Bool.not_false]; exact ⟨_, rfl⟩
  · simp only [decide_eq_false h1, cond_false, Option.bind_some, Bool.not_false, cond_true]; exact ⟨_, rfl⟩
theorem both_name (t : ByteArray) : Both (impl_NameOK t) (spec_l00Word t) := Both.some (nameOK t) (some_name t)
theorem cond_ite {α : Type} (c : Bool) (a b : α) : cond c a b = if c = true then a else b := by cases c <;> rfl
def shpL : List (Int × Int × Int × Int) := [(0, 0, 0, 0), (1, 55, 0, 0), (1, 23, 0, 0), (2, 111, 0, 0), (3, 103, 0, 0), (4, 99, 0, 0), (4, 99, 1, 0), (4, 99, 4, 0), (4, 99, 5, 0), (4, 99, 6, 0), (4, 99, 7, 0), (3, 3, 0, 0), (3, 3, 1, 0), (3, 3, 2, 0), (3, 3, 3, 0), (3, 3, 4, 0), (3, 3, 5, 0), (3, 3, 6, 0), (5, 35, 0, 0), (5, 35, 1, 0), (5, 35, 2, 0), (5, 35, 3, 0), (3, 19, 0, 0), (3, 19, 2, 0), (3, 19, 3, 0), (3, 19, 4, 0), (3, 19, 6, 0), (3, 19, 7, 0), (6, 19, 1, 0), (6, 19, 5, 0), (6, 19, 5, 32), (8, 51, 0, 0), (8, 51, 0, 32), (8, 51, 1, 0), (8, 51, 2, 0), (8, 51, 3, 0), (8, 51, 4, 0), (8, 51, 5, 0), (8, 51, 5, 32), (8, 51, 6, 0), (8, 51, 7, 0), (3, 27, 0, 0), (7, 27, 1, 0), (7, 27, 5, 0), (7, 27, 5, 32), (8, 59, 0, 0), (8, 59, 0, 32), (8, 59, 1, 0), (8, 59, 5, 0), (8, 59, 5, 32), (8, 51, 0, 1), (8, 51, 1, 1), (8, 51, 2, 1), (8, 51, 3, 1), (8, 51, 4, 1), (8, 51, 5, 1), (8, 51, 6, 1), (8, 51, 7, 1), (8, 59, 0, 1), (8, 59, 4, 1), (8, 59, 5, 1), (8, 59, 6, 1), (8, 59, 7, 1), (9, 115, 0, 0), (9, 115, 0, 1)]
def shp (n : Int) : Int × Int × Int × Int := shpL.getD n.toNat (0, 0, 0, 0)
theorem inL_nat (j n : Nat) : inL (j : Int) n = decide (j < n) := by
  unfold inL; rw [show decide (0 ≤ (j : Int)) = true by simp, Bool.true_and]; congr 1; simp
theorem rd_nat {τ : Ty} (xs : List τ.den) (j : Nat) (h : j < xs.length) : rd (τ := τ) xs (j : Int) = xs[j] := by
  unfold rd; rw [Int.toNat_natCast, List.getD_eq_getElem?_getD, List.getElem?_eq_getElem h]; rfl
theorem w64_succ (j n : Nat) (h : j < n) (h' : n ≤ 9223372036854775807) : IntKind.wrap .i64 ((j : Int) + 1) = ((j + 1 : Nat) : Int) := by
  rw [w64 (by omega) (by omega)]; omega
theorem lt_nat (j n : Nat) : decide ((j : Int) < (n : Int)) = decide (j < n) := by congr 1; simp
def fieldsV (f : Int) : Bool × Bool × Bool :=
  if f = 1 ∨ f = 2 then (true, false, false) else if f = 3 ∨ f = 6 ∨ f = 7 then (true, true, false) else if f = 4 ∨ f = 5 then (false, true, true) else if f = 8 then (true, true, true) else (false, false, false)
theorem spec_in_val (n a b : Int) : spec_l01In n a b = some (decide (a ≤ n) && decide (n ≤ b)) := by
  rw [spec_l01In_eq]
  by_cases h : n ≥ a <;> simp [h]
theorem within_val (n a b : Int) : impl_within n a b = some (decide (a ≤ n) && decide (n ≤ b)) := by
  rw [impl_within_eq]
  by_cases h : a ≤ n <;> simp [h]
/-- An instruction's number fits its form. -/
def immR (f i : Int) : Bool :=
  if f = 1 then decide (-2147483648 ≤ i) && decide (i ≤ 2147479552) && decide (i % 4096 = 0)
  else if f = 2 then decide (-1048576 ≤ i) && decide (i ≤ 1048574) && decide (i % 2 = 0)
  else if f = 3 ∨ f = 5 then decide (-2048 ≤ i) && decide (i ≤ 2047)
  else if f = 4 then decide (-4096 ≤ i) && decide (i ≤ 4094) && decide (i % 2 = 0)
  else if f = 6 then decide (0 ≤ i) && decide (i ≤ 63)
  else if f = 7 then decide (0 ≤ i) && decide (i ≤ 31)
  else decide (i = 0)
def rightV (x : Int × Int × Int × Int × Int) : Bool :=
  decide (1 ≤ x.1) && decide (x.1 ≤ 64) && decide (0 ≤ x.2.1) && decide (x.2.1 ≤ 31) && decide (0 ≤ x.2.2.1) && decide (x.2.2.1 ≤ 31) && decide (0 ≤ x.2.2.2.1) && decide (x.2.2.2.1 ≤ 31)
    && ((fieldsV (shp x.1).1).1 || decide (x.2.1 = 0)) && ((fieldsV (shp x.1).1).2.1 || decide (x.2.2.1 = 0)) && ((fieldsV (shp x.1).1).2.2 || decide (x.2.2.2.1 = 0)) && immR (shp x.1).1 x.2.2.2.2
theorem strEq_iff (a b : ByteArray) : (strEq a b = true) = (a = b) := by
  unfold strEq
  rw [beq_iff_eq]
  refine propext ⟨fun h => ?_, fun h => by rw [h]⟩
  have e : ∀ x : ByteArray, x.toList = x.data.toList := by
    intro x
    have : ∀ (n i : Nat) (r : List UInt8), n = x.size - i → ByteArray.toList.loop x i r = r.reverse ++ x.data.toList.drop i := by
      intro n
      induction n with
      | zero => intro i r hn
                rw [ByteArray.toList.loop, if_neg (by omega), List.drop_eq_nil_of_le (by have : x.size = x.data.size := rfl; simp; omega), List.append_nil]
      | succ n ih =>
        intro i r hn
        have hi : i < x.data.toList.length := by have : x.size = x.data.size := rfl; simp; omega
        rw [ByteArray.toList.loop, if_pos (by omega), ih (i + 1) _ (by omega), List.drop_eq_getElem_cons hi]
        have : x.get! i = x.data.toList[i] := by
          have h2 : i < x.data.size := by simpa using hi
          rw [ByteArray.get!, getElem!_pos x.data i h2]; simp
        rw [this]; simp
    have := this (x.size - 0) 0 [] rfl
    rw [ByteArray.toList, this]; simp
  rw [e, e] at h
  have : a.data = b.data := Array.toList_inj.mp h
  cases a; cases b; simp_all
theorem strEq_dec (a b : ByteArray) : strEq a b = decide (a = b) := by
  have := strEq_iff a b
  by_cases h : a = b
  · rw [decide_eq_true h, this.mpr h]
  · rw [decide_eq_false h]
    cases e : strEq a b
    · rfl
    · exact absurd (this.mp e) h
def frameV (f : Int) : Bool := bif decide (16 ≤ f) && decide (f ≤ 128) then decide (f.tmod 16 = 0) else false
theorem frame_val (f : Int) : impl_FrameOK f = some (frameV f) ∧ spec_FrameOK f = some (frameV f) := by
  rw [impl_FrameOK_eq, spec_FrameOK_eq, within_val, spec_in_val]
  simp only [Option.bind_some, frameV]
  cases (decide (16 ≤ f) && decide (f ≤ 128)) <;> exact ⟨rfl, rfl⟩
def codeAtV (a : Int) : Bool := bif decide (0 ≤ a) && decide (a ≤ 1048575) then decide (a.tmod 4 = 0) else false
theorem codeAt_val (a : Int) : impl_isCodeAt a = some (codeAtV a) := by
  rw [impl_isCodeAt_eq, within_val]
  simp only [Option.bind_some, codeAtV]
  cases (decide (0 ≤ a) && decide (a ≤ 1048575)) <;> rfl
noncomputable def nameV (t : ByteArray) : Bool := (impl_NameOK t).getD false
theorem name_val (t : ByteArray) : impl_NameOK t = some (nameV t) ∧ spec_l00Word t = some (nameV t) := by
  obtain ⟨v, h1, h2⟩ := both_name t
  unfold nameV
  rw [h1, h2]; exact ⟨rfl, rfl⟩
theorem wrap_u8 (n : Int) : IntKind.wrap .u8 n = n % 256 := by simp [IntKind.wrap, IntKind.bits, IntKind.signed]
theorem bytesOf_size (xs : List Int) : (bytesOf xs).size = xs.length := by simp [bytesOf, ByteArray.size]
theorem mark_text_loop (n : Nat) : ∀ (k : Int) (t : ByteArray), 0 ≤ k → k < 10 ^ n → k ≤ 4611686018427387904 → t.size + n ≤ 1000 → ∃ v, laws_markText.l11100 k t = some v := by
  induction n with
  | zero =>
    intro k t h0 h1 _ hs
    have : k = 0 := by simp at h1; omega
    subst this
    rw [laws_markText.l11100_eq, show decide ((0 : Int) > 0) = false from rfl]
    simp only [cond_false]
    rw [decide_eq_true (by have : (⟨#[109]⟩ : ByteArray).size = 1 := rfl; omega)]
    exact ⟨_, rfl⟩
  | succ n ih =>
    intro k t h0 h1 hk hs
    rw [laws_markText.l11100_eq]
    by_cases hp : k > 0
    · rw [decide_eq_true hp, decide_eq_true (by rw [bytesOf_size]; simp; omega), Int.tdiv_eq_ediv_of_nonneg h0, w64 (n := k / 10) (by omega) (by omega)]
      simp only [cond_true]
      rw [Int.pow_succ] at h1
      exact ih _ _ (by omega) (by omega) (by omega) (by rw [ByteArray.size_append, bytesOf_size]; simp; omega)
    · rw [decide_eq_false hp]
      simp only [cond_false]
      rw [decide_eq_true (by have : (⟨#[109]⟩ : ByteArray).size = 1 := rfl; omega)]
      exact ⟨_, rfl⟩
noncomputable def mkT (k : Int) : ByteArray := (laws_markText k).getD ⟨#[]⟩
theorem mark_text (k : Int) (h : 1 ≤ k) (h' : k ≤ 4611686018427387904) : laws_markText k = some (mkT k) := by
  obtain ⟨v, hv⟩ := mark_text_loop 30 k ⟨#[]⟩ (by omega) (by omega) h' (by decide)
  have e : laws_markText k = some v := by rw [laws_markText_eq, decide_eq_false (by omega)]; exact hv
  unfold mkT
  rw [e]; rfl
/-- The marks of a list: c for each element. -/
def marksL {α : Type} (E : Int → α) (c : Nat) (m0 : Int) (n : Nat) : List α := (List.range n).map fun i : Nat => E (m0 + c * i)
theorem marksL_len {α : Type} (E : Int → α) (c : Nat) (m0 : Int) (n : Nat) : (marksL E c m0 n).length = n := by simp [marksL]
theorem marksL_get {α : Type} (E : Int → α) (c : Nat) (m0 : Int) (n i : Nat) (h : i < n) : (marksL E c m0 n)[i]? = some (E (m0 + c * i)) := by simp [marksL, h]
theorem mark_run {α : Type} (L : List α → Int → Int → Option (Int × List α)) (E : Int → α) (c n : Nat) (m0 : Int) (M : Int)
    (hm : 1 ≤ m0) (hM : m0 + c * n ≤ M)
    (step : ∀ (l : List α) (m : Int) (i : Nat), l.length = n → i < n → 1 ≤ m → m + c ≤ M → L l m i = L (l.set i (E m)) (m + c) ((i + 1 : Nat) : Int))
    (last : ∀ (l : List α) (m : Int), l.length = n → L l m n = some (m, l)) (l : List α) (hl : l.length = n) : L l m0 0 = some (m0 + c * n, marksL E c m0 n) := by
  have key : ∀ (k i : Nat) (l : List α), i + k = n → l.length = n → (∀ j, j < i → l[j]? = some (E (m0 + c * j))) → L l (m0 + c * i) i = some (m0 + c * n, marksL E c m0 n) := by
    intro k
    induction k with
    | zero =>
      intro i l hi hl hj
      have : i = n := by omega
      subst this
      rw [last l _ hl]
      congr 2
      apply List.ext_getElem?
      intro j
      by_cases h : j < i
      · rw [hj j h, marksL_get E c m0 i j h]
      · rw [List.getElem?_eq_none (by omega), List.getElem?_eq_none (by rw [marksL_len]; omega)]
    | succ k ih =>
      intro i l hi hl hj
      have hci : (c : Int) * i + c ≤ c * n := by
        have : c * i + c ≤ c * n := by
          have := Nat.mul_le_mul_left c (show i + 1 ≤ n by omega)
          rw [Nat.mul_add, Nat.mul_one] at this; exact this
        have e1 : ((c * i : Nat) : Int) = (c : Int) * i := by simp
        have e2 : ((c * n : Nat) : Int) = (c : Int) * n := by simp
        omega
      have hc0 : 0 ≤ (c : Int) * i := Int.mul_nonneg (by omega) (by omega)
      rw [step l _ i hl (by omega) (by omega) (by omega), show m0 + (c : Int) * i + c = m0 + c * ((i + 1 : Nat) : Int) by rw [Int.natCast_add, Int.mul_add]; omega]
      apply ih (i + 1) _ (by omega) (by simp [hl])
      intro j hji
      rw [List.getElem?_set]
      by_cases h : i = j
      · subst h
        rw [if_pos rfl, if_pos (by omega)]
      · rw [if_neg h]; exact hj j (by omega)
  have := key n 0 l (by omega) hl (fun j h => by omega)
  simpa using this
theorem held_run {α : Type} (H : List α → Int → Int → Option Int) (E : Int → α) (c n : Nat) (m0 : Int) (M : Int)
    (hm : 1 ≤ m0) (hM : m0 + c * n ≤ M)
    (step : ∀ (l : List α) (m : Int) (i : Nat), l.length = n → i < n → 1 ≤ m → m + c ≤ M → l[i]? = some (E m) → H l m i = H l (m + c) ((i + 1 : Nat) : Int))
    (last : ∀ (l : List α) (m : Int), l.length = n → H l m n = some m) : H (marksL E c m0 n) m0 0 = some (m0 + c * n) := by
  have key : ∀ (k i : Nat), i + k = n → H (marksL E c m0 n) (m0 + c * i) i = some (m0 + c * n) := by
    intro k
    induction k with
    | zero =>
      intro i hi
      have : i = n := by omega
      subst this
      rw [last _ _ (marksL_len ..)]
    | succ k ih =>
      intro i hi
      have hci : (c : Int) * i + c ≤ c * n := by
        have : c * i + c ≤ c * n := by
          have := Nat.mul_le_mul_left c (show i + 1 ≤ n by omega)
          rw [Nat.mul_add, Nat.mul_one] at this; exact this
        have e1 : ((c * i : Nat) : Int) = (c : Int) * i := by simp
        have e2 : ((c * n : Nat) : Int) = (c : Int) * n := by simp
        omega
      have hc0 : 0 ≤ (c : Int) * i := Int.mul_nonneg (by omega) (by omega)
      rw [step _ _ i (marksL_len ..) (by omega) (by omega) (by omega) (marksL_get E c m0 n i (by omega)), show m0 + (c : Int) * i + c = m0 + c * ((i + 1 : Nat) : Int) by rw [Int.natCast_add, Int.mul_add]; omega]
      exact ih (i + 1) (by omega)
  have := key n 0 (by omega)
  simpa using this
theorem rd_set_self {τ : Ty} (xs : List τ.den) (i : Nat) (v : τ.den) (h : i < xs.length) : rd (τ := τ) (xs.set i v) (i : Int) = v := by
  rw [rd_nat _ _ (by simpa using h)]; simp
theorem rd_some {τ : Ty} (xs : List τ.den) (i : Nat) (v : τ.den) (h : xs[i]? = some v) : rd (τ := τ) xs (i : Int) = v := by
  unfold rd; rw [Int.toNat_natCast, List.getD_eq_getElem?_getD, h]; rfl
theorem strEq_refl (a : ByteArray) : strEq a a = true := by rw [strEq_dec, decide_eq_true rfl]
def allB (p : Nat → Bool) : Nat → Nat → Bool
  | _, 0 => true
  | i, k + 1 => bif p i then allB p (i + 1) k else false
theorem allB_iff (p : Nat → Bool) : ∀ k i, allB p i k = true ↔ ∀ j, i ≤ j → j < i + k → p j = true
  | 0, i => by simp [allB]; omega
  | k + 1, i => by
    rw [allB, cond_ite]
    by_cases h : p i = true
    · rw [if_pos h, allB_iff p k (i + 1)]
      refine ⟨fun H j h1 h2 => ?_, fun H j h1 h2 => H j (by omega) (by omega)⟩
      by_cases e : j = i
      · rw [e]; exact h
      · exact H j (by omega) (by omega)
    · rw [if_neg h]
      refine ⟨fun H => (by cases H), fun H => absurd (H i (Nat.le_refl _) (by omega)) h⟩
theorem loop_all (L : Int → Option Bool) (p : Nat → Bool) (n : Nat) (hend : L (n : Int) = some true) (hstep : ∀ i : Nat, i < n → L (i : Int) = bif p i then L ((i + 1 : Nat) : Int) else some false) :
    ∀ k i : Nat, i + k = n → L (i : Int) = some (allB p i k) := by
  intro k
  induction k with
  | zero => intro i h; have : i = n := by omega
            subst this; exact hend
  | succ k ih =>
    intro i h
    rw [hstep i (by omega), ih (i + 1) (by omega), allB]
    cases p i <;> rfl
theorem loop_all0 {L : Int → Option Bool} (p : Nat → Bool) (n : Nat) (hend : L (n : Int) = some true) (hstep : ∀ i : Nat, i < n → L (i : Int) = bif p i then L ((i + 1 : Nat) : Int) else some false) : L 0 = some (allB p 0 n) :=
  loop_all L p n hend hstep n 0 (by omega)
def findB (p : Nat → Bool) : Nat → Nat → Int
  | _, 0 => -1
  | i, k + 1 => bif p i then (i : Int) else findB p (i + 1) k
theorem loop_find (L : Int → Option Int) (p : Nat → Bool) (n : Nat) (hend : L (n : Int) = some (-1)) (hstep : ∀ i : Nat, i < n → L (i : Int) = bif p i then some (i : Int) else L ((i + 1 : Nat) : Int)) :
    ∀ k i : Nat, i + k = n → L (i : Int) = some (findB p i k) := by
  intro k
  induction k with
  | zero => intro i h; have : i = n := by omega
            subst this; exact hend
  | succ k ih =>
    intro i h
    rw [hstep i (by omega), ih (i + 1) (by omega), findB]
    cases p i <;> rfl
theorem loop_find0 {L : Int → Option Int} (p : Nat → Bool) (n : Nat) (hend : L (n : Int) = some (-1)) (hstep : ∀ i : Nat, i < n → L (i : Int) = bif p i then some (i : Int) else L ((i + 1 : Nat) : Int)) : L 0 = some (findB p 0 n) :=
  loop_find L p n hend hstep n 0 (by omega)
theorem findB_spec (p : Nat → Bool) : ∀ k i, (findB p i k = -1 ∧ ∀ j, i ≤ j → j < i + k → p j = false) ∨ ∃ j : Nat, findB p i k = (j : Int) ∧ i ≤ j ∧ j < i + k ∧ p j = true ∧ ∀ q, i ≤ q → q < j → p q = false
  | 0, i => .inl ⟨rfl, fun j h1 h2 => by omega⟩
  | k + 1, i => by
    rw [findB]
    cases h : p i with
    | true => exact .inr ⟨i, rfl, Nat.le_refl _, by omega, h, fun q h1 h2 => by omega⟩
    | false =>
      rw [cond_false]
      rcases findB_spec p k (i + 1) with ⟨h1, h2⟩ | ⟨j, h1, h2, h3, h4, h5⟩
      · refine .inl ⟨h1, fun j h3 h4 => ?_⟩
        by_cases e : j = i
        · rw [e]; exact h
        · exact h2 j (by omega) (by omega)
      · refine .inr ⟨j, h1, by omega, by omega, h4, fun q h6 h7 => ?_⟩
        by_cases e : q = i
        · rw [e]; exact h
        · exact h5 q (by omega) (by omega)
theorem w64_pred (i : Nat) (h : 0 < i) (h' : i ≤ 1048576) : IntKind.wrap .i64 ((i : Int) - 1) = ((i - 1 : Nat) : Int) := by
  rw [w64 (by omega) (by omega)]; omega
theorem lt_not_ge (a b : Int) : decide (a < b) = !decide (a ≥ b) := by
  rw [← decide_not]; congr 1; apply propext; omega
abbrev TPage : Ty := .pair (.int .i64) (.pair (.int .i64) .str)
abbrev Page : Type := Int × Int × ByteArray
def inR (n a b : Int) : Bool := decide (a ≤ n) && decide (n ≤ b)
theorem in_i (n a b : Int) : impl_within n a b = some (inR n a b) := within_val n a b
theorem in_val (n a b : Int) : impl_within n a b = some (inR n a b) ∧ spec_l01In n a b = some (inR n a b) := ⟨within_val n a b, spec_in_val n a b⟩
theorem inR_iff {n a b : Int} : inR n a b = true ↔ a ≤ n ∧ n ≤ b := by simp [inR]
def baseV (b : Int) : Bool := bif inR b 0 1048575 then decide (b.tmod 128 = 0) else false
theorem base_i (b : Int) : impl_isBase b = some (baseV b) := by
  rw [impl_isBase_eq, in_i]
  unfold baseV
  simp only [Option.bind_some]
  cases inR b 0 1048575 <;> rfl
theorem perm_i (p : Int) : impl_isPerm p = some (inR p 0 15) := by rw [impl_isPerm_eq, in_i]; rfl
theorem base_val (b : Int) : impl_isBase b = some (baseV b) ∧ spec_l04Base b = some (baseV b) := by
  rw [impl_isBase_eq, spec_l04Base_eq, (in_val _ _ _).1, (in_val _ _ _).2]
  unfold baseV
  simp only [Option.bind_some]
  cases inR b 0 1048575 <;> exact ⟨rfl, rfl⟩
theorem perm_val (p : Int) : impl_isPerm p = some (inR p 0 15) ∧ spec_l04Perm p = some (inR p 0 15) := by
  rw [impl_isPerm_eq, spec_l04Perm_eq, (in_val _ _ _).1, (in_val _ _ _).2]; exact ⟨rfl, rfl⟩
def memP (m : List Page) (i : Nat) : Bool :=
  bif baseV (rd (τ := TPage) m i).1 then bif inR (rd (τ := TPage) m i).2.1 0 15 then bif decide (((rd (τ := TPage) m i).2.2.size : Int) = 128) then
    (decide (i = 0) || decide ((rd (τ := TPage) m ((i - 1 : Nat) : Int)).1 < (rd (τ := TPage) m i).1)) else false else false else false
def memV (m : List Page) : Bool := decide (m.length ≤ 64) && allB (memP m) 0 m.length
theorem memory_i (m : List Page) : impl_MemoryOK m = some (memV m) := by
  rw [impl_MemoryOK_eq]
  unfold memV
  rcases Nat.lt_or_ge 64 m.length with h | h
  · rw [show decide ((m.length : Int) > 64) = true by simp; omega, decide_eq_false (by omega)]; rfl
  rw [show decide ((m.length : Int) > 64) = false by simp; omega, decide_eq_true h, cond_false, Bool.true_and]
  refine loop_all0 (L := impl_MemoryOK.l11010 m m (m.length : Int)) (memP m) m.length ?_ fun i hi => ?_
  · rw [impl_MemoryOK.l11010_eq, lt_nat]; simp
  · rw [impl_MemoryOK.l11010_eq, lt_nat, inL_nat, decide_eq_true hi, w64_succ i m.length hi (by omega), base_i, perm_i]
    unfold memP
    simp only [cond_true, Option.bind_some]
    by_cases h0 : i = 0
    · rw [show decide ((i : Int) > 0) = false by simp [h0], decide_eq_true h0]
      cases baseV (rd (τ := TPage) m i).1 <;> cases inR (rd (τ := TPage) m i).2.1 0 15 <;> cases decide (((rd (τ := TPage) m i).2.2.size : Int) = 128) <;> rfl
    · rw [show decide ((i : Int) > 0) = true by simp; omega, decide_eq_false h0, w64_pred i (by omega) (by omega), inL_nat, decide_eq_true (show i - 1 < m.length by omega)]
      rw [show decide ((rd (τ := TPage) m ((i - 1 : Nat) : Int)).1 < (rd (τ := TPage) m i).1) = !decide ((rd (τ := TPage) m ((i - 1 : Nat) : Int)).1 ≥ (rd (τ := TPage) m i).1) from lt_not_ge _ _]
      cases baseV (rd (τ := TPage) m i).1 <;> cases inR (rd (τ := TPage) m i).2.1 0 15 <;> cases decide (((rd (τ := TPage) m i).2.2.size : Int) = 128) <;> cases decide ((rd (τ := TPage) m ((i - 1 : Nat) : Int)).1 ≥ (rd (τ := TPage) m i).1) <;> rfl
theorem memory_val (m : List Page) : impl_MemoryOK m = some (memV m) ∧ spec_MemoryOK m = some (memV m) := by
  refine ⟨memory_i m, ?_⟩
  rw [spec_MemoryOK_eq]
  unfold memV
  rcases Nat.lt_or_ge 64 m.length with h | h
  · rw [show decide ((m.length : Int) > 64) = true by simp; omega, decide_eq_false (by omega)]; rfl
  rw [show decide ((m.length : Int) > 64) = false by simp; omega, decide_eq_true h, cond_false, Bool.true_and]
  refine loop_all0 (L := spec_MemoryOK.l11010 m) (memP m) m.length ?_ fun i hi => ?_
  · rw [spec_MemoryOK.l11010_eq, lt_nat]; simp
  · rw [spec_MemoryOK.l11010_eq, lt_nat, inL_nat, decide_eq_true hi, w64_succ i m.length hi (by omega), (base_val _).2, (perm_val _).2]
    unfold memP
    simp only [cond_true, Option.bind_some]
    by_cases h0 : i = 0
    · rw [show decide ((i : Int) > 0) = false by simp [h0], decide_eq_true h0]
      cases baseV (rd (τ := TPage) m i).1 <;> cases inR (rd (τ := TPage) m i).2.1 0 15 <;> cases decide (((rd (τ := TPage) m i).2.2.size : Int) = 128) <;> rfl
    · rw [show decide ((i : Int) > 0) = true by simp; omega, decide_eq_false h0, w64_pred i (by omega) (by omega), inL_nat, decide_eq_true (show i - 1 < m.length by omega)]
      rw [show decide ((rd (τ := TPage) m ((i - 1 : Nat) : Int)).1 < (rd (τ := TPage) m i).1) = !decide ((rd (τ := TPage) m i).1 ≤ (rd (τ := TPage) m ((i - 1 : Nat) : Int)).1) from lt_not_ge _ _]
      cases baseV (rd (τ := TPage) m i).1 <;> cases inR (rd (τ := TPage) m i).2.1 0 15 <;> cases decide (((rd (τ := TPage) m i).2.2.size : Int) = 128) <;> cases decide ((rd (τ := TPage) m i).1 ≤ (rd (τ := TPage) m ((i - 1 : Nat) : Int)).1) <;> rfl
abbrev TEnt : Ty := .pair .str (.pair (.int .i64) (.pair (.int .i64) (.pair (.int .i64) (.pair (.int .i64) (.int .i64)))))
abbrev Ent : Type := ByteArray × Int × Int × Int × Int × Int
/-- The first entry with a name, or -1. -/
def entV (l : List Ent) (name : ByteArray) : Int := findB (fun i => decide ((rd (τ := TEnt) l (i : Int)).1 = name)) 0 l.length
theorem ent_val (l : List Ent) (name : ByteArray) (hl : l.length ≤ 1048576) : impl_entryNamed l name = some (entV l name) ∧ spec_l10Find l name = some (entV l name) := by
  rw [impl_entryNamed_eq, slices_IndexFunc_impl_Entry_impl_entryNamed_1_eq, spec_l10Find_eq]
  unfold entV
  constructor
  · rw [loop_find0 (L := slices_IndexFunc_impl_Entry_impl_entryNamed_1.l1010 name l (l.length : Int)) (fun i => decide ((rd (τ := TEnt) l (i : Int)).1 = name)) l.length ?_ fun i hi => ?_]
    · rfl
    · rw [slices_IndexFunc_impl_Entry_impl_entryNamed_1.l1010_eq, lt_nat]; simp
    · rw [slices_IndexFunc_impl_Entry_impl_entryNamed_1.l1010_eq, lt_nat, inL_nat, decide_eq_true hi, w64_succ i l.length hi (by omega), impl_entryNamed_1_eq, strEq_dec]
      simp only [cond_true, Option.bind_some]
  · refine loop_find0 (L := spec_l10Find.l1010 l name) (fun i => decide ((rd (τ := TEnt) l (i : Int)).1 = name)) l.length ?_ fun i hi => ?_
    · rw [spec_l10Find.l1010_eq, lt_nat]; simp
    · rw [spec_l10Find.l1010_eq, lt_nat, inL_nat, decide_eq_true hi, w64_succ i l.length hi (by omega), strEq_dec]
      simp only [cond_true]
def kindV (k f : Int) : Bool := bif decide (k = 1) then (bif frameV f then true else bif decide (k = 2) then decide (f = 0) else false) else bif decide (k = 2) then decide (f = 0) else false
noncomputable def entOKV (e : Ent) : Bool :=
  bif nameV e.1 then bif codeAtV e.2.2.1 then bif inR e.2.2.2.1 1 1024 then bif inR e.2.2.2.2.2 0 6 then kindV e.2.1 e.2.2.2.2.1 else false else false else false else false
theorem entOK_val (e : Ent) : impl_Entry_ok e = some (entOKV e) ∧ spec_l10Entry e = some (entOKV e) := by
  rw [impl_Entry_ok_eq, spec_l10Entry_eq]
  unfold entOKV
  rw [(name_val _).1, (name_val _).2, codeAt_val, (in_val _ _ _).1, (in_val _ _ _).1, (in_val _ _ _).2, (in_val _ _ _).2, (in_val _ _ _).2, (frame_val _).1, (frame_val _).2]
  unfold codeAtV kindV joinB
  simp only [Option.bind_some]
  rw [show (decide ((0 : Int) ≤ e.2.2.1) && decide (e.2.2.1 ≤ 1048575)) = inR e.2.2.1 0 1048575 from rfl]
  cases nameV e.1 <;> cases inR e.2.2.1 0 1048575 <;> cases decide (e.2.2.1.tmod 4 = 0) <;> cases inR e.2.2.2.1 1 1024 <;> cases inR e.2.2.2.2.2 0 6 <;> cases decide (e.2.1 = 1) <;> cases frameV e.2.2.2.2.1 <;> cases decide (e.2.1 = 2) <;> exact ⟨rfl, rfl⟩
noncomputable def tabP (l : List Ent) (i : Nat) : Bool := bif entOKV (rd (τ := TEnt) l i) then decide (entV (l.take i) (rd (τ := TEnt) l i).1 < 0) else false
noncomputable def tabV (l : List Ent) : Bool := decide (l.length ≤ 64) && allB (tabP l) 0 l.length
theorem take_drop0 {α : Type} (l : List α) (i : Nat) : (l.take (Int.toNat (i : Int))).drop (Int.toNat 0) = l.take i := by
  rw [Int.toNat_natCast, show (Int.toNat 0) = 0 from rfl, List.drop_zero]
theorem range_true (i n : Nat) (h : i ≤ n) : (decide (0 ≤ 0) && decide (0 ≤ (i : Int)) && decide ((i : Int) ≤ (n : Int))) = true := by simp; omega
theorem table_val (l : List Ent) : impl_TableOK l = some (tabV l) ∧ spec_TableOK l = some (tabV l) := by
  rw [impl_TableOK_eq, spec_TableOK_eq]
  unfold tabV
  rcases Nat.lt_or_ge 64 l.length with h | h
  · rw [show decide ((l.length : Int) > 64) = true by simp; omega, decide_eq_false (show ¬ l.length ≤ 64 by omega)]
    cases decide ((l.length : Int) > 4096) <;> exact ⟨rfl, rfl⟩
  rw [show decide ((l.length : Int) > 64) = false by simp; omega, show decide ((l.length : Int) > 4096) = false by simp; omega, decide_eq_true h, cond_false, cond_false, cond_false, Bool.true_and]
  constructor
  · refine loop_all0 (L := impl_TableOK.l11010 l l (l.length : Int)) (tabP l) l.length ?_ fun i hi => ?_
    · rw [impl_TableOK.l11010_eq, lt_nat]; simp
    · rw [impl_TableOK.l11010_eq, lt_nat, inL_nat, decide_eq_true hi, w64_succ i l.length hi (by omega), (entOK_val _).1, take_drop0, range_true i _ (by omega), (ent_val _ _ (by simp; omega)).1]
      unfold tabP
      rw [lt_not_ge]
      simp only [cond_true, Option.bind_some]
      cases entOKV (rd (τ := TEnt) l i) <;> cases decide (entV (l.take i) (rd (τ := TEnt) l i).1 ≥ 0) <;> rfl
  · refine loop_all0 (L := spec_TableOK.l111010 l) (tabP l) l.length ?_ fun i hi => ?_
    · rw [spec_TableOK.l111010_eq, lt_nat]; simp
    · rw [spec_TableOK.l111010_eq, lt_nat, inL_nat, decide_eq_true hi, w64_succ i l.length hi (by omega), (entOK_val _).2, take_drop0, range_true i _ (by omega), (ent_val _ _ (by simp; omega)).2]
      unfold tabP
      rw [lt_not_ge]
      simp only [cond_true, Option.bind_some]
      cases entOKV (rd (τ := TEnt) l i) <;> cases decide (entV (l.take i) (rd (τ := TEnt) l i).1 ≥ 0) <;> rfl
abbrev TSh : Ty := .pair (.int .i64) (.pair (.int .i64) (.int .i64))
abbrev Sh : Type := Int × Int × Int
def cmpV (a b : Int) : Int := bif decide (a < b) then -1 else bif decide (a > b) then 1 else 0
def lexV (a b : Sh) : Int := if cmpV a.1 b.1 = 0 then cmpV a.2.1 b.2.1 else cmpV a.1 b.1
theorem cmp_val (a b : Int) : cmp_Compare_int a b = some (cmpV a b) := by
  rw [cmp_Compare_int_eq, cmp_isNaN_int_eq, cmp_isNaN_int_eq]
  unfold cmpV
  simp only [Option.bind_some, decide_true, Bool.not_true, cond_false]
  cases decide (a < b) <;> cases decide (a > b) <;> rfl
theorem or2_val (x y : Int) : cmp_Or_int [x, y] = some (if x = 0 then y else x) := by
  rw [cmp_Or_int_eq, show (([x, y] : List Int).length : Int) = 2 from rfl, cmp_Or_int.l11010_eq, cmp_Or_int.l11010_eq, cmp_Or_int.l11010_eq]
  show (bif !decide (x = 0) then some x else bif !decide (y = 0) then some y else some 0) = _
  by_cases hx : x = 0
  · by_cases hy : y = 0
    · simp [hx, hy]
    · simp [hx, hy]
  · simp [hx]
theorem shcmp_val (a b : Sh) : impl_compareShadows a b = some (lexV a b) := by
  rw [impl_compareShadows_eq, cmp_val, cmp_val]
  simp only [Option.bind_some]
  rw [or2_val]; rfl
theorem less2_val (a b c d : Int) : spec_l00Less [a, b] [c, d] = some (if a = c then decide (b < d) else decide (a < c)) := by
  rw [spec_l00Less_eq, spec_l00Less.l1010_eq, spec_l00Less.l1010_eq, spec_l00Less.l1010_eq]
  show (bif !decide (a = c) then some (decide (a < c)) else bif !decide (b = d) then some (decide (b < d)) else some false) = _
  by_cases h : a = c
  · by_cases h2 : b = d
    · simp [h, h2]
    · simp [h, h2]
  · simp [h]
theorem lex_less (a b : Sh) : (if a.1 = b.1 then decide (a.2.1 < b.2.1) else decide (a.1 < b.1)) = !decide (lexV a b ≥ 0) := by
  obtain ⟨a1, a2, a3⟩ := a
  obtain ⟨b1, b2, b3⟩ := b
  simp only [lexV, cmpV, cond_ite, decide_eq_true_eq]
  rcases Int.lt_trichotomy a1 b1 with h | h | h
  · rw [if_neg (by omega), if_pos h]; simp [h]
  · subst h
    rw [if_pos rfl]
    rcases Int.lt_trichotomy a2 b2 with h2 | h2 | h2
    · simp [h2]
    · simp [h2]
    · simp [show ¬ a2 < b2 by omega, h2]
  · rw [if_neg (by omega), if_neg (by omega), if_pos h]; simp [show ¬ a1 < b1 by omega]
theorem id_val (n : Int) : spec_l11Id n = some (inR n 0 255) := by rw [spec_l11Id_eq, (in_val _ _ _).2]; rfl
def shP (l : List Sh) (i : Nat) : Bool :=
  bif inR (rd (τ := TSh) l i).2.1 0 255 then (decide (i = 0) || !decide (lexV (rd (τ := TSh) l ((i - 1 : Nat) : Int)) (rd (τ := TSh) l i) ≥ 0)) else false
def shV (l : List Sh) : Bool := decide (l.length ≤ 16) && allB (shP l) 0 l.length
theorem shadows_val (l : List Sh) : impl_ShadowsOK l = some (shV l) ∧ spec_ShadowsOK l = some (shV l) := by
  rw [impl_ShadowsOK_eq, spec_ShadowsOK_eq]
  unfold shV
  rcases Nat.lt_or_ge 16 l.length with h | h
  · rw [show decide ((l.length : Int) > 16) = true by simp; omega, decide_eq_false (show ¬ l.length ≤ 16 by omega)]
    cases decide ((l.length : Int) > 4096) <;> exact ⟨rfl, rfl⟩
  rw [show decide ((l.length : Int) > 16) = false by simp; omega, show decide ((l.length : Int) > 4096) = false by simp; omega, decide_eq_true h, cond_false, cond_false, cond_false, Bool.true_and]
  constructor
  · refine loop_all0 (L := impl_ShadowsOK.l11010 l l (l.length : Int)) (shP l) l.length ?_ fun i hi => ?_
    · rw [impl_ShadowsOK.l11010_eq, lt_nat]; simp
    · rw [impl_ShadowsOK.l11010_eq, lt_nat, inL_nat, decide_eq_true hi, w64_succ i l.length hi (by omega), (in_val _ _ _).1]
      unfold shP
      simp only [cond_true, Option.bind_some]
      by_cases h0 : i = 0
      · rw [show decide ((i : Int) > 0) = false by simp [h0], decide_eq_true h0]
        cases inR (rd (τ := TSh) l i).2.1 0 255 <;> rfl
      · rw [show decide ((i : Int) > 0) = true by simp; omega, decide_eq_false h0, w64_pred i (by omega) (by omega), inL_nat, decide_eq_true (show i - 1 < l.length by omega), shcmp_val]
        simp only [Option.bind_some]
        cases inR (rd (τ := TSh) l i).2.1 0 255 <;> cases decide (lexV (rd (τ := TSh) l ((i - 1 : Nat) : Int)) (rd (τ := TSh) l i) ≥ 0) <;> rfl
  · refine loop_all0 (L := spec_ShadowsOK.l111010 l) (shP l) l.length ?_ fun i hi => ?_
    · rw [spec_ShadowsOK.l111010_eq, lt_nat]; simp
    · rw [spec_ShadowsOK.l111010_eq, lt_nat, inL_nat, decide_eq_true hi, w64_succ i l.length hi (by omega), id_val]
      unfold shP
      simp only [cond_true, Option.bind_some]
      by_cases h0 : i = 0
      · rw [show decide ((i : Int) > 0) = false by simp [h0], decide_eq_true h0]
        cases inR (rd (τ := TSh) l i).2.1 0 255 <;> rfl
      · rw [show decide ((i : Int) > 0) = true by simp; omega, decide_eq_false h0, w64_pred i (by omega) (by omega), inL_nat, decide_eq_true (show i - 1 < l.length by omega), less2_val, lex_less]
        simp only [Option.bind_some]
        cases inR (rd (τ := TSh) l i).2.1 0 255 <;> cases decide (lexV (rd (τ := TSh) l ((i - 1 : Nat) : Int)) (rd (τ := TSh) l i) ≥ 0) <;> rfl
abbrev THart : Ty := .pair (.arr (.int .i64) 32) (.int .i64)
abbrev TThr : Ty := .pair (.int .i64) (.pair THart (.pair (.list (.int .i64)) (.int .i64)))
abbrev Thr : Type := Int × (List Int × Int) × List Int × Int
abbrev Mac : Type := List Page × List Thr × List Ent × List Sh
def hartV (h : List Int × Int) : Bool := decide ((rd (τ := .int .i64) h.1 0) = (0 : Int))
theorem hart_val (h : List Int × Int) : impl_HartOK h = some (hartV h) ∧ spec_HartOK h = some (hartV h) := by
  rw [impl_HartOK_eq, spec_HartOK_eq]; exact ⟨rfl, rfl⟩
def thrV (t : Thr) : Bool :=
  bif inR t.1 1 3 then bif hartV t.2.1 then bif decide ((t.2.2.1.length : Int) ≤ 32) then (bif decide (t.1 = 3) then inR t.2.2.2 1 31 else decide (t.2.2.2 = 0)) else false else false else false
theorem thr_val (t : Thr) : impl_Thread_ok t = some (thrV t) ∧ spec_l12Thread t = some (thrV t) := by
  rw [impl_Thread_ok_eq, spec_l12Thread_eq, (in_val _ _ _).1, (in_val _ _ _).1, (in_val _ _ _).2, (in_val _ _ _).2, (hart_val _).1, (hart_val _).2]
  unfold thrV joinB
  rw [show decide ((t.2.2.1.length : Int) > 32) = !decide ((t.2.2.1.length : Int) ≤ 32) by rw [← decide_not]; congr 1; apply propext; omega]
  simp only [Option.bind_some]
  cases inR t.1 1 3 <;> cases hartV t.2.1 <;> cases decide ((t.2.2.1.length : Int) ≤ 32) <;> cases decide (t.1 = 3) <;> exact ⟨rfl, rfl⟩
def thrsV (l : List Thr) : Bool := inR l.length 1 4 && allB (fun i => thrV (rd (τ := TThr) l (i : Int))) 0 l.length
theorem find_all (p : Nat → Bool) (n : Nat) : decide (findB (fun i => !p i) 0 n ≥ 0) = !allB p 0 n := by
  rcases findB_spec (fun i => !p i) n 0 with ⟨h1, h2⟩ | ⟨j, h1, h2, h3, h4, h5⟩
  · rw [h1, (allB_iff p n 0).2 fun j h3 h4 => by simpa using h2 j h3 h4]; rfl
  · rw [h1]
    have : allB p 0 n = false := by
      cases h : allB p 0 n with
      | false => rfl
      | true => have := (allB_iff p n 0).1 h j h2 h3; rw [this] at h4; cases h4
    rw [this]; simp
theorem threads_val (l : List Thr) : impl_threadsOK l = some (thrsV l) := by
  rw [impl_threadsOK_eq, (in_val _ _ _).1]
  unfold thrsV
  simp only [Option.bind_some]
  cases h : inR (l.length : Int) 1 4 with
  | false => rfl
  | true =>
    have hl : l.length ≤ 4 := by rw [inR_iff] at h; omega
    rw [slices_ContainsFunc_impl_Thread_impl_threadsOK_1_eq, slices_IndexFunc_impl_Thread_impl_threadsOK_1_eq, loop_find0 (L := slices_IndexFunc_impl_Thread_impl_threadsOK_1.l1010 l (l.length : Int)) (fun i => !thrV (rd (τ := TThr) l (i : Int))) l.length ?_ fun i hi => ?_]
    · simp only [Option.bind_some, cond_true, Bool.true_and]
      rw [find_all]; simp
    · rw [slices_IndexFunc_impl_Thread_impl_threadsOK_1.l1010_eq, lt_nat]; simp
    · rw [slices_IndexFunc_impl_Thread_impl_threadsOK_1.l1010_eq, lt_nat, inL_nat, decide_eq_true hi, w64_succ i l.length hi (by omega), impl_threadsOK_1_eq, (thr_val _).1]
      simp only [cond_true, Option.bind_some]
noncomputable def macV (m : Mac) : Bool := memV m.1 && (tabV m.2.2.1 && (shV m.2.2.2 && thrsV m.2.1))
theorem machine_val (m : Mac) : impl_MachineOK m = some (macV m) ∧ spec_MachineOK m = some (macV m) := by
  rw [impl_MachineOK_eq, spec_MachineOK_eq, (memory_val _).1, (memory_val _).2, (table_val _).1, (table_val _).2, (shadows_val _).1, (shadows_val _).2, threads_val]
  unfold macV
  simp only [Option.bind_some]
  constructor
  · cases memV m.1 <;> cases tabV m.2.2.1 <;> cases shV m.2.2.2 <;> rfl
  · unfold thrsV
    by_cases h1 : (m.2.1.length : Int) < 1
    · rw [decide_eq_true h1, show inR (m.2.1.length : Int) 1 4 = false by simp [inR]; omega]
      cases memV m.1 <;> simp
    rw [decide_eq_false h1]
    by_cases h2 : (m.2.1.length : Int) > 4
    · rw [decide_eq_true h2, show inR (m.2.1.length : Int) 1 4 = false by simp [inR]; omega]
      cases memV m.1 <;> simp
    rw [decide_eq_false h2, show inR (m.2.1.length : Int) 1 4 = true by simp [inR]; omega]
    rw [loop_all0 (L := spec_MachineOK.l11010 m) (fun i => thrV (rd (τ := TThr) m.2.1 (i : Int))) m.2.1.length ?_ fun i hi => ?_]
    · cases memV m.1 <;> cases tabV m.2.2.1 <;> cases shV m.2.2.2 <;> rfl
    · rw [spec_MachineOK.l11010_eq, lt_nat]; simp
    · rw [spec_MachineOK.l11010_eq, lt_nat, inL_nat, decide_eq_true hi, w64_succ i m.2.1.length hi (by omega), (thr_val _).2]
      simp only [cond_true, Option.bind_some]
      cases thrV (rd (τ := TThr) m.2.1 (i : Int)) <;> rfl
def mapB {α : Type} (f : Nat → α) : Nat → Nat → List α
  | _, 0 => []
  | i, k + 1 => f i :: mapB f (i + 1) k
theorem room16 (n : Nat) (h : n ≤ 4096) : roomB n 16 = true := by simp [roomB]; omega
def I64 (n : Int) : Prop := -9223372036854775808 ≤ n ∧ n ≤ 9223372036854775807
/-- A later fault does not take the place of an earlier one. -/
def after (f : Int) (ok : Bool) : Int := if f = 0 ∧ ok = false then 7 else f
/-- The pages of an area. -/
def arL (b p : Int) (n : Nat) : List (Int × Int) := mapB (fun i => (b + 128 * (i : Int), p)) 0 n
def L1 : List (Int × Int) := arL 4096 4 8
def L2 : List (Int × Int) := L1 ++ arL 8192 4 8
def L3 : List (Int × Int) := L2 ++ arL 16384 3 2
def bOK (L : List (Int × Int)) (m : Int) : Bool := decide (L.length ≤ 64) && L.all fun q => decide (0 ≤ q.1) && decide (q.1 ≤ 1048575) && decide (q.1 < m)
theorem b1 : bOK L1 8192 = true := by decide
theorem b2 : bOK L2 16384 = true := by decide
theorem b3 : bOK L3 20480 = true := by decide
theorem rd_mem_list {τ : Ty} (l : List τ.den) (i : Nat) (h : i < l.length) : rd (τ := τ) l (i : Int) ∈ l := by rw [rd_nat l i h]; exact List.getElem_mem h
theorem mem_rd {τ : Ty} {l : List τ.den} {x : τ.den} (h : x ∈ l) : ∃ i : Nat, i < l.length ∧ rd (τ := τ) l (i : Int) = x := by
  obtain ⟨i, hi, e⟩ := List.mem_iff_getElem.1 h
  exact ⟨i, hi, by rw [rd_nat l i hi]; exact e⟩
/-- Short lists. -/
def bdT : (τ : Ty) → τ.den → Prop
  | .list e, l => List.length l ≤ 1048576 ∧ ∀ x ∈ l, bdT e x
  | .pair a b, x => bdT a x.1 ∧ bdT b x.2
  | _, _ => True
/-- What is left after a size. -/
def SP (B : Prop) (left : Int) (v : Option Int) : Prop := ∃ r, v = some r ∧ r ≤ left ∧ (0 ≤ r → B)
def LeftR (left : Int) : Prop := 0 ≤ left ∧ left ≤ 1048576
theorem SP.fin {B : Prop} {left : Int} (h : B) : SP B left (some left) := ⟨left, rfl, Int.le_refl _, fun _ => h⟩
theorem SP.str {B : Prop} {left : Int} (n : Nat) (hn : n ≤ 9223372036854775807) (hl : LeftR left) (K : Int → Option Int) (hK : ∀ l', LeftR l' → l' ≤ left → n ≤ 1048576 → SP B l' (K l')) : SP B left (bif decide (IntKind.wrap .i64 (left - (n : Int)) < 0) then some (-1) else K (IntKind.wrap .i64 (left - (n : Int)))) := by
  obtain ⟨h1, h2⟩ := hl
  rw [w64 (n := left - (n : Int)) (by omega) (by omega)]
  by_cases h : left - (n : Int) < 0
  · rw [decide_eq_true h]; exact ⟨-1, rfl, by omega, fun h => absurd h (by decide)⟩
  · rw [decide_eq_false h, cond_false]
    obtain ⟨r, e1, e2, e3⟩ := hK (left - (n : Int)) ⟨by omega, by omega⟩ (by omega) (by omega)
    exact ⟨r, e1, by omega, e3⟩
theorem SP.call {B B1 : Prop} {left : Int} {v : Option Int} (hf : SP B1 left v) (hl : LeftR left) (K : Int → Option Int) (hK : B1 → ∀ r, LeftR r → SP B r (K r)) : SP B left (v.bind fun r => bif decide (r < 0) then some (-1) else K r) := by
  obtain ⟨r, e1, e2, e3⟩ := hf
  rw [e1, Option.bind_some]
  have := hl.2
  by_cases h : r < 0
  · rw [decide_eq_true h]; exact ⟨-1, rfl, by have := hl.1; omega, fun h => absurd h (by decide)⟩
  · rw [decide_eq_false h, cond_false]
    obtain ⟨r', e4, e5, e6⟩ := hK (e3 (by omega)) r ⟨by omega, by omega⟩
    exact ⟨r', e4, by omega, e6⟩
def SzP (τ : Ty) (f : τ.den → Int → Option Int) : Prop := ∀ x, wfT τ x → ∀ left, LeftR left → SP (bdT τ x) left (f x left)
theorem sz_loop {τ : Ty} (l : List τ.den) (g : τ.den → Int → Option Int) (hg : SzP τ g) (hw : ∀ x ∈ l, wfT τ x) (L : Int → Int → Option Int)
    (hstep : ∀ left (i : Nat), i < l.length → L left (i : Int) = (g (rd (τ := τ) l (i : Int)) left).bind fun r1 => bif decide (r1 < 0) then some (-1) else L r1 ((i + 1 : Nat) : Int)) (hend : ∀ left, L left (l.length : Int) = some left) :
    ∀ (k i : Nat), i + k = l.length → ∀ left, LeftR left → SP (∀ j : Nat, i ≤ j → j < l.length → bdT τ (rd (τ := τ) l (j : Int))) left (L left (i : Int)) := by
  intro k
  induction k with
  | zero =>
    intro i h left hl
    have : i = l.length := by omega
    subst this
    rw [hend]
    exact SP.fin fun j h1 h2 => by omega
  | succ k ih =>
    intro i h left hl
    rw [hstep left i (by omega)]
    refine SP.call (hg _ (hw _ (rd_mem_list l i (by omega))) left hl) hl _ fun b r hr => ?_
    obtain ⟨r', e1, e2, e3⟩ := ih (i + 1) (by omega) r hr
    exact ⟨r', e1, e2, fun h0 j h1 h2 => by
      by_cases e : j = i
      · rw [e]; exact b
      · exact e3 h0 j (by omega) h2⟩
theorem sz_list {τ : Ty} (l : List τ.den) (hw : wfT (.list τ) l) (g : τ.den → Int → Option Int) (hg : SzP τ g) (L : Int → Int → Option Int)
    (hstep : l.length ≤ 1048576 → ∀ left (i : Nat), i < l.length → L left (i : Int) = (g (rd (τ := τ) l (i : Int)) left).bind fun r1 => bif decide (r1 < 0) then some (-1) else L r1 ((i + 1 : Nat) : Int)) (hend : ∀ left, L left (l.length : Int) = some left) (left : Int) (hl : LeftR left) :
    SP (bdT (.list τ) l) left (bif decide (IntKind.wrap .i64 (left - (l.length : Int)) < 0) then some (-1) else L (IntKind.wrap .i64 (left - (l.length : Int))) 0) := by
  have hw' : List.length l ≤ 9223372036854775807 ∧ ∀ x ∈ l, wfT τ x := hw
  refine SP.str l.length hw'.1 hl (fun r => L r 0) fun l' h1 h2 h3 => ?_
  obtain ⟨r, e1, e2, e3⟩ := sz_loop l g hg hw'.2 L (hstep h3) hend l.length 0 (by omega) l' h1
  refine ⟨r, e1, e2, fun h0 => ?_⟩
  show List.length l ≤ 1048576 ∧ ∀ x ∈ l, bdT τ x
  refine ⟨h3, fun x hx => ?_⟩
  obtain ⟨i, hi, hr⟩ := mem_rd hx
  rw [← hr]; exact e3 h0 i (Nat.zero_le _) hi
theorem sz_flat {τ : Ty} (l : List τ.den) (hw : wfT (.list τ) l) (hb : ∀ x, bdT τ x) (left : Int) (hl : LeftR left) :
    SP (bdT (.list τ) l) left (bif decide (IntKind.wrap .i64 (left - (l.length : Int)) < 0) then some (-1) else some (IntKind.wrap .i64 (left - (l.length : Int)))) := by
  have hw' : List.length l ≤ 9223372036854775807 ∧ ∀ x ∈ l, wfT τ x := hw
  exact SP.str l.length hw'.1 hl some fun l' h1 h2 h3 => SP.fin ⟨h3, fun x _ => hb x⟩
/-- A copy. -/
def ToP (τ : Ty) (f : τ.den → Option τ.den) : Prop := ∀ x, wfT τ x → bdT τ x → f x = some x
theorem to_loop' {τ : Ty} (l : List τ.den) (L : List τ.den → Int → Option (List τ.den))
    (hstep : ∀ acc (i : Nat), i < l.length → acc.length = l.length → L acc (i : Int) = L (acc.set i (rd (τ := τ) l (i : Int))) ((i + 1 : Nat) : Int)) (hend : ∀ acc, L acc (l.length : Int) = some acc) :
    ∀ (k i : Nat) (u : List τ.den), i + k = l.length → u.length = k → L (l.take i ++ u) (i : Int) = some l := by
  intro k
  induction k with
  | zero =>
    intro i u h hu
    have : i = l.length := by omega
    subst this
    rw [hend, List.take_length, List.eq_nil_of_length_eq_zero hu, List.append_nil]
  | succ k ih =>
    intro i u h hu
    have hi : i < l.length := by omega
    rw [hstep _ i hi (by rw [List.length_append, List.length_take]; omega)]
    cases u with
    | nil => simp at hu
    | cons y u =>
      have e : (l.take i ++ y :: u).set i (rd (τ := τ) l (i : Int)) = l.take (i + 1) ++ u := by
        rw [List.set_append_right _ _ (by rw [List.length_take]; omega), List.length_take, show i - min i l.length = 0 by omega, List.set_cons_zero, List.take_succ_eq_append_getElem hi, List.append_assoc, rd_nat l i hi]; rfl
      rw [e]
      exact ih (i + 1) u (by omega) (by simpa using hu)
theorem to_list {τ : Ty} (l : List τ.den) (b : Nat) (hbt : b ≤ 4096) (hb : l.length ≤ 1048576) (z : τ.den) (L : List τ.den → Int → Option (List τ.den))
    (hstep : ∀ acc (i : Nat), i < l.length → acc.length = l.length → L acc (i : Int) = L (acc.set i (rd (τ := τ) l (i : Int))) ((i + 1 : Nat) : Int)) (hend : ∀ acc, L acc (l.length : Int) = some acc) :
    (bif decide (0 ≤ (l.length : Int)) && roomB (Int.toNat (l.length : Int)) b then L (List.replicate (Int.toNat (l.length : Int)) z) 0 else none) = some l := by
  have hm : l.length * b ≤ 1048576 * 4096 := Nat.mul_le_mul hb hbt
  rw [Int.toNat_natCast, show (decide (0 ≤ (l.length : Int)) && roomB l.length b) = true by simp [roomB]; omega, cond_true]
  have := to_loop' l L hstep hend l.length 0 (List.replicate l.length z) (by omega) (by simp)
  simpa using this
/-- A comparison of like with like. -/
def EqP (τ : Ty) (f : τ.den → τ.den → Option Bool) : Prop := ∀ x, wfT τ x → bdT τ x → f x x = some true
theorem eq_loop (L : Int → Option Bool) (n : Nat) (hstep : ∀ i : Nat, i < n → L (i : Int) = L ((i + 1 : Nat) : Int)) (hend : L (n : Int) = some true) : L 0 = some true := by
  have : ∀ k i : Nat, i + k = n → L (i : Int) = some true := by
    intro k
    induction k with
    | zero => intro i h; have : i = n := by omega
              rw [this]; exact hend
    | succ k ih => intro i h; rw [hstep i (by omega)]; exact ih (i + 1) (by omega)
  exact this n 0 (by omega)
abbrev TMac : Ty := .pair (.list TPage) (.pair (.list TThr) (.pair (.list TEnt) (.list TSh)))
theorem sz_Entry : SzP TEnt laws_szEntry := by
  intro x hw left hl
  show SP _ left (laws_szEntry x left)
  rw [laws_szEntry_eq]
  refine SP.str (ByteArray.size x.1) hw.1 hl (fun r => some r) fun l0 h0 _ _ => ?_
  exact SP.fin ⟨trivial, ⟨trivial, ⟨trivial, ⟨trivial, ⟨trivial, trivial⟩⟩⟩⟩⟩
theorem sz_EntryS : SzP (.list TEnt) laws_szEntryS := by
  intro x hw left hl
  show SP _ left (laws_szEntryS x left)
  rw [laws_szEntryS_eq]
  exact sz_list x hw laws_szEntry sz_Entry (laws_szEntryS.l111010 x) (fun hb left i hi => by
    rw [laws_szEntryS.l111010_eq, lt_nat, inL_nat, decide_eq_true hi, w64_succ i _ hi (by omega)]; rfl) (fun left => by
    rw [laws_szEntryS.l111010_eq, lt_nat, decide_eq_false (Nat.lt_irrefl _), cond_false]) left hl
theorem sz_Page : SzP TPage laws_szPage := by
  intro x hw left hl
  show SP _ left (laws_szPage x left)
  rw [laws_szPage_eq]
  refine SP.str (ByteArray.size x.2.2) hw.2.2 hl (fun r => some r) fun l0 h0 _ _ => ?_
  exact SP.fin ⟨trivial, ⟨trivial, trivial⟩⟩
theorem sz_PageS : SzP (.list TPage) laws_szPageS := by
  intro x hw left hl
  show SP _ left (laws_szPageS x left)
  rw [laws_szPageS_eq]
  exact sz_list x hw laws_szPage sz_Page (laws_szPageS.l111010 x) (fun hb left i hi => by
    rw [laws_szPageS.l111010_eq, lt_nat, inL_nat, decide_eq_true hi, w64_succ i _ hi (by omega)]; rfl) (fun left => by
    rw [laws_szPageS.l111010_eq, lt_nat, decide_eq_false (Nat.lt_irrefl _), cond_false]) left hl
theorem sz_IntS : SzP (.list (.int .i64)) laws_szIntS := by
  intro x hw left hl
  show SP _ left (laws_szIntS x left)
  rw [laws_szIntS_eq]
  exact sz_flat x hw (fun _ => trivial) left hl
theorem sz_ShadowS : SzP (.list TSh) laws_szShadowS := by
  intro x hw left hl
  show SP _ left (laws_szShadowS x left)
  rw [laws_szShadowS_eq]
  exact sz_flat x hw (fun _ => ⟨trivial, ⟨trivial, trivial⟩⟩) left hl
theorem sz_Thread : SzP TThr laws_szThread := by
  intro x hw left hl
  show SP _ left (laws_szThread x left)
  rw [laws_szThread_eq]
  refine SP.call (sz_IntS x.2.2.1 hw.2.2.1 left hl) hl _ fun b0 l0 h0 => ?_
  exact SP.fin ⟨trivial, ⟨⟨trivial, trivial⟩, ⟨b0, trivial⟩⟩⟩
theorem sz_ThreadS : SzP (.list TThr) laws_szThreadS := by
  intro x hw left hl
  show SP _ left (laws_szThreadS x left)
  rw [laws_szThreadS_eq]
  exact sz_list x hw laws_szThread sz_Thread (laws_szThreadS.l111010 x) (fun hb left i hi => by
    rw [laws_szThreadS.l111010_eq, lt_nat, inL_nat, decide_eq_true hi, w64_succ i _ hi (by omega)]; rfl) (fun left => by
    rw [laws_szThreadS.l111010_eq, lt_nat, decide_eq_false (Nat.lt_irrefl _), cond_false]) left hl
theorem sz_Memory : SzP (.list TPage) laws_szMemory := by
  intro x hw left hl
  show SP _ left (laws_szMemory x left)
  rw [laws_szMemory_eq]
  exact SP.call (sz_PageS x hw left hl) hl _ fun b l h => SP.fin b
theorem sz_Machine : SzP TMac laws_szMachine := by
  intro x hw left hl
  show SP _ left (laws_szMachine x left)
  rw [laws_szMachine_eq]
  refine SP.call (sz_Memory x.1 hw.1 left hl) hl _ fun b0 l0 h0 => ?_
  refine SP.call (sz_ThreadS x.2.1 hw.2.1 l0 h0) h0 _ fun b1 l1 h1 => ?_
  refine SP.call (sz_EntryS x.2.2.1 hw.2.2.1 l1 h1) h1 _ fun b2 l2 h2 => ?_
  refine SP.call (sz_ShadowS x.2.2.2 hw.2.2.2 l2 h2) h2 _ fun b3 l3 h3 => ?_
  exact SP.fin ⟨b0, ⟨b1, ⟨b2, b3⟩⟩⟩
theorem to_Entry : ToP TEnt laws_toEntry := by
  intro x _ _
  show laws_toEntry x = _
  rw [laws_toEntry_eq]
theorem to_EntryS : ToP (.list TEnt) laws_toEntryS := by
  intro x hw hb
  show laws_toEntryS x = _
  rw [laws_toEntryS_eq]
  exact to_list (τ := TEnt) x 56 (by omega) hb.1 _ (laws_toEntryS.l11010 x) (fun acc i hi ha => by
    rw [laws_toEntryS.l11010_eq, lt_nat, inL_nat, decide_eq_true hi, w64_succ i _ hi (by have := hb.1; omega), to_Entry _ (hw.2 _ (rd_mem_list (τ := TEnt) x i hi)) (hb.2 _ (rd_mem_list (τ := TEnt) x i hi))]
    simp only [cond_true, Option.bind_some]
    rw [inL_nat, show decide (i < acc.length) = true from decide_eq_true (by rw [ha]; exact hi), Int.toNat_natCast]; rfl) (fun acc => by
    rw [laws_toEntryS.l11010_eq, lt_nat, decide_eq_false (Nat.lt_irrefl _), cond_false])
theorem to_Page : ToP TPage laws_toPage := by
  intro x _ _
  show laws_toPage x = _
  rw [laws_toPage_eq]
theorem to_PageS : ToP (.list TPage) laws_toPageS := by
  intro x hw hb
  show laws_toPageS x = _
  rw [laws_toPageS_eq]
  exact to_list (τ := TPage) x 32 (by omega) hb.1 _ (laws_toPageS.l11010 x) (fun acc i hi ha => by
    rw [laws_toPageS.l11010_eq, lt_nat, inL_nat, decide_eq_true hi, w64_succ i _ hi (by have := hb.1; omega), to_Page _ (hw.2 _ (rd_mem_list (τ := TPage) x i hi)) (hb.2 _ (rd_mem_list (τ := TPage) x i hi))]
    simp only [cond_true, Option.bind_some]
    rw [inL_nat, show decide (i < acc.length) = true from decide_eq_true (by rw [ha]; exact hi), Int.toNat_natCast]; rfl) (fun acc => by
    rw [laws_toPageS.l11010_eq, lt_nat, decide_eq_false (Nat.lt_irrefl _), cond_false])
theorem to_Shadow : ToP TSh laws_toShadow := by
  intro x _ _
  show laws_toShadow x = _
  rw [laws_toShadow_eq]
theorem to_ShadowS : ToP (.list TSh) laws_toShadowS := by
  intro x hw hb
  show laws_toShadowS x = _
  rw [laws_toShadowS_eq]
  exact to_list (τ := TSh) x 24 (by omega) hb.1 _ (laws_toShadowS.l11010 x) (fun acc i hi ha => by
    rw [laws_toShadowS.l11010_eq, lt_nat, inL_nat, decide_eq_true hi, w64_succ i _ hi (by have := hb.1; omega), to_Shadow _ (hw.2 _ (rd_mem_list (τ := TSh) x i hi)) (hb.2 _ (rd_mem_list (τ := TSh) x i hi))]
    simp only [cond_true, Option.bind_some]
    rw [inL_nat, show decide (i < acc.length) = true from decide_eq_true (by rw [ha]; exact hi), Int.toNat_natCast]; rfl) (fun acc => by
    rw [laws_toShadowS.l11010_eq, lt_nat, decide_eq_false (Nat.lt_irrefl _), cond_false])
theorem to_IntS : ToP (.list (.int .i64)) laws_toIntS := by
  intro x hw hb
  show laws_toIntS x = _
  rw [laws_toIntS_eq]
  exact to_list (τ := (.int .i64)) x 8 (by omega) hb.1 _ (laws_toIntS.l11010 x) (fun acc i hi ha => by
    rw [laws_toIntS.l11010_eq, lt_nat, inL_nat, decide_eq_true hi, w64_succ i _ hi (by have := hb.1; omega)]
    rw [inL_nat, show decide (i < acc.length) = true from decide_eq_true (by rw [ha]; exact hi), Int.toNat_natCast]; rfl) (fun acc => by
    rw [laws_toIntS.l11010_eq, lt_nat, decide_eq_false (Nat.lt_irrefl _), cond_false])
theorem to_IntA32 : ToP (.arr (.int .i64) 32) laws_toIntA32 := by
  intro x hw hb
  show laws_toIntA32 x = _
  have hl : List.length x = 32 := hw.1
  rw [laws_toIntA32_eq]
  have h := to_loop' (τ := .int .i64) x (fun acc i => laws_toIntA32.l11010 x [0, 0, 0, 0, 0, 0, 0, 0, 0, 0, 0, 0, 0, 0, 0, 0, 0, 0, 0, 0, 0, 0, 0, 0, 0, 0, 0, 0, 0, 0, 0, 0] acc i) (fun acc i hi ha => by
    show laws_toIntA32.l11010 x _ acc (i : Int) = _
    rw [laws_toIntA32.l11010_eq, decide_eq_true (show (i : Int) < 32 by omega), inL_nat, decide_eq_true (show i < 32 by omega), w64_succ i 32 (by omega) (by omega), Int.toNat_natCast]; rfl) (fun acc => by
    show laws_toIntA32.l11010 x _ acc (List.length x : Int) = _
    rw [laws_toIntA32.l11010_eq, hl]; rfl) 32 0 (List.replicate 32 (0 : Int)) (by rw [hl]) (by simp)
  exact h
theorem to_Hart : ToP THart laws_toHart := by
  intro x hw hb
  show laws_toHart x = _
  rw [laws_toHart_eq, to_IntA32 x.1 hw.1 hb.1]
  rfl
theorem to_Thread : ToP TThr laws_toThread := by
  intro x hw hb
  show laws_toThread x = _
  rw [laws_toThread_eq, to_Hart x.2.1 hw.2.1 hb.2.1, to_IntS x.2.2.1 hw.2.2.1 hb.2.2.1]
  rfl
theorem to_ThreadS : ToP (.list TThr) laws_toThreadS := by
  intro x hw hb
  show laws_toThreadS x = _
  rw [laws_toThreadS_eq]
  exact to_list (τ := TThr) x 304 (by omega) hb.1 _ (laws_toThreadS.l11010 x) (fun acc i hi ha => by
    rw [laws_toThreadS.l11010_eq, lt_nat, inL_nat, decide_eq_true hi, w64_succ i _ hi (by have := hb.1; omega), to_Thread _ (hw.2 _ (rd_mem_list (τ := TThr) x i hi)) (hb.2 _ (rd_mem_list (τ := TThr) x i hi))]
    simp only [cond_true, Option.bind_some]
    rw [inL_nat, show decide (i < acc.length) = true from decide_eq_true (by rw [ha]; exact hi), Int.toNat_natCast]; rfl) (fun acc => by
    rw [laws_toThreadS.l11010_eq, lt_nat, decide_eq_false (Nat.lt_irrefl _), cond_false])
theorem to_Memory : ToP (.list TPage) laws_toMemory := by
  intro x hw hb
  show laws_toMemory x = _
  rw [laws_toMemory_eq, to_PageS x hw hb]
  rfl
theorem to_Machine : ToP TMac laws_toMachine := by
  intro x hw hb
  show laws_toMachine x = _
  rw [laws_toMachine_eq, to_Memory x.1 hw.1 hb.1, to_ThreadS x.2.1 hw.2.1 hb.2.1, to_EntryS x.2.2.1 hw.2.2.1 hb.2.2.1, to_ShadowS x.2.2.2 hw.2.2.2 hb.2.2.2]
  rfl
theorem eq_Entry : EqP TEnt laws_eqEntry := by
  intro x _ _
  show laws_eqEntry x x = _
  rw [laws_eqEntry_eq]
  simp [strEq_dec]
theorem eq_EntryS : EqP (.list TEnt) laws_eqEntryS := by
  intro x hw hb
  show laws_eqEntryS x x = _
  have h1 : List.length x ≤ 1048576 := hb.1
  rw [laws_eqEntryS_eq, decide_eq_true (rfl : (List.length x : Int) = (List.length x : Int)), Bool.not_true, cond_false]
  refine eq_loop (laws_eqEntryS.l11010 x x) (List.length x) (fun i hi => ?_) ?_
  · rw [laws_eqEntryS.l11010_eq, lt_nat, inL_nat, decide_eq_true hi, w64_succ i _ hi (by omega), eq_Entry _ (hw.2 _ (rd_mem_list (τ := TEnt) x i hi)) (hb.2 _ (rd_mem_list (τ := TEnt) x i hi))]; rfl
  · rw [laws_eqEntryS.l11010_eq, lt_nat, decide_eq_false (Nat.lt_irrefl _), cond_false]
theorem eq_Page : EqP TPage laws_eqPage := by
  intro x _ _
  show laws_eqPage x x = _
  rw [laws_eqPage_eq]
  simp [strEq_dec]
theorem eq_PageS : EqP (.list TPage) laws_eqPageS := by
  intro x hw hb
  show laws_eqPageS x x = _
  have h1 : List.length x ≤ 1048576 := hb.1
  rw [laws_eqPageS_eq, decide_eq_true (rfl : (List.length x : Int) = (List.length x : Int)), Bool.not_true, cond_false]
  refine eq_loop (laws_eqPageS.l11010 x x) (List.length x) (fun i hi => ?_) ?_
  · rw [laws_eqPageS.l11010_eq, lt_nat, inL_nat, decide_eq_true hi, w64_succ i _ hi (by omega), eq_Page _ (hw.2 _ (rd_mem_list (τ := TPage) x i hi)) (hb.2 _ (rd_mem_list (τ := TPage) x i hi))]; rfl
  · rw [laws_eqPageS.l11010_eq, lt_nat, decide_eq_false (Nat.lt_irrefl _), cond_false]
theorem eq_Shadow : EqP TSh laws_eqShadow := by
  intro x _ _
  show laws_eqShadow x x = _
  rw [laws_eqShadow_eq]
  simp []
theorem eq_ShadowS : EqP (.list TSh) laws_eqShadowS := by
  intro x hw hb
  show laws_eqShadowS x x = _
  have h1 : List.length x ≤ 1048576 := hb.1
  rw [laws_eqShadowS_eq, decide_eq_true (rfl : (List.length x : Int) = (List.length x : Int)), Bool.not_true, cond_false]
  refine eq_loop (laws_eqShadowS.l11010 x x) (List.length x) (fun i hi => ?_) ?_
  · rw [laws_eqShadowS.l11010_eq, lt_nat, inL_nat, decide_eq_true hi, w64_succ i _ hi (by omega), eq_Shadow _ (hw.2 _ (rd_mem_list (τ := TSh) x i hi)) (hb.2 _ (rd_mem_list (τ := TSh) x i hi))]; rfl
  · rw [laws_eqShadowS.l11010_eq, lt_nat, decide_eq_false (Nat.lt_irrefl _), cond_false]
theorem eq_IntS : EqP (.list (.int .i64)) laws_eqIntS := by
  intro x hw hb
  show laws_eqIntS x x = _
  have h1 : List.length x ≤ 1048576 := hb.1
  rw [laws_eqIntS_eq, decide_eq_true (rfl : (List.length x : Int) = (List.length x : Int)), Bool.not_true, cond_false]
  refine eq_loop (laws_eqIntS.l11010 x x) (List.length x) (fun i hi => ?_) ?_
  · rw [laws_eqIntS.l11010_eq, lt_nat, inL_nat, decide_eq_true hi, w64_succ i _ hi (by omega), decide_eq_true (rfl : rd (τ := .int .i64) x (i : Int) = rd (τ := .int .i64) x (i : Int))]; rfl
  · rw [laws_eqIntS.l11010_eq, lt_nat, decide_eq_false (Nat.lt_irrefl _), cond_false]
theorem eq_IntA32 : EqP (.arr (.int .i64) 32) laws_eqIntA32 := by
  intro x hw hb
  show laws_eqIntA32 x x = _
  rw [laws_eqIntA32_eq]
  refine eq_loop (laws_eqIntA32.l1010 x x) 32 (fun i hi => ?_) ?_
  · rw [laws_eqIntA32.l1010_eq, decide_eq_true (show (i : Int) < 32 by omega), inL_nat, decide_eq_true hi, w64_succ i 32 hi (by omega), decide_eq_true (rfl : rd (τ := .int .i64) x (i : Int) = rd (τ := .int .i64) x (i : Int))]; rfl
  · rw [laws_eqIntA32.l1010_eq]; rfl
theorem eq_Hart : EqP THart laws_eqHart := by
  intro x hw hb
  show laws_eqHart x x = _
  rw [laws_eqHart_eq, eq_IntA32 x.1 hw.1 hb.1]
  simp []
theorem eq_Thread : EqP TThr laws_eqThread := by
  intro x hw hb
  show laws_eqThread x x = _
  rw [laws_eqThread_eq, eq_Hart x.2.1 hw.2.1 hb.2.1, eq_IntS x.2.2.1 hw.2.2.1 hb.2.2.1]
  simp []
theorem eq_ThreadS : EqP (.list TThr) laws_eqThreadS := by
  intro x hw hb
  show laws_eqThreadS x x = _
  have h1 : List.length x ≤ 1048576 := hb.1
  rw [laws_eqThreadS_eq, decide_eq_true (rfl : (List.length x : Int) = (List.length x : Int)), Bool.not_true, cond_false]
  refine eq_loop (laws_eqThreadS.l11010 x x) (List.length x) (fun i hi => ?_) ?_
  · rw [laws_eqThreadS.l11010_eq, lt_nat, inL_nat, decide_eq_true hi, w64_succ i _ hi (by omega), eq_Thread _ (hw.2 _ (rd_mem_list (τ := TThr) x i hi)) (hb.2 _ (rd_mem_list (τ := TThr) x i hi))]; rfl
  · rw [laws_eqThreadS.l11010_eq, lt_nat, decide_eq_false (Nat.lt_irrefl _), cond_false]
theorem eq_Memory : EqP (.list TPage) laws_eqMemory := by
  intro x hw hb
  show laws_eqMemory x x = _
  rw [laws_eqMemory_eq, eq_PageS x hw hb]
  rfl
theorem eq_Machine : EqP TMac laws_eqMachine := by
  intro x hw hb
  show laws_eqMachine x x = _
  rw [laws_eqMachine_eq, eq_Memory x.1 hw.1 hb.1, eq_ThreadS x.2.1 hw.2.1 hb.2.1, eq_EntryS x.2.2.1 hw.2.2.1 hb.2.2.1, eq_ShadowS x.2.2.2 hw.2.2.2 hb.2.2.2]
  simp []
theorem m2 (a : Int) : 0 ≤ a % 2 ∧ a % 2 < 2 := by omega
theorem right_of {n d a b i : Int} (f : Int) (hf : (shp n).1 = f) (hn : 1 ≤ n ∧ n ≤ 64) (hd : 0 ≤ d ∧ d ≤ 31) (ha : 0 ≤ a ∧ a ≤ 31) (hb : 0 ≤ b ∧ b ≤ 31) (g1 : (fieldsV f).1 = true ∨ d = 0) (g2 : (fieldsV f).2.1 = true ∨ a = 0) (g3 : (fieldsV f).2.2 = true ∨ b = 0) (hi : immR f i = true) : rightV (n, d, a, b, i) = true := by
  simp only [rightV, Bool.and_eq_true, Bool.or_eq_true, decide_eq_true_eq, hf]
  exact ⟨⟨⟨⟨⟨⟨⟨⟨⟨⟨⟨hn.1, hn.2⟩, hd.1⟩, hd.2⟩, ha.1⟩, ha.2⟩, hb.1⟩, hb.2⟩, g1⟩, g2⟩, g3⟩, hi⟩
theorem imm1 {i : Int} (h : -2147483648 ≤ i ∧ i ≤ 2147479552 ∧ i % 4096 = 0) : immR 1 i = true := by simp [immR]; omega
theorem r1 {a i : Int} (ha : 0 ≤ a ∧ a ≤ 31) (h : -2147483648 ≤ i ∧ i ≤ 2147479552 ∧ i % 4096 = 0) : rightV (1, a, 0, 0, i) = true := right_of 1 rfl (by decide) ha (by decide) (by decide) (.inl rfl) (.inr rfl) (.inr rfl) (imm1 h)
theorem szc {a b : ByteArray} (h : a.size + b.size ≤ 4194304) : decide (a.size + b.size ≤ 9223372036854775807) = true := decide_eq_true (by omega)
/-- A mark that begins at m ends, at most C behind it. -/
def MK {α : Type} (m : Int) (C : Nat) (v : Option (Int × α)) : Prop := ∃ r, v = some r ∧ m ≤ r.1 ∧ r.1 ≤ m + C
def MkP {α : Type} (τ : Ty) (f : τ.den → Int → Option (Int × α)) (C : Nat) : Prop := ∀ x, bdT τ x → ∀ m : Int, 1 ≤ m → m + C ≤ 4611686018427387904 → MK m C (f x m)
theorem MK.bind {α β : Type} {m : Int} {C D E : Nat} {v : Option (Int × α)} (h : MK m C v) (k : Int × α → Option (Int × β)) (hk : ∀ r, m ≤ r.1 → r.1 ≤ m + C → MK r.1 D (k r)) (hE : C + D ≤ E) : MK m E (v.bind k) := by
  obtain ⟨r, e, h1, h2⟩ := h
  obtain ⟨q, e', h3, h4⟩ := hk r h1 h2
  rw [e, Option.bind_some]
  exact ⟨q, e', by omega, by omega⟩
theorem rd_set_other {τ : Ty} (xs : List τ.den) (i j : Nat) (v : τ.den) (h : i ≠ j) : rd (τ := τ) (xs.set i v) (j : Int) = rd (τ := τ) xs (j : Int) := by
  unfold rd; rw [Int.toNat_natCast, List.getD_eq_getElem?_getD, List.getElem?_set_ne h, ← List.getD_eq_getElem?_getD]
theorem mk_loop {τ : Ty} (L : List τ.den → Int → Int → Option (Int × List τ.den)) (c n : Nat) (hn : n ≤ 1048576)
    (step : ∀ (y : List τ.den) (m : Int) (i : Nat), y.length = n → i < y.length → bdT τ (rd (τ := τ) y (i : Int)) → 1 ≤ m → m + c ≤ 4611686018427387904 → ∃ z m', L y m (i : Int) = L (y.set i z) m' ((i + 1 : Nat) : Int) ∧ m ≤ m' ∧ m' ≤ m + c)
    (last : ∀ (y : List τ.den) (m : Int), y.length = n → L y m (n : Int) = some (m, y)) :
    ∀ (k i : Nat) (y : List τ.den), i + k = n → y.length = n → (∀ j : Nat, i ≤ j → j < n → bdT τ (rd (τ := τ) y (j : Int))) → ∀ m : Int, 1 ≤ m → m + (c * k : Nat) ≤ 4611686018427387904 → MK m (c * k) (L y m (i : Int)) := by
  intro k
  induction k with
  | zero =>
    intro i y h hy hb m h1 h2
    have : i = n := by omega
    subst this
    rw [last y m hy]
    exact ⟨_, rfl, Int.le_refl _, by simp⟩
  | succ k ih =>
    intro i y h hy hb m h1 h2
    rw [Nat.mul_succ] at h2 ⊢
    obtain ⟨z, m', e, a, b⟩ := step y m i hy (by omega) (hb i (Nat.le_refl _) (by omega)) h1 (by omega)
    rw [e]
    obtain ⟨r, e', a', b'⟩ := ih (i + 1) (y.set i z) (by omega) (by rw [List.length_set]; exact hy) (fun j h1 h2 => by rw [rd_set_other _ _ _ _ (by omega)]; exact hb j (by omega) h2) m' (by omega) (by omega)
    exact ⟨r, e', by omega, by omega⟩
theorem mk_list {τ : Ty} (f : List τ.den → Int → Option (Int × List τ.den)) (L : List τ.den → Int → Int → Option (Int × List τ.den)) (c : Nat) (hf : ∀ x m, f x m = L x m 0)
    (step : ∀ (y : List τ.den) (m : Int) (i : Nat), y.length ≤ 1048576 → i < y.length → bdT τ (rd (τ := τ) y (i : Int)) → 1 ≤ m → m + c ≤ 4611686018427387904 → ∃ z m', L y m (i : Int) = L (y.set i z) m' ((i + 1 : Nat) : Int) ∧ m ≤ m' ∧ m' ≤ m + c)
    (last : ∀ (y : List τ.den) (m : Int), L y m (y.length : Int) = some (m, y)) : MkP (.list τ) f (c * 1048576) := by
  intro x hb m h1 h2
  have hx : List.length x ≤ 1048576 := hb.1
  have hc := Nat.mul_le_mul_left c hx
  obtain ⟨r, e, a, b⟩ := mk_loop L c x.length hx (fun y m i h => step y m i (by omega)) (fun y m h => by rw [← h]; exact last y m) x.length 0 x (by omega) rfl (fun j _ h => hb.2 _ (rd_mem_list (τ := τ) x j h)) m h1 (by omega)
  exact ⟨r, by rw [hf]; exact e, a, by omega⟩
theorem mk_EntryS : MkP (.list TEnt) laws_markEntryS (6 * 1048576) := by
  refine mk_list (τ := TEnt) laws_markEntryS laws_markEntryS.l1010 6 (fun x m => by rw [laws_markEntryS_eq]) (fun y m i hy hi _ h1 h2 => ?_) fun y m => ?_
  · rw [laws_markEntryS.l1010_eq, lt_nat, decide_eq_true hi, inL_nat]
    simp only [cond_true, letB, List.length_set, inL_nat, decide_eq_true hi, Int.toNat_natCast]
    rw [w64 (n := m + 1) (by omega) (by omega), w64 (n := m + 1 + 1) (by omega) (by omega), w64 (n := m + 1 + 1 + 1) (by omega) (by omega), w64 (n := m + 1 + 1 + 1 + 1) (by omega) (by omega), w64 (n := m + 1 + 1 + 1 + 1 + 1) (by omega) (by omega), w64 (n := m + 1 + 1 + 1 + 1 + 1 + 1) (by omega) (by omega), w64_succ i _ hi (by omega)]
    simp only [mark_text (m) (by omega) (by omega), Option.bind_some, List.set_set]
    exact ⟨_, _, rfl, by omega, by omega⟩
  · rw [laws_markEntryS.l1010_eq, lt_nat, decide_eq_false (Nat.lt_irrefl _), cond_false]
theorem mk_PageS : MkP (.list TPage) laws_markPageS (3 * 1048576) := by
  refine mk_list (τ := TPage) laws_markPageS laws_markPageS.l1010 3 (fun x m => by rw [laws_markPageS_eq]) (fun y m i hy hi _ h1 h2 => ?_) fun y m => ?_
  · rw [laws_markPageS.l1010_eq, lt_nat, decide_eq_true hi, inL_nat]
    simp only [cond_true, letB, List.length_set, inL_nat, decide_eq_true hi, Int.toNat_natCast]
    rw [w64 (n := m + 1) (by omega) (by omega), w64 (n := m + 1 + 1) (by omega) (by omega), w64 (n := m + 1 + 1 + 1) (by omega) (by omega), w64_succ i _ hi (by omega)]
    simp only [mark_text (m + 1 + 1) (by omega) (by omega), Option.bind_some, List.set_set]
    exact ⟨_, _, rfl, by omega, by omega⟩
  · rw [laws_markPageS.l1010_eq, lt_nat, decide_eq_false (Nat.lt_irrefl _), cond_false]
theorem mk_ShadowS : MkP (.list TSh) laws_markShadowS (3 * 1048576) := by
  refine mk_list (τ := TSh) laws_markShadowS laws_markShadowS.l1010 3 (fun x m => by rw [laws_markShadowS_eq]) (fun y m i hy hi _ h1 h2 => ?_) fun y m => ?_
  · rw [laws_markShadowS.l1010_eq, lt_nat, decide_eq_true hi, inL_nat]
    simp only [cond_true, letB, List.length_set, inL_nat, decide_eq_true hi, Int.toNat_natCast]
    rw [w64 (n := m + 1) (by omega) (by omega), w64 (n := m + 1 + 1) (by omega) (by omega), w64 (n := m + 1 + 1 + 1) (by omega) (by omega), w64_succ i _ hi (by omega)]
    simp only [List.set_set]
    exact ⟨_, _, rfl, by omega, by omega⟩
  · rw [laws_markShadowS.l1010_eq, lt_nat, decide_eq_false (Nat.lt_irrefl _), cond_false]
theorem mk_IntS : MkP (.list (.int .i64)) laws_markIntS (1 * 1048576) := by
  refine mk_list (τ := (.int .i64)) laws_markIntS laws_markIntS.l1010 1 (fun x m => by rw [laws_markIntS_eq]) (fun y m i hy hi _ h1 h2 => ?_) fun y m => ?_
  · rw [laws_markIntS.l1010_eq, lt_nat, decide_eq_true hi, inL_nat]
    simp only [cond_true, decide_eq_true hi, Int.toNat_natCast]
    rw [w64 (n := m + 1) (by omega) (by omega), w64_succ i _ hi (by omega)]
    skip
    exact ⟨_, _, rfl, by omega, by omega⟩
  · rw [laws_markIntS.l1010_eq, lt_nat, decide_eq_false (Nat.lt_irrefl _), cond_false]
theorem mk_regs (y0 : List Thr) (i : Nat) (hn : y0.length ≤ 1048576) (hi : i < y0.length) : ∀ (k j : Nat), j + k = 32 → ∀ (y : List Thr) (m : Int), y.length = y0.length → (∃ z, y = y0.set i z) → bdT (.list (.int .i64)) (rd (τ := TThr) y (i : Int)).2.2.1 → 1 ≤ m → m + (k + 2 + 1048576 : Nat) ≤ 4611686018427387904 →
    ∃ z m', laws_markThreadS.l1010010011010 y m (i : Int) (j : Int) = laws_markThreadS.l1010 (y0.set i z) m' ((i + 1 : Nat) : Int) ∧ m ≤ m' ∧ m' ≤ m + (k + 2 + 1048576 : Nat) := by
  intro k
  induction k with
  | zero =>
    intro j hj y m hy hz hb h1 h2
    obtain ⟨z, rfl⟩ := hz
    rw [List.length_set] at hy
    have : j = 32 := by omega
    subst this
    rw [rd_set_self (τ := TThr) _ _ _ hi] at hb
    obtain ⟨r, e, a, b⟩ := mk_IntS z.2.2.1 hb (m + 1) (by omega) (by omega)
    rw [laws_markThreadS.l1010010011010_eq, show decide (((32 : Nat) : Int) < 32) = false from rfl]
    simp only [cond_false, cond_true, letB, List.length_set, inL_nat, decide_eq_true hi, Int.toNat_natCast, List.set_set, w64 (n := m + 1) (by omega) (by omega)]
    rw [rd_set_self (τ := TThr) _ _ _ hi, rd_set_self (τ := TThr) _ _ _ hi, e]
    simp only [Option.bind_some, decide_true, cond_true, w64 (n := r.1 + 1) (by omega) (by omega), w64_succ i _ hi (by omega)]
    exact ⟨_, _, rfl, by omega, by omega⟩
  | succ k ih =>
    intro j hj y m hy hz hb h1 h2
    obtain ⟨z, rfl⟩ := hz
    rw [List.length_set] at hy
    rw [rd_set_self (τ := TThr) _ _ _ hi] at hb
    rw [laws_markThreadS.l1010010011010_eq, decide_eq_true (show (j : Int) < 32 by omega), show inL (j : Int) 32 = true by rw [inL_nat]; exact decide_eq_true (by omega)]
    simp only [cond_true, letB, List.length_set, inL_nat, decide_eq_true hi, Int.toNat_natCast, List.set_set, w64 (n := m + 1) (by omega) (by omega), w64_succ j 32 (by omega) (by omega)]
    rw [rd_set_self (τ := TThr) _ _ _ hi]
    obtain ⟨z', m', e, a, b⟩ := ih (j + 1) (by omega) (y0.set i (z.1, (z.2.1.1.set j m, z.2.1.2), z.2.2)) (m + 1) (by rw [List.length_set]) ⟨_, rfl⟩ (by rw [rd_set_self (τ := TThr) _ _ _ hi]; exact hb) (by omega) (by omega)
    exact ⟨z', m', e, by omega, by omega⟩
theorem mk_ThreadS : MkP (.list TThr) laws_markThreadS (1048700 * 1048576) := by
  refine mk_list (τ := TThr) laws_markThreadS laws_markThreadS.l1010 1048700 (fun x m => by rw [laws_markThreadS_eq]) (fun y m i hy hi hb h1 h2 => ?_) fun y m => ?_
  · rw [laws_markThreadS.l1010_eq, lt_nat, decide_eq_true hi, inL_nat, decide_eq_true hi, w64 (n := m + 1) (by omega) (by omega), Int.toNat_natCast]
    simp only [cond_true]
    obtain ⟨z, m', e, a, b⟩ := mk_regs y i hy hi 32 0 rfl (y.set i (m, (rd (τ := TThr) y (i : Int)).2)) (m + 1) (by rw [List.length_set]) ⟨_, rfl⟩ (by rw [rd_set_self (τ := TThr) _ _ _ hi]; exact hb.2.2.1) (by omega) (by omega)
    exact ⟨z, m', e, by omega, by omega⟩
  · rw [laws_markThreadS.l1010_eq, lt_nat, decide_eq_false (Nat.lt_irrefl _), cond_false]
theorem mk_Memory : MkP (.list TPage) laws_markMemory (3 * 1048576) := by
  intro x hb m h1 h2
  show MK m _ (laws_markMemory x m)
  rw [laws_markMemory_eq]
  exact (mk_PageS x hb m h1 (by omega)).bind (D := 0) _ (fun r a b => ⟨_, rfl, Int.le_refl _, by simp⟩) (by omega)
theorem mk_Machine : MkP TMac laws_markMachine (1048800 * 1048576) := by
  intro x hb m h1 h2
  show MK m _ (laws_markMachine x m)
  rw [laws_markMachine_eq]
  refine (mk_Memory x.1 hb.1 m h1 (by omega)).bind (D := 1048797 * 1048576) _ (fun r a b => ?_) (by omega)
  refine (mk_ThreadS x.2.1 hb.2.1 r.1 (by omega) (by omega)).bind (D := 97 * 1048576) _ (fun r a b => ?_) (by omega)
  refine (mk_EntryS x.2.2.1 hb.2.2.1 r.1 (by omega) (by omega)).bind (D := 91 * 1048576) _ (fun r a b => ?_) (by omega)
  exact (mk_ShadowS x.2.2.2 hb.2.2.2 r.1 (by omega) (by omega)).bind (D := 0) _ (fun r a b => ⟨_, rfl, Int.le_refl _, by simp⟩) (by omega)
theorem neg_false {n : Int} (h : 0 ≤ n) : decide (n < 0) = false := decide_eq_false (by omega)
def digB (u : Nat) : ByteArray := ⟨(Lib.decDigits u).toArray⟩
theorem digB_lt (u : Nat) (h : u < 10) : digB u = bytesOf [(48 : Int) + u] := by
  unfold digB bytesOf
  rw [Lib.decDigits, dif_pos h]
  congr 1
theorem digB_step (u : Nat) (h : ¬ u < 10) : digB u = digB (u / 10) ++ bytesOf [(48 : Int) + (u % 10 : Nat)] := by
  apply ByteArray.ext
  rw [ByteArray.data_append]
  unfold digB bytesOf
  rw [Lib.decDigits, dif_neg h]
  simp only [List.map_cons, List.map_nil, show ((48 : Int) + (u % 10 : Nat)).toNat = 48 + u % 10 by omega]
  generalize UInt8.ofNat (48 + u % 10) = c
  simp
theorem digB_size : ∀ (k u : Nat), u < 10 ^ k → 1 ≤ k → (digB u).size ≤ k := by
  intro k
  induction k with
  | zero => intro u h h1; omega
  | succ k ih =>
    intro u h _
    by_cases hu : u < 10
    · rw [digB_lt u hu, bytesOf_size]; simp
    · rw [digB_step u hu, ByteArray.size_append, bytesOf_size]
      rw [Nat.pow_succ] at h
      by_cases hk : k = 0
      · subst hk; omega
      · have := ih (u / 10) (by omega) (by omega)
        simp only [List.length_cons, List.length_nil]; omega
theorem itoaB_nat (u : Nat) : itoaB (u : Int) = digB u := by
  unfold itoaB digB Lib.itoa
  rw [if_neg (by omega)]; rfl
theorem itoaB_neg (u : Nat) (h : 0 < u) : itoaB (-(u : Int)) = (⟨#[45]⟩ : ByteArray) ++ digB u := by
  apply ByteArray.ext
  rw [ByteArray.data_append]
  unfold itoaB digB Lib.itoa
  rw [if_pos (by omega), show (-(u : Int)).natAbs = u by omega, List.toArray_cons]
theorem itoaB_size (n : Int) (h : I64 n) : (itoaB n).size ≤ 20 := by
  obtain ⟨h1, h2⟩ := h
  by_cases h0 : 0 ≤ n
  · obtain ⟨u, rfl⟩ := Int.eq_ofNat_of_zero_le h0
    rw [itoaB_nat]
    exact digB_size 20 u (by omega) (by decide)
  · obtain ⟨u, hu⟩ := Int.eq_ofNat_of_zero_le (show 0 ≤ -n by omega)
    have : n = -(u : Int) := by omega
    subst this
    rw [itoaB_neg u (by omega), ByteArray.size_append]
    have := digB_size 19 u (by omega) (by decide)
    show 1 + _ ≤ 20
    omega
theorem digits_nat : ∀ (k u : Nat), u < 10 ^ k → u ≤ 9223372036854775807 → spec_l00Digits (u : Int) = some (digB u) := by
  intro k
  induction k with
  | zero =>
    intro u h h2
    have : u = 0 := by omega
    subst this
    rw [spec_l00Digits_eq, decide_eq_false (by decide), decide_eq_false (by decide), decide_eq_true (by decide)]
    simp only [cond_false, cond_true]
    rw [digB_lt 0 (by decide), w64 (by decide) (by decide)]; rfl
  | succ k ih =>
    intro u h h2
    rw [spec_l00Digits_eq, decide_eq_false (show ¬ (u : Int) = -9223372036854775808 by omega), decide_eq_false (show ¬ (u : Int) < 0 by omega)]
    simp only [cond_false]
    by_cases hu : u < 10
    · rw [decide_eq_true (show (u : Int) < 10 by omega), cond_true, digB_lt u hu, w64 (by omega) (by omega), wrap_u8, Int.emod_eq_of_lt (by omega) (by omega)]
    · rw [Nat.pow_succ] at h
      rw [decide_eq_false (show ¬ (u : Int) < 10 by omega), cond_false, Int.tdiv_eq_ediv_of_nonneg (by omega), Int.tmod_eq_emod_of_nonneg (by omega), show (u : Int) / 10 = ((u / 10 : Nat) : Int) by omega, w64 (n := ((u / 10 : Nat) : Int)) (by omega) (by omega), ih (u / 10) (by omega) (by omega), show (u : Int) % 10 = ((u % 10 : Nat) : Int) by omega, w64 (n := 48 + ((u % 10 : Nat) : Int)) (by omega) (by omega), wrap_u8, Int.emod_eq_of_lt (by omega) (by omega)]
      simp only [Option.bind_some]
      have := digB_size 20 (u / 10) (by omega) (by decide)
      rw [szc (by rw [bytesOf_size]; simp only [List.length_cons, List.length_nil]; omega), cond_true, ← digB_step u hu]
theorem min_digits : itoaB (-9223372036854775808) = (⟨#[45, 57, 50, 50, 51, 51, 55, 50, 48, 51, 54, 56, 53, 52, 55, 55, 53, 56, 48, 56]⟩ : ByteArray) := by
  unfold itoaB Lib.itoa
  rw [if_pos (by decide), show (-9223372036854775808 : Int).natAbs = 9223372036854775808 from rfl]
  simp [Lib.decDigits]
/-- A numeral, both ways. -/
theorem digits_val (n : Int) (h : I64 n) : impl_intText n = some (itoaB n) ∧ spec_l00Digits n = some (itoaB n) := by
  obtain ⟨h1, h2⟩ := h
  constructor
  · rw [impl_intText_eq, strconv_Itoa_eq, internal_strconv_Itoa_eq, internal_strconv_FormatInt_eq, decide_eq_true h1, decide_eq_true h2]; rfl
  · by_cases h0 : 0 ≤ n
    · obtain ⟨u, rfl⟩ := Int.eq_ofNat_of_zero_le h0
      rw [itoaB_nat]
      exact digits_nat 19 u (by omega) (by omega)
    · obtain ⟨u, hu⟩ := Int.eq_ofNat_of_zero_le (show 0 ≤ -n by omega)
      have : n = -(u : Int) := by omega
      subst this
      by_cases hm : u = 9223372036854775808
      · subst hm
        rw [spec_l00Digits_eq, decide_eq_true (by decide), cond_true, ← min_digits]; rfl
      · rw [spec_l00Digits_eq, decide_eq_false (by omega), decide_eq_true (show -(u : Int) < 0 by omega), show (0 : Int) - -(u : Int) = (u : Int) by omega, w64 (n := (u : Int)) (by omega) (by omega), digits_nat 19 u (by omega) (by omega), itoaB_neg u (by omega)]
        simp only [cond_false, cond_true, Option.bind_some]
        have := digB_size 19 u (by omega) (by decide)
        rw [szc (by show 1 + _ ≤ _; omega)]; rfl
noncomputable def cwL : List ByteArray := (impl_codeWords).getD []
theorem cwL_i : impl_codeWords = some cwL := by unfold cwL; rw [impl_codeWords_eq]; rfl
theorem cwL_len : cwL.length = 32 := by unfold cwL; rw [impl_codeWords_eq]; rfl
theorem cwL_size : ∀ b ∈ cwL, b.size ≤ 10 := by
  have : (cwL.all fun b => decide (b.size ≤ 10)) = true := by unfold cwL; rw [impl_codeWords_eq]; rfl
  intro b hb
  exact of_decide_eq_true (List.all_eq_true.1 this b hb)
/-- The word of a code. -/
noncomputable def cwV (n : Int) : ByteArray := if 0 ≤ n ∧ n ≤ 31 then rd (τ := .str) cwL n else ⟨#[]⟩
theorem cw_i (n : Int) : impl_CodeWord n = some (cwV n) := by
  rw [impl_CodeWord_eq, (in_val _ _ _).1, cwL_i]
  simp only [Option.bind_some]
  unfold cwV
  by_cases h : 0 ≤ n ∧ n ≤ 31
  · rw [inR_iff.2 h, if_pos h, cwL_len, show inL n 32 = true by unfold inL; simp; omega]; rfl
  · rw [if_neg h, show inR n 0 31 = false by cases e : inR n 0 31 with | false => rfl | true => exact absurd (inR_iff.1 e) h]; rfl
theorem cw_s (n : Int) : spec_CodeWord n = some (cwV n) := by
  rw [spec_CodeWord_eq]
  unfold cwV cwL
  rw [impl_codeWords_eq]
  simp only [joinB, List.length_cons, List.length_nil, Option.getD_some]
  by_cases h : 0 ≤ n ∧ n ≤ 31
  · rw [if_pos h, decide_eq_false (show ¬ n < 0 by omega), decide_eq_false (by omega), show inL n 32 = true by unfold inL; simp; omega]; rfl
  · rw [if_neg h]
    by_cases h0 : n < 0
    · rw [decide_eq_true h0]; rfl
    · rw [decide_eq_false h0, decide_eq_true (by omega)]; rfl
theorem cwV_size (n : Int) : (cwV n).size ≤ 10 := by
  unfold cwV
  by_cases h : 0 ≤ n ∧ n ≤ 31
  · rw [if_pos h]
    obtain ⟨u, rfl⟩ := Int.eq_ofNat_of_zero_le h.1
    exact cwL_size _ (rd_mem_list (τ := .str) cwL u (by rw [cwL_len]; omega))
  · rw [if_neg h]; decide
def outsB : List Int → ByteArray
  | [] => ByteArray.empty
  | v :: l => ((⟨#[32]⟩ : ByteArray) ++ itoaB v) ++ outsB l
theorem outs_loop (t : Thr) (ho : t.2.2.1.length ≤ 32) (hr : ∀ v ∈ t.2.2.1, I64 v) : ∀ (k i : Nat) (x : ByteArray), i + k = t.2.2.1.length → x.size ≤ 1000 + 21 * i →
    impl_Thread_text.l1111010 x t.2.2.1 (t.2.2.1.length : Int) (i : Int) = some (x ++ outsB (t.2.2.1.drop i)) ∧ spec_l17Thread.l11111010 t x (i : Int) = some (x ++ outsB (t.2.2.1.drop i)) := by
  intro k
  induction k with
  | zero =>
    intro i x h hx
    have : i = t.2.2.1.length := by omega
    subst this
    rw [impl_Thread_text.l1111010_eq, spec_l17Thread.l11111010_eq, lt_nat, decide_eq_false (Nat.lt_irrefl _), List.drop_length, outsB, ByteArray.append_empty]
    exact ⟨rfl, rfl⟩
  | succ k ih =>
    intro i x h hx
    have hi : i < t.2.2.1.length := by omega
    have hv := hr _ (List.getElem_mem hi)
    rw [impl_Thread_text.l1111010_eq, spec_l17Thread.l11111010_eq, lt_nat, decide_eq_true hi, inL_nat, decide_eq_true hi, rd_nat (τ := .int .i64) t.2.2.1 i hi, w64_succ i _ hi (by omega), List.drop_eq_getElem_cons hi, outsB, ← ByteArray.append_assoc, (digits_val _ hv).1, (digits_val _ hv).2]
    have hs := itoaB_size _ hv
    simp only [cond_true, Option.bind_some]
    have h1 : ((⟨#[32]⟩ : ByteArray) ++ itoaB (t.2.2.1[i])).size ≤ 21 := by rw [ByteArray.size_append]; show 1 + _ ≤ 21; omega
    rw [szc (by show 1 + _ ≤ _; omega), szc (by omega)]
    exact ih (i + 1) _ (by omega) (by rw [ByteArray.size_append]; omega)
def bThread : ByteArray := ⟨#[116, 104, 114, 101, 97, 100, 32]⟩
noncomputable def stB (t : Thr) : ByteArray := if t.1 = 2 then ⟨#[32, 100, 111, 110, 101]⟩ else if t.1 = 3 then (⟨#[32, 116, 114, 97, 112, 32]⟩ : ByteArray) ++ cwV t.2.2.2 else ⟨#[32, 114, 117, 110]⟩
/-- The text of a thread. -/
noncomputable def thrB (t : Thr) (i : Int) : ByteArray :=
  ((((((bThread ++ itoaB i) ++ stB t) ++ (⟨#[32, 112, 99, 32]⟩ : ByteArray)) ++ itoaB t.2.1.2) ++ (⟨#[32, 115, 112, 32]⟩ : ByteArray)) ++ itoaB (rd (τ := .int .i64) t.2.1.1 2)) ++ ((⟨#[32, 111, 117, 116]⟩ : ByteArray) ++ outsB t.2.2.1)
structure ThrR (t : Thr) : Prop where
  st : 1 ≤ t.1 ∧ t.1 ≤ 3
  out : t.2.2.1.length ≤ 32
  outs : ∀ v ∈ t.2.2.1, I64 v
  pc : I64 t.2.1.2
  sp : I64 (rd (τ := .int .i64) t.2.1.1 2)
theorem stB_size (t : Thr) : (stB t).size ≤ 16 := by
  unfold stB
  have := cwV_size t.2.2.2
  split
  · decide
  · split
    · rw [ByteArray.size_append]; show 6 + _ ≤ 16; omega
    · decide
theorem numberText_val (w : ByteArray) (n : Int) (hw : w.size ≤ 100) (h : I64 n) : impl_numberText w n = some ((((⟨#[32]⟩ : ByteArray) ++ w) ++ (⟨#[32]⟩ : ByteArray)) ++ itoaB n) := by
  have := itoaB_size n h
  have e1 : (⟨#[32]⟩ : ByteArray).size = 1 := rfl
  rw [impl_numberText_eq, (digits_val n h).1]
  simp only [Option.bind_some]
  rw [szc (by omega), szc (by simp only [ByteArray.size_append]; omega), szc (by simp only [ByteArray.size_append]; omega)]; rfl
theorem thread_i (t : Thr) (h : ThrR t) (i : Int) (hi : I64 i) : impl_Thread_text t i = some (thrB t i) := by
  have s1 := itoaB_size i hi
  have s2 := itoaB_size _ h.pc
  have s3 := itoaB_size _ h.sp
  have s4 := stB_size t
  have e32 : (⟨#[32]⟩ : ByteArray).size = 1 := rfl
  have e7 : (⟨#[116, 104, 114, 101, 97, 100, 32]⟩ : ByteArray).size = 7 := rfl
  have e4 : (⟨#[32, 111, 117, 116]⟩ : ByteArray).size = 4 := rfl
  have e2 : (⟨#[112, 99]⟩ : ByteArray).size = 2 := rfl
  have e3 : (⟨#[115, 112]⟩ : ByteArray).size = 2 := rfl
  have hst : ∀ (K : ByteArray → Option ByteArray), joinB (fun kr => bif decide (t.1 = 2) then kr (⟨#[32, 100, 111, 110, 101]⟩ : ByteArray) else bif decide (t.1 = 3) then (impl_CodeWord t.2.2.2).bind fun r1 => bif decide ((⟨#[32, 116, 114, 97, 112, 32]⟩ : ByteArray).size + r1.size ≤ 9223372036854775807) then kr ((⟨#[32, 116, 114, 97, 112, 32]⟩ : ByteArray) ++ r1) else none else kr (⟨#[32, 114, 117, 110]⟩ : ByteArray)) K = K (stB t) := by
    intro K
    show (bif decide (t.1 = 2) then K (⟨#[32, 100, 111, 110, 101]⟩ : ByteArray) else _) = _
    unfold stB
    by_cases h2 : t.1 = 2
    · rw [decide_eq_true h2, if_pos h2]; rfl
    · rw [decide_eq_false h2, if_neg h2, cond_false]
      by_cases h3 : t.1 = 3
      · have := cwV_size t.2.2.2
        rw [decide_eq_true h3, if_pos h3, cond_true, cw_i]
        simp only [Option.bind_some]
        rw [szc (by show 6 + _ ≤ _; omega)]; rfl
      · rw [decide_eq_false h3, if_neg h3]; rfl
  rw [impl_Thread_text_eq, hst, (digits_val i hi).1, numberText_val _ _ (by decide) h.pc, numberText_val _ _ (by decide) h.sp, show inL 2 32 = true from rfl]
  simp only [Option.bind_some, cond_true]
  rw [szc (by omega), szc (by simp only [ByteArray.size_append]; omega), szc (by simp only [ByteArray.size_append]; omega), szc (by simp only [ByteArray.size_append]; omega), szc (by simp only [ByteArray.size_append]; omega)]
  simp only [cond_true]
  rw [show (0 : Int) = ((0 : Nat) : Int) from rfl, (outs_loop t h.out h.outs t.2.2.1.length 0 _ (by omega) (by simp only [ByteArray.size_append]; omega)).1, List.drop_zero]
  unfold thrB bThread
  have a1 : (((⟨#[32]⟩ : ByteArray) ++ (⟨#[112, 99]⟩ : ByteArray)) ++ (⟨#[32]⟩ : ByteArray)) = (⟨#[32, 112, 99, 32]⟩ : ByteArray) := rfl
  have a2 : (((⟨#[32]⟩ : ByteArray) ++ (⟨#[115, 112]⟩ : ByteArray)) ++ (⟨#[32]⟩ : ByteArray)) = (⟨#[32, 115, 112, 32]⟩ : ByteArray) := rfl
  rw [a1, a2]
  simp only [ByteArray.append_assoc]
theorem thread_s (m : Mac) (i : Nat) (hi : i < m.2.1.length) (hl : m.2.1.length ≤ 4) (t : Thr) (ht : rd (τ := TThr) m.2.1 (i : Int) = t) (h : ThrR t) : spec_l17Thread m (i : Int) = some (thrB t (i : Int)) := by
  have hI : I64 (i : Int) := ⟨by omega, by omega⟩
  rw [spec_l17Thread_eq, inL_nat, decide_eq_true hi, ht]
  have s1 := itoaB_size _ hI
  have s2 := itoaB_size _ h.pc
  have s3 := itoaB_size _ h.sp
  have s4 := stB_size t
  have hz := cwV_size t.2.2.2
  have e32 : (⟨#[32]⟩ : ByteArray).size = 1 := rfl
  have e7 : (⟨#[116, 104, 114, 101, 97, 100, 32]⟩ : ByteArray).size = 7 := rfl
  have e4 : (⟨#[32, 111, 117, 116]⟩ : ByteArray).size = 4 := rfl
  have e2 : (⟨#[32, 112, 99, 32]⟩ : ByteArray).size = 4 := rfl
  have e3 : (⟨#[32, 115, 112, 32]⟩ : ByteArray).size = 4 := rfl
  obtain ⟨k1, k2⟩ := h.st
  have fin : ∀ r2 : ByteArray, r2.size ≤ 16 → (⟨#[32]⟩ : ByteArray) ++ r2 = stB t →
      ((spec_l00Digits (i : Int)).bind fun r3 => bif (decide ((⟨#[116, 104, 114, 101, 97, 100, 32]⟩ : ByteArray).size + r3.size ≤ 9223372036854775807)) then (bif (decide (((⟨#[116, 104, 114, 101, 97, 100, 32]⟩ : ByteArray) ++ r3).size + (⟨#[32]⟩ : ByteArray).size ≤ 9223372036854775807)) then (bif (decide ((((⟨#[116, 104, 114, 101, 97, 100, 32]⟩ : ByteArray) ++ r3) ++ (⟨#[32]⟩ : ByteArray)).size + r2.size ≤ 9223372036854775807)) then (bif (decide (((((⟨#[116, 104, 114, 101, 97, 100, 32]⟩ : ByteArray) ++ r3) ++ (⟨#[32]⟩ : ByteArray)) ++ r2).size + (⟨#[32, 112, 99, 32]⟩ : ByteArray).size ≤ 9223372036854775807)) then ((spec_l00Digits (t.2.1.2)).bind fun r4 => bif (decide ((((((⟨#[116, 104, 114, 101, 97, 100, 32]⟩ : ByteArray) ++ r3) ++ (⟨#[32]⟩ : ByteArray)) ++ r2) ++ (⟨#[32, 112, 99, 32]⟩ : ByteArray)).size + r4.size ≤ 9223372036854775807)) then (bif (decide (((((((⟨#[116, 104, 114, 101, 97, 100, 32]⟩ : ByteArray) ++ r3) ++ (⟨#[32]⟩ : ByteArray)) ++ r2) ++ (⟨#[32, 112, 99, 32]⟩ : ByteArray)) ++ r4).size + (⟨#[32, 115, 112, 32]⟩ : ByteArray).size ≤ 9223372036854775807)) then (bif (inL 2 32) then ((spec_l00Digits (rd (τ := (.int .i64)) (t.2.1.1) 2)).bind fun r5 => bif (decide ((((((((⟨#[116, 104, 114, 101, 97, 100, 32]⟩ : ByteArray) ++ r3) ++ (⟨#[32]⟩ : ByteArray)) ++ r2) ++ (⟨#[32, 112, 99, 32]⟩ : ByteArray)) ++ r4) ++ (⟨#[32, 115, 112, 32]⟩ : ByteArray)).size + r5.size ≤ 9223372036854775807)) then (bif (decide (((((((((⟨#[116, 104, 114, 101, 97, 100, 32]⟩ : ByteArray) ++ r3) ++ (⟨#[32]⟩ : ByteArray)) ++ r2) ++ (⟨#[32, 112, 99, 32]⟩ : ByteArray)) ++ r4) ++ (⟨#[32, 115, 112, 32]⟩ : ByteArray)) ++ r5).size + (⟨#[32, 111, 117, 116]⟩ : ByteArray).size ≤ 9223372036854775807)) then spec_l17Thread.l11111010 t (((((((((⟨#[116, 104, 114, 101, 97, 100, 32]⟩ : ByteArray) ++ r3) ++ (⟨#[32]⟩ : ByteArray)) ++ r2) ++ (⟨#[32, 112, 99, 32]⟩ : ByteArray)) ++ r4) ++ (⟨#[32, 115, 112, 32]⟩ : ByteArray)) ++ r5) ++ (⟨#[32, 111, 117, 116]⟩ : ByteArray)) 0 else none) else none) else none) else none) else none) else none) else none) else none) else none) = some (thrB t (i : Int)) := by
    intro r2 hr2 he
    rw [(digits_val _ hI).2, (digits_val _ h.pc).2, (digits_val _ h.sp).2, show inL 2 32 = true from rfl]
    simp only [Option.bind_some, cond_true]
    rw [szc (by omega), szc (by simp only [ByteArray.size_append]; omega), szc (by simp only [ByteArray.size_append]; omega), szc (by simp only [ByteArray.size_append]; omega), szc (by simp only [ByteArray.size_append]; omega), szc (by simp only [ByteArray.size_append]; omega), szc (by simp only [ByteArray.size_append]; omega), szc (by simp only [ByteArray.size_append]; omega)]
    simp only [cond_true]
    rw [show (0 : Int) = ((0 : Nat) : Int) from rfl, (outs_loop t h.out h.outs t.2.2.1.length 0 _ (by omega) (by simp only [ByteArray.size_append]; omega)).2, List.drop_zero]
    unfold thrB bThread
    rw [← he]
    simp only [ByteArray.append_assoc]
  simp only [cond_true, joinB]
  have h13 : t.1 = 1 ∨ t.1 = 2 ∨ t.1 = 3 := by omega
  rcases h13 with q | q | q
  · rw [q, show IntKind.wrap .i64 (1 - 1) = 0 from rfl, show decide ((1 : Int) = 3) = false from rfl]
    exact fin _ (by decide) (by unfold stB; rw [q]; rfl)
  · rw [q, show IntKind.wrap .i64 (2 - 1) = 1 from rfl, show decide ((2 : Int) = 3) = false from rfl]
    exact fin _ (by decide) (by unfold stB; rw [q]; rfl)
  · rw [q, show IntKind.wrap .i64 (3 - 1) = 2 from rfl, show decide ((3 : Int) = 3) = true from rfl, cw_s]
    simp only [Option.bind_some, cond_true]
    rw [szc (by omega), szc (by show 4 + _ ≤ _; rw [ByteArray.size_append]; omega)]
    have : (⟨#[32]⟩ : ByteArray) ++ ((⟨#[116, 114, 97, 112]⟩ : ByteArray) ++ ((⟨#[32]⟩ : ByteArray) ++ cwV t.2.2.2)) = stB t := by
      unfold stB
      rw [if_neg (by omega), if_pos q, ← ByteArray.append_assoc, ← ByteArray.append_assoc]; rfl
    exact fin _ (by show (( _ : ByteArray) ++ _).size ≤ 16; rw [ByteArray.size_append, ByteArray.size_append]; show 4 + (1 + _) ≤ 16; omega) this
theorem thrR_of {t : Thr} (h : thrV t = true) (hw : wfT TThr t) : ThrR t := by
  unfold thrV at h
  cases h1 : inR t.1 1 3 with
  | false => rw [h1] at h; cases h
  | true =>
    rw [h1, cond_true] at h
    cases h2 : hartV t.2.1 with
    | false => rw [h2] at h; cases h
    | true =>
      rw [h2, cond_true] at h
      by_cases h3 : (t.2.2.1.length : Int) ≤ 32
      · have hx : List.length t.2.1.1 = 32 := hw.2.1.1.1
        refine ⟨inR_iff.1 h1, by omega, fun v hv => hw.2.2.1.2 v hv, hw.2.1.2, ?_⟩
        exact hw.2.1.1.2 _ (rd_mem_list (τ := .int .i64) t.2.1.1 2 (by omega))
      · rw [decide_eq_false h3] at h; cases h
structure MacR (m : Mac) : Prop where
  n : m.2.1.length ≤ 4
  t : ∀ i : Nat, i < m.2.1.length → ThrR (rd (τ := TThr) m.2.1 (i : Int))
  s : m.2.2.2.length ≤ 16
theorem macR_of {m : Mac} (h : macV m = true) (hw : wfT TMac m) : MacR m := by
  unfold macV at h
  rw [Bool.and_eq_true, Bool.and_eq_true, Bool.and_eq_true] at h
  obtain ⟨_, _, h3, h4⟩ := h
  unfold shV at h3
  unfold thrsV at h4
  rw [Bool.and_eq_true, decide_eq_true_eq] at h3
  rw [Bool.and_eq_true, inR_iff] at h4
  refine ⟨by omega, fun i hi => thrR_of ?_ (hw.2.1.2 _ (rd_mem_list (τ := TThr) m.2.1 i hi)), h3.1⟩
  exact (allB_iff _ _ 0).1 h4.2 i (Nat.zero_le _) (by omega)
theorem threadText_both (m : Mac) (hw : wfT TMac m) (i : Int) (hi : I64 i) : Both (impl_ThreadText m i) (spec_ThreadText m i) := by
  rw [impl_ThreadText_eq, spec_ThreadText_eq, (machine_val m).1, (machine_val m).2]
  simp only [Option.bind_some]
  cases hm : macV m with
  | false => exact ⟨_, rfl, rfl⟩
  | true =>
    have hR := macR_of hm hw
    have hn := hR.n
    rw [(in_val _ _ _).1, w64 (n := (m.2.1.length : Int) - 1) (by omega) (by omega)]
    simp only [Option.bind_some, Bool.not_true, cond_false]
    by_cases h : 0 ≤ i ∧ i ≤ (m.2.1.length : Int) - 1
    · obtain ⟨u, rfl⟩ := Int.eq_ofNat_of_zero_le h.1
      have hu : u < m.2.1.length := by omega
      obtain ⟨t, ht⟩ : ∃ t : Thr, rd (τ := TThr) m.2.1 (u : Int) = t := ⟨_, rfl⟩
      have hT := hR.t u hu
      rw [ht] at hT
      rw [inR_iff.2 h, inL_nat, decide_eq_true hu, decide_eq_false (show ¬ (u : Int) < 0 by omega), decide_eq_false (show ¬ (u : Int) ≥ (m.2.1.length : Int) by omega), ht, thread_i t hT _ hi, thread_s m u hu hn t ht hT]
      exact ⟨_, rfl, rfl⟩
    · rw [show inR i 0 ((m.2.1.length : Int) - 1) = false by cases e : inR i 0 ((m.2.1.length : Int) - 1) with | false => rfl | true => exact absurd (inR_iff.1 e) h]
      by_cases h0 : i < 0
      · rw [decide_eq_true h0]; exact ⟨_, rfl, rfl⟩
      · rw [decide_eq_false h0, decide_eq_true (show i ≥ (m.2.1.length : Int) by omega)]; exact ⟨_, rfl, rfl⟩
theorem threadText_law (m : Mac) (i : Int) (hw : wfT TMac m) (hi : wfT (.int .i64) i) : laws_FnExactThreadText m i = some true := by
  rw [laws_FnExactThreadText_eq]
  obtain ⟨r, e1, e2, e3⟩ := sz_Machine m hw 1048576 ⟨by decide, by decide⟩
  rw [e1]
  simp only [Option.bind_some]
  by_cases h : r < 0
  · rw [decide_eq_true h]; rfl
  · have hb := e3 (by omega)
    obtain ⟨v, v1, v2⟩ := threadText_both m hw i hi
    rw [decide_eq_false h, to_Machine m hw hb]
    simp only [Option.bind_some, cond_false, joinB]
    rw [v1, v2]
    simp only [Option.bind_some, decide_true, Bool.not_true, cond_false, strEq_refl, eq_Machine m hw hb]
theorem shads_loop (m : Mac) (hl : m.2.2.2.length ≤ 16) (hr : ∀ s ∈ m.2.2.2, I64 s.1 ∧ I64 s.2.1 ∧ I64 s.2.2) : ∀ (k i : Nat) (x : List ByteArray), i + k = m.2.2.2.length → x.length ≤ 4 + i → ∃ V : List ByteArray, V.length ≤ 20 ∧
    impl_MachineLines.l1111010 x m.2.2.2 (m.2.2.2.length : Int) (i : Int) = some (V, 0) ∧ spec_l17Machine.l111010 m x (i : Int) = some V := by
  intro k
  induction k with
  | zero =>
    intro i x h hx
    have : i = m.2.2.2.length := by omega
    subst this
    rw [impl_MachineLines.l1111010_eq, spec_l17Machine.l111010_eq, lt_nat, decide_eq_false (Nat.lt_irrefl _)]
    exact ⟨x, by omega, rfl, rfl⟩
  | succ k ih =>
    intro i x h hx
    have hi : i < m.2.2.2.length := by omega
    obtain ⟨a, b, c⟩ := hr _ (rd_mem_list (τ := TSh) m.2.2.2 i hi)
    have e7 : (⟨#[115, 104, 97, 100, 111, 119, 32]⟩ : ByteArray).size = 7 := rfl
    have e1 : (⟨#[32]⟩ : ByteArray).size = 1 := rfl
    obtain ⟨s, hs⟩ : ∃ s : Sh, rd (τ := TSh) m.2.2.2 (i : Int) = s := ⟨_, rfl⟩
    rw [hs] at a b c
    have s1 := itoaB_size _ a
    have s2 := itoaB_size _ b
    have s3 := itoaB_size _ c
    rw [impl_MachineLines.l1111010_eq, spec_l17Machine.l111010_eq, lt_nat, decide_eq_true hi, inL_nat, decide_eq_true hi, hs, w64_succ i _ hi (by omega), (digits_val _ a).1, (digits_val _ a).2, (digits_val _ b).1, (digits_val _ b).2, (digits_val _ c).1, (digits_val _ c).2]
    simp only [cond_true, Option.bind_some]
    rw [szc (by omega), szc (by simp only [ByteArray.size_append]; omega), szc (by simp only [ByteArray.size_append]; omega), szc (by simp only [ByteArray.size_append]; omega), szc (by simp only [ByteArray.size_append]; omega)]
    simp only [cond_true]
    rw [room16 _ (by simp; omega)]
    exact ih (i + 1) _ (by omega) (by simp; omega)
theorem lines_both (m : Mac) (hR : MacR m) (hr : ∀ s ∈ m.2.2.2, I64 s.1 ∧ I64 s.2.1 ∧ I64 s.2.2) : ∃ V : List ByteArray, V.length ≤ 20 ∧
    impl_MachineLines.l111010 m [] m.2.1 (m.2.1.length : Int) 0 = some (V, 0) ∧ spec_l17Machine m = some V := by
  have hn := hR.n
  have key : ∀ (k i : Nat) (x : List ByteArray), i + k = m.2.1.length → x.length = i → ∃ V : List ByteArray, V.length ≤ 20 ∧
      impl_MachineLines.l111010 m x m.2.1 (m.2.1.length : Int) (i : Int) = some (V, 0) ∧ spec_l17Machine.l11010 m x (i : Int) = some V := by
    intro k
    induction k with
    | zero =>
      intro i x h hx
      have : i = m.2.1.length := by omega
      subst this
      rw [impl_MachineLines.l111010_eq, spec_l17Machine.l11010_eq, lt_nat, decide_eq_false (Nat.lt_irrefl _)]
      exact shads_loop m hR.s hr m.2.2.2.length 0 x (by omega) (by omega)
    | succ k ih =>
      intro i x h hx
      have hi : i < m.2.1.length := by omega
      obtain ⟨t, ht⟩ : ∃ t : Thr, rd (τ := TThr) m.2.1 (i : Int) = t := ⟨_, rfl⟩
      have hT := hR.t i hi
      rw [ht] at hT
      rw [impl_MachineLines.l111010_eq, spec_l17Machine.l11010_eq, lt_nat, decide_eq_true hi, inL_nat, decide_eq_true hi, ht, w64_succ i _ hi (by omega), thread_i t hT _ ⟨by omega, by omega⟩, thread_s m i hi hn t ht hT]
      simp only [cond_true, Option.bind_some]
      rw [room16 _ (by simp; omega)]
      exact ih (i + 1) _ (by omega) (by simp; omega)
  rw [spec_l17Machine_eq]
  exact key m.2.1.length 0 [] (by omega) rfl
theorem machineLines_both (m : Mac) (hw : wfT TMac m) : ∃ (V : List ByteArray) (c : Int), V.length ≤ 20 ∧ impl_MachineLines m = some (V, c) ∧ spec_MachineLines m = some (V, c) := by
  rw [impl_MachineLines_eq, spec_MachineLines_eq, (machine_val m).1, (machine_val m).2]
  simp only [Option.bind_some]
  cases hm : macV m with
  | false => exact ⟨_, _, by simp, rfl, rfl⟩
  | true =>
    obtain ⟨V, v0, v1, v2⟩ := lines_both m (macR_of hm hw) fun s hs => hw.2.2.2.2 s hs
    simp only [Bool.not_true, cond_false]
    rw [v1, v2]
    exact ⟨V, 0, v0, rfl, rfl⟩
theorem eq_strs (x : List ByteArray) (h1 : x.length ≤ 1048576) : laws_eqStringS x x = some true := by
  rw [laws_eqStringS_eq, decide_eq_true (rfl : (List.length x : Int) = (List.length x : Int)), Bool.not_true, cond_false]
  refine eq_loop (laws_eqStringS.l11010 x x) (List.length x) (fun i hi => ?_) ?_
  · rw [laws_eqStringS.l11010_eq, lt_nat, inL_nat, decide_eq_true hi, w64_succ i _ hi (by omega), strEq_refl]; rfl
  · rw [laws_eqStringS.l11010_eq, lt_nat, decide_eq_false (Nat.lt_irrefl _), cond_false]
theorem mark_strs (l : List ByteArray) (hl : l.length ≤ 1048576) : laws_markStringS l 1 = some (1 + 1 * (l.length : Int), marksL mkT 1 1 l.length) ∧ laws_heldStringS (marksL mkT 1 1 l.length) 1 = some (1 + 1 * (l.length : Int)) := by
  constructor
  · rw [laws_markStringS_eq]
    refine mark_run laws_markStringS.l1010 mkT 1 l.length 1 9000000 (by decide) (by omega) ?_ ?_ l rfl
    · intro x m i hx hi hm hM
      have hi' : i < x.length := by omega
      rw [laws_markStringS.l1010_eq, lt_nat, inL_nat, decide_eq_true hi', mark_text m hm (by omega), w64 (n := m + 1) (by omega) (by omega), w64_succ i x.length hi' (by omega), Int.toNat_natCast]
      rfl
    · intro x m hx
      rw [laws_markStringS.l1010_eq, lt_nat, decide_eq_false (by omega)]; rfl
  · rw [laws_heldStringS_eq]
    refine held_run laws_heldStringS.l1010 mkT 1 l.length 1 9000000 (by decide) (by omega) ?_ ?_
    · intro x m i hx hi hm hM he
      have hi' : i < x.length := by omega
      rw [laws_heldStringS.l1010_eq, lt_nat, inL_nat, decide_eq_true hi', mark_text m hm (by omega), w64 (n := m + 1) (by omega) (by omega), w64_succ i x.length hi' (by omega), rd_some (τ := .str) x i _ he]
      simp only [Option.bind_some, strEq_refl, cond_true, Bool.not_true, cond_false]
      rfl
    · intro x m hx
      rw [laws_heldStringS.l1010_eq, lt_nat, decide_eq_false (by omega)]; rfl
theorem machineLines_law (m : Mac) (hw : wfT TMac m) : laws_FnExactMachineLines m = some true := by
  rw [laws_FnExactMachineLines_eq]
  obtain ⟨r, e1, e2, e3⟩ := sz_Machine m hw 1048576 ⟨by decide, by decide⟩
  rw [e1]
  simp only [Option.bind_some]
  by_cases h : r < 0
  · rw [decide_eq_true h]; rfl
  · have hb := e3 (by omega)
    obtain ⟨V, c, v0, v1, v2⟩ := machineLines_both m hw
    obtain ⟨k, m1, m2, m3⟩ := mk_Machine m hb 1 (by decide) (by decide)
    obtain ⟨i1, i2⟩ := mark_strs V (by omega)
    rw [decide_eq_false h, to_Machine m hw hb]
    simp only [Option.bind_some, cond_false, joinB]
    rw [v1, v2]
    simp only [Option.bind_some, eq_strs V (by omega), decide_true, Bool.not_true, cond_false, eq_Machine m hw hb, m1, neg_false (show 0 ≤ k.1 by omega), i1, i2, neg_false (show 0 ≤ 1 + 1 * (V.length : Int) by omega)]
end Go.Proofs.YtoikigjhiohopaaGreatDoor.S
