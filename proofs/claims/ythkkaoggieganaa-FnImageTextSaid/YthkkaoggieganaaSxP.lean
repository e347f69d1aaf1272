/- Pure sides: what the functions come to (numbers and lists alone). -/
import Derived.Test.YthkkaoggieganaaSxI
import Derived.IntWalk
namespace Go.Proofs.Ythkkaoggieganaa.S
open Go.Ps
set_option linter.unusedVariables false
set_option maxRecDepth 100000
theorem w64 {n : Int} (h : -9223372036854775808 ≤ n) (h' : n ≤ 9223372036854775807) : IntKind.wrap .i64 n = n := IntWalk.i64_in n ⟨h, h'⟩
theorem isLetter_l00 (n : Int) : impl_isLetter n = spec_l00Letter n := by rw [impl_isLetter_eq, spec_l00Letter_eq]
theorem isDigit_l00 (n : Int) : impl_isDigit n = spec_l00Digit n := by rw [impl_isDigit_eq, spec_l00Digit_eq]
theorem name_loop (t : ByteArray) (ht : t.size ≤ 20) : ∀ (k : Nat) (i : Int), 0 ≤ i → t.size ≤ i.toNat + k → impl_NameOK.l11010 t i = spec_l00Word.l11010 t i := by
  intro k
  induction k with
  | zero =>
    intro i h0 hk
    have : decide (i < (t.size : Int)) = false := by simp; omega
    rw [impl_NameOK.l11010_eq, spec_l00Word.l11010_eq, this]; rfl
  | succ k ih =>
    intro i h0 hk
    rw [impl_NameOK.l11010_eq, spec_l00Word.l11010_eq, isLetter_l00, isDigit_l00]
    by_cases hi : i < (t.size : Int)
    · rw [w64 (n := i + 1) (by omega) (by omega), ih (i + 1) (by omega) (by omega)]
    · rw [show decide (i < (t.size : Int)) = false by simp; omega]; rfl
theorem nameOK (t : ByteArray) : impl_NameOK t = spec_l00Word t := by
  rw [impl_NameOK_eq, spec_l00Word_eq, impl_within_eq]
  by_cases h1 : (t.size : Int) < 1
  · rw [show decide ((1 : Int) ≤ (t.size : Int)) = false by simp; omega, show decide ((t.size : Int) < 1) = true by simp; omega]; rfl
  · rw [show decide ((1 : Int) ≤ (t.size : Int)) = true by simp; omega, show decide ((t.size : Int) < 1) = false by simp; omega]
    by_cases h2 : (t.size : Int) > 20
    · rw [show decide ((t.size : Int) > 20) = true by simp; omega, show decide ((t.size : Int) ≤ 20) = false by simp; omega]; rfl
    · rw [show decide ((t.size : Int) > 20) = false by simp; omega, show decide ((t.size : Int) ≤ 20) = true by simp; omega]
      simp only [cond_true, cond_false, Option.bind_some, Bool.not_true]
      rw [isLetter_l00, name_loop t (by omega) t.size 1 (by omega) (by omega)]
theorem sum_loop (t : ByteArray) (ht : t.size ≤ 1048576) : ∀ (k : Nat) (x i : Int), 0 ≤ i → t.size ≤ i.toNat + k → impl_sumOf.l11010 t x i = spec_l01Sum.l11010 t x i := by
  intro k
  induction k with
  | zero =>
    intro x i h0 hk
    have : decide (i < (t.size : Int)) = false := by simp; omega
    rw [impl_sumOf.l11010_eq, spec_l01Sum.l11010_eq, this]; rfl
  | succ k ih =>
    intro x i h0 hk
    rw [impl_sumOf.l11010_eq, spec_l01Sum.l11010_eq]
    by_cases hi : i < (t.size : Int)
    · rw [w64 (n := i + 1) (by omega) (by omega), ih _ (i + 1) (by omega) (by omega)]
    · rw [show decide (i < (t.size : Int)) = false by simp; omega]; rfl
theorem sumOf (t : ByteArray) (ht : t.size ≤ 1048576) : impl_sumOf t = spec_l01Sum t := by
  rw [impl_sumOf_eq, spec_l01Sum_eq, sum_loop t ht t.size 1 0 (by omega) (by omega)]
theorem bt_range (t : ByteArray) (i : Int) : 0 ≤ bt t i ∧ bt t i ≤ 255 := by
  unfold bt
  have := (t.data.getD i.toNat 0).toNat_lt
  omega
theorem wu64 {n : Int} (h : 0 ≤ n) (h' : n ≤ 18446744073709551615) : IntKind.wrap .u64 n = n := by
  have : IntKind.wrap .u64 n = n % 18446744073709551616 := by simp [IntKind.wrap, IntKind.bits, IntKind.signed]
  rw [this]; omega
/-- Both come to the same. -/
def Both {α : Type} (x y : Option α) : Prop := ∃ v, x = some v ∧ y = some v
theorem Both.bind {α β : Type} {x y : Option α} {f g : α → Option β} (h : Both x y) (k : ∀ v, x = some v → Both (f v) (g v)) : Both (x.bind f) (y.bind g) := by
  obtain ⟨v, h1, h2⟩ := h
  rw [h1, h2]; exact k v h1
theorem Both.some {α : Type} {x y : Option α} (e : x = y) (h : ∃ v, x = some v) : Both x y := by obtain ⟨v, h⟩ := h; exact ⟨v, h, e ▸ h⟩
theorem some_letter (n : Int) : ∃ v, impl_isLetter n = some v := by
  rw [impl_isLetter_eq]
  cases decide (n ≥ 97) <;> cases decide (n ≤ 122) <;> cases decide (n ≥ 65) <;> cases decide (n ≤ 90) <;> exact ⟨_, rfl⟩
theorem some_digit (n : Int) : ∃ v, impl_isDigit n = some v := by
  rw [impl_isDigit_eq]; cases decide (n ≥ 48) <;> exact ⟨_, rfl⟩
theorem some_name_loop (t : ByteArray) (ht : t.size ≤ 20) : ∀ (k : Nat) (i : Int), 0 ≤ i → t.size ≤ i.toNat + k → ∃ v, impl_NameOK.l11010 t i = some v := by
  intro k
  induction k with
  | zero =>
    intro i h0 hk
    have : decide (i < (t.size : Int)) = false := by simp; omega
    rw [impl_NameOK.l11010_eq, this]; exact ⟨_, rfl⟩
  | succ k ih =>
    intro i h0 hk
    rw [impl_NameOK.l11010_eq]
    by_cases hi : i < (t.size : Int)
    · have e : inL i t.size = true := by simp [inL]; omega
      obtain ⟨v1, h1⟩ := some_letter (bt t i)
      obtain ⟨v2, h2⟩ := some_digit (bt t i)
      obtain ⟨v3, h3⟩ := ih (i + 1) (by omega) (by omega)
      rw [w64 (n := i + 1) (by omega) (by omega), e, h1, h2, h3]
      simp only [decide_eq_true hi, cond_true, Option.bind_some]
      cases v1 <;> cases v2 <;> exact ⟨_, rfl⟩
    · rw [show decide (i < (t.size : Int)) = false by simp; omega]; exact ⟨_, rfl⟩
theorem some_name (t : ByteArray) : ∃ v, impl_NameOK t = some v := by
  rw [impl_NameOK_eq, impl_within_eq]
  by_cases h1 : (1 : Int) ≤ (t.size : Int)
  · by_cases h2 : (t.size : Int) ≤ 20
    · obtain ⟨v1, e1⟩ := some_letter (bt t 0)
      obtain ⟨v2, e2⟩ := some_name_loop t (by omega) t.size 1 (by omega) (by omega)
      have e : inL 0 t.size = true := by simp [inL]; omega
      simp only [decide_eq_true h1, decide_eq_true h2, cond_true, Option.bind_some, Bool.not_true, cond_false, e, e1, e2]
      cases v1 <;> exact ⟨_, rfl⟩
    · simp only [decide_eq_true h1, cond_true, Option.bind_some, decide_eq_false h2, Bool.not_false]; exact ⟨_, rfl⟩
  · simp only [decide_eq_false h1, cond_false, Option.bind_some, Bool.not_false, cond_true]; exact ⟨_, rfl⟩
theorem both_name (t : ByteArray) : Both (impl_NameOK t) (spec_l00Word t) := Both.some (nameOK t) (some_name t)
theorem cond_ite {α : Type} (c : Bool) (a b : α) : cond c a b = if c = true then a else b := by cases c <;> rfl
theorem wrap64_mod (n : Int) : ∃ q : Int, IntKind.wrap .i64 n = n - 18446744073709551616 * q := by
  rw [IntKind.wrap_i64]; exact ⟨(n + 9223372036854775808) / 18446744073709551616, by omega⟩
theorem bv64 (x : Int) : ((BitVec.ofInt IntKind.i64.bits x).toNat : Int) = x % 18446744073709551616 := by
  rw [BitVec.toNat_ofInt]
  have hb : ((2 ^ IntKind.i64.bits : Nat) : Int) = 18446744073709551616 := rfl
  rw [hb]; omega
theorem mod_pow_mod (x : Int) (c : Nat) (hc : c ≤ 62) : x % 18446744073709551616 % 2 ^ c = x % 2 ^ c := by
  apply Int.emod_emod_of_dvd
  exact ⟨2 ^ (64 - c), by rw [← Int.pow_add, show c + (64 - c) = 64 by omega]; rfl⟩
theorem pow_le62 (c : Nat) (hc : c ≤ 62) : (1 : Int) ≤ 2 ^ c ∧ (2 : Int) ^ c ≤ 4611686018427387904 := by
  have h1 : 2 ^ c ≤ 2 ^ 62 := Nat.pow_le_pow_right (by decide) hc
  have h2 : 1 ≤ 2 ^ c := Nat.one_le_two_pow
  have e : ((2 ^ c : Nat) : Int) = (2 : Int) ^ c := by simp
  omega
theorem and_mask (x : Int) (c : Nat) (hc : c ≤ 62) : andI .i64 x (2 ^ c - 1) = x % 2 ^ c := by
  have hp := pow_le62 c hc
  have e : ((2 ^ c : Nat) : Int) = (2 : Int) ^ c := by simp
  unfold andI
  have h1 : (BitVec.ofInt IntKind.i64.bits x &&& BitVec.ofInt IntKind.i64.bits ((2 : Int) ^ c - 1)).toNat = (BitVec.ofInt IntKind.i64.bits x).toNat % 2 ^ c := by
    rw [BitVec.toNat_and]
    have : (BitVec.ofInt IntKind.i64.bits ((2 : Int) ^ c - 1)).toNat = 2 ^ c - 1 := by
      have := bv64 ((2 : Int) ^ c - 1); omega
    rw [this, Nat.and_two_pow_sub_one_eq_mod]
  rw [h1]
  have h2 : (((BitVec.ofInt IntKind.i64.bits x).toNat % 2 ^ c : Nat) : Int) = x % 2 ^ c := by
    rw [Int.natCast_emod, bv64, e, mod_pow_mod x c hc]
  rw [h2]
  have h3 : 0 ≤ x % 2 ^ c := Int.emod_nonneg _ (by omega)
  have h4 : x % 2 ^ c < 2 ^ c := Int.emod_lt_of_pos _ (by omega)
  exact w64 (by omega) (by omega)
theorem shr_div {x : Int} {k : Int} (h : 0 ≤ k) (h' : k ≤ 64) : shrI .i64 x k = x / 2 ^ k.toNat := by
  unfold shrI
  have hb : IntKind.i64.bits = 64 := rfl
  rw [show min k.toNat IntKind.i64.bits = k.toNat by omega, Int.fdiv_eq_ediv_of_nonneg]
  have := pow_le62
  exact Int.le_of_lt (Int.pow_pos (by decide))
theorem shr_div_u {x : Int} {k : Int} (h : 0 ≤ k) (h' : k ≤ 64) : shrI .u64 x k = x / 2 ^ k.toNat := by
  unfold shrI
  have hb : IntKind.u64.bits = 64 := rfl
  rw [show min k.toNat IntKind.u64.bits = k.toNat by omega, Int.fdiv_eq_ediv_of_nonneg]
  exact Int.le_of_lt (Int.pow_pos (by decide))
theorem shl_mul {x : Int} {k : Int} (h : 0 ≤ k) (h' : k ≤ 64) : shlI .i64 x k = IntKind.wrap .i64 (x * 2 ^ k.toNat) := by
  unfold shlI
  have hb : IntKind.i64.bits = 64 := rfl
  rw [show min k.toNat IntKind.i64.bits = k.toNat by omega]
theorem bitsOf_val (v low count : Int) (h : 0 ≤ low) (h' : low ≤ 64) (hc : 0 ≤ count) (hc' : count ≤ 62) : impl_bitsOf v low count = some (v / 2 ^ low.toNat % 2 ^ count.toNat) := by
  rw [impl_bitsOf_eq]
  have hp := pow_le62 count.toNat (by omega)
  rw [show decide (low < 0) = false by simp; omega, show decide (count < 0) = false by simp; omega, shl_mul hc (by omega), shr_div h h', Int.one_mul, w64 (n := 2 ^ count.toNat) (by omega) (by omega), w64 (n := 2 ^ count.toNat - 1) (by omega) (by omega), and_mask _ _ (by omega)]
  rfl
/-- A number is laid into a place that is empty. -/
theorem nat_or_field (x y k c : Nat) (hy : y < 2 ^ c) (h : x / 2 ^ k % 2 ^ c = 0) : x ||| y * 2 ^ k = x + y * 2 ^ k := by
  have hk : 0 < 2 ^ k := Nat.two_pow_pos k
  have hkc : 0 < 2 ^ (k + c) := Nat.two_pow_pos _
  have e1 : x % 2 ^ (k + c) < 2 ^ k := by
    rw [Nat.pow_add]
    have : x % (2 ^ k * 2 ^ c) = x % 2 ^ k + 2 ^ k * (x / 2 ^ k % 2 ^ c) := Nat.mod_mul
    rw [this, h]
    have := Nat.mod_lt x hk
    omega
  have e2 : y * 2 ^ k + x % 2 ^ (k + c) < 2 ^ (k + c) := by
    have : (y + 1) * 2 ^ k ≤ 2 ^ c * 2 ^ k := Nat.mul_le_mul_right _ (by omega)
    rw [Nat.pow_add, Nat.mul_comm (2 ^ k) (2 ^ c)]
    rw [Nat.pow_add, Nat.mul_comm (2 ^ k) (2 ^ c)] at e1
    rw [Nat.add_mul] at this
    omega
  have hx : x = (x / 2 ^ (k + c)) <<< (k + c) ||| x % 2 ^ (k + c) := by
    rw [← Nat.shiftLeft_add_eq_or_of_lt (Nat.mod_lt x hkc), Nat.shiftLeft_eq]
    have := Nat.div_add_mod x (2 ^ (k + c))
    rw [Nat.mul_comm] at this; exact this.symm
  have h3 : x % 2 ^ (k + c) ||| y * 2 ^ k = y * 2 ^ k + x % 2 ^ (k + c) := by
    rw [Nat.or_comm, ← Nat.shiftLeft_eq y k, ← Nat.shiftLeft_add_eq_or_of_lt e1, Nat.shiftLeft_eq]
  calc x ||| y * 2 ^ k = (x / 2 ^ (k + c)) <<< (k + c) ||| (x % 2 ^ (k + c) ||| y * 2 ^ k) := by
        conv => lhs; rw [hx]
        rw [Nat.or_assoc]
    _ = (x / 2 ^ (k + c)) <<< (k + c) + (y * 2 ^ k + x % 2 ^ (k + c)) := by rw [h3, Nat.shiftLeft_add_eq_or_of_lt e2]
    _ = x + y * 2 ^ k := by
        rw [Nat.shiftLeft_eq]
        have := Nat.div_add_mod x (2 ^ (k + c))
        rw [Nat.mul_comm] at this; omega
theorem or_field {x y P Q : Int} (k c : Nat) (hP : P = 2 ^ k) (hQ : Q = 2 ^ c) (hkc : k + c ≤ 62) (hx : 0 ≤ x) (hx' : x < 4611686018427387904) (hy : 0 ≤ y) (hy' : y < Q) (h : x / P % Q = 0) : orI .i64 x (y * P) = x + y * P := by
  subst hP hQ
  obtain ⟨a, rfl⟩ := Int.eq_ofNat_of_zero_le hx
  obtain ⟨b, rfl⟩ := Int.eq_ofNat_of_zero_le hy
  have hp := pow_le62 k (by omega)
  have ek : ((2 ^ k : Nat) : Int) = (2 : Int) ^ k := by simp
  have ec : ((2 ^ c : Nat) : Int) = (2 : Int) ^ c := by simp
  have hb : b < 2 ^ c := by omega
  have hlt : b * 2 ^ k < 4611686018427387904 := by
    have h1 : b * 2 ^ k < 2 ^ c * 2 ^ k := Nat.mul_lt_mul_of_pos_right hb (Nat.two_pow_pos k)
    rw [← Nat.pow_add] at h1
    have h2 : 2 ^ (c + k) ≤ 2 ^ 62 := Nat.pow_le_pow_right (by decide) (by omega)
    omega
  have h0 : a / 2 ^ k % 2 ^ c = 0 := by
    have : ((a / 2 ^ k % 2 ^ c : Nat) : Int) = (a : Int) / 2 ^ k % 2 ^ c := by
      rw [Int.natCast_emod, Int.natCast_ediv, ek, ec]
    omega
  have em : ((b * 2 ^ k : Nat) : Int) = (b : Int) * 2 ^ k := by rw [Int.natCast_mul, ek]
  unfold orI
  rw [BitVec.toNat_or]
  have f1 : (BitVec.ofInt IntKind.i64.bits (a : Int)).toNat = a := by have := bv64 (a : Int); omega
  have f2 : (BitVec.ofInt IntKind.i64.bits ((b : Int) * 2 ^ k)).toNat = b * 2 ^ k := by have := bv64 ((b : Int) * 2 ^ k); omega
  rw [f1, f2, nat_or_field a b k c hb h0, Int.natCast_add, em]
  exact w64 (by omega) (by omega)
theorem bit_val (v i : Int) (hv : -9223372036854775808 ≤ v) (hv' : v ≤ 9223372036854775807) (h : 0 ≤ i) (h' : i ≤ 63) : spec_l01Bit v i = some (v / 2 ^ i.toNat % 2) := by
  rw [spec_l01Bit_eq, wu64 (n := i) (by omega) (by omega), show decide (i < 0) = false by simp; omega, shr_div_u h (by omega)]
  have hu : IntKind.wrap .u64 v = v % 18446744073709551616 := by simp [IntKind.wrap, IntKind.bits, IntKind.signed]
  have h0 : 0 ≤ v % 18446744073709551616 := by omega
  have hp : (0 : Int) < 2 ^ i.toNat := Int.pow_pos (by decide)
  have hd : 0 ≤ v % 18446744073709551616 / 2 ^ i.toNat := Int.ediv_nonneg h0 (by omega)
  rw [hu, Int.tmod_eq_emod_of_nonneg hd]
  have e : v % 18446744073709551616 / 2 ^ i.toNat % 2 = v / 2 ^ i.toNat % 2 := by
    have hpe : (18446744073709551616 : Int) = 2 ^ i.toNat * (2 ^ (63 - i.toNat) * 2) := by
      rw [← Int.pow_succ, ← Int.pow_add, show i.toNat + (63 - i.toNat + 1) = 64 by omega]; rfl
    have h1 : v % 18446744073709551616 = v - 2 ^ i.toNat * (2 ^ (63 - i.toNat) * 2 * (v / 18446744073709551616)) := by
      rw [Int.emod_def, ← Int.mul_assoc, ← hpe]
    rw [h1, Int.sub_eq_add_neg, ← Int.mul_neg, Int.add_mul_ediv_left _ _ (by omega)]
    rw [Int.mul_comm (2 ^ (63 - i.toNat)) 2, Int.mul_assoc, ← Int.mul_neg, Int.add_mul_emod_self_left]
  rw [e]
  have : v / 2 ^ i.toNat % 2 = 0 ∨ v / 2 ^ i.toNat % 2 = 1 := by omega
  rcases this with h | h <;> rw [h] <;> rfl
theorem field_loop (w low : Int) (hw : -9223372036854775808 ≤ w) (hw' : w ≤ 9223372036854775807) (h : 0 ≤ low) : ∀ (k : Nat) (x : Int), low + k ≤ 63 → k ≤ 62 → 0 ≤ x → (x + 1) * 2 ^ k ≤ 4611686018427387904 → spec_l01Field.l11010 w low x ((k : Int) - 1) = some (x * 2 ^ k + w / 2 ^ low.toNat % 2 ^ k) := by
  intro k
  induction k with
  | zero =>
    intro x _ _ _ _
    rw [spec_l01Field.l11010_eq, show decide (((0 : Nat) : Int) - 1 ≥ 0) = false by rfl]
    simp only [cond_false, Int.pow_zero, Int.emod_one, Int.mul_one, Int.add_zero]
  | succ k ih =>
    intro x h1 h2 h3 h4
    have hpk := pow_le62 k (by omega)
    have hx : 2 * x + 2 ≤ 4611686018427387904 := by
      rw [Int.pow_succ] at h4
      have : (x + 1) * 2 ≤ (x + 1) * (2 ^ k * 2) := Int.mul_le_mul_of_nonneg_left (by omega) (by omega)
      omega
    have hs : (((k + 1 : Nat) : Int) - 1) = (k : Int) := by omega
    rw [hs, spec_l01Field.l11010_eq, show decide ((k : Int) ≥ 0) = true by simp, w64 (n := low + k) (by omega) (by omega), bit_val w (low + k) hw hw' (by omega) (by omega)]
    have hb : 0 ≤ w / 2 ^ (low + k).toNat % 2 ∧ w / 2 ^ (low + k).toNat % 2 ≤ 1 := by omega
    simp only [cond_true, Option.bind_some]
    rw [w64 (n := 2 * x) (by omega) (by omega), w64 (n := 2 * x + _) (by omega) (by omega), w64 (n := (k : Int) - 1) (by omega) (by omega)]
    rw [ih _ (by omega) (by omega) (by omega) (by
      rw [Int.pow_succ, Int.mul_comm (2 ^ k) 2, ← Int.mul_assoc] at h4
      exact Int.le_trans (Int.mul_le_mul_of_nonneg_right (by omega) (by omega)) h4)]
    congr 1
    have e1 : (low + k).toNat = low.toNat + k := by omega
    have e2 : w / 2 ^ low.toNat % 2 ^ (k + 1) = w / 2 ^ low.toNat % 2 ^ k + 2 ^ k * (w / 2 ^ (low.toNat + k) % 2) := by
      rw [Int.pow_succ, Int.pow_add, ← Int.ediv_ediv_of_nonneg (Int.le_of_lt (Int.pow_pos (by decide)))]
      generalize w / 2 ^ low.toNat = z
      have hk : (0 : Int) ≤ 2 ^ k := by omega
      rw [Int.emod_def z (2 ^ k * 2), ← Int.ediv_ediv_of_nonneg hk, Int.emod_def (z / 2 ^ k) 2, Int.emod_def z (2 ^ k), Int.mul_sub]
      rw [Int.mul_assoc (2 ^ k) 2]; omega
    rw [e1, e2, Int.add_mul, Int.pow_succ, Int.mul_comm (2 ^ k) 2, ← Int.mul_assoc, Int.mul_comm x 2, Int.mul_comm (2 ^ k) (w / 2 ^ (low.toNat + k) % 2)]
    omega
theorem field_val (w low count : Int) (hw : -9223372036854775808 ≤ w) (hw' : w ≤ 9223372036854775807) (h : 0 ≤ low) (hc : 0 ≤ count) (hlc : low + count ≤ 62) : spec_l01Field w low count = some (w / 2 ^ low.toNat % 2 ^ count.toNat) := by
  have hp := pow_le62 count.toNat (by omega)
  rw [spec_l01Field_eq, w64 (n := count - 1) (by omega) (by omega), show count - 1 = (count.toNat : Int) - 1 by omega, field_loop w low hw hw' h count.toNat 0 (by omega) (by omega) (by omega) (by omega)]
  rw [Int.zero_mul, Int.zero_add]
theorem bit_low (a z : Int) (n i : Nat) (h : i < n) : (a + 2 ^ n * z) / 2 ^ i % 2 = a / 2 ^ i % 2 := by
  have e : (2 : Int) ^ n = 2 ^ i * (2 * 2 ^ (n - i - 1)) := by
    rw [← Int.mul_assoc, ← Int.pow_succ, ← Int.pow_add, show i + 1 + (n - i - 1) = n by omega]
  have hp : (0 : Int) < 2 ^ i := Int.pow_pos (by decide)
  rw [e, Int.mul_assoc, Int.add_mul_ediv_left _ _ (by omega), Int.mul_assoc, Int.add_mul_emod_self_left]
theorem bit_step (t : Int) (i : Nat) : 2 * (t / 2 ^ (i + 1)) + t / 2 ^ i % 2 = t / 2 ^ i := by
  have hp : (0 : Int) ≤ 2 ^ i := Int.le_of_lt (Int.pow_pos (by decide))
  rw [Int.pow_succ, ← Int.ediv_ediv_of_nonneg hp]; omega
def putV (w low count v : Int) : Int := w % 2 ^ low.toNat + 2 ^ low.toNat * (v % 2 ^ count.toNat + 2 ^ count.toNat * (w / 2 ^ (low.toNat + count.toNat)))
theorem putV_bit (w low count v : Int) (h : 0 ≤ low) (hc : 0 ≤ count) (i : Nat) : putV w low count v / 2 ^ i % 2 = if low ≤ i ∧ (i : Int) < low + count then v / 2 ^ (i - low.toNat) % 2 else w / 2 ^ i % 2 := by
  obtain ⟨l, rfl⟩ := Int.eq_ofNat_of_zero_le h
  obtain ⟨c, rfl⟩ := Int.eq_ofNat_of_zero_le hc
  have hl : (0 : Int) < 2 ^ l := Int.pow_pos (by decide)
  have hcc : (0 : Int) < 2 ^ c := Int.pow_pos (by decide)
  simp only [putV, Int.toNat_natCast]
  by_cases h1 : i < l
  · rw [bit_low _ _ _ _ h1, if_neg (by omega)]
    conv => rhs; rw [← Int.emod_add_mul_ediv w (2 ^ l)]
    rw [bit_low _ _ _ _ h1]
  · have e : (2 : Int) ^ i = 2 ^ l * 2 ^ (i - l) := by rw [← Int.pow_add, show l + (i - l) = i by omega]
    rw [e, ← Int.ediv_ediv_of_nonneg (by omega : (0 : Int) ≤ 2 ^ l), Int.add_mul_ediv_left _ _ (by omega), Int.ediv_eq_zero_of_lt (Int.emod_nonneg _ (by omega)) (Int.emod_lt_of_pos _ hl), Int.zero_add]
    by_cases h2 : i < l + c
    · rw [if_pos (by omega), bit_low _ _ _ _ (show i - l < c by omega)]
      conv => rhs; rw [← Int.emod_add_mul_ediv v (2 ^ c)]
      rw [bit_low _ _ _ _ (show i - l < c by omega)]
    · have e2 : (2 : Int) ^ (i - l) = 2 ^ c * 2 ^ (i - l - c) := by rw [← Int.pow_add, show c + (i - l - c) = i - l by omega]
      rw [if_neg (by omega), e2, ← Int.ediv_ediv_of_nonneg (by omega : (0 : Int) ≤ 2 ^ c), Int.add_mul_ediv_left _ _ (by omega), Int.ediv_eq_zero_of_lt (Int.emod_nonneg _ (by omega)) (Int.emod_lt_of_pos _ hcc), Int.zero_add, Int.pow_add, ← Int.ediv_ediv_of_nonneg (by omega : (0 : Int) ≤ 2 ^ l), Int.ediv_ediv_of_nonneg (by omega : (0 : Int) ≤ 2 ^ c), ← e2, Int.ediv_ediv_of_nonneg (by omega : (0 : Int) ≤ 2 ^ l)]
theorem putV_range (w low count v : Int) (h : 0 ≤ low) (hc : 0 ≤ count) (hlc : low + count ≤ 32) (hw : 0 ≤ w) (hw' : w < 4294967296) : 0 ≤ putV w low count v ∧ putV w low count v < 4294967296 := by
  obtain ⟨l, rfl⟩ := Int.eq_ofNat_of_zero_le h
  obtain ⟨c, rfl⟩ := Int.eq_ofNat_of_zero_le hc
  have hl : (0 : Int) < 2 ^ l := Int.pow_pos (by decide)
  have hcc : (0 : Int) < 2 ^ c := Int.pow_pos (by decide)
  simp only [putV, Int.toNat_natCast]
  have a1 := Int.emod_nonneg w (show (2 : Int) ^ l ≠ 0 by omega)
  have a2 := Int.emod_lt_of_pos w hl
  have b1 := Int.emod_nonneg v (show (2 : Int) ^ c ≠ 0 by omega)
  have b2 := Int.emod_lt_of_pos v hcc
  have hlcp : (0 : Int) < 2 ^ (l + c) := Int.pow_pos (by decide)
  have c1 : 0 ≤ w / 2 ^ (l + c) := Int.ediv_nonneg hw (by omega)
  have c2 : w / 2 ^ (l + c) + 1 ≤ 2 ^ (32 - l - c) := by
    have : w / 2 ^ (l + c) < 2 ^ (32 - l - c) := by
      apply Int.ediv_lt_of_lt_mul hlcp
      rw [← Int.pow_add, show 32 - l - c + (l + c) = 32 by omega]; exact hw'
    omega
  generalize w / 2 ^ (l + c) = z at *
  generalize w % 2 ^ l = x at *
  generalize v % 2 ^ c = y at *
  have d1 : 0 ≤ 2 ^ c * z := Int.mul_nonneg (by omega) c1
  have d2 : 2 ^ c * z + 2 ^ c ≤ 2 ^ c * 2 ^ (32 - l - c) := by
    have := Int.mul_le_mul_of_nonneg_left c2 (show (0 : Int) ≤ 2 ^ c by omega)
    rw [Int.mul_add, Int.mul_one] at this; exact this
  rw [← Int.pow_add, show c + (32 - l - c) = 32 - l by omega] at d2
  have d3 : 0 ≤ 2 ^ l * (y + 2 ^ c * z) := Int.mul_nonneg (by omega) (by omega)
  have d4 : 2 ^ l * (y + 2 ^ c * z) + 2 ^ l ≤ 2 ^ l * 2 ^ (32 - l) := by
    have := Int.mul_le_mul_of_nonneg_left (show y + 2 ^ c * z + 1 ≤ 2 ^ (32 - l) by omega) (show (0 : Int) ≤ 2 ^ l by omega)
    rw [Int.mul_add (2 ^ l) _ 1, Int.mul_one] at this; exact this
  rw [← Int.pow_add, show l + (32 - l) = 32 by omega, show (2 : Int) ^ 32 = 4294967296 by rfl] at d4
  omega
theorem put_loop (w low count v : Int) (h : 0 ≤ low) (hc : 0 ≤ count) (hlc : low + count ≤ 32) (hw : 0 ≤ w) (hw' : w < 4294967296) (hv : -9223372036854775808 ≤ v) (hv' : v ≤ 9223372036854775807) :
    ∀ (k : Nat), k ≤ 32 → spec_l01Put.l11010 w low count v (putV w low count v / 2 ^ k) ((k : Int) - 1) = some (putV w low count v) := by
  have hr := putV_range w low count v h hc hlc hw hw'
  intro k
  induction k with
  | zero =>
    intro _
    rw [spec_l01Put.l11010_eq, show decide (((0 : Nat) : Int) - 1 ≥ 0) = false by rfl]
    simp only [cond_false, Int.pow_zero, Int.ediv_one]
  | succ k ih =>
    intro hk
    have ih := ih (by omega)
    have hb := putV_bit w low count v h hc k
    have hst := bit_step (putV w low count v) k
    generalize ht : putV w low count v = T at *
    have hp : (0 : Int) < 2 ^ (k + 1) := Int.pow_pos (by decide)
    have q0 : 0 ≤ T / 2 ^ (k + 1) := Int.ediv_nonneg hr.1 (by omega)
    have q1 : T / 2 ^ (k + 1) ≤ T := Int.ediv_le_self _ hr.1
    have hs : (((k + 1 : Nat) : Int) - 1) = (k : Int) := by omega
    rw [hs, spec_l01Put.l11010_eq, show decide ((k : Int) ≥ 0) = true by simp, bit_val w k (by omega) (by omega) (by omega) (by omega), w64 (n := low + count) (by omega) (by omega), w64 (n := 2 * (T / 2 ^ (k + 1))) (by omega) (by omega), w64 (n := (k : Int) - 1) (by omega) (by omega)]
    simp only [cond_true, Option.bind_some, Int.toNat_natCast]
    by_cases h1 : low ≤ (k : Int)
    · by_cases h2 : (k : Int) < low + count
      · rw [show decide ((k : Int) ≥ low) = true by simp; omega, show decide ((k : Int) < low + count) = true by simp; omega, w64 (n := (k : Int) - low) (by omega) (by omega), bit_val v _ hv hv' (by omega) (by omega)]
        rw [if_pos ⟨h1, h2⟩] at hb
        simp only [cond_true, Option.bind_some]
        rw [show ((k : Int) - low).toNat = k - low.toNat by omega, ← hb, w64 (by omega) (by omega), hst, ih]
      · rw [show decide ((k : Int) ≥ low) = true by simp; omega, show decide ((k : Int) < low + count) = false by simp; omega]
        rw [if_neg (by omega)] at hb
        simp only [cond_true, cond_false]
        rw [← hb, w64 (by omega) (by omega), hst, ih]
    · rw [show decide ((k : Int) ≥ low) = false by simp; omega]
      rw [if_neg (by omega)] at hb
      simp only [cond_false]
      rw [← hb, w64 (by omega) (by omega), hst, ih]
theorem put_val (w low count v : Int) (h : 0 ≤ low) (hc : 0 ≤ count) (hlc : low + count ≤ 32) (hw : 0 ≤ w) (hw' : w < 4294967296) (hv : -9223372036854775808 ≤ v) (hv' : v ≤ 9223372036854775807) :
    spec_l01Put w low count v = some (putV w low count v) := by
  have hr := putV_range w low count v h hc hlc hw hw'
  have := put_loop w low count v h hc hlc hw hw' hv hv' 32 (by omega)
  rw [spec_l01Put_eq]
  rw [Int.ediv_eq_zero_of_lt hr.1 (by rw [show (2 : Int) ^ 32 = 4294967296 by rfl]; exact hr.2)] at this
  exact this
/-- A number's lowest bits with a sign. -/
def signV (v : Int) (c : Nat) : Int := if v % 2 ^ c < 2 ^ (c - 1) then v % 2 ^ c else v % 2 ^ c - 2 ^ c
theorem pow_half (c : Nat) (h : 1 ≤ c) : (2 : Int) ^ c = 2 * 2 ^ (c - 1) := by
  obtain ⟨d, rfl⟩ := Nat.exists_eq_add_of_le h
  rw [Nat.add_comm, Int.pow_succ, Int.mul_comm]; rfl
theorem signV_mod (v : Int) (c : Nat) : ∃ q, signV v c = v + 2 ^ c * q := by
  unfold signV
  rw [Int.emod_def]
  split
  · exact ⟨-(v / 2 ^ c), by rw [Int.mul_neg]; omega⟩
  · exact ⟨-(v / 2 ^ c) - 1, by rw [Int.mul_sub, Int.mul_neg]; omega⟩
theorem signV_range (v : Int) (c : Nat) (h : 1 ≤ c) : -2 ^ (c - 1) ≤ signV v c ∧ signV v c < 2 ^ (c - 1) := by
  have hp := pow_half c h
  have hp1 : (0 : Int) < 2 ^ (c - 1) := Int.pow_pos (by decide)
  have a1 := Int.emod_nonneg v (show (2 : Int) ^ c ≠ 0 by omega)
  have a2 := Int.emod_lt_of_pos v (show (0 : Int) < 2 ^ c by omega)
  unfold signV
  split <;> omega
theorem pow63 (c : Nat) (h : c ≤ 63) : (2 : Int) ^ c ≤ 9223372036854775808 := by
  have h1 : 2 ^ c ≤ 2 ^ 63 := Nat.pow_le_pow_right (by decide) h
  have e : ((2 ^ c : Nat) : Int) = (2 : Int) ^ c := by simp
  omega
theorem wrap_unique {n s : Int} (q : Int) (h : n = s + 18446744073709551616 * q) (h1 : -9223372036854775808 ≤ s) (h2 : s ≤ 9223372036854775807) : IntKind.wrap .i64 n = s := by
  rw [IntKind.wrap_i64]; omega
theorem signOf_val (v count : Int) (h : 1 ≤ count) (h' : count ≤ 64) : impl_signOf v count = some (signV v count.toNat) := by
  rw [impl_signOf_eq, w64 (n := 64 - count) (by omega) (by omega), show decide (64 - count < 0) = false by simp; omega, shl_mul (by omega) (by omega), shr_div (by omega) (by omega)]
  simp only [cond_false]
  congr 1
  obtain ⟨c, rfl⟩ := Int.eq_ofNat_of_zero_le (show 0 ≤ count by omega)
  rw [show ((64 : Int) - (c : Int)).toNat = 64 - c by omega, Int.toNat_natCast]
  have hp1 : (0 : Int) < 2 ^ (c - 1) := Int.pow_pos (by decide)
  have hk : (0 : Int) < 2 ^ (64 - c) := Int.pow_pos (by decide)
  obtain ⟨q, hq⟩ := signV_mod v c
  have hr := signV_range v c (by omega)
  have e64 : (2 : Int) ^ c * 2 ^ (64 - c) = 18446744073709551616 := by rw [← Int.pow_add, show c + (64 - c) = 64 by omega]; rfl
  have e63 : (2 : Int) ^ (c - 1) * 2 ^ (64 - c) = 9223372036854775808 := by rw [← Int.pow_add, show c - 1 + (64 - c) = 63 by omega]; rfl
  have hv : v * 2 ^ (64 - c) = signV v c * 2 ^ (64 - c) + 18446744073709551616 * (-q) := by
    rw [hq, ← e64, Int.add_mul, Int.mul_neg, Int.mul_assoc, Int.mul_comm q, ← Int.mul_assoc]; omega
  have l1 : -9223372036854775808 ≤ signV v c * 2 ^ (64 - c) := by
    have := Int.mul_le_mul_of_nonneg_right hr.1 (show (0 : Int) ≤ 2 ^ (64 - c) by omega)
    rw [Int.neg_mul, e63] at this; exact this
  have l2 : signV v c * 2 ^ (64 - c) ≤ 9223372036854775807 := by
    have := Int.mul_lt_mul_of_pos_right hr.2 hk
    rw [e63] at this; omega
  rw [wrap_unique (-q) hv l1 l2, Int.mul_ediv_cancel _ (by omega)]
theorem sign_bit (v : Int) (c i : Nat) (h : 1 ≤ c) : signV v c / 2 ^ i % 2 = v / 2 ^ (min i (c - 1)) % 2 := by
  obtain ⟨q, hq⟩ := signV_mod v c
  by_cases h1 : i < c
  · rw [show min i (c - 1) = i by omega, hq, bit_low _ _ _ _ h1]
  · have hr := signV_range v c h
    rw [show min i (c - 1) = c - 1 by omega]
    have e : v / 2 ^ (c - 1) % 2 = signV v c / 2 ^ (c - 1) % 2 := by rw [hq, bit_low _ _ _ _ (by omega)]
    rw [e]
    have hp1 : (0 : Int) < 2 ^ (c - 1) := Int.pow_pos (by decide)
    have hm : (2 : Int) ^ (c - 1) ≤ 2 ^ i := by
      have h9 : 2 ^ (c - 1) ≤ 2 ^ i := Nat.pow_le_pow_right (by decide) (show c - 1 ≤ i by omega)
      have e1 : ((2 ^ (c - 1) : Nat) : Int) = (2 : Int) ^ (c - 1) := by simp
      have e2 : ((2 ^ i : Nat) : Int) = (2 : Int) ^ i := by simp
      omega
    by_cases hs : 0 ≤ signV v c
    · rw [Int.ediv_eq_zero_of_lt hs (by omega), Int.ediv_eq_zero_of_lt hs hr.2]
    · have f : ∀ P : Int, 0 < P → -P ≤ signV v c → signV v c / P = -1 := by
        intro P hP hle
        have : signV v c / P < 0 := Int.ediv_neg_of_neg_of_pos (by omega) hP
        have h2 : -1 ≤ signV v c / P := Int.le_ediv_of_mul_le hP (by omega)
        omega
      rw [f _ (by omega) (by omega), f _ hp1 hr.1]
theorem sign_loop (v : Int) (c : Nat) (h : 1 ≤ c) (h' : c ≤ 64) (hv : -9223372036854775808 ≤ v) (hv' : v ≤ 9223372036854775807) :
    ∀ k : Nat, k ≤ 64 → spec_l01Sign.l11010 v c (signV v c / 2 ^ k % 2 ^ (64 - k)) ((k : Int) - 1) = some (signV v c) := by
  have hr := signV_range v c h
  have hp := pow63 (c - 1) (by omega)
  intro k
  induction k with
  | zero =>
    intro _
    rw [spec_l01Sign.l11010_eq, show decide (((0 : Nat) : Int) - 1 ≥ 0) = false by rfl]
    simp only [cond_false, Int.pow_zero, Int.ediv_one]
    congr 1
    rw [show (2 : Int) ^ (64 - 0) = 18446744073709551616 by rfl, Int.emod_def]
    exact wrap_unique (-(signV v c / 18446744073709551616)) (by omega) (by omega) (by omega)
  | succ k ih =>
    intro hk
    have ih := ih (by omega)
    have hs : (((k + 1 : Nat) : Int) - 1) = (k : Int) := by omega
    have hmin : (if IntKind.wrap .i64 ((c : Int) - 1) < (k : Int) then IntKind.wrap .i64 ((c : Int) - 1) else (k : Int)) = ((min k (c - 1) : Nat) : Int) := by
      rw [w64 (n := (c : Int) - 1) (by omega) (by omega)]; split <;> omega
    rw [hs, spec_l01Sign.l11010_eq, show decide ((k : Int) ≥ 0) = true by simp, hmin, bit_val v _ hv hv' (by omega) (by omega), w64 (n := (k : Int) - 1) (by omega) (by omega)]
    simp only [cond_true, Option.bind_some, Int.toNat_natCast]
    rw [← sign_bit v c k h]
    have hst := bit_step (signV v c) k
    have e : (2 : Int) ^ (64 - k) = 2 * 2 ^ (64 - (k + 1)) := by
      have := pow_half (64 - k) (by omega); rw [this, show 64 - k - 1 = 64 - (k + 1) by omega]
    have hq : (0 : Int) < 2 ^ (64 - (k + 1)) := Int.pow_pos (by decide)
    have hq' := pow63 (64 - (k + 1)) (by omega)
    generalize signV v c / 2 ^ (k + 1) = z at *
    generalize signV v c / 2 ^ k = y at *
    rw [e] at ih
    have z1 := Int.emod_nonneg z (show (2 : Int) ^ (64 - (k + 1)) ≠ 0 by omega)
    have z2 := Int.emod_lt_of_pos z hq
    have ey : 2 * (z % 2 ^ (64 - (k + 1))) + y % 2 = y % (2 * 2 ^ (64 - (k + 1))) := by
      rw [Int.emod_def z, Int.emod_def y (2 * _), ← Int.ediv_ediv_of_nonneg (by decide), show y / 2 = z by omega, Int.mul_assoc]; omega
    rw [wu64 (n := 2 * _) (by omega) (by omega), wu64 (n := y % 2) (by omega) (by omega), wu64 (n := 2 * _ + y % 2) (by omega) (by omega), ey, ih]
theorem sign_val (v count : Int) (h : 1 ≤ count) (h' : count ≤ 64) (hv : -9223372036854775808 ≤ v) (hv' : v ≤ 9223372036854775807) : spec_l01Sign v count = some (signV v count.toNat) := by
  obtain ⟨c, rfl⟩ := Int.eq_ofNat_of_zero_le (show 0 ≤ count by omega)
  have := sign_loop v c (by omega) (by omega) hv hv' 64 (by omega)
  rw [show (64 - 64 : Nat) = 0 by rfl, Int.pow_zero, Int.emod_one] at this
  rw [spec_l01Sign_eq, Int.toNat_natCast]
  exact this
def shpL : List (Int × Int × Int × Int) := [(0, 0, 0, 0), (1, 55, 0, 0), (1, 23, 0, 0), (2, 111, 0, 0), (3, 103, 0, 0), (4, 99, 0, 0), (4, 99, 1, 0), (4, 99, 4, 0), (4, 99, 5, 0), (4, 99, 6, 0), (4, 99, 7, 0), (3, 3, 0, 0), (3, 3, 1, 0), (3, 3, 2, 0), (3, 3, 3, 0), (3, 3, 4, 0), (3, 3, 5, 0), (3, 3, 6, 0), (5, 35, 0, 0), (5, 35, 1, 0), (5, 35, 2, 0), (5, 35, 3, 0), (3, 19, 0, 0), (3, 19, 2, 0), (3, 19, 3, 0), (3, 19, 4, 0), (3, 19, 6, 0), (3, 19, 7, 0), (6, 19, 1, 0), (6, 19, 5, 0), (6, 19, 5, 32), (8, 51, 0, 0), (8, 51, 0, 32), (8, 51, 1, 0), (8, 51, 2, 0), (8, 51, 3, 0), (8, 51, 4, 0), (8, 51, 5, 0), (8, 51, 5, 32), (8, 51, 6, 0), (8, 51, 7, 0), (3, 27, 0, 0), (7, 27, 1, 0), (7, 27, 5, 0), (7, 27, 5, 32), (8, 59, 0, 0), (8, 59, 0, 32), (8, 59, 1, 0), (8, 59, 5, 0), (8, 59, 5, 32), (8, 51, 0, 1), (8, 51, 1, 1), (8, 51, 2, 1), (8, 51, 3, 1), (8, 51, 4, 1), (8, 51, 5, 1), (8, 51, 6, 1), (8, 51, 7, 1), (8, 59, 0, 1), (8, 59, 4, 1), (8, 59, 5, 1), (8, 59, 6, 1), (8, 59, 7, 1), (9, 115, 0, 0), (9, 115, 0, 1)]
def shp (n : Int) : Int × Int × Int × Int := shpL.getD n.toNat (0, 0, 0, 0)
theorem fin65 {n : Int} (h : 0 ≤ n) (h' : n ≤ 64) : ∃ k : Fin 65, n = (k.val : Int) := ⟨⟨n.toNat, by omega⟩, by simp; omega⟩
theorem impl_shape (n : Int) (h : 0 ≤ n) (h' : n ≤ 64) : impl_shapeOf n = some (shp n) := by
  rw [impl_shapeOf_eq, impl_ops_eq]
  simp only [Option.bind_some]
  obtain ⟨k, rfl⟩ := fin65 h h'
  clear h h'; revert k
  decide +kernel
theorem spec_shape (n : Int) (h : 0 ≤ n) (h' : n ≤ 64) : spec_l02Shape n = some (shp n) := by
  rw [spec_l02Shape_eq]
  obtain ⟨k, rfl⟩ := fin65 h h'
  clear h h'; revert k
  decide +kernel
/-- What shapes are: the form, the code, both others. -/
def ShpOK (s : Int × Int × Int × Int) : Bool := decide (1 ≤ s.1) && decide (s.1 ≤ 9) && decide (0 ≤ s.2.1) && decide (s.2.1 < 128) && decide (0 ≤ s.2.2.1) && decide (s.2.2.1 < 8) && decide (0 ≤ s.2.2.2) && decide (s.2.2.2 < 64) && (!decide (s.1 = 6) || decide (s.2.2.2 % 2 = 0)) && (!decide (s.1 = 9) || (decide (s.2.2.2 < 2) && decide (s.2.2.1 = 0)))
theorem shp_ok (n : Int) (h : 1 ≤ n) (h' : n ≤ 64) : ShpOK (shp n) = true := by
  obtain ⟨k, rfl⟩ := fin65 (show 0 ≤ n by omega) h'
  clear h'; revert k
  decide +kernel
theorem or_7_1 {x y : Int} (hx : 0 ≤ x) (hx' : x < 4611686018427387904) (hy : 0 ≤ y) (hy' : y < 2) (h : x / 128 % 2 = 0) : orI .i64 x (y * 128) = x + y * 128 := or_field 7 1 rfl rfl (by decide) hx hx' hy hy' h
theorem or_7_5 {x y : Int} (hx : 0 ≤ x) (hx' : x < 4611686018427387904) (hy : 0 ≤ y) (hy' : y < 32) (h : x / 128 % 32 = 0) : orI .i64 x (y * 128) = x + y * 128 := or_field 7 5 rfl rfl (by decide) hx hx' hy hy' h
theorem or_8_4 {x y : Int} (hx : 0 ≤ x) (hx' : x < 4611686018427387904) (hy : 0 ≤ y) (hy' : y < 16) (h : x / 256 % 16 = 0) : orI .i64 x (y * 256) = x + y * 256 := or_field 8 4 rfl rfl (by decide) hx hx' hy hy' h
theorem or_12_3 {x y : Int} (hx : 0 ≤ x) (hx' : x < 4611686018427387904) (hy : 0 ≤ y) (hy' : y < 8) (h : x / 4096 % 8 = 0) : orI .i64 x (y * 4096) = x + y * 4096 := or_field 12 3 rfl rfl (by decide) hx hx' hy hy' h
theorem or_12_8 {x y : Int} (hx : 0 ≤ x) (hx' : x < 4611686018427387904) (hy : 0 ≤ y) (hy' : y < 256) (h : x / 4096 % 256 = 0) : orI .i64 x (y * 4096) = x + y * 4096 := or_field 12 8 rfl rfl (by decide) hx hx' hy hy' h
theorem or_12_20 {x y : Int} (hx : 0 ≤ x) (hx' : x < 4611686018427387904) (hy : 0 ≤ y) (hy' : y < 1048576) (h : x / 4096 % 1048576 = 0) : orI .i64 x (y * 4096) = x + y * 4096 := or_field 12 20 rfl rfl (by decide) hx hx' hy hy' h
theorem or_20_1 {x y : Int} (hx : 0 ≤ x) (hx' : x < 4611686018427387904) (hy : 0 ≤ y) (hy' : y < 2) (h : x / 1048576 % 2 = 0) : orI .i64 x (y * 1048576) = x + y * 1048576 := or_field 20 1 rfl rfl (by decide) hx hx' hy hy' h
theorem or_20_5 {x y : Int} (hx : 0 ≤ x) (hx' : x < 4611686018427387904) (hy : 0 ≤ y) (hy' : y < 32) (h : x / 1048576 % 32 = 0) : orI .i64 x (y * 1048576) = x + y * 1048576 := or_field 20 5 rfl rfl (by decide) hx hx' hy hy' h
theorem or_20_6 {x y : Int} (hx : 0 ≤ x) (hx' : x < 4611686018427387904) (hy : 0 ≤ y) (hy' : y < 64) (h : x / 1048576 % 64 = 0) : orI .i64 x (y * 1048576) = x + y * 1048576 := or_field 20 6 rfl rfl (by decide) hx hx' hy hy' h
theorem or_20_12 {x y : Int} (hx : 0 ≤ x) (hx' : x < 4611686018427387904) (hy : 0 ≤ y) (hy' : y < 4096) (h : x / 1048576 % 4096 = 0) : orI .i64 x (y * 1048576) = x + y * 1048576 := or_field 20 12 rfl rfl (by decide) hx hx' hy hy' h
theorem or_21_10 {x y : Int} (hx : 0 ≤ x) (hx' : x < 4611686018427387904) (hy : 0 ≤ y) (hy' : y < 1024) (h : x / 2097152 % 1024 = 0) : orI .i64 x (y * 2097152) = x + y * 2097152 := or_field 21 10 rfl rfl (by decide) hx hx' hy hy' h
theorem or_25_6 {x y : Int} (hx : 0 ≤ x) (hx' : x < 4611686018427387904) (hy : 0 ≤ y) (hy' : y < 64) (h : x / 33554432 % 64 = 0) : orI .i64 x (y * 33554432) = x + y * 33554432 := or_field 25 6 rfl rfl (by decide) hx hx' hy hy' h
theorem or_25_7 {x y : Int} (hx : 0 ≤ x) (hx' : x < 4611686018427387904) (hy : 0 ≤ y) (hy' : y < 128) (h : x / 33554432 % 128 = 0) : orI .i64 x (y * 33554432) = x + y * 33554432 := or_field 25 7 rfl rfl (by decide) hx hx' hy hy' h
theorem or_26_6 {x y : Int} (hx : 0 ≤ x) (hx' : x < 4611686018427387904) (hy : 0 ≤ y) (hy' : y < 64) (h : x / 67108864 % 64 = 0) : orI .i64 x (y * 67108864) = x + y * 67108864 := or_field 26 6 rfl rfl (by decide) hx hx' hy hy' h
theorem or_31_1 {x y : Int} (hx : 0 ≤ x) (hx' : x < 4611686018427387904) (hy : 0 ≤ y) (hy' : y < 2) (h : x / 2147483648 % 2 = 0) : orI .i64 x (y * 2147483648) = x + y * 2147483648 := or_field 31 1 rfl rfl (by decide) hx hx' hy hy' h
theorem or_1_4 {x y : Int} (hx : 0 ≤ x) (hx' : x < 4611686018427387904) (hy : 0 ≤ y) (hy' : y < 16) (h : x / 2 % 16 = 0) : orI .i64 x (y * 2) = x + y * 2 := or_field 1 4 rfl rfl (by decide) hx hx' hy hy' h
theorem or_1_10 {x y : Int} (hx : 0 ≤ x) (hx' : x < 4611686018427387904) (hy : 0 ≤ y) (hy' : y < 1024) (h : x / 2 % 1024 = 0) : orI .i64 x (y * 2) = x + y * 2 := or_field 1 10 rfl rfl (by decide) hx hx' hy hy' h
theorem or_5_6 {x y : Int} (hx : 0 ≤ x) (hx' : x < 4611686018427387904) (hy : 0 ≤ y) (hy' : y < 64) (h : x / 32 % 64 = 0) : orI .i64 x (y * 32) = x + y * 32 := or_field 5 6 rfl rfl (by decide) hx hx' hy hy' h
theorem or_5_7 {x y : Int} (hx : 0 ≤ x) (hx' : x < 4611686018427387904) (hy : 0 ≤ y) (hy' : y < 128) (h : x / 32 % 128 = 0) : orI .i64 x (y * 32) = x + y * 32 := or_field 5 7 rfl rfl (by decide) hx hx' hy hy' h
theorem or_11_1 {x y : Int} (hx : 0 ≤ x) (hx' : x < 4611686018427387904) (hy : 0 ≤ y) (hy' : y < 2) (h : x / 2048 % 2 = 0) : orI .i64 x (y * 2048) = x + y * 2048 := or_field 11 1 rfl rfl (by decide) hx hx' hy hy' h
theorem or_12_1 {x y : Int} (hx : 0 ≤ x) (hx' : x < 4611686018427387904) (hy : 0 ≤ y) (hy' : y < 2) (h : x / 4096 % 2 = 0) : orI .i64 x (y * 4096) = x + y * 4096 := or_field 12 1 rfl rfl (by decide) hx hx' hy hy' h
theorem or_rs {w a b : Int} (hw : 0 ≤ w) (hw' : w < 4611686018427387904) (ha : 0 ≤ a) (ha' : a < 32) (hb : 0 ≤ b) (hb' : b < 8) (h : w / 4096 % 256 = 0) : orI .i64 w (a * 32768 + b * 4096) = w + (a * 32768 + b * 4096) := by
  have := or_field (x := w) (y := a * 8 + b) (P := 4096) (Q := 256) 12 8 rfl rfl (by decide) hw hw' (by omega) (by omega) h
  rw [show a * 32768 + b * 4096 = (a * 8 + b) * 4096 by omega]; exact this
/-- The word of an instruction. -/
def encV (s : Int × Int × Int × Int) (x : Int × Int × Int × Int × Int) : Int :=
  if s.1 = 1 then s.2.1 + x.2.1 * 128 + x.2.2.2.2 / 4096 % 1048576 * 4096
  else if s.1 = 2 then s.2.1 + x.2.1 * 128 + x.2.2.2.2 / 4096 % 256 * 4096 + x.2.2.2.2 / 2048 % 2 * 1048576 + x.2.2.2.2 / 2 % 1024 * 2097152 + x.2.2.2.2 / 1048576 % 2 * 2147483648
  else if s.1 = 3 then s.2.1 + x.2.1 * 128 + s.2.2.1 * 4096 + x.2.2.1 * 32768 + x.2.2.2.2 % 4096 * 1048576
  else if s.1 = 4 then s.2.1 + x.2.2.2.2 / 2048 % 2 * 128 + x.2.2.2.2 / 2 % 16 * 256 + s.2.2.1 * 4096 + x.2.2.1 * 32768 + x.2.2.2.1 * 1048576 + x.2.2.2.2 / 32 % 64 * 33554432 + x.2.2.2.2 / 4096 % 2 * 2147483648
  else if s.1 = 5 then s.2.1 + x.2.2.2.2 % 32 * 128 + s.2.2.1 * 4096 + x.2.2.1 * 32768 + x.2.2.2.1 * 1048576 + x.2.2.2.2 / 32 % 128 * 33554432
  else if s.1 = 6 then s.2.1 + x.2.1 * 128 + s.2.2.1 * 4096 + x.2.2.1 * 32768 + x.2.2.2.2 % 64 * 1048576 + s.2.2.2 / 2 * 67108864
  else if s.1 = 7 then s.2.1 + x.2.1 * 128 + s.2.2.1 * 4096 + x.2.2.1 * 32768 + x.2.2.2.2 % 32 * 1048576 + s.2.2.2 * 33554432
  else if s.1 = 8 then s.2.1 + x.2.1 * 128 + s.2.2.1 * 4096 + x.2.2.1 * 32768 + x.2.2.2.1 * 1048576 + s.2.2.2 * 33554432
  else s.2.1 + s.2.2.2 * 1048576
structure RegsOK (x : Int × Int × Int × Int × Int) : Prop where
  d : 0 ≤ x.2.1 ∧ x.2.1 ≤ 31
  a : 0 ≤ x.2.2.1 ∧ x.2.2.1 ≤ 31
  b : 0 ≤ x.2.2.2.1 ∧ x.2.2.2.1 ≤ 31
  i : -9223372036854775808 ≤ x.2.2.2.2 ∧ x.2.2.2.2 ≤ 9223372036854775807
theorem shp_facts {f c f3 f7 : Int} (h : ShpOK (f, c, f3, f7) = true) : (1 ≤ f ∧ f ≤ 9) ∧ (0 ≤ c ∧ c < 128) ∧ (0 ≤ f3 ∧ f3 < 8) ∧ (0 ≤ f7 ∧ f7 < 64) ∧ (f = 6 → f7 % 2 = 0) ∧ (f = 9 → f7 < 2 ∧ f3 = 0) := by
  simp only [ShpOK, Bool.and_eq_true, Bool.or_eq_true, Bool.not_eq_true', decide_eq_true_eq, decide_eq_false_iff_not] at h
  omega
theorem forms {f : Int} (h : 1 ≤ f ∧ f ≤ 9) : f = 1 ∨ f = 2 ∨ f = 3 ∨ f = 4 ∨ f = 5 ∨ f = 6 ∨ f = 7 ∨ f = 8 ∨ f = 9 := by omega
theorem inL_nat (j n : Nat) : inL (j : Int) n = decide (j < n) := by
  unfold inL; rw [show decide (0 ≤ (j : Int)) = true by simp, Bool.true_and]; congr 1; simp
theorem rd_nat {τ : Ty} (xs : List τ.den) (j : Nat) (h : j < xs.length) : rd (τ := τ) xs (j : Int) = xs[j] := by
  unfold rd; rw [Int.toNat_natCast, List.getD_eq_getElem?_getD, List.getElem?_eq_getElem h]; rfl
theorem w64_succ (j n : Nat) (h : j < n) (h' : n ≤ 9223372036854775807) : IntKind.wrap .i64 ((j : Int) + 1) = ((j + 1 : Nat) : Int) := by
  rw [w64 (by omega) (by omega)]; omega
theorem lt_nat (j n : Nat) : decide ((j : Int) < (n : Int)) = decide (j < n) := by congr 1; simp
def putP (imm : Int) (w : Int) (p : Int × Int × Int) : Int := orI .i64 w (shlI .i64 (imm / 2 ^ p.1.toNat % 2 ^ p.2.1.toNat) p.2.2)
def PiecesOK (ps : List (Int × Int × Int)) : Prop := ps.length ≤ 4 ∧ ∀ p ∈ ps, 0 ≤ p.1 ∧ p.1 ≤ 62 ∧ 0 ≤ p.2.1 ∧ p.2.1 ≤ 62 ∧ 0 ≤ p.2.2 ∧ p.2.2 ≤ 62
theorem enc_loop (x : Int × Int × Int × Int × Int) (s : Int × Int × Int × Int) (ps : List (Int × Int × Int)) (hp : PiecesOK ps) :
    ∀ (k j : Nat) (w : Int), j + k = ps.length → impl_encode.l111010 x s w ps (ps.length : Int) (j : Int) = impl_encode.l111010 x s ((ps.drop j).foldl (putP x.2.2.2.2) w) ps (ps.length : Int) (ps.length : Int) := by
  intro k
  induction k with
  | zero => intro j w h; have : j = ps.length := by omega
            subst this; simp
  | succ k ih =>
    intro j w h
    have hj : j < ps.length := by omega
    obtain ⟨p1, p2, p3, p4, p5, p6⟩ := hp.2 ps[j] (List.getElem_mem hj)
    have e := rd_nat (τ := .pair (.int .i64) (.pair (.int .i64) (.int .i64))) ps j hj
    rw [impl_encode.l111010_eq, lt_nat, inL_nat, e, w64_succ j ps.length hj (by have := hp.1; omega)]
    simp only [decide_eq_true hj, cond_true]
    rw [bitsOf_val _ _ _ (by omega) (by omega) (by omega) (by omega)]
    simp only [Option.bind_some]
    rw [show decide (ps[j].2.2 < 0) = false by simp; omega]
    simp only [cond_false]
    rw [ih (j + 1) _ (by omega), List.drop_eq_getElem_cons hj, List.foldl_cons]
    rfl
def piecesV (f : Int) : List (Int × Int × Int) :=
  if f = 1 then [(12, 20, 12)] else if f = 2 then [(12, 8, 12), (11, 1, 20), (1, 10, 21), (20, 1, 31)] else if f = 3 then [(0, 12, 20)] else if f = 4 then [(11, 1, 7), (1, 4, 8), (5, 6, 25), (12, 1, 31)]
  else if f = 5 then [(0, 5, 7), (5, 7, 25)] else if f = 6 then [(0, 6, 20)] else if f = 7 then [(0, 5, 20)] else []
theorem pieces_val {f : Int} (h : 1 ≤ f ∧ f ≤ 9) : impl_pieces f = some (piecesV f) ∧ PiecesOK (piecesV f) := by
  rw [impl_pieces_eq]
  rcases forms h with rfl | rfl | rfl | rfl | rfl | rfl | rfl | rfl | rfl <;> exact ⟨rfl, by unfold PiecesOK; decide⟩
theorem shl_val {y : Int} (k : Nat) (P : Int) (hP : P = 2 ^ k) (hk : k ≤ 62) (h0 : 0 ≤ y) (h : y * P ≤ 9223372036854775807) : shlI .i64 y (k : Int) = y * P := by
  rw [shl_mul (by omega) (by omega), Int.toNat_natCast, ← hP]
  have : 0 ≤ y * P := Int.mul_nonneg h0 (by rw [hP]; exact Int.le_of_lt (Int.pow_pos (by decide)))
  exact w64 (by omega) (by omega)
theorem shl_7 {y : Int} (h0 : 0 ≤ y) (h : y ≤ 2147483647) : shlI .i64 y 7 = y * 128 := shl_val 7 128 rfl (by decide) h0 (by omega)
theorem shl_8 {y : Int} (h0 : 0 ≤ y) (h : y ≤ 2147483647) : shlI .i64 y 8 = y * 256 := shl_val 8 256 rfl (by decide) h0 (by omega)
theorem shl_12 {y : Int} (h0 : 0 ≤ y) (h : y ≤ 2147483647) : shlI .i64 y 12 = y * 4096 := shl_val 12 4096 rfl (by decide) h0 (by omega)
theorem shl_15 {y : Int} (h0 : 0 ≤ y) (h : y ≤ 2147483647) : shlI .i64 y 15 = y * 32768 := shl_val 15 32768 rfl (by decide) h0 (by omega)
theorem shl_20 {y : Int} (h0 : 0 ≤ y) (h : y ≤ 2147483647) : shlI .i64 y 20 = y * 1048576 := shl_val 20 1048576 rfl (by decide) h0 (by omega)
theorem shl_21 {y : Int} (h0 : 0 ≤ y) (h : y ≤ 2147483647) : shlI .i64 y 21 = y * 2097152 := shl_val 21 2097152 rfl (by decide) h0 (by omega)
theorem shl_25 {y : Int} (h0 : 0 ≤ y) (h : y ≤ 2147483647) : shlI .i64 y 25 = y * 33554432 := shl_val 25 33554432 rfl (by decide) h0 (by omega)
theorem shl_26 {y : Int} (h0 : 0 ≤ y) (h : y ≤ 2147483647) : shlI .i64 y 26 = y * 67108864 := shl_val 26 67108864 rfl (by decide) h0 (by omega)
theorem shl_31 {y : Int} (h0 : 0 ≤ y) (h : y ≤ 2147483647) : shlI .i64 y 31 = y * 2147483648 := shl_val 31 2147483648 rfl (by decide) h0 (by omega)
theorem shr_one {x : Int} : shrI .i64 x 1 = x / 2 := by rw [shr_div (by decide) (by decide)]; rfl
def fieldsV (f : Int) : Bool × Bool × Bool :=
  if f = 1 ∨ f = 2 then (true, false, false) else if f = 3 ∨ f = 6 ∨ f = 7 then (true, true, false) else if f = 4 ∨ f = 5 then (false, true, true) else if f = 8 then (true, true, true) else (false, false, false)
theorem fields_val {f : Int} (h : 1 ≤ f ∧ f ≤ 9) : impl_fields f = some (fieldsV f) := by
  rw [impl_fields_eq]
  rcases forms h with rfl | rfl | rfl | rfl | rfl | rfl | rfl | rfl | rfl <;> rfl
theorem impl_encode_val (x : Int × Int × Int × Int × Int) (h : 1 ≤ x.1) (h' : x.1 ≤ 64) (hr : RegsOK x) : impl_encode x = some (encV (shp x.1) x) := by
  rw [impl_encode_eq, impl_shape _ (by omega) h']
  have hs := shp_ok x.1 h h'
  generalize shp x.1 = s at *
  obtain ⟨n, rd', rs1, rs2, imm⟩ := x
  obtain ⟨f, c, f3, f7⟩ := s
  obtain ⟨⟨d1, d2⟩, ⟨a1, a2⟩, ⟨b1, b2⟩, ⟨i1, i2⟩⟩ := hr
  obtain ⟨s1, ⟨s2, s2'⟩, ⟨s3, s3'⟩, ⟨s4, s4'⟩, s5, s6⟩ := shp_facts hs
  clear hs
  dsimp only at *
  obtain ⟨hp, hpo⟩ := pieces_val s1
  have hf := fields_val s1
  simp only [Option.bind_some, hp]
  rw [show (0 : Int) = ((0 : Nat) : Int) by rfl, enc_loop _ _ _ hpo (piecesV f).length 0 _ (by omega), impl_encode.l111010_eq, lt_nat]
  simp only [Nat.lt_irrefl, decide_false, cond_false, hf, List.drop_zero, Option.bind_some, joinB]
  clear hp hpo hf
  rcases forms s1 with rfl | rfl | rfl | rfl | rfl | rfl | rfl | rfl | rfl
  · simp [piecesV, fieldsV, putP, encV]
    have hb0 : 0 ≤ imm / 4096 % 1048576 ∧ imm / 4096 % 1048576 < 1048576 := by omega
    generalize imm / 4096 % 1048576 = y0 at *
    simp (disch := omega) only [shl_12, shl_7, or_12_20, or_7_5]
    try omega
  · simp [piecesV, fieldsV, putP, encV]
    have hb0 : 0 ≤ imm / 4096 % 256 ∧ imm / 4096 % 256 < 256 := by omega
    generalize imm / 4096 % 256 = y0 at *
    have hb1 : 0 ≤ imm / 2048 % 2 ∧ imm / 2048 % 2 < 2 := by omega
    generalize imm / 2048 % 2 = y1 at *
    have hb2 : 0 ≤ imm / 2 % 1024 ∧ imm / 2 % 1024 < 1024 := by omega
    generalize imm / 2 % 1024 = y2 at *
    have hb3 : 0 ≤ imm / 1048576 % 2 ∧ imm / 1048576 % 2 < 2 := by omega
    generalize imm / 1048576 % 2 = y3 at *
    simp (disch := omega) only [shl_12, shl_20, shl_21, shl_31, shl_7, or_12_8, or_20_1, or_21_10, or_31_1, or_7_5]
    try omega
  · simp [piecesV, fieldsV, putP, encV]
    have hb0 : 0 ≤ imm % 4096 ∧ imm % 4096 < 4096 := by omega
    generalize imm % 4096 = y0 at *
    simp (disch := omega) only [shl_20, shl_7, shl_15, shl_12, or_20_12, or_7_5, or_12_3, or_rs]
    try omega
  · simp [piecesV, fieldsV, putP, encV]
    have hb0 : 0 ≤ imm / 2048 % 2 ∧ imm / 2048 % 2 < 2 := by omega
    generalize imm / 2048 % 2 = y0 at *
    have hb1 : 0 ≤ imm / 2 % 16 ∧ imm / 2 % 16 < 16 := by omega
    generalize imm / 2 % 16 = y1 at *
    have hb2 : 0 ≤ imm / 32 % 64 ∧ imm / 32 % 64 < 64 := by omega
    generalize imm / 32 % 64 = y2 at *
    have hb3 : 0 ≤ imm / 4096 % 2 ∧ imm / 4096 % 2 < 2 := by omega
    generalize imm / 4096 % 2 = y3 at *
    simp (disch := omega) only [shl_7, shl_8, shl_25, shl_31, shl_15, shl_12, shl_20, or_7_1, or_8_4, or_25_6, or_31_1, or_12_3, or_rs, or_20_5]
    try omega
  · simp [piecesV, fieldsV, putP, encV]
    have hb0 : 0 ≤ imm % 32 ∧ imm % 32 < 32 := by omega
    generalize imm % 32 = y0 at *
    have hb1 : 0 ≤ imm / 32 % 128 ∧ imm / 32 % 128 < 128 := by omega
    generalize imm / 32 % 128 = y1 at *
    simp (disch := omega) only [shl_7, shl_25, shl_15, shl_12, shl_20, or_7_5, or_25_7, or_12_3, or_rs, or_20_5]
    try omega
  · simp [piecesV, fieldsV, putP, encV, shr_one]
    have hb0 : 0 ≤ imm % 64 ∧ imm % 64 < 64 := by omega
    generalize imm % 64 = y0 at *
    have hs : 0 ≤ f7 / 2 ∧ f7 / 2 < 64 := by omega
    generalize f7 / 2 = z at *
    simp (disch := omega) only [shl_20, shl_7, shl_15, shl_12, shl_26, or_20_6, or_7_5, or_12_3, or_rs, or_26_6]
    try omega
  · simp [piecesV, fieldsV, putP, encV]
    have hb0 : 0 ≤ imm % 32 ∧ imm % 32 < 32 := by omega
    generalize imm % 32 = y0 at *
    simp (disch := omega) only [shl_20, shl_7, shl_15, shl_12, shl_25, or_20_5, or_7_5, or_12_3, or_rs, or_25_7]
    try omega
  · simp [piecesV, fieldsV, encV]
    simp (disch := omega) only [shl_7, shl_15, shl_12, shl_20, shl_25, or_7_5, or_12_3, or_rs, or_20_5, or_25_7]
    try omega
  · simp [piecesV, fieldsV, encV]
    simp (disch := omega) only [shl_20, or_20_1]
    try omega
theorem bits_ext {a b : Int} (ha : 0 ≤ a ∧ a < 4294967296) (hb : 0 ≤ b ∧ b < 4294967296) (h : ∀ i : Nat, i < 32 → a / 2 ^ i % 2 = b / 2 ^ i % 2) : a = b := by
  have : ∀ k : Nat, k ≤ 32 → a / 2 ^ (32 - k) = b / 2 ^ (32 - k) := by
    intro k
    induction k with
    | zero => intro _; rw [show (2 : Int) ^ (32 - 0) = 4294967296 by rfl]; omega
    | succ k ih =>
      intro hk
      have ih := ih (by omega)
      have h1 := h (32 - (k + 1)) (by omega)
      have e : 32 - k = 32 - (k + 1) + 1 := by omega
      rw [e] at ih
      have ea := bit_step a (32 - (k + 1))
      have eb := bit_step b (32 - (k + 1))
      omega
  have := this 32 (by omega)
  simpa using this
theorem putV_more (w low v : Int) (c : Nat) (h : 0 ≤ low) (hlc : low + c + 1 ≤ 32) (hw : 0 ≤ w) (hw' : w < 4294967296) : putV (putV w low c v) (low + c) 1 (v / 2 ^ c % 2) = putV w low ((c + 1 : Nat) : Int) v := by
  have r1 := putV_range w low c v h (by omega) (by omega) hw hw'
  apply bits_ext (putV_range _ _ _ _ (by omega) (by omega) (by omega) r1.1 r1.2) (putV_range _ _ _ _ h (by omega) (by omega) hw hw')
  intro i hi
  rw [putV_bit _ _ _ _ (by omega) (by omega), putV_bit _ _ _ _ h (by omega), putV_bit _ _ _ _ h (by omega)]
  by_cases h1 : low + c ≤ (i : Int) ∧ (i : Int) < low + c + 1
  · rw [if_pos h1, if_pos (by omega), show i - (low + (c : Int)).toNat = 0 by omega, show i - low.toNat = c by omega, Int.pow_zero, Int.ediv_one]; omega
  · rw [if_neg h1]
    by_cases h2 : low ≤ (i : Int) ∧ (i : Int) < low + c
    · rw [if_pos h2, if_pos (by omega)]
    · rw [if_neg h2, if_neg (by omega)]
theorem putV_zero (w low v : Int) (h : 0 ≤ low) (hl : low ≤ 31) (hw : 0 ≤ w) (hw' : w < 4294967296) : putV w low 0 v = w := by
  apply bits_ext (putV_range _ _ _ _ h (by omega) (by omega) hw hw') ⟨hw, hw'⟩
  intro i hi
  rw [putV_bit _ _ _ _ h (by omega), if_neg (by omega)]
theorem putV_empty {w v : Int} (k c : Nat) (P Q : Int) (hP : P = 2 ^ k) (hQ : Q = 2 ^ c) (h : w / P % Q = 0) : putV w (k : Int) (c : Int) v = w + v % Q * P := by
  subst hP hQ
  simp only [putV, Int.toNat_natCast]
  have hk : (0 : Int) < 2 ^ k := Int.pow_pos (by decide)
  have hc : (0 : Int) < 2 ^ c := Int.pow_pos (by decide)
  have e1 := Int.emod_add_mul_ediv w (2 ^ k)
  have e2 := Int.emod_add_mul_ediv (w / 2 ^ k) (2 ^ c)
  rw [h, Int.zero_add, Int.ediv_ediv_of_nonneg (by omega), ← Int.pow_add] at e2
  rw [e2, Int.mul_add]
  rw [Int.mul_comm (v % 2 ^ c)]
  omega
theorem jump_step (x : Int × Int × Int × Int × Int) (hx : -9223372036854775808 ≤ x.2.2.2.2) (hx' : x.2.2.2.2 ≤ 9223372036854775807) (w : Int) (hw : 0 ≤ w) (hw' : w < 4294967296) (i : Nat) (h : 1 ≤ i) (h' : i ≤ 20) :
    spec_l02Encode.l1110101110110 x w (i : Int) = spec_l02Encode.l1110101110110 x (putV w (if i = 20 then 31 else if 11 < i then i else if 10 < i then 9 + i else 20 + i : Nat) 1 (x.2.2.2.2 / 2 ^ i % 2)) ((i + 1 : Nat) : Int) := by
  rw [spec_l02Encode.l1110101110110_eq, show decide ((i : Int) < 21) = true by simp; omega, bit_val _ _ hx hx' (by omega) (by omega), w64 (n := 9 + (i : Int)) (by omega) (by omega), w64 (n := 20 + (i : Int)) (by omega) (by omega), w64 (n := (i : Int) + 1) (by omega) (by omega)]
  simp only [joinB, cond_true, Int.toNat_natCast, Option.bind_some]
  have e0 : ((i + 1 : Nat) : Int) = (i : Int) + 1 := by omega
  rw [e0]
  by_cases h1 : i = 20
  · subst h1; rw [show decide (((20 : Nat) : Int) = 20) = true by rfl, put_val _ _ _ _ (by omega) (by omega) (by omega) hw hw' (by omega) (by omega)]; rfl
  · by_cases h2 : 11 < i
    · rw [show decide ((i : Int) = 20) = false by simp; omega, show decide ((i : Int) > 11) = true by simp; omega, show decide ((i : Int) > 10) = true by simp; omega, if_neg h1, if_pos h2]
      simp only [cond_true, cond_false]
      rw [put_val _ _ _ _ (by omega) (by omega) (by omega) hw hw' (by omega) (by omega)]; rfl
    · by_cases h3 : 10 < i
      · rw [show decide ((i : Int) = 20) = false by simp; omega, show decide ((i : Int) > 11) = false by simp; omega, show decide ((i : Int) > 10) = true by simp; omega, if_neg h1, if_neg h2, if_pos h3]
        simp only [cond_true, cond_false]
        rw [put_val _ _ _ _ (by omega) (by omega) (by omega) hw hw' (by omega) (by omega), show ((9 + i : Nat) : Int) = 9 + (i : Int) by omega]; rfl
      · rw [show decide ((i : Int) = 20) = false by simp; omega, show decide ((i : Int) > 11) = false by simp; omega, show decide ((i : Int) > 10) = false by simp; omega, if_neg h1, if_neg h2, if_neg h3]
        simp only [cond_false]
        rw [put_val _ _ _ _ (by omega) (by omega) (by omega) hw hw' (by omega) (by omega), show ((20 + i : Nat) : Int) = 20 + (i : Int) by omega]; rfl
theorem bits_run (L : Int → Nat → Option Int) (v : Int) (pl : Nat → Nat) (lo hi : Nat) (step : ∀ (w : Int) (i : Nat), 0 ≤ w → w < 4294967296 → lo ≤ i → i < hi → L w i = L (putV w (pl i : Nat) 1 (v / 2 ^ i % 2)) (i + 1))
    (a p : Nat) (ha : lo ≤ a) (w : Int) (hw : 0 ≤ w) (hw' : w < 4294967296) (n : Nat) (hn : a + n ≤ hi) (hp1 : p ≤ 31) (hpn : p + n ≤ 32) (hp : ∀ c : Nat, c < n → pl (a + c) = p + c) :
    ∀ c : Nat, c ≤ n → L w a = L (putV w (p : Int) (c : Int) (v / 2 ^ a)) (a + c) := by
  intro c
  induction c with
  | zero => intro _; rw [show ((0 : Nat) : Int) = 0 by rfl, putV_zero _ _ _ (by omega) (by omega) hw hw', Nat.add_zero]
  | succ c ih =>
    intro hc
    have r := putV_range w p c (v / 2 ^ a) (by omega) (by omega) (by omega) hw hw'
    rw [ih (by omega), step _ (a + c) r.1 r.2 (by omega) (by omega), hp c (by omega)]
    have e : v / 2 ^ (a + c) = v / 2 ^ a / 2 ^ c := by rw [Int.pow_add, Int.ediv_ediv_of_nonneg (Int.le_of_lt (Int.pow_pos (by decide)))]
    rw [e, show ((p + c : Nat) : Int) = (p : Int) + (c : Int) by omega, putV_more _ _ _ _ (by omega) (by omega) hw hw']
    rfl
def jumpPl (i : Nat) : Nat := if i = 20 then 31 else if 11 < i then i else if 10 < i then 9 + i else 20 + i
def branchPl (i : Nat) : Nat := if i = 12 then 31 else if i = 11 then 7 else if 4 < i then 20 + i else 7 + i
theorem jump_run (x : Int × Int × Int × Int × Int) (hx : -9223372036854775808 ≤ x.2.2.2.2) (hx' : x.2.2.2.2 ≤ 9223372036854775807) (w : Int) (hw : 0 ≤ w) (hw' : w < 4294967296) :
    spec_l02Encode.l1110101110110 x w 1 = some (putV (putV (putV (putV w 21 10 (x.2.2.2.2 / 2)) 20 1 (x.2.2.2.2 / 2048)) 12 8 (x.2.2.2.2 / 4096)) 31 1 (x.2.2.2.2 / 1048576)) := by
  have st := bits_run (fun w i => spec_l02Encode.l1110101110110 x w (i : Int)) x.2.2.2.2 jumpPl 1 21 (fun w i h1 h2 h3 h4 => jump_step x hx hx' w h1 h2 i h3 (by omega))
  have r1 := putV_range w 21 10 (x.2.2.2.2 / 2) (by decide) (by decide) (by decide) hw hw'
  have r2 := putV_range _ 20 1 (x.2.2.2.2 / 2048) (by decide) (by decide) (by decide) r1.1 r1.2
  have r3 := putV_range _ 12 8 (x.2.2.2.2 / 4096) (by decide) (by decide) (by decide) r2.1 r2.2
  refine (st 1 21 (by decide) w hw hw' 10 (by decide) (by decide) (by decide) (by decide) 10 (by decide)).trans ?_
  refine (st 11 20 (by decide) _ r1.1 r1.2 1 (by decide) (by decide) (by decide) (by decide) 1 (by decide)).trans ?_
  refine (st 12 12 (by decide) _ r2.1 r2.2 8 (by decide) (by decide) (by decide) (by decide) 8 (by decide)).trans ?_
  refine (st 20 31 (by decide) _ r3.1 r3.2 1 (by decide) (by decide) (by decide) (by decide) 1 (by decide)).trans ?_
  exact spec_l02Encode.l1110101110110_eq _ _ _
theorem branch_step (x : Int × Int × Int × Int × Int) (hx : -9223372036854775808 ≤ x.2.2.2.2) (hx' : x.2.2.2.2 ≤ 9223372036854775807) (w : Int) (hw : 0 ≤ w) (hw' : w < 4294967296) (i : Nat) (h : 1 ≤ i) (h' : i ≤ 12) :
    spec_l02Encode.l1110101111111011110 x w (i : Int) = spec_l02Encode.l1110101111111011110 x (putV w (branchPl i : Nat) 1 (x.2.2.2.2 / 2 ^ i % 2)) ((i + 1 : Nat) : Int) := by
  rw [spec_l02Encode.l1110101111111011110_eq, show decide ((i : Int) < 13) = true by simp; omega, bit_val _ _ hx hx' (by omega) (by omega), w64 (n := 7 + (i : Int)) (by omega) (by omega), w64 (n := 20 + (i : Int)) (by omega) (by omega), w64 (n := (i : Int) + 1) (by omega) (by omega)]
  simp only [joinB, cond_true, Int.toNat_natCast, Option.bind_some, branchPl]
  have e0 : ((i + 1 : Nat) : Int) = (i : Int) + 1 := by omega
  rw [e0]
  by_cases h1 : i = 12
  · subst h1; rw [show decide (((12 : Nat) : Int) = 12) = true by rfl, put_val _ _ _ _ (by omega) (by omega) (by omega) hw hw' (by omega) (by omega)]; rfl
  · by_cases h2 : i = 11
    · subst h2
      rw [show decide (((11 : Nat) : Int) = 12) = false by rfl, show decide (((11 : Nat) : Int) > 4) = true by rfl, show decide (((11 : Nat) : Int) = 11) = true by rfl]
      simp only [cond_true, cond_false]
      rw [put_val _ _ _ _ (by omega) (by omega) (by omega) hw hw' (by omega) (by omega)]; rfl
    · by_cases h3 : 4 < i
      · rw [show decide ((i : Int) = 12) = false by simp; omega, show decide ((i : Int) = 11) = false by simp; omega, show decide ((i : Int) > 4) = true by simp; omega, if_neg h1, if_neg h2, if_pos h3]
        simp only [cond_true, cond_false]
        rw [put_val _ _ _ _ (by omega) (by omega) (by omega) hw hw' (by omega) (by omega), show ((20 + i : Nat) : Int) = 20 + (i : Int) by omega]; rfl
      · rw [show decide ((i : Int) = 12) = false by simp; omega, show decide ((i : Int) = 11) = false by simp; omega, show decide ((i : Int) > 4) = false by simp; omega, if_neg h1, if_neg h2, if_neg h3]
        simp only [cond_false]
        rw [put_val _ _ _ _ (by omega) (by omega) (by omega) hw hw' (by omega) (by omega), show ((7 + i : Nat) : Int) = 7 + (i : Int) by omega]; rfl
theorem branch_run (x : Int × Int × Int × Int × Int) (hx : -9223372036854775808 ≤ x.2.2.2.2) (hx' : x.2.2.2.2 ≤ 9223372036854775807) (w : Int) (hw : 0 ≤ w) (hw' : w < 4294967296) :
    spec_l02Encode.l1110101111111011110 x w 1 = some (putV (putV (putV (putV w 8 4 (x.2.2.2.2 / 2)) 25 6 (x.2.2.2.2 / 32)) 7 1 (x.2.2.2.2 / 2048)) 31 1 (x.2.2.2.2 / 4096)) := by
  have st := bits_run (fun w i => spec_l02Encode.l1110101111111011110 x w (i : Int)) x.2.2.2.2 branchPl 1 13 (fun w i h1 h2 h3 h4 => branch_step x hx hx' w h1 h2 i h3 (by omega))
  have r1 := putV_range w 8 4 (x.2.2.2.2 / 2) (by decide) (by decide) (by decide) hw hw'
  have r2 := putV_range _ 25 6 (x.2.2.2.2 / 32) (by decide) (by decide) (by decide) r1.1 r1.2
  have r3 := putV_range _ 7 1 (x.2.2.2.2 / 2048) (by decide) (by decide) (by decide) r2.1 r2.2
  refine (st 1 8 (by decide) w hw hw' 4 (by decide) (by decide) (by decide) (by decide) 4 (by decide)).trans ?_
  refine (st 5 25 (by decide) _ r1.1 r1.2 6 (by decide) (by decide) (by decide) (by decide) 6 (by decide)).trans ?_
  refine (st 11 7 (by decide) _ r2.1 r2.2 1 (by decide) (by decide) (by decide) (by decide) 1 (by decide)).trans ?_
  refine (st 12 31 (by decide) _ r3.1 r3.2 1 (by decide) (by decide) (by decide) (by decide) 1 (by decide)).trans ?_
  exact spec_l02Encode.l1110101111111011110_eq _ _ _
theorem store_step (x : Int × Int × Int × Int × Int) (hx : -9223372036854775808 ≤ x.2.2.2.2) (hx' : x.2.2.2.2 ≤ 9223372036854775807) (w : Int) (hw : 0 ≤ w) (hw' : w < 4294967296) (i : Nat) (h : 5 ≤ i) (h' : i ≤ 11) :
    spec_l02Encode.l1110101111111110111110 x w (i : Int) = spec_l02Encode.l1110101111111110111110 x (putV w (20 + i : Nat) 1 (x.2.2.2.2 / 2 ^ i % 2)) ((i + 1 : Nat) : Int) := by
  rw [spec_l02Encode.l1110101111111110111110_eq, show decide ((i : Int) < 12) = true by simp; omega, bit_val _ _ hx hx' (by omega) (by omega), w64 (n := 20 + (i : Int)) (by omega) (by omega), w64 (n := (i : Int) + 1) (by omega) (by omega)]
  simp only [cond_true, Int.toNat_natCast, Option.bind_some]
  rw [put_val _ _ _ _ (by omega) (by omega) (by omega) hw hw' (by omega) (by omega), show ((20 + i : Nat) : Int) = 20 + (i : Int) by omega]; rfl
theorem store_run (x : Int × Int × Int × Int × Int) (hx : -9223372036854775808 ≤ x.2.2.2.2) (hx' : x.2.2.2.2 ≤ 9223372036854775807) (w : Int) (hw : 0 ≤ w) (hw' : w < 4294967296) :
    spec_l02Encode.l1110101111111110111110 x w 5 = some (putV w 25 7 (x.2.2.2.2 / 32)) := by
  have st := bits_run (fun w i => spec_l02Encode.l1110101111111110111110 x w (i : Int)) x.2.2.2.2 (fun i => 20 + i) 5 12 (fun w i h1 h2 h3 h4 => store_step x hx hx' w h1 h2 i h3 (by omega))
  refine (st 5 25 (by decide) w hw hw' 7 (by decide) (by decide) (by decide) (by decide) 7 (by decide)).trans ?_
  exact spec_l02Encode.l1110101111111110111110_eq _ _ _
theorem put_7_5 {w v : Int} (hw : 0 ≤ w) (hw' : w < 4294967296) (h : w / 128 % 32 = 0) (hv : -9223372036854775808 ≤ v) (hv' : v ≤ 9223372036854775807) : spec_l01Put w 7 5 v = some (w + v % 32 * 128) :=
  (put_val w 7 5 v (by decide) (by decide) (by decide) hw hw' hv hv').trans (congrArg some (putV_empty 7 5 128 32 rfl rfl h))
theorem put_12_20 {w v : Int} (hw : 0 ≤ w) (hw' : w < 4294967296) (h : w / 4096 % 1048576 = 0) (hv : -9223372036854775808 ≤ v) (hv' : v ≤ 9223372036854775807) : spec_l01Put w 12 20 v = some (w + v % 1048576 * 4096) :=
  (put_val w 12 20 v (by decide) (by decide) (by decide) hw hw' hv hv').trans (congrArg some (putV_empty 12 20 4096 1048576 rfl rfl h))
theorem put_12_3 {w v : Int} (hw : 0 ≤ w) (hw' : w < 4294967296) (h : w / 4096 % 8 = 0) (hv : -9223372036854775808 ≤ v) (hv' : v ≤ 9223372036854775807) : spec_l01Put w 12 3 v = some (w + v % 8 * 4096) :=
  (put_val w 12 3 v (by decide) (by decide) (by decide) hw hw' hv hv').trans (congrArg some (putV_empty 12 3 4096 8 rfl rfl h))
theorem put_15_5 {w v : Int} (hw : 0 ≤ w) (hw' : w < 4294967296) (h : w / 32768 % 32 = 0) (hv : -9223372036854775808 ≤ v) (hv' : v ≤ 9223372036854775807) : spec_l01Put w 15 5 v = some (w + v % 32 * 32768) :=
  (put_val w 15 5 v (by decide) (by decide) (by decide) hw hw' hv hv').trans (congrArg some (putV_empty 15 5 32768 32 rfl rfl h))
theorem put_20_12 {w v : Int} (hw : 0 ≤ w) (hw' : w < 4294967296) (h : w / 1048576 % 4096 = 0) (hv : -9223372036854775808 ≤ v) (hv' : v ≤ 9223372036854775807) : spec_l01Put w 20 12 v = some (w + v % 4096 * 1048576) :=
  (put_val w 20 12 v (by decide) (by decide) (by decide) hw hw' hv hv').trans (congrArg some (putV_empty 20 12 1048576 4096 rfl rfl h))
theorem put_20_5 {w v : Int} (hw : 0 ≤ w) (hw' : w < 4294967296) (h : w / 1048576 % 32 = 0) (hv : -9223372036854775808 ≤ v) (hv' : v ≤ 9223372036854775807) : spec_l01Put w 20 5 v = some (w + v % 32 * 1048576) :=
  (put_val w 20 5 v (by decide) (by decide) (by decide) hw hw' hv hv').trans (congrArg some (putV_empty 20 5 1048576 32 rfl rfl h))
theorem put_20_6 {w v : Int} (hw : 0 ≤ w) (hw' : w < 4294967296) (h : w / 1048576 % 64 = 0) (hv : -9223372036854775808 ≤ v) (hv' : v ≤ 9223372036854775807) : spec_l01Put w 20 6 v = some (w + v % 64 * 1048576) :=
  (put_val w 20 6 v (by decide) (by decide) (by decide) hw hw' hv hv').trans (congrArg some (putV_empty 20 6 1048576 64 rfl rfl h))
theorem put_25_7 {w v : Int} (hw : 0 ≤ w) (hw' : w < 4294967296) (h : w / 33554432 % 128 = 0) (hv : -9223372036854775808 ≤ v) (hv' : v ≤ 9223372036854775807) : spec_l01Put w 25 7 v = some (w + v % 128 * 33554432) :=
  (put_val w 25 7 v (by decide) (by decide) (by decide) hw hw' hv hv').trans (congrArg some (putV_empty 25 7 33554432 128 rfl rfl h))
theorem putV_21_10 {w v : Int} (h : w / 2097152 % 1024 = 0) : putV w 21 10 v = w + v % 1024 * 2097152 := putV_empty 21 10 2097152 1024 rfl rfl h
theorem putV_20_1 {w v : Int} (h : w / 1048576 % 2 = 0) : putV w 20 1 v = w + v % 2 * 1048576 := putV_empty 20 1 1048576 2 rfl rfl h
theorem putV_12_8 {w v : Int} (h : w / 4096 % 256 = 0) : putV w 12 8 v = w + v % 256 * 4096 := putV_empty 12 8 4096 256 rfl rfl h
theorem putV_31_1 {w v : Int} (h : w / 2147483648 % 2 = 0) : putV w 31 1 v = w + v % 2 * 2147483648 := putV_empty 31 1 2147483648 2 rfl rfl h
theorem putV_8_4 {w v : Int} (h : w / 256 % 16 = 0) : putV w 8 4 v = w + v % 16 * 256 := putV_empty 8 4 256 16 rfl rfl h
theorem putV_25_6 {w v : Int} (h : w / 33554432 % 64 = 0) : putV w 25 6 v = w + v % 64 * 33554432 := putV_empty 25 6 33554432 64 rfl rfl h
theorem putV_7_1 {w v : Int} (h : w / 128 % 2 = 0) : putV w 7 1 v = w + v % 2 * 128 := putV_empty 7 1 128 2 rfl rfl h
theorem putV_25_7 {w v : Int} (h : w / 33554432 % 128 = 0) : putV w 25 7 v = w + v % 128 * 33554432 := putV_empty 25 7 33554432 128 rfl rfl h
theorem spec_encode_val (x : Int × Int × Int × Int × Int) (h : 1 ≤ x.1) (h' : x.1 ≤ 64) (hr : RegsOK x) (hu : (shp x.1).1 = 1 → x.2.2.2.2 % 4096 = 0) : spec_l02Encode x = some (encV (shp x.1) x) := by
  rw [spec_l02Encode_eq, spec_shape _ (by omega) h']
  have hs := shp_ok x.1 h h'
  generalize shp x.1 = s at *
  obtain ⟨n, rd', rs1, rs2, imm⟩ := x
  obtain ⟨f, c, f3, f7⟩ := s
  obtain ⟨⟨d1, d2⟩, ⟨a1, a2⟩, ⟨b1, b2⟩, ⟨i1, i2⟩⟩ := hr
  obtain ⟨s1, ⟨s2, s2'⟩, ⟨s3, s3'⟩, ⟨s4, s4'⟩, s5, s6⟩ := shp_facts hs
  clear hs
  dsimp only at *
  simp only [Option.bind_some, joinB]
  rcases forms s1 with rfl | rfl | rfl | rfl | rfl | rfl | rfl | rfl | rfl
  · have hu := hu rfl
    have ht : imm.tdiv 4096 = imm / 4096 := by
      rw [Int.tdiv_eq_ediv_of_dvd]; exact Int.dvd_of_emod_eq_zero hu
    simp only [cond_ite, ↓reduceIte, decide_true, ht]
    rw [w64 (n := imm / 4096) (by omega) (by omega), put_7_5 (by omega) (by omega) (by omega) (by omega) (by omega)]
    simp only [Option.bind_some]
    rw [put_12_20 (by omega) (by omega) (by omega) (by omega) (by omega)]
    simp [encV]; omega
  · simp (disch := omega) [put_7_5, jump_run, encV]
    rw [putV_21_10 (by omega)]
    have hb0 : 0 ≤ imm / 2 % 1024 ∧ imm / 2 % 1024 < 1024 := by omega
    generalize imm / 2 % 1024 = y0 at *
    rw [putV_20_1 (by omega)]
    have hb1 : 0 ≤ imm / 2048 % 2 ∧ imm / 2048 % 2 < 2 := by omega
    generalize imm / 2048 % 2 = y1 at *
    rw [putV_12_8 (by omega)]
    have hb2 : 0 ≤ imm / 4096 % 256 ∧ imm / 4096 % 256 < 256 := by omega
    generalize imm / 4096 % 256 = y2 at *
    rw [putV_31_1 (by omega)]
    have hb3 : 0 ≤ imm / 1048576 % 2 ∧ imm / 1048576 % 2 < 2 := by omega
    generalize imm / 1048576 % 2 = y3 at *
    omega
  · simp (disch := omega) [put_7_5, put_12_3, put_15_5, put_20_12, encV]
    omega
  · simp (disch := omega) [put_12_3, put_15_5, put_20_5, branch_run, encV]
    rw [putV_8_4 (by omega)]
    have hb0 : 0 ≤ imm / 2 % 16 ∧ imm / 2 % 16 < 16 := by omega
    generalize imm / 2 % 16 = y0 at *
    rw [putV_25_6 (by omega)]
    have hb1 : 0 ≤ imm / 32 % 64 ∧ imm / 32 % 64 < 64 := by omega
    generalize imm / 32 % 64 = y1 at *
    rw [putV_7_1 (by omega)]
    have hb2 : 0 ≤ imm / 2048 % 2 ∧ imm / 2048 % 2 < 2 := by omega
    generalize imm / 2048 % 2 = y2 at *
    rw [putV_31_1 (by omega)]
    have hb3 : 0 ≤ imm / 4096 % 2 ∧ imm / 4096 % 2 < 2 := by omega
    generalize imm / 4096 % 2 = y3 at *
    omega
  · simp (disch := omega) [put_7_5, put_12_3, put_15_5, put_20_5, store_run, encV]
    have hb0 : 0 ≤ imm % 32 ∧ imm % 32 < 32 := by omega
    generalize imm % 32 = y0 at *
    rw [putV_25_7 (by omega)]
    have hb1 : 0 ≤ imm / 32 % 128 ∧ imm / 32 % 128 < 128 := by omega
    generalize imm / 32 % 128 = y1 at *
    omega
  · have hf := s5 rfl
    simp (disch := omega) [put_7_5, put_12_3, put_15_5, put_25_7, put_20_6, encV]
    omega
  · simp (disch := omega) [put_7_5, put_12_3, put_15_5, put_25_7, put_20_5, encV]
    omega
  · simp (disch := omega) [put_7_5, put_12_3, put_15_5, put_25_7, put_20_5, encV]
    omega
  · simp (disch := omega) [put_20_12, encV]
    omega
/-- The number of an instruction's word, without its sign. -/
def immU (f w : Int) : Int :=
  if f = 1 then w / 4096 % 1048576 * 4096
  else if f = 2 then w / 4096 % 256 * 4096 + w / 1048576 % 2 * 2048 + w / 2097152 % 1024 * 2 + w / 2147483648 % 2 * 1048576
  else if f = 3 then w / 1048576 % 4096
  else if f = 4 then w / 128 % 2 * 2048 + w / 256 % 16 * 2 + w / 33554432 % 64 * 32 + w / 2147483648 % 2 * 4096
  else if f = 5 then w / 128 % 32 + w / 33554432 % 128 * 32
  else if f = 6 then w / 1048576 % 64
  else if f = 7 then w / 1048576 % 32
  else 0
def bitsV (f : Int) : Nat := if f = 1 then 32 else if f = 2 then 21 else if f = 3 ∨ f = 5 then 12 else if f = 4 then 13 else 0
def immS (f w : Int) : Int := if 0 < bitsV f then signV (immU f w) (bitsV f) else immU f w
def decV (n f w : Int) : Int × Int × Int × Int × Int :=
  (n, (if (fieldsV f).1 then w / 128 % 32 else 0), (if (fieldsV f).2.1 then w / 32768 % 32 else 0), (if (fieldsV f).2.2 then w / 1048576 % 32 else 0), immS f w)
theorem immBits_val {f : Int} (h : 1 ≤ f ∧ f ≤ 9) : impl_immBits f = some ((bitsV f : Nat) : Int) := by
  rw [impl_immBits_eq]
  rcases forms h with rfl | rfl | rfl | rfl | rfl | rfl | rfl | rfl | rfl <;> rfl
theorem immS_range {f w : Int} (hf : 1 ≤ f ∧ f ≤ 9) (h : 0 ≤ w) (h' : w < 4294967296) : -2147483648 ≤ immS f w ∧ immS f w ≤ 2147483647 := by
  rcases forms hf with rfl | rfl | rfl | rfl | rfl | rfl | rfl | rfl | rfl <;> simp [immS, bitsV, immU, signV] <;> omega
theorem dec_regs {n f w : Int} (hf : 1 ≤ f ∧ f ≤ 9) (h : 0 ≤ w) (h' : w < 4294967296) : RegsOK (decV n f w) := by
  have hi := immS_range hf h h'
  refine ⟨?_, ?_, ?_, ?_⟩
  · simp only [decV]; split <;> omega
  · simp only [decV]; split <;> omega
  · simp only [decV]; split <;> omega
  · simp only [decV]; omega
def takeP (w : Int) (i : Int) (p : Int × Int × Int) : Int := orI .i64 i (shlI .i64 (w / 2 ^ p.2.2.toNat % 2 ^ p.2.1.toNat) p.1)
theorem dec_loop (w : Int) (z : Int × Int × Int × Int × Int) (s : Int × Int × Int × Int) (os : List (ByteArray × Int × Int × Int × Int)) (ln n : Int) (op rd' r1 r2 : Int) (ps : List (Int × Int × Int)) (hp : PiecesOK ps) :
    ∀ (k j : Nat) (i : Int), j + k = ps.length → impl_decode.l1010011001111010 w z s (op, rd', r1, r2, i) os ln n ps (ps.length : Int) (j : Int) = impl_decode.l1010011001111010 w z s (op, rd', r1, r2, (ps.drop j).foldl (takeP w) i) os ln n ps (ps.length : Int) (ps.length : Int) := by
  intro k
  induction k with
  | zero => intro j i h; have : j = ps.length := by omega
            subst this; simp
  | succ k ih =>
    intro j i h
    have hj : j < ps.length := by omega
    obtain ⟨p1, p2, p3, p4, p5, p6⟩ := hp.2 ps[j] (List.getElem_mem hj)
    have e := rd_nat (τ := .pair (.int .i64) (.pair (.int .i64) (.int .i64))) ps j hj
    rw [impl_decode.l1010011001111010_eq, lt_nat, inL_nat, e, w64_succ j ps.length hj (by have := hp.1; omega)]
    simp only [decide_eq_true hj, cond_true]
    rw [bitsOf_val _ _ _ (by omega) (by omega) (by omega) (by omega)]
    simp only [Option.bind_some]
    rw [show decide (ps[j].1 < 0) = false by simp; omega]
    simp only [cond_false]
    rw [ih (j + 1) _ (by omega), List.drop_eq_getElem_cons hj, List.foldl_cons]
    rfl
theorem shl_11 {y : Int} (h0 : 0 ≤ y) (h : y ≤ 2147483647) : shlI .i64 y 11 = y * 2048 := shl_val 11 2048 rfl (by decide) h0 (by omega)
theorem shl_1 {y : Int} (h0 : 0 ≤ y) (h : y ≤ 2147483647) : shlI .i64 y 1 = y * 2 := shl_val 1 2 rfl (by decide) h0 (by omega)
theorem shl_5 {y : Int} (h0 : 0 ≤ y) (h : y ≤ 2147483647) : shlI .i64 y 5 = y * 32 := shl_val 5 32 rfl (by decide) h0 (by omega)
theorem shl_0 {y : Int} (h0 : 0 ≤ y) (h : y ≤ 2147483647) : shlI .i64 y 0 = y := by
  rw [shl_mul (by decide) (by decide)]; simp; exact w64 (by omega) (by omega)
theorem or_zero {y : Int} (h0 : 0 ≤ y) (h : y ≤ 2147483647) : orI .i64 0 y = y := by
  have := or_field (x := 0) (y := y) (P := 1) (Q := 2147483648) 0 31 rfl rfl (by decide) (by decide) (by decide) h0 (by omega) (by omega)
  simpa using this
theorem take_pieces {f w : Int} (hf : 1 ≤ f ∧ f ≤ 9) (h : 0 ≤ w) (h' : w < 4294967296) : (piecesV f).foldl (takeP w) 0 = immU f w := by
  rcases forms hf with rfl | rfl | rfl | rfl | rfl | rfl | rfl | rfl | rfl
  · simp [piecesV, takeP, immU]
    have hb0 : 0 ≤ w / 4096 % 1048576 ∧ w / 4096 % 1048576 < 1048576 := by omega
    generalize w / 4096 % 1048576 = y0 at *
    simp (disch := omega) only [shl_12, or_12_20]
    omega
  · simp [piecesV, takeP, immU]
    have hb0 : 0 ≤ w / 4096 % 256 ∧ w / 4096 % 256 < 256 := by omega
    generalize w / 4096 % 256 = y0 at *
    have hb1 : 0 ≤ w / 1048576 % 2 ∧ w / 1048576 % 2 < 2 := by omega
    generalize w / 1048576 % 2 = y1 at *
    have hb2 : 0 ≤ w / 2097152 % 1024 ∧ w / 2097152 % 1024 < 1024 := by omega
    generalize w / 2097152 % 1024 = y2 at *
    have hb3 : 0 ≤ w / 2147483648 % 2 ∧ w / 2147483648 % 2 < 2 := by omega
    generalize w / 2147483648 % 2 = y3 at *
    simp (disch := omega) only [shl_12, shl_11, shl_1, shl_20, or_12_8, or_11_1, or_1_10, or_20_1]
    omega
  · simp [piecesV, takeP, immU]
    have hb0 : 0 ≤ w / 1048576 % 4096 ∧ w / 1048576 % 4096 < 4096 := by omega
    generalize w / 1048576 % 4096 = y0 at *
    simp (disch := omega) only [shl_0, or_zero]
  · simp [piecesV, takeP, immU]
    have hb0 : 0 ≤ w / 128 % 2 ∧ w / 128 % 2 < 2 := by omega
    generalize w / 128 % 2 = y0 at *
    have hb1 : 0 ≤ w / 256 % 16 ∧ w / 256 % 16 < 16 := by omega
    generalize w / 256 % 16 = y1 at *
    have hb2 : 0 ≤ w / 33554432 % 64 ∧ w / 33554432 % 64 < 64 := by omega
    generalize w / 33554432 % 64 = y2 at *
    have hb3 : 0 ≤ w / 2147483648 % 2 ∧ w / 2147483648 % 2 < 2 := by omega
    generalize w / 2147483648 % 2 = y3 at *
    simp (disch := omega) only [shl_11, shl_1, shl_5, shl_12, or_11_1, or_1_4, or_5_6, or_12_1]
    omega
  · simp [piecesV, takeP, immU]
    have hb0 : 0 ≤ w / 128 % 32 ∧ w / 128 % 32 < 32 := by omega
    generalize w / 128 % 32 = y0 at *
    have hb1 : 0 ≤ w / 33554432 % 128 ∧ w / 33554432 % 128 < 128 := by omega
    generalize w / 33554432 % 128 = y1 at *
    simp (disch := omega) only [shl_0, shl_5, or_zero, or_5_7]
  · simp [piecesV, takeP, immU]
    have hb0 : 0 ≤ w / 1048576 % 64 ∧ w / 1048576 % 64 < 64 := by omega
    generalize w / 1048576 % 64 = y0 at *
    simp (disch := omega) only [shl_0, or_zero]
  · simp [piecesV, takeP, immU]
    have hb0 : 0 ≤ w / 1048576 % 32 ∧ w / 1048576 % 32 < 32 := by omega
    generalize w / 1048576 % 32 = y0 at *
    simp (disch := omega) only [shl_0, or_zero]
  · rfl
  · rfl
theorem dec_imm {f w : Int} (hf : 1 ≤ f ∧ f ≤ 9) : (if 0 < bitsV f then impl_signOf (immU f w) ((bitsV f : Nat) : Int) else some (immU f w)) = some (immS f w) := by
  unfold immS
  rcases forms hf with rfl | rfl | rfl | rfl | rfl | rfl | rfl | rfl | rfl <;> simp [bitsV] <;> rw [signOf_val _ _ (by decide) (by decide)] <;> rfl
theorem ops_rd (n : Int) (h : 0 ≤ n) (h' : n ≤ 64) : ∃ os : List (ByteArray × Int × Int × Int × Int), impl_ops = some os ∧ os.length = 65 ∧ ∀ m : Nat, m ≤ 64 → ((rd (τ := (.pair .str (.pair (.int .i64) (.pair (.int .i64) (.pair (.int .i64) (.int .i64)))))) os m).2) = shp m := by
  refine ⟨_, impl_ops_eq, rfl, fun m hm => ?_⟩
  obtain ⟨k, rfl⟩ : ∃ k : Fin 65, m = k.val := ⟨⟨m, by omega⟩, rfl⟩
  clear hm; revert k
  decide +kernel
theorem impl_dec_step (w : Int) (h : 0 ≤ w) (h' : w < 4294967296) (z : Int × Int × Int × Int × Int) (os : List (ByteArray × Int × Int × Int × Int)) (ho : os.length = 65) (hs : ∀ m : Nat, m ≤ 64 → ((rd (τ := (.pair .str (.pair (.int .i64) (.pair (.int .i64) (.pair (.int .i64) (.int .i64)))))) os m).2) = shp m) (n : Nat) (h1 : 1 ≤ n) (hn : n ≤ 64) :
    impl_decode.l1010 w z os 65 n = if (shp n).2.1 = w % 128 ∧ encV (shp n) (decV n (shp n).1 w) = w then some (decV n (shp n).1 w, true) else impl_decode.l1010 w z os 65 ((n + 1 : Nat) : Int) := by
  have hsf := shp_ok n (by omega) (by omega)
  rw [impl_decode.l1010_eq, show decide ((n : Int) < 65) = true by simp; omega, ho, show inL (n : Int) 65 = true by rw [inL_nat]; simp; omega, hs n hn, show decide ((n : Int) = 0) = false by simp; omega, bitsOf_val w 0 7 (by decide) (by decide) (by decide) (by decide), w64 (n := (n : Int) + 1) (by omega) (by omega)]
  have e0 : ((n + 1 : Nat) : Int) = (n : Int) + 1 := by omega
  rw [e0]
  simp only [cond_true, cond_false, joinB, Option.bind_some]
  rw [show w / 2 ^ (0 : Int).toNat % 2 ^ (7 : Int).toNat = w % 128 by simp]
  by_cases hc : (shp n).2.1 = w % 128
  · have henc : ∀ x : Int × Int × Int × Int × Int, x.1 = (n : Int) → RegsOK x → impl_encode x = some (encV (shp n) x) := fun x hx hr => by rw [← hx]; exact impl_encode_val x (by omega) (by omega) hr
    generalize hS : shp n = s at *
    obtain ⟨f, c, f3, f7⟩ := s
    obtain ⟨s1, ⟨s2, s2'⟩, ⟨s3, s3'⟩, ⟨s4, s4'⟩, s5, s6⟩ := shp_facts hsf
    obtain ⟨hp, hpo⟩ := pieces_val s1
    dsimp only at *
    rw [decide_eq_true hc, hp]
    simp only [eq_true hc, true_and, Bool.not_true, cond_false, Option.bind_some]
    clear hc
    rw [show (0 : Int) = ((0 : Nat) : Int) by rfl, dec_loop _ _ _ _ _ _ _ _ _ _ _ hpo (piecesV f).length 0 _ (by omega), List.drop_zero, show (((0 : Nat) : Int)) = 0 by rfl, take_pieces s1 h h', impl_decode.l1010011001111010_eq, lt_nat]
    simp only [Nat.lt_irrefl, decide_false, cond_false, immBits_val s1, fields_val s1, Option.bind_some, joinB]
    have hi := dec_imm (w := w) s1
    have he := henc (decV n f w) rfl (dec_regs s1 h h')
    have b1 : impl_bitsOf w 7 5 = some (w / 128 % 32) := bitsOf_val w 7 5 (by decide) (by decide) (by decide) (by decide)
    have b2 : impl_bitsOf w 15 5 = some (w / 32768 % 32) := bitsOf_val w 15 5 (by decide) (by decide) (by decide) (by decide)
    have b3 : impl_bitsOf w 20 5 = some (w / 1048576 % 32) := bitsOf_val w 20 5 (by decide) (by decide) (by decide) (by decide)
    rw [w64 (n := (n : Int) + 1) (by omega) (by omega)]
    clear henc hS hs ho hp hpo s5 s6 hsf
    unfold decV at he ⊢
    generalize impl_decode.l1010 w z os 65 (↑n + 1) = nx
    generalize immU f w = iu at *
    generalize immS f w = im at *
    simp only [b1, b2, b3, Option.bind_some]
    rcases forms s1 with rfl | rfl | rfl | rfl | rfl | rfl | rfl | rfl | rfl <;> simp [bitsV, fieldsV] at hi he ⊢ <;> first | (rw [hi, Option.bind_some, he]; simp [cond_ite]) | (rw [hi, he]; simp [cond_ite])
  · rw [if_neg (fun hh => hc hh.1), show decide ((shp n).2.1 = w % 128) = false by simpa using hc]
    rfl
theorem spec_op_val (n : Int) : spec_l02Op n = some (decide (1 ≤ n) && decide (n ≤ 64)) := by
  rw [spec_l02Op_eq, spec_l01In_eq]
  by_cases h : n ≥ 1 <;> simp [h]
theorem spec_reg_val (n : Int) : spec_l02Reg n = some (decide (0 ≤ n) && decide (n ≤ 31)) := by
  rw [spec_l02Reg_eq, spec_l01In_eq]
  by_cases h : n ≥ 0 <;> simp [h]
theorem spec_in_val (n a b : Int) : spec_l01In n a b = some (decide (a ≤ n) && decide (n ≤ b)) := by
  rw [spec_l01In_eq]
  by_cases h : n ≥ a <;> simp [h]
theorem within_val (n a b : Int) : impl_within n a b = some (decide (a ≤ n) && decide (n ≤ b)) := by
  rw [impl_within_eq]
  by_cases h : a ≤ n <;> simp [h]
/-- An instruction's number fits its form. -/
def immR (f i : Int) : Bool :=
  if f = 1 then decide (-2147483648 ≤ i) && decide (i ≤ 2147479552) && decide (i % 4096 = 0)
  else if f = 2 then decide (-1048576 ≤ i) && decide (i ≤ 1048574) && decide (i % 2 = 0)
  else if f = 3 ∨ f = 5 then decide (-2048 ≤ i) && decide (i ≤ 2047)
  else if f = 4 then decide (-4096 ≤ i) && decide (i ≤ 4094) && decide (i % 2 = 0)
  else if f = 6 then decide (0 ≤ i) && decide (i ≤ 63)
  else if f = 7 then decide (0 ≤ i) && decide (i ≤ 31)
  else decide (i = 0)
def rightV (x : Int × Int × Int × Int × Int) : Bool :=
  decide (1 ≤ x.1) && decide (x.1 ≤ 64) && decide (0 ≤ x.2.1) && decide (x.2.1 ≤ 31) && decide (0 ≤ x.2.2.1) && decide (x.2.2.1 ≤ 31) && decide (0 ≤ x.2.2.2.1) && decide (x.2.2.2.1 ≤ 31)
    && ((fieldsV (shp x.1).1).1 || decide (x.2.1 = 0)) && ((fieldsV (shp x.1).1).2.1 || decide (x.2.2.1 = 0)) && ((fieldsV (shp x.1).1).2.2 || decide (x.2.2.2.1 = 0)) && immR (shp x.1).1 x.2.2.2.2
theorem spec_right_val (x : Int × Int × Int × Int × Int) : spec_l02Right x = some (rightV x) := by
  rw [spec_l02Right_eq]
  obtain ⟨n, d, a, b, i⟩ := x
  simp only [joinB, spec_op_val, spec_reg_val, spec_in_val, Option.bind_some, rightV]
  by_cases hn : 1 ≤ n ∧ n ≤ 64
  · by_cases hd : 0 ≤ d ∧ d ≤ 31
    · by_cases ha : 0 ≤ a ∧ a ≤ 31
      · by_cases hb : 0 ≤ b ∧ b ≤ 31
        · have hs := shp_ok n hn.1 hn.2
          rw [spec_shape n (by omega) hn.2]
          generalize shp n = s at *
          obtain ⟨f, c, f3, f7⟩ := s
          have s1 := (shp_facts hs).1
          simp only [hn, hd, ha, hb, decide_true, Bool.and_self, Bool.not_true, cond_false, Option.bind_some, Bool.true_and]
          clear hs
          have t1 : decide (i.tmod 4096 = 0) = decide (i % 4096 = 0) := by
            congr 1; exact propext ⟨fun h => by rw [← Int.dvd_iff_tmod_eq_zero] at h; omega, fun h => by rw [← Int.dvd_iff_tmod_eq_zero]; omega⟩
          have t2 : decide (i.tmod 2 = 0) = decide (i % 2 = 0) := by
            congr 1; exact propext ⟨fun h => by rw [← Int.dvd_iff_tmod_eq_zero] at h; omega, fun h => by rw [← Int.dvd_iff_tmod_eq_zero]; omega⟩
          rw [t1, t2]
          rcases forms s1 with rfl | rfl | rfl | rfl | rfl | rfl | rfl | rfl | rfl <;> simp [fieldsV, immR] <;> by_cases e1 : d = 0 <;> by_cases e2 : a = 0 <;> by_cases e3 : b = 0 <;> simp [e1, e2, e3, cond_ite] <;> (first | done | (split <;> first | (simp_all; done) | (simp; intro q1 q2; omega)))
        · have : (decide (0 ≤ b) && decide (b ≤ 31)) = false := by simpa using hb
          have h2 : ¬ (0 ≤ b ∧ b ≤ 31) := hb
          rw [this]
          simp [hn, hd, ha]
          by_cases q : 0 ≤ b <;> simp [q] <;> intros <;> omega
      · have : (decide (0 ≤ a) && decide (a ≤ 31)) = false := by simpa using ha
        rw [this]
        simp [hn, hd]
        by_cases q : 0 ≤ a <;> simp [q] <;> intros <;> omega
    · have : (decide (0 ≤ d) && decide (d ≤ 31)) = false := by simpa using hd
      rw [this]
      simp [hn]
      by_cases q : 0 ≤ d <;> simp [q] <;> intros <;> omega
  · have : (decide (1 ≤ n) && decide (n ≤ 64)) = false := by simpa using hn
    rw [this]
    simp
theorem shp_form {n : Int} (h : 1 ≤ n) (h' : n ≤ 64) : 1 ≤ (shp n).1 ∧ (shp n).1 ≤ 9 := by
  have := shp_ok n h h'
  generalize shp n = s at *
  exact (shp_facts this).1
theorem dec_right {n f w : Int} (hn : 1 ≤ n) (hn' : n ≤ 64) (hf : f = (shp n).1) (h : 0 ≤ w) (h' : w < 4294967296) : rightV (decV n f w) = true := by
  have s1 := shp_form hn hn'
  obtain ⟨⟨d1, d2⟩, ⟨a1, a2⟩, ⟨b1, b2⟩, ⟨i1, i2⟩⟩ := dec_regs (n := n) (hf ▸ s1) h h'
  have hi : immR f (immS f w) = true := by
    subst hf
    rcases forms s1 with e | e | e | e | e | e | e | e | e <;> rw [e] <;> simp [immR, immS, bitsV, immU, signV] <;> omega
  subst hf
  unfold rightV
  simp only [Bool.and_eq_true, Bool.or_eq_true, decide_eq_true_eq]
  simp only [decV] at d1 d2 a1 a2 b1 b2 ⊢
  refine ⟨⟨⟨⟨⟨⟨⟨⟨⟨⟨⟨hn, hn'⟩, d1⟩, d2⟩, a1⟩, a2⟩, b1⟩, b2⟩, ?_⟩, ?_⟩, ?_⟩, hi⟩
  · cases (fieldsV (shp n).1).1 <;> simp
  · cases (fieldsV (shp n).1).2.1 <;> simp
  · cases (fieldsV (shp n).1).2.2 <;> simp
theorem spec_taken_val (w : Int) (h : 0 ≤ w) (h' : w < 4294967296) (n : Int) (h1 : 1 ≤ n) (hn : n ≤ 64) : spec_l02Taken n w = some (decV n (shp n).1 w) := by
  have s1 := shp_form h1 hn
  have fv : ∀ l c : Int, 0 ≤ l → 0 ≤ c → l + c ≤ 62 → spec_l01Field w l c = some (w / 2 ^ l.toNat % 2 ^ c.toNat) := fun l c a b d => field_val w l c (by omega) (by omega) a b d
  have bv : ∀ l : Int, 0 ≤ l → l ≤ 63 → spec_l01Bit w l = some (w / 2 ^ l.toNat % 2) := fun l a b => bit_val w l (by omega) (by omega) a b
  rw [spec_l02Taken_eq, fv 7 5 (by decide) (by decide) (by decide), fv 15 5 (by decide) (by decide) (by decide), fv 20 5 (by decide) (by decide) (by decide), fv 12 20 (by decide) (by decide) (by decide), fv 21 10 (by decide) (by decide) (by decide), fv 12 8 (by decide) (by decide) (by decide), fv 20 12 (by decide) (by decide) (by decide), fv 8 4 (by decide) (by decide) (by decide), fv 25 6 (by decide) (by decide) (by decide), fv 25 7 (by decide) (by decide) (by decide), fv 20 6 (by decide) (by decide) (by decide), bv 20 (by decide) (by decide), bv 31 (by decide) (by decide), bv 7 (by decide) (by decide), spec_shape n (by omega) hn]
  generalize shp n = s at *
  obtain ⟨f, c, f3, f7⟩ := s
  dsimp only at *
  simp only [Option.bind_some, decV, immS]
  rcases forms s1 with rfl | rfl | rfl | rfl | rfl | rfl | rfl | rfl | rfl
  · simp [fieldsV, bitsV, immU]
    rw [sign_val _ 20 (by decide) (by decide) (by omega) (by omega)]
    simp [signV]
    rw [w64 (by omega) (by omega)]
    omega
  · simp [fieldsV, bitsV, immU]
    rw [w64 (n := w / 2097152 % 1024 * 2) (by omega) (by omega), w64 (n := w / 1048576 % 2 * 2048) (by omega) (by omega), w64 (n := w / 4096 % 256 * 4096) (by omega) (by omega), w64 (n := w / 2147483648 % 2 * 1048576) (by omega) (by omega), w64 (n := w / 2097152 % 1024 * 2 + w / 1048576 % 2 * 2048) (by omega) (by omega), w64 (n := w / 2097152 % 1024 * 2 + w / 1048576 % 2 * 2048 + w / 4096 % 256 * 4096) (by omega) (by omega), w64 (by omega) (by omega), sign_val _ 21 (by decide) (by decide) (by omega) (by omega)]
    simp
    congr 1; omega
  · simp [fieldsV, bitsV, immU]
    rw [sign_val _ 12 (by decide) (by decide) (by omega) (by omega)]
    simp
  · simp [fieldsV, bitsV, immU]
    rw [w64 (n := w / 256 % 16 * 2) (by omega) (by omega), w64 (n := w / 33554432 % 64 * 32) (by omega) (by omega), w64 (n := w / 128 % 2 * 2048) (by omega) (by omega), w64 (n := w / 2147483648 % 2 * 4096) (by omega) (by omega), w64 (n := w / 256 % 16 * 2 + w / 33554432 % 64 * 32) (by omega) (by omega), w64 (n := w / 256 % 16 * 2 + w / 33554432 % 64 * 32 + w / 128 % 2 * 2048) (by omega) (by omega), w64 (by omega) (by omega), sign_val _ 13 (by decide) (by decide) (by omega) (by omega)]
    simp
    congr 1; omega
  · simp [fieldsV, bitsV, immU]
    rw [w64 (n := w / 33554432 % 128 * 32) (by omega) (by omega), w64 (by omega) (by omega), sign_val _ 12 (by decide) (by decide) (by omega) (by omega)]
    simp
  · simp [fieldsV, bitsV, immU]
  · simp [fieldsV, bitsV, immU]
  · simp [fieldsV, bitsV, immU]
  · simp [fieldsV, bitsV, immU]
theorem dec_f3 {n f c f3 f7 w : Int} (hs : ShpOK (f, c, f3, f7) = true) (h : 0 ≤ w) (h' : w < 4294967296) (hc : c = w % 128) (h3 : 3 ≤ f) (h8 : f ≤ 8) (he : encV (f, c, f3, f7) (decV n f w) = w) : f3 = w / 4096 % 8 := by
  obtain ⟨s1, ⟨s2, s2'⟩, ⟨s3, s3'⟩, ⟨s4, s4'⟩, s5, s6⟩ := shp_facts hs
  clear hs
  have hd := (dec_regs (n := n) s1 h h').d
  have ha := (dec_regs (n := n) s1 h h').a
  have hb := (dec_regs (n := n) s1 h h').b
  have : f = 3 ∨ f = 4 ∨ f = 5 ∨ f = 6 ∨ f = 7 ∨ f = 8 := by omega
  generalize decV n f w = x at *
  obtain ⟨n', d, a, b, i⟩ := x
  dsimp only at *
  rcases this with rfl | rfl | rfl | rfl | rfl | rfl <;> simp only [encV, Int.reduceEq, ↓reduceIte] at he
  · have hb0 : 0 ≤ i % 4096 ∧ i % 4096 < 4096 := by omega
    generalize i % 4096 = y0 at *; omega
  · have hb0 : 0 ≤ i / 2048 % 2 ∧ i / 2048 % 2 < 2 := by omega
    generalize i / 2048 % 2 = y0 at *
    have hb1 : 0 ≤ i / 2 % 16 ∧ i / 2 % 16 < 16 := by omega
    generalize i / 2 % 16 = y1 at *
    have hb2 : 0 ≤ i / 32 % 64 ∧ i / 32 % 64 < 64 := by omega
    generalize i / 32 % 64 = y2 at *
    have hb3 : 0 ≤ i / 4096 % 2 ∧ i / 4096 % 2 < 2 := by omega
    generalize i / 4096 % 2 = y3 at *; omega
  · have hb0 : 0 ≤ i % 32 ∧ i % 32 < 32 := by omega
    generalize i % 32 = y0 at *
    have hb1 : 0 ≤ i / 32 % 128 ∧ i / 32 % 128 < 128 := by omega
    generalize i / 32 % 128 = y1 at *; omega
  · have hb0 : 0 ≤ i % 64 ∧ i % 64 < 64 := by omega
    generalize i % 64 = y0 at *; omega
  · have hb0 : 0 ≤ i % 32 ∧ i % 32 < 32 := by omega
    generalize i % 32 = y0 at *; omega
  · omega
theorem spec_dec_step (w : Int) (h : 0 ≤ w) (h' : w < 4294967296) (z : Int × Int × Int × Int × Int) (n : Nat) (h1 : 1 ≤ n) (hn : n ≤ 64) :
    spec_l02Decode.l1010 w z n = if (shp n).2.1 = w % 128 ∧ encV (shp n) (decV n (shp n).1 w) = w then some (decV n (shp n).1 w, true) else spec_l02Decode.l1010 w z ((n + 1 : Nat) : Int) := by
  have hsf := shp_ok n (by omega) (by omega)
  have s1 := shp_form (n := n) (by omega) (by omega)
  have hr := dec_right (n := n) (by omega) (by omega) rfl h h'
  have he : spec_l02Encode (decV n (shp n).1 w) = some (encV (shp n) (decV n (shp n).1 w)) := spec_encode_val (decV n (shp n).1 w) (by simp only [decV]; omega) (by simp only [decV]; omega) (dec_regs s1 h h') (fun hf => by
    have hf : (shp n).1 = 1 := hf
    show immS (shp n).1 w % 4096 = 0
    rw [hf]; simp [immS, bitsV, immU, signV]; omega)
  have e0 : ((n + 1 : Nat) : Int) = (n : Int) + 1 := by omega
  rw [spec_l02Decode.l1010_eq, show decide ((n : Int) ≤ 64) = true by simp; omega, spec_shape n (by omega) (by omega), w64 (n := (n : Int) + 1) (by omega) (by omega), e0]
  simp only [cond_true, joinB, Option.bind_some, spec_in_val, spec_taken_val w h h' n (by omega) (by omega), spec_right_val, hr, he]
  have t1 : w.tmod 128 = w % 128 := Int.tmod_eq_emod_of_nonneg h
  have t2 : (w.tdiv 4096).tmod 8 = w / 4096 % 8 := by rw [Int.tdiv_eq_ediv_of_nonneg h, Int.tmod_eq_emod_of_nonneg (by omega)]
  have w1 : IntKind.wrap .i64 (w.tdiv 4096) = w.tdiv 4096 := by rw [Int.tdiv_eq_ediv_of_nonneg h]; exact w64 (by omega) (by omega)
  rw [w1, t1, t2]
  have h3 := fun (hc : (shp n).2.1 = w % 128) (h3 : 3 ≤ (shp n).1) (h8 : (shp n).1 ≤ 8) (he : encV (shp n) (decV n (shp n).1 w) = w) => dec_f3 (n := n) (f := (shp n).1) (c := (shp n).2.1) (f3 := (shp n).2.2.1) (f7 := (shp n).2.2.2) hsf h h' hc h3 h8 he
  clear hsf hr he
  generalize shp n = s at *
  by_cases hc : s.2.1 = w % 128
  · by_cases hf : 3 ≤ s.1 ∧ s.1 ≤ 8
    · by_cases hg : s.2.2.1 = w / 4096 % 8
      · simp [hc, hf, hg, cond_ite]
      · have : ¬ encV s (decV n s.1 w) = w := fun he => hg (h3 hc hf.1 hf.2 he)
        simp [hc, hf, hg, this]
    · have : (decide (3 ≤ s.1) && decide (s.1 ≤ 8)) = false := by simpa using hf
      simp [hc, this, cond_ite]
  · simp [hc]
/-- What decoding comes to. -/
def DecR (w : Int) (v : (Int × Int × Int × Int × Int) × Bool) : Prop := (v.2 = true → 1 ≤ v.1.1 ∧ v.1.1 ≤ 64 ∧ v.1 = decV v.1.1 (shp v.1.1).1 w ∧ encV (shp v.1.1) v.1 = w) ∧ (v.2 = false → v.1 = (0, 0, 0, 0, 0))
theorem decode_both (w : Int) (h : 0 ≤ w) (h' : w < 4294967296) : ∃ v, impl_decode w = some v ∧ spec_l02Decode w = some v ∧ DecR w v := by
  obtain ⟨os, ho, hl, hs⟩ := ops_rd 0 (by decide) (by decide)
  rw [impl_decode_eq, spec_l02Decode_eq, ho]
  simp only [Option.bind_some, hl]
  have hz : impl_decode.l1010 w (0, 0, 0, 0, 0) os 65 0 = impl_decode.l1010 w (0, 0, 0, 0, 0) os 65 1 := by
    rw [impl_decode.l1010_eq, hl]; rfl
  have key : ∀ (k n : Nat), n + k = 65 → 1 ≤ n → ∃ v, impl_decode.l1010 w (0, 0, 0, 0, 0) os 65 (n : Int) = some v ∧ spec_l02Decode.l1010 w (0, 0, 0, 0, 0) (n : Int) = some v ∧ DecR w v := by
    intro k
    induction k with
    | zero =>
      intro n hn h1
      have : n = 65 := by omega
      subst this
      rw [impl_decode.l1010_eq, spec_l02Decode.l1010_eq]
      exact ⟨_, rfl, rfl, (fun hh => by cases hh), fun _ => rfl⟩
    | succ k ih =>
      intro n hn h1
      obtain ⟨v, e1, e2, e3⟩ := ih (n + 1) (by omega) (by omega)
      rw [impl_dec_step w h h' _ os hl hs n h1 (by omega), spec_dec_step w h h' _ n h1 (by omega), e1, e2]
      by_cases hc : (shp n).2.1 = w % 128 ∧ encV (shp n) (decV n (shp n).1 w) = w
      · rw [if_pos hc]
        exact ⟨_, rfl, rfl, fun _ => ⟨by simp only [decV]; omega, by simp only [decV]; omega, rfl, hc.2⟩, (fun hh => by cases hh)⟩
      · rw [if_neg hc]
        exact ⟨v, rfl, rfl, e3⟩
  rw [show (((65 : Nat)) : Int) = 65 by rfl, hz]
  exact key 64 1 (by omega) (by omega)
abbrev TIns : Ty := .pair (.int .i64) (.pair (.int .i64) (.pair (.int .i64) (.pair (.int .i64) (.int .i64))))
abbrev Ins : Type := Int × Int × Int × Int × Int
theorem strEq_iff (a b : ByteArray) : (strEq a b = true) = (a = b) := by
  unfold strEq
  rw [beq_iff_eq]
  refine propext ⟨fun h => ?_, fun h => by rw [h]⟩
  have e : ∀ x : ByteArray, x.toList = x.data.toList := by
    intro x
    have : ∀ (n i : Nat) (r : List UInt8), n = x.size - i → ByteArray.toList.loop x i r = r.reverse ++ x.data.toList.drop i := by
      intro n
      induction n with
      | zero => intro i r hn
                rw [ByteArray.toList.loop, if_neg (by omega), List.drop_eq_nil_of_le (by have : x.size = x.data.size := rfl; simp; omega), List.append_nil]
      | succ n ih =>
        intro i r hn
        have hi : i < x.data.toList.length := by have : x.size = x.data.size := rfl; simp; omega
        rw [ByteArray.toList.loop, if_pos (by omega), ih (i + 1) _ (by omega), List.drop_eq_getElem_cons hi]
        have : x.get! i = x.data.toList[i] := by
          have h2 : i < x.data.size := by simpa using hi
          rw [ByteArray.get!, getElem!_pos x.data i h2]; simp
        rw [this]; simp
    have := this (x.size - 0) 0 [] rfl
    rw [ByteArray.toList, this]; simp
  rw [e, e] at h
  have : a.data = b.data := Array.toList_inj.mp h
  cases a; cases b; simp_all
theorem strEq_dec (a b : ByteArray) : strEq a b = decide (a = b) := by
  have := strEq_iff a b
  by_cases h : a = b
  · rw [decide_eq_true h, this.mpr h]
  · rw [decide_eq_false h]
    cases e : strEq a b
    · rfl
    · exact absurd (this.mp e) h
theorem eqD_ins (a b : Ins) : eqD TIns a b = decide (a = b) := by
  obtain ⟨a1, a2, a3, a4, a5⟩ := a
  obtain ⟨b1, b2, b3, b4, b5⟩ := b
  simp [eqD]
/-- The number that bytes are, the lowest first. -/
def leN (t : ByteArray) (a : Nat) : Nat → Nat
  | 0 => 0
  | n + 1 => (t.data.getD a 0).toNat + 256 * leN t (a + 1) n
theorem leN_lt (t : ByteArray) : ∀ (n a : Nat), leN t a n < 256 ^ n := by
  intro n
  induction n with
  | zero => intro a; simp [leN]
  | succ n ih =>
    intro a
    have h1 := ih (a + 1)
    have h2 := (t.data.getD a 0).toNat_lt
    rw [leN, Nat.pow_succ]; omega
theorem leN_extract (t : ByteArray) (a b : Nat) (hb : b ≤ t.size) : ∀ (n i : Nat), i + n ≤ b - a → leN (t.extract a b) i n = leN t (a + i) n := by
  intro n
  induction n with
  | zero => intro i _; rfl
  | succ n ih =>
    intro i h
    rw [leN, leN, ih (i + 1) (by omega)]
    congr 2
    rw [ByteArray.data_extract]
    have hs : t.size = t.data.size := rfl
    simp [Array.getD]
    rw [dif_pos (by omega), dif_pos (by omega)]
theorem or_byte (V b : Int) (hV : 0 ≤ V) (hb : 0 ≤ b) (hb' : b ≤ 255) : orI .i64 (shlI .i64 (IntKind.wrap .i64 V) 8) b = IntKind.wrap .i64 (256 * V + b) := by
  have h1 : shlI .i64 (IntKind.wrap .i64 V) 8 = IntKind.wrap .i64 (V * 256) := by
    rw [shl_mul (by decide) (by decide)]
    obtain ⟨q, hq⟩ := wrap64_mod V
    have e8 : (2 : Int) ^ (8 : Int).toNat = 256 := by decide
    rw [hq, e8, IntKind.wrap_i64, IntKind.wrap_i64]; omega
  rw [h1]
  obtain ⟨y, rfl⟩ := Int.eq_ofNat_of_zero_le hb
  unfold orI
  rw [BitVec.toNat_or]
  have f1 := bv64 (IntKind.wrap .i64 (V * 256))
  have f2 : (BitVec.ofInt IntKind.i64.bits (y : Int)).toNat = y := by have := bv64 (y : Int); omega
  have f3 : IntKind.wrap .i64 (V * 256) % 18446744073709551616 = V * 256 % 18446744073709551616 := by
    rw [IntKind.wrap_i64]; omega
  rw [f3] at f1
  rw [f2]
  generalize (BitVec.ofInt IntKind.i64.bits (IntKind.wrap .i64 (V * 256))).toNat = x at *
  have h0 := nat_or_field x y 0 8 (by omega) (by omega)
  simp only [Nat.pow_zero, Nat.mul_one] at h0
  rw [h0, IntKind.wrap_i64, IntKind.wrap_i64]
  omega
theorem wrap_u64 (n : Int) : IntKind.wrap .u64 n = n % 18446744073709551616 := by simp [IntKind.wrap, IntKind.bits, IntKind.signed]
theorem bt_nat (t : ByteArray) (i : Nat) : bt t (i : Int) = ((t.data.getD i 0).toNat : Int) := by unfold bt; rw [Int.toNat_natCast]
theorem impl_take_loop (t : ByteArray) (hz : t.size ≤ 9223372036854775807) : ∀ (k : Nat), k ≤ t.size → impl_takeLittle.l11010 t (IntKind.wrap .i64 (leN t k (t.size - k))) ((k : Int) - 1) = some (IntKind.wrap .i64 (leN t 0 t.size)) := by
  intro k
  induction k with
  | zero =>
    intro _
    rw [impl_takeLittle.l11010_eq]; rfl
  | succ k ih =>
    intro hk
    have hs : (((k + 1 : Nat) : Int) - 1) = (k : Int) := by omega
    have hb := bt_range t (k : Int)
    rw [hs, impl_takeLittle.l11010_eq, show decide ((k : Int) ≥ 0) = true by simp, inL_nat, decide_eq_true (show k < t.size by omega), w64 (n := bt t (k : Int)) (by omega) (by omega), or_byte _ _ (by omega) hb.1 hb.2, w64 (n := (k : Int) - 1) (by omega) (by omega)]
    simp only [cond_true]
    have e : leN t k (t.size - k) = (t.data.getD k 0).toNat + 256 * leN t (k + 1) (t.size - (k + 1)) := by
      rw [show t.size - k = (t.size - (k + 1)) + 1 by omega, leN]
    have ih := ih (by omega)
    rw [e] at ih
    rw [bt_nat, show (256 : Int) * (leN t (k + 1) (t.size - (k + 1)) : Nat) + ((t.data.getD k 0).toNat : Nat) = (((t.data.getD k 0).toNat + 256 * leN t (k + 1) (t.size - (k + 1)) : Nat) : Int) by omega]
    exact ih
theorem impl_take_val (t : ByteArray) (hz : t.size ≤ 9223372036854775807) : impl_takeLittle t = some (IntKind.wrap .i64 (leN t 0 t.size)) := by
  have := impl_take_loop t hz t.size (by omega)
  rw [Nat.sub_self, show IntKind.wrap .i64 (leN t t.size 0 : Nat) = 0 by rfl] at this
  rw [impl_takeLittle_eq, w64 (n := (t.size : Int) - 1) (by omega) (by omega)]
  exact this
theorem spec_take_loop (t : ByteArray) (a n : Nat) (hz : t.size ≤ 4611686018427387904) (han : a + n ≤ t.size) : ∀ (k : Nat), k ≤ n → spec_l01Take.l11010 t (a : Int) (((leN t (a + k) (n - k) : Nat) : Int) % 18446744073709551616) ((k : Int) - 1) = some (IntKind.wrap .i64 (leN t a n)) := by
  intro k
  induction k with
  | zero =>
    intro _
    rw [spec_l01Take.l11010_eq, show decide (((0 : Nat) : Int) - 1 ≥ 0) = false by rfl]
    simp only [cond_false, Nat.add_zero, Nat.sub_zero]
    congr 1
    rw [IntKind.wrap_i64, IntKind.wrap_i64]; omega
  | succ k ih =>
    intro hk
    have hs : (((k + 1 : Nat) : Int) - 1) = (k : Int) := by omega
    have hi : ((a : Int) + (k : Int)) = ((a + k : Nat) : Int) := by omega
    rw [hs, spec_l01Take.l11010_eq, show decide ((k : Int) ≥ 0) = true by simp, hi, w64 (n := ((a + k : Nat) : Int)) (by omega) (by omega), inL_nat, decide_eq_true (show a + k < t.size by omega), w64 (n := (k : Int) - 1) (by omega) (by omega)]
    simp only [cond_true]
    have e : leN t (a + k) (n - k) = (t.data.getD (a + k) 0).toNat + 256 * leN t (a + (k + 1)) (n - (k + 1)) := by
      rw [show n - k = (n - (k + 1)) + 1 by omega, leN]; rfl
    have ih := ih (by omega)
    rw [e] at ih
    rw [bt_nat]
    have hb := (t.data.getD (a + k) 0).toNat_lt
    refine Eq.trans ?_ ih
    congr 1
    rw [wrap_u64, wrap_u64, wrap_u64]
    generalize (t.data.getD (a + k) 0).toNat = b at *
    generalize leN t (a + (k + 1)) (n - (k + 1)) = L at *
    omega
theorem spec_take_val (t : ByteArray) (a n : Nat) (hz : t.size ≤ 4611686018427387904) (han : a + n ≤ t.size) : spec_l01Take t (a : Int) (n : Int) = some (IntKind.wrap .i64 (leN t a n)) := by
  have := spec_take_loop t a n hz han n (by omega)
  rw [Nat.sub_self, show ((leN t (a + n) 0 : Nat) : Int) % 18446744073709551616 = 0 by rfl] at this
  rw [spec_l01Take_eq, w64 (n := (n : Int) - 1) (by omega) (by omega)]
  exact this
theorem le4 (t : ByteArray) (a : Nat) : 0 ≤ ((leN t a 4 : Nat) : Int) ∧ ((leN t a 4 : Nat) : Int) < 4294967296 := by
  have := leN_lt t 4 a
  have e : 256 ^ 4 = 4294967296 := by decide
  omega
/-- What is an instruction. -/
def InsR (x : Ins) : Prop := 1 ≤ x.1 ∧ x.1 ≤ 64 ∧ RegsOK x ∧ rightV x = true
theorem DecR.ins {w : Int} (h : 0 ≤ w) (h' : w < 4294967296) {v : Ins × Bool} (hv : DecR w v) (hb : v.2 = true) : InsR v.1 := by
  obtain ⟨h1, h2, h3, h4⟩ := hv.1 hb
  refine ⟨h1, h2, ?_, ?_⟩
  · rw [h3]; exact dec_regs (shp_form h1 h2) h h'
  · rw [h3]; exact dec_right h1 h2 rfl h h'
theorem room_le {n b : Nat} (h : n * b ≤ 140737488355328) (h' : n ≤ 140737488355328) : roomB n b = true := by
  simp only [roomB, Bool.and_eq_true, decide_eq_true_eq]; omega
/-- The words of code are instructions, or one is not. -/
inductive InsOf (code : ByteArray) : Prop where
  | ok (l : List Ins) (hi : impl_instrsOf code = some (l, 0, true)) (hs : spec_l06Instrs code = some (l, -1)) (hl : 4 * l.length = code.size) (hr : ∀ x ∈ l, InsR x)
  | bad (k : Int) (hi : impl_instrsOf code = some ([], k, false)) (hs : spec_l06Instrs code = some ([], k)) (h0 : 0 ≤ k)
theorem instrs_both (code : ByteArray) (h4 : code.size % 4 = 0) (hz : code.size ≤ 1048576) : InsOf code := by
  have key : ∀ (k i : Nat) (l : List Ins), 4 * (i + k) = code.size → l.length = i → (∀ x ∈ l, InsR x) →
      (∃ l', impl_instrsOf.l11010 code l (4 * i : Nat) = some (l', 0, true) ∧ spec_l06Instrs.l11010 code l (i : Int) = some (l', -1) ∧ 4 * l'.length = code.size ∧ ∀ x ∈ l', InsR x) ∨
      (∃ b : Int, impl_instrsOf.l11010 code l (4 * i : Nat) = some ([], b, false) ∧ spec_l06Instrs.l11010 code l (i : Int) = some ([], b) ∧ 0 ≤ b) := by
    intro k
    induction k with
    | zero =>
      intro i l hk hl hr
      rw [impl_instrsOf.l11010_eq, spec_l06Instrs.l11010_eq, w64 (n := 4 * (i : Int)) (by omega) (by omega), show decide (((4 * i : Nat) : Int) < (code.size : Int)) = false by simp; omega, show decide (4 * (i : Int) < (code.size : Int)) = false by simp; omega]
      exact Or.inl ⟨l, rfl, rfl, by omega, hr⟩
    | succ k ih =>
      intro i l hk hl hr
      have hw := le4 code (4 * i)
      obtain ⟨v, e1, e2, e3⟩ := decode_both _ hw.1 hw.2
      have t1 : impl_takeLittle (code.extract (4 * i) (4 * i + 4)) = some ((leN code (4 * i) 4 : Nat) : Int) := by
        have hsz : (code.extract (4 * i) (4 * i + 4)).size = 4 := by rw [ByteArray.size_extract]; omega
        rw [impl_take_val _ (by omega), hsz, leN_extract code (4 * i) (4 * i + 4) (by omega) 4 0 (by omega), Nat.add_zero, w64 (by omega) (by omega)]
      have t2 : spec_l01Take code ((4 * i : Nat) : Int) 4 = some ((leN code (4 * i) 4 : Nat) : Int) := by
        rw [show (4 : Int) = ((4 : Nat) : Int) by rfl, spec_take_val _ _ _ (by omega) (by omega), w64 (by omega) (by omega)]
      rw [impl_instrsOf.l11010_eq, spec_l06Instrs.l11010_eq, w64 (n := 4 * (i : Int)) (by omega) (by omega), w64 (n := (i : Int) + 1) (by omega) (by omega), w64 (n := ((4 * i : Nat) : Int) + 4) (by omega) (by omega), show 4 * (i : Int) = ((4 * i : Nat) : Int) by omega, Int.toNat_natCast, show (((4 * i : Nat) : Int) + 4).toNat = 4 * i + 4 by omega, t1, t2]
      rw [show decide (((4 * i : Nat) : Int) < (code.size : Int)) = true by simp; omega, show decide ((0 : Int) ≤ ((4 * i : Nat) : Int)) = true by simp; omega, show decide (((4 * i : Nat) : Int) ≤ ((4 * i : Nat) : Int) + 4) = true by simp; omega, show decide (((4 * i : Nat) : Int) + 4 ≤ (code.size : Int)) = true by simp; omega]
      simp only [cond_true, Bool.and_self, Option.bind_some, e1, e2]
      cases hb : v.2 with
      | false =>
        refine Or.inr ⟨(i : Int), ?_, rfl, by omega⟩
        rw [show (((4 * i : Nat) : Int)).tdiv 4 = (i : Int) by rw [Int.tdiv_eq_ediv_of_nonneg (by omega)]; omega, w64 (by omega) (by omega)]; rfl
      | true =>
        have hx := DecR.ins hw.1 hw.2 e3 hb
        rw [room_le (by simp; omega) (by simp; omega)]
        simp only [Bool.not_true, cond_false, cond_true]
        have ih := ih (i + 1) (l ++ [v.1]) (by omega) (by simp; omega) (by
          intro x hx'
          rcases List.mem_append.mp hx' with h | h
          · exact hr x h
          · rw [List.mem_singleton.mp h]; exact hx)
        rw [show ((4 * (i + 1) : Nat) : Int) = ((4 * i : Nat) : Int) + 4 by omega, show ((i + 1 : Nat) : Int) = (i : Int) + 1 by omega] at ih
        exact ih
  rcases key (code.size / 4) 0 [] (by omega) rfl (by simp) with ⟨l, a1, a2, a3, a4⟩ | ⟨b, a1, a2, a3⟩
  · exact .ok l ((impl_instrsOf_eq code).trans a1) ((spec_l06Instrs_eq code).trans a2) a3 a4
  · exact .bad b ((impl_instrsOf_eq code).trans a1) ((spec_l06Instrs_eq code).trans a2) a3
theorem pair_eta {α β : Type} (p : α × β) : (p.1, p.2) = p := rfl
theorem ite_iff {α : Type} {c d : Prop} [Decidable c] [Decidable d] {a b b' : α} (h : c ↔ d) (hb : b = b') : (if c then a else b) = (if d then a else b') := by
  subst hb
  by_cases hc : c
  · rw [if_pos hc, if_pos (h.mp hc)]
  · rw [if_neg hc, if_neg (fun hd => hc (h.mpr hd))]
theorem epi_eq (f : Int) (h : 16 ≤ f ∧ f ≤ 128) : impl_epilogue f = some [(14, 1, 2, 0, f - 8), (22, 2, 2, 0, f), (4, 0, 1, 0, 0)] ∧ spec_l06Epilogue f = some [(14, 1, 2, 0, f - 8), (22, 2, 2, 0, f), (4, 0, 1, 0, 0)] := by
  rw [impl_epilogue_eq, spec_l06Epilogue_eq, w64 (n := f - 8) (by omega) (by omega)]; exact ⟨rfl, rfl⟩
/-- An epilogue begins there. -/
def endsI (l : List Ins) (f k : Int) : Bool :=
  decide (2 ≤ k) && decide (k + 2 < (l.length : Int)) && decide (rd (τ := TIns) l k = ((14, 1, 2, 0, f - 8) : Ins)) && decide (rd (τ := TIns) l (k + 1) = ((22, 2, 2, 0, f) : Ins)) && decide (rd (τ := TIns) l (k + 2) = ((4, 0, 1, 0, 0) : Ins))
theorem inL_iff (i : Int) (n : Nat) : (inL i n = true) = (0 ≤ i ∧ i < (n : Int)) := by simp [inL]
theorem inL_true {i : Int} {n : Nat} (h : 0 ≤ i) (h' : i < (n : Int)) : inL i n = true := by rw [inL_iff]; exact ⟨h, h'⟩
theorem spec_ends_val (l : List Ins) (f k : Int) (hf : 16 ≤ f ∧ f ≤ 128) (hl : l.length ≤ 1048576) (hk : -4611686018427387904 ≤ k) (hk' : k ≤ 4611686018427387904) : spec_l06Ends l k f = some (endsI l f k) := by
  rw [spec_l06Ends_eq, (epi_eq f hf).2, w64 (n := k + 1) (by omega) (by omega), w64 (n := k + 2) (by omega) (by omega)]
  simp only [Option.bind_some]
  unfold endsI
  by_cases h1 : 2 ≤ k
  · by_cases h2 : k + 2 < (l.length : Int)
    · rw [inL_true (i := k) (by omega) (by omega), inL_true (i := k + 1) (by omega) (by omega), inL_true (i := k + 2) (by omega) (by omega), eqD_ins, eqD_ins, eqD_ins]
      simp only [h1, h2, decide_true, cond_true, Bool.true_and]
      have e0 : ∀ a b c : Ins, rd (τ := TIns) [a, b, c] 0 = a := fun _ _ _ => rfl
      have e1 : ∀ a b c : Ins, rd (τ := TIns) [a, b, c] 1 = b := fun _ _ _ => rfl
      have e2 : ∀ a b c : Ins, rd (τ := TIns) [a, b, c] 2 = c := fun _ _ _ => rfl
      rw [e0, e1, e2]
      show (bif true then bif decide _ then (bif true then bif decide _ then (bif true then some (decide _) else none) else some false else none) else some false else none) = _
      cases decide (rd (τ := TIns) l k = ((14, 1, 2, 0, f - 8) : Ins)) <;> cases decide (rd (τ := TIns) l (k + 1) = ((22, 2, 2, 0, f) : Ins)) <;> rfl
    · simp [h1, h2]
  · simp [h1]
theorem ends_ex (l : List Ins) (f k : Int) : (endsI l f k = true → endsI l f (k - 1) = false) ∧ (endsI l f k = true → endsI l f (k - 2) = false) ∧ (endsI l f (k - 1) = true → endsI l f (k - 2) = false) := by
  have e1 : k - 1 + 1 = k := by omega
  have e2 : k - 2 + 2 = k := by omega
  have e3 : k - 2 + 1 = k - 1 := by omega
  have e4 : k - 1 + 2 = k + 1 := by omega
  unfold endsI
  rw [e1, e2, e3, e4]
  simp only [Bool.and_eq_true, decide_eq_true_eq]
  refine ⟨?_, ?_, ?_⟩
  · rintro ⟨⟨⟨_, h⟩, _⟩, _⟩
    rw [h]; simp
  · rintro ⟨⟨⟨_, h⟩, _⟩, _⟩
    rw [h]; simp
  · rintro ⟨⟨⟨_, h⟩, h2⟩, _⟩
    rw [h2]; simp
/-- The numbers in an epilogue, as far as begun. -/
def endV (l : List Ins) (f : Int) (n j : Int) : Int :=
  if j < n ∧ endsI l f j = true then 1 else if j - 1 < n ∧ endsI l f (j - 1) = true then 2 else if j - 2 < n ∧ endsI l f (j - 2) = true then 3 else 0
def EndsAre (l : List Ins) (f : Int) (n : Int) (E : List Int) : Prop := E.length = l.length ∧ ∀ j : Nat, j < l.length → E[j]? = some (endV l f n (j : Int))
theorem equal_loop (a b : List Ins) (hl : a.length = b.length) (hz : a.length ≤ 1048576) : ∀ (k j : Nat), j + k = a.length → slices_Equal_impl_Instr.l11010 a b (a.length : Int) (j : Int) = some (decide (a.drop j = b.drop j)) := by
  intro k
  induction k with
  | zero =>
    intro j hj
    rw [slices_Equal_impl_Instr.l11010_eq, lt_nat, show decide (j < a.length) = false by simp; omega, List.drop_eq_nil_of_le (by omega), List.drop_eq_nil_of_le (by omega)]; rfl
  | succ k ih =>
    intro j hj
    have h1 : j < a.length := by omega
    have h2 : j < b.length := by omega
    rw [slices_Equal_impl_Instr.l11010_eq, lt_nat, inL_nat, inL_nat, decide_eq_true h1, decide_eq_true h2, w64_succ j a.length h1 (by omega), ih (j + 1) (by omega)]
    simp only [cond_true]
    rw [rd_nat (τ := TIns) a j h1, rd_nat (τ := TIns) b j h2, eqD_ins, List.drop_eq_getElem_cons h1, List.drop_eq_getElem_cons h2]
    simp only [List.cons.injEq]
    by_cases h : a[j] = b[j] <;> simp [h]
theorem equal_val (a b : List Ins) (hz : a.length ≤ 1048576) : slices_Equal_impl_Instr a b = some (decide (a = b)) := by
  rw [slices_Equal_impl_Instr_eq]
  by_cases h : a.length = b.length
  · rw [show decide ((a.length : Int) = (b.length : Int)) = true by simp [h]]
    have := equal_loop a b h hz a.length 0 (by omega)
    rw [show ((0 : Nat) : Int) = 0 by rfl] at this
    simp only [Bool.not_true, cond_false, this, List.drop_zero]
  · rw [show decide ((a.length : Int) = (b.length : Int)) = false by simp; omega]
    simp only [Bool.not_false, cond_true]
    rw [decide_eq_false]; rintro rfl; exact h rfl
theorem three_eq (l : List Ins) (k : Nat) (hk : k + 3 ≤ l.length) (a b c : Ins) : decide ((l.take (k + 3)).drop k = [a, b, c]) = (decide (rd (τ := TIns) l k = a) && decide (rd (τ := TIns) l ((k : Int) + 1) = b) && decide (rd (τ := TIns) l ((k : Int) + 2) = c)) := by
  rw [show (k : Int) + 1 = ((k + 1 : Nat) : Int) by omega, show (k : Int) + 2 = ((k + 2 : Nat) : Int) by omega, rd_nat (τ := TIns) l k (by omega), rd_nat (τ := TIns) l (k + 1) (by omega), rd_nat (τ := TIns) l (k + 2) (by omega)]
  rw [List.drop_take, show k + 3 - k = 3 by omega, List.drop_eq_getElem_cons (show k < l.length by omega), List.drop_eq_getElem_cons (show k + 1 < l.length by omega), List.drop_eq_getElem_cons (show k + 1 + 1 < l.length by omega)]
  simp [List.take]
  rw [Bool.and_assoc]
theorem lint_ends (at_ : Int) (calls : List Int) (l : List Ins) (f : Int) (hf : 16 ≤ f ∧ f ≤ 128) (hl : l.length ≤ 1048576) (h2 : 2 ≤ l.length) :
    ∀ (k i : Nat) (E : List Int), 2 ≤ i → i + k + 2 = l.length → EndsAre l f i E → ∃ E', EndsAre l f l.length E' ∧ impl_lint.l11111111010 f l (l, f, at_, calls, E) i = impl_lint.l111111111010 l (l, f, at_, calls, E') 2 := by
  intro k
  induction k with
  | zero =>
    intro i E h2i hk hE
    refine ⟨E, ⟨hE.1, fun j hj => ?_⟩, ?_⟩
    · rw [hE.2 j hj]
      congr 1
      have out : ∀ m : Int, (i : Int) ≤ m → endsI l f m = false := by
        intro m hm
        unfold endsI
        rw [show decide (m + 2 < (l.length : Int)) = false by simp; omega]; simp
      have r : ∀ m : Int, m < (l.length : Int) → ((m < (i : Int) ∧ endsI l f m = true) ↔ (m < (l.length : Int) ∧ endsI l f m = true)) := by
        intro m hm
        constructor
        · rintro ⟨_, h⟩; exact ⟨hm, h⟩
        · rintro ⟨_, h⟩
          refine ⟨?_, h⟩
          by_cases hmi : m < (i : Int)
          · exact hmi
          · rw [out m (by omega)] at h; cases h
      unfold endV
      exact ite_iff (r j (by omega)) (ite_iff (r (j - 1) (by omega)) (ite_iff (r (j - 2) (by omega)) rfl))
    · rw [impl_lint.l11111111010_eq, w64 (n := (i : Int) + 3) (by omega) (by omega), show decide ((i : Int) + 3 ≤ (l.length : Int)) = false by simp; omega]
      rfl
  | succ k ih =>
    intro i E h2i hk hE
    have hstep : ∀ E' : List Int, E'.length = l.length → (∀ j : Nat, j < l.length → E'[j]? = some (endV l f ((i : Int) + 1) j)) → ∃ E'', EndsAre l f l.length E'' ∧ impl_lint.l11111111010 f l (l, f, at_, calls, E') (((i + 1 : Nat)) : Int) = impl_lint.l111111111010 l (l, f, at_, calls, E'') 2 := by
      intro E' h1 h2'
      exact ih (i + 1) E' (by omega) (by omega) ⟨h1, fun j hj => by rw [h2' j hj]; rfl⟩
    have hEl := hE.1
    rw [impl_lint.l11111111010_eq, w64 (n := (i : Int) + 3) (by omega) (by omega), w64 (n := (i : Int) + 1) (by omega) (by omega), w64 (n := (i : Int) + 2) (by omega) (by omega), (epi_eq f hf).1, show decide ((i : Int) + 3 ≤ (l.length : Int)) = true by simp; omega, show decide ((0 : Int) ≤ (i : Int)) = true by simp, show decide ((i : Int) ≤ (i : Int) + 3) = true by simp; omega, show ((i : Int) + 3).toNat = i + 3 by omega, Int.toNat_natCast, show ((i : Int) + 1).toNat = i + 1 by omega, show ((i : Int) + 2).toNat = i + 2 by omega]
    simp only [cond_true, Bool.and_self, Option.bind_some]
    rw [equal_val _ _ (by simp; omega), three_eq l i (by omega)]
    have hB : endsI l f i = (decide (rd (τ := TIns) l i = ((14, 1, 2, 0, f - 8) : Ins)) && decide (rd (τ := TIns) l ((i : Int) + 1) = ((22, 2, 2, 0, f) : Ins)) && decide (rd (τ := TIns) l ((i : Int) + 2) = ((4, 0, 1, 0, 0) : Ins))) := by
      unfold endsI
      rw [show decide (2 ≤ (i : Int)) = true by simp; omega, show decide ((i : Int) + 2 < (l.length : Int)) = true by simp; omega]; simp
    rw [← hB]
    simp only [Option.bind_some]
    cases hb : endsI l f i with
    | true =>
      simp only [cond_true, letB]
      rw [inL_true (by omega) (by rw [hEl]; omega), inL_true (by omega) (by rw [List.length_set, hEl]; omega), inL_true (by omega) (by rw [List.length_set, List.length_set, hEl]; omega)]
      simp only [cond_true]
      rw [show (i : Int) + 1 = ((i + 1 : Nat) : Int) by omega]
      refine hstep _ (by simp [hEl]) (fun j hj => ?_)
      have hj' := hE.2 j hj
      rw [List.getElem?_set, List.getElem?_set, List.getElem?_set]
      simp only [List.length_set, hEl]
      unfold endV
      by_cases c2 : i + 2 = j
      · rw [if_pos c2, if_pos (by omega), if_neg (by omega), if_neg (by omega), if_pos ⟨by omega, by rw [show (j : Int) - 2 = (i : Int) by omega]; exact hb⟩]
      · rw [if_neg c2]
        by_cases c1 : i + 1 = j
        · rw [if_pos c1, if_pos (by omega), if_neg (by omega), if_pos ⟨by omega, by rw [show (j : Int) - 1 = (i : Int) by omega]; exact hb⟩]
        · rw [if_neg c1]
          by_cases c0 : i = j
          · rw [if_pos c0, if_pos (by omega), if_pos ⟨by omega, by rw [show (j : Int) = (i : Int) by omega]; exact hb⟩]
          · rw [if_neg c0, hj']
            unfold endV
            congr 1
            have r : ∀ m : Int, m ≠ (i : Int) → ((m < (i : Int) ∧ endsI l f m = true) ↔ (m < (i : Int) + 1 ∧ endsI l f m = true)) := by
              intro m hm
              constructor
              · rintro ⟨_, h⟩; exact ⟨by omega, h⟩
              · rintro ⟨_, h⟩; exact ⟨by omega, h⟩
            exact ite_iff (r j (by omega)) (ite_iff (r (j - 1) (by omega)) (ite_iff (r (j - 2) (by omega)) rfl))
    | false =>
      simp only [cond_false]
      rw [show (i : Int) + 1 = ((i + 1 : Nat) : Int) by omega]
      refine hstep _ hEl (fun j hj => ?_)
      rw [hE.2 j hj]
      unfold endV
      congr 1
      have r : ∀ m : Int, ((m < (i : Int) ∧ endsI l f m = true) ↔ (m < (i : Int) + 1 ∧ endsI l f m = true)) := by
        intro m
        constructor
        · rintro ⟨_, h⟩; exact ⟨by omega, h⟩
        · rintro ⟨_, h⟩
          refine ⟨?_, h⟩
          by_cases hmi : m = (i : Int)
          · rw [hmi, hb] at h; cases h
          · omega
      exact ite_iff (r j) (ite_iff (r (j - 1)) (ite_iff (r (j - 2)) rfl))
theorem index_loop (l : List Int) (n : Int) (hz : l.length ≤ 1048576) : ∀ (k j : Nat), j + k = l.length → ∃ r : Int, slices_Index_int.l1010 l n (l.length : Int) (j : Int) = some r ∧ decide (r ≥ 0) = decide (n ∈ l.drop j) ∧ spec_l06HasInt.l1010 l n (j : Int) = some (decide (n ∈ l.drop j)) := by
  intro k
  induction k with
  | zero =>
    intro j hj
    rw [slices_Index_int.l1010_eq, spec_l06HasInt.l1010_eq, lt_nat, show decide (j < l.length) = false by simp; omega, List.drop_eq_nil_of_le (by omega)]
    exact ⟨-1, rfl, by simp, by simp⟩
  | succ k ih =>
    intro j hj
    have h1 : j < l.length := by omega
    obtain ⟨r, i1, i2, i3⟩ := ih (j + 1) (by omega)
    rw [slices_Index_int.l1010_eq, spec_l06HasInt.l1010_eq, lt_nat, inL_nat, decide_eq_true h1, w64_succ j l.length h1 (by omega), rd_nat (τ := .int .i64) l j h1, List.drop_eq_getElem_cons h1]
    simp only [cond_true]
    by_cases h : n = l[j]
    · rw [decide_eq_true h, decide_eq_true h.symm, decide_eq_true (show n ∈ l[j] :: l.drop (j + 1) by rw [h]; exact List.mem_cons_self)]
      exact ⟨(j : Int), rfl, by simp, rfl⟩
    · have e : decide (n ∈ l[j] :: l.drop (j + 1)) = decide (n ∈ l.drop (j + 1)) := by simp only [List.mem_cons, h, false_or]
      rw [e, decide_eq_false h, decide_eq_false (fun q : l[j] = n => h q.symm)]
      exact ⟨r, i1, i2, i3⟩
theorem has_val (l : List Int) (n : Int) (hz : l.length ≤ 1048576) : slices_Contains_int l n = some (decide (n ∈ l)) ∧ spec_l06HasInt l n = some (decide (n ∈ l)) := by
  obtain ⟨r, i1, i2, i3⟩ := index_loop l n hz l.length 0 (by omega)
  rw [show ((0 : Nat) : Int) = 0 by rfl] at i1 i3
  rw [slices_Contains_int_eq, slices_Index_int_eq, i1, spec_l06HasInt_eq, i3]
  rw [Option.bind_some, i2, List.drop_zero]
  exact ⟨rfl, rfl⟩
theorem branch_val (n : Int) : impl_isBranch n = some (decide (5 ≤ n) && decide (n ≤ 10)) := by rw [impl_isBranch_eq, within_val]; rfl
theorem load_val (n : Int) : impl_isLoad n = some (decide (11 ≤ n) && decide (n ≤ 17)) := by rw [impl_isLoad_eq, within_val]; rfl
theorem store_val (n : Int) : impl_isStore n = some (decide (18 ≤ n) && decide (n ≤ 21)) := by rw [impl_isStore_eq, within_val]; rfl
/-- How many bytes a load or store moves, and whether with a sign. -/
def widV (n : Int) : Int × Bool :=
  if n = 11 then (1, true) else if n = 12 then (2, true) else if n = 13 then (4, true) else if n = 14 then (8, true) else if n = 15 then (1, false) else if n = 16 then (2, false) else if n = 17 then (4, false)
  else if n = 18 then (1, false) else if n = 19 then (2, false) else if n = 20 then (4, false) else if n = 21 then (8, false) else (0, false)
theorem spec_wid (n : Int) (h : 1 ≤ n) (h' : n ≤ 64) : spec_l03Width n = some (widV n) := by
  rw [spec_l03Width_eq]
  obtain ⟨k, rfl⟩ := fin65 (show 0 ≤ n by omega) h'
  clear h h'; revert k
  decide +kernel
theorem impl_wid (n : Int) (h : 11 ≤ n) (h' : n ≤ 21) : impl_widthOf n = some (widV n) := by
  rw [impl_widthOf_eq, store_val]
  have : n = 11 ∨ n = 12 ∨ n = 13 ∨ n = 14 ∨ n = 15 ∨ n = 16 ∨ n = 17 ∨ n = 18 ∨ n = 19 ∨ n = 20 ∨ n = 21 := by omega
  rcases this with rfl | rfl | rfl | rfl | rfl | rfl | rfl | rfl | rfl | rfl | rfl <;> decide +kernel
theorem wid_pos (n : Int) (h : 11 ≤ n) (h' : n ≤ 21) : 1 ≤ (widV n).1 ∧ (widV n).1 ≤ 8 := by
  have : n = 11 ∨ n = 12 ∨ n = 13 ∨ n = 14 ∨ n = 15 ∨ n = 16 ∨ n = 17 ∨ n = 18 ∨ n = 19 ∨ n = 20 ∨ n = 21 := by omega
  rcases this with rfl | rfl | rfl | rfl | rfl | rfl | rfl | rfl | rfl | rfl | rfl <;> decide
theorem wid_zero (n : Int) (h : ¬ (11 ≤ n ∧ n ≤ 21)) : (widV n).1 = 0 := by
  unfold widV
  repeat rw [if_neg (by omega)]
theorem branch_form (n : Int) (h : 1 ≤ n) (h' : n ≤ 64) : decide ((shp n).1 = 4) = (decide (5 ≤ n) && decide (n ≤ 10)) := by
  obtain ⟨k, rfl⟩ := fin65 (show 0 ≤ n by omega) h'
  clear h'; revert k
  decide +kernel
theorem ends_rd {l : List Ins} {f : Int} {E : List Int} (hE : EndsAre l f l.length E) (i : Int) (h : 0 ≤ i) (h' : i < (l.length : Int)) : rd (τ := .int .i64) E i = endV l f l.length i := by
  obtain ⟨j, rfl⟩ := Int.eq_ofNat_of_zero_le h
  have := hE.2 j (by omega)
  unfold rd
  rw [Int.toNat_natCast, List.getD_eq_getElem?_getD, this]; rfl
theorem endV_full (l : List Ins) (f i : Int) (h : i < (l.length : Int)) : endV l f l.length i = if endsI l f i = true then 1 else if endsI l f (i - 1) = true then 2 else if endsI l f (i - 2) = true then 3 else 0 := by
  unfold endV
  exact ite_iff ⟨fun h => h.2, fun hh => ⟨h, hh⟩⟩ (ite_iff ⟨fun h => h.2, fun hh => ⟨by omega, hh⟩⟩ (ite_iff ⟨fun h => h.2, fun hh => ⟨by omega, hh⟩⟩ rfl))
theorem ends_bits {l : List Ins} {f : Int} {E : List Int} (hE : EndsAre l f l.length E) (i : Int) (h : 0 ≤ i) (h' : i < (l.length : Int)) :
    decide (rd (τ := .int .i64) E i = 1) = endsI l f i ∧ decide (rd (τ := .int .i64) E i = 2) = endsI l f (i - 1) ∧ decide (rd (τ := .int .i64) E i = 3) = endsI l f (i - 2) ∧ decide (rd (τ := .int .i64) E i < 2) = (!endsI l f (i - 1) && !endsI l f (i - 2)) := by
  have hx := ends_ex l f i
  rw [ends_rd hE i h h', endV_full l f i h']
  cases h0 : endsI l f i <;> cases h1 : endsI l f (i - 1) <;> cases h2 : endsI l f (i - 2) <;> simp_all
theorem wrap_four (n : Int) (h : -9223372036854775808 ≤ n) (h' : n ≤ 9223372036854775807) : IntKind.wrap .i64 (n.tdiv 4) = n.tdiv 4 := by
  have : -9223372036854775808 ≤ n.tdiv 4 ∧ n.tdiv 4 ≤ 9223372036854775807 := by
    rcases Int.le_total 0 n with h0 | h0
    · rw [Int.tdiv_eq_ediv_of_nonneg h0]; omega
    · have : n.tdiv 4 = -((-n).tdiv 4) := by rw [Int.neg_tdiv, Int.neg_neg]
      rw [this, Int.tdiv_eq_ediv_of_nonneg (by omega)]; omega
  exact w64 this.1 this.2
theorem tdiv4 (n : Int) (h : n.tmod 4 = 0) : n.tdiv 4 = n / 4 := by
  rw [Int.tdiv_eq_ediv_of_dvd]; exact Int.dvd_iff_tmod_eq_zero.mpr h
theorem InsR.imm {x : Ins} (h : InsR x) : -2147483648 ≤ x.2.2.2.2 ∧ x.2.2.2.2 ≤ 2147483647 := by
  have hrv := h.2.2.2
  have hsf := shp_form h.1 h.2.1
  unfold rightV at hrv
  simp only [Bool.and_eq_true] at hrv
  have hrv := hrv.2
  generalize (shp x.1).1 = ff at *
  unfold immR at hrv
  rcases forms hsf with rfl | rfl | rfl | rfl | rfl | rfl | rfl | rfl | rfl <;> simp at hrv <;> omega
theorem goes_both (l : List Ins) (f at_ : Int) (calls E : List Int) (hE : EndsAre l f l.length E) (hf : 16 ≤ f ∧ f ≤ 128) (hl : l.length ≤ 1048576) (i : Int) (h : 0 ≤ i) (h' : i < (l.length : Int)) (hr : InsR (rd (τ := TIns) l i)) :
    ∃ b, impl_linting_permitted (l, f, at_, calls, E) i = some b ∧ spec_l06Goes l i (rd (τ := TIns) l i).2.2.2.2 f = some b := by
  have hi := hr.imm
  rw [impl_linting_permitted_eq, spec_l06Goes_eq]
  dsimp only
  rw [inL_true h h']
  generalize (rd (τ := TIns) l i).2.2.2.2 = m at *
  rw [wrap_four m (by omega) (by omega)]
  by_cases h4 : m.tmod 4 = 0
  · rw [tdiv4 m h4, w64 (n := i + m / 4) (by omega) (by omega), w64 (n := (l.length : Int) - 1) (by omega) (by omega), w64 (n := i + m / 4 - 1) (by omega) (by omega), w64 (n := i + m / 4 - 2) (by omega) (by omega), within_val, spec_ends_val l f _ hf hl (by omega) (by omega), spec_ends_val l f _ hf hl (by omega) (by omega)]
    simp only [h4, decide_true, cond_true, Option.bind_some]
    by_cases ha : 2 ≤ i + m / 4
    · by_cases hb : i + m / 4 < (l.length : Int)
      · have he := ends_bits hE (i + m / 4) (by omega) hb
        rw [inL_true (by omega) (by rw [hE.1]; exact hb), he.2.2.2, decide_eq_true ha, show decide (i + m / 4 ≤ (l.length : Int) - 1) = true by simp; omega, decide_eq_true hb]
        simp only [Bool.and_self, cond_true]
        cases endsI l f (i + m / 4 - 1) <;> exact ⟨_, rfl, rfl⟩
      · rw [show decide (i + m / 4 ≤ (l.length : Int) - 1) = false by simp; omega, decide_eq_false hb]
        rw [decide_eq_true ha]
        exact ⟨_, rfl, rfl⟩
    · rw [decide_eq_false ha]
      exact ⟨_, rfl, rfl⟩
  · rw [decide_eq_false h4]
    exact ⟨_, rfl, rfl⟩
theorem fault_both (l : List Ins) (f at_ : Int) (calls E : List Int) (hE : EndsAre l f l.length E) (hf : 16 ≤ f ∧ f ≤ 128) (ha : 0 ≤ at_ ∧ at_ ≤ 1048575) (hl : l.length ≤ 1048576) (hc : calls.length ≤ 1048576) (i : Int) (h : 2 ≤ i) (h' : i < (l.length : Int)) (hr : InsR (rd (τ := TIns) l i)) :
    ∃ b, impl_linting_fault (l, f, at_, calls, E) i = some b ∧ spec_l06Rule l i at_ f calls = some b := by
  obtain ⟨g, g1, g2⟩ := goes_both l f at_ calls E hE hf hl i (by omega) h' hr
  have he := ends_bits hE i (by omega) h'
  rw [impl_linting_fault_eq, spec_l06Rule_eq]
  dsimp only
  rw [inL_true (by omega) h', inL_true (by omega) (by rw [hE.1]; exact h'), g1, g2, he.1, he.2.1, he.2.2.1, w64 (n := i - 2) (by omega) (by omega), w64 (n := i - 1) (by omega) (by omega), spec_ends_val l f i hf hl (by omega) (by omega), spec_ends_val l f (i - 1) hf hl (by omega) (by omega), spec_ends_val l f (i - 2) hf hl (by omega) (by omega), (has_val calls _ hc).1, (has_val calls _ hc).2, spec_wid _ hr.1 hr.2.1, spec_shape _ (by have := hr.1; omega) hr.2.1, branch_val, load_val, store_val]
  have hbf := branch_form _ hr.1 hr.2.1
  simp only [Option.bind_some, cond_true, joinB, hbf, within_val]
  clear g1 g2 he hr hE hbf
  generalize endsI l f i = B0 at *
  generalize endsI l f (i - 1) = B1 at *
  generalize endsI l f (i - 2) = B2 at *
  obtain ⟨x, hx⟩ : ∃ x : Ins, rd (τ := TIns) l i = x := ⟨_, rfl⟩
  rw [hx] at *
  clear hx
  obtain ⟨n, d, a, b, m⟩ := x
  dsimp only at *
  have hw := impl_wid n
  have hwp := wid_pos n
  have hwz := wid_zero n
  by_cases h4 : n = 4
  · subst h4
    simp only [decide_true, cond_true]
    cases B2 <;> exact ⟨_, rfl, rfl⟩
  · rw [decide_eq_false h4]
    simp only [cond_false]
    by_cases h3 : n = 3
    · subst h3
      simp only [decide_true, cond_true]
      by_cases hd : d = 1
      · rw [decide_eq_true hd]
        cases decide (IntKind.wrap .i64 (IntKind.wrap .i64 (at_ + IntKind.wrap .i64 (4 * i)) + m) ∈ calls) <;> exact ⟨_, rfl, rfl⟩
      · rw [decide_eq_false hd]
        cases decide (d = 0) <;> cases g <;> exact ⟨_, rfl, rfl⟩
    · rw [decide_eq_false h3]
      simp only [cond_false]
      cases hb : (decide (5 ≤ n) && decide (n ≤ 10)) with
      | true => cases g <;> exact ⟨_, rfl, rfl⟩
      | false =>
        simp only [cond_false]
        have hm : 0 ≤ (widV n).1 ∧ (widV n).1 ≤ 8 := by
          by_cases q : 11 ≤ n ∧ n ≤ 21
          · have := hwp q.1 q.2; omega
          · rw [hwz q]; decide
        rw [w64 (n := f - 8) (by omega) (by omega), w64 (n := f - 8 - (widV n).1) (by omega) (by omega)]
        by_cases q : 11 ≤ n ∧ n ≤ 21
        · have hwn := hwp q.1 q.2
          rw [hw q.1 q.2]
          simp only [Option.bind_some]
          rw [w64 (n := f - 8 - (widV n).1) (by omega) (by omega), show decide ((widV n).1 > 0) = true by simp; omega, show decide ((widV n).1 = 0) = false by simp; omega]
          have hls : (bif (decide (11 ≤ n) && decide (n ≤ 17)) then true else (decide (18 ≤ n) && decide (n ≤ 21))) = true := by
            by_cases q2 : n ≤ 17
            · simp [q.1, q2]
            · rw [decide_eq_false q2, show decide (18 ≤ n) = true by simp; omega, decide_eq_true q.2]; simp
          have hm2 : (decide (0 ≤ m) && decide (m ≤ f - 8 - (widV n).1)) = (!decide (m < 0) && !decide (m > f - 8 - (widV n).1)) := by
            by_cases z1 : m < 0 <;> by_cases z2 : m > f - 8 - (widV n).1 <;> simp [z1, z2] <;> omega
          rw [hm2]
          clear hm hw hwp hwz hwn hm2 hb
          generalize (decide (11 ≤ n) && decide (n ≤ 17)) = L at *
          generalize (decide (18 ≤ n) && decide (n ≤ 21)) = S at *
          generalize decide (m < 0) = z1
          generalize decide (m > f - 8 - (widV n).1) = z2
          generalize decide (m.tmod (widV n).1 = 0) = z3
          generalize decide (d = 1) = z4
          generalize decide (d = 2) = z5
          generalize decide (a = 2) = z6
          cases L <;> cases S <;> first | (cases hls; done) | (cases z4 <;> cases z5 <;> cases B0 <;> cases B1 <;> first | exact ⟨_, rfl, rfl⟩ | (cases z6 <;> first | exact ⟨_, rfl, rfl⟩ | (cases z1 <;> cases z2 <;> cases z3 <;> exact ⟨_, rfl, rfl⟩)))
        · have hls1 : (decide (11 ≤ n) && decide (n ≤ 17)) = false := by
            by_cases q1 : 11 ≤ n
            · rw [show decide (n ≤ 17) = false by simp; omega]; simp
            · simp [q1]
          have hls2 : (decide (18 ≤ n) && decide (n ≤ 21)) = false := by
            by_cases q1 : 18 ≤ n
            · rw [show decide (n ≤ 21) = false by simp; omega]; simp
            · simp [q1]
          rw [hls1, hls2, hwz q]
          cases decide (d = 1) <;> cases decide (d = 2) <;> cases B0 <;> cases B1 <;> exact ⟨_, rfl, rfl⟩
def frameV (f : Int) : Bool := bif decide (16 ≤ f) && decide (f ≤ 128) then decide (f.tmod 16 = 0) else false
theorem frame_i (f : Int) : impl_FrameOK f = some (frameV f) := by
  rw [impl_FrameOK_eq, within_val]
  simp only [Option.bind_some, frameV]
  cases (decide (16 ≤ f) && decide (f ≤ 128)) <;> rfl
theorem frame_val (f : Int) : impl_FrameOK f = some (frameV f) ∧ spec_FrameOK f = some (frameV f) := by
  rw [impl_FrameOK_eq, spec_FrameOK_eq, within_val, spec_in_val]
  simp only [Option.bind_some, frameV]
  cases (decide (16 ≤ f) && decide (f ≤ 128)) <;> exact ⟨rfl, rfl⟩
theorem frameV_range {f : Int} (h : frameV f = true) : 16 ≤ f ∧ f ≤ 128 := by
  unfold frameV at h
  cases hb : (decide (16 ≤ f) && decide (f ≤ 128)) with
  | true => simpa using hb
  | false => rw [hb] at h; cases h
def codeAtV (a : Int) : Bool := bif decide (0 ≤ a) && decide (a ≤ 1048575) then decide (a.tmod 4 = 0) else false
theorem codeAt_val (a : Int) : impl_isCodeAt a = some (codeAtV a) := by
  rw [impl_isCodeAt_eq, within_val]
  simp only [Option.bind_some, codeAtV]
  cases (decide (0 ≤ a) && decide (a ≤ 1048575)) <;> rfl
theorem codeAtV_range {a : Int} (h : codeAtV a = true) : 0 ≤ a ∧ a ≤ 1048575 := by
  unfold codeAtV at h
  cases hb : (decide (0 ≤ a) && decide (a ≤ 1048575)) with
  | true => simpa using hb
  | false => rw [hb] at h; cases h
def codeSizeV (n : Nat) : Bool := bif decide ((n : Int).tmod 4 = 0) then decide ((n : Int) ≤ 256) else false
theorem codeSize_val (t : ByteArray) : impl_isCodeSize t = some (codeSizeV t.size) ∧ spec_l06Size t = some (codeSizeV t.size) := by
  rw [impl_isCodeSize_eq, spec_l06Size_eq]
  unfold codeSizeV
  cases decide ((t.size : Int).tmod 4 = 0) <;> exact ⟨rfl, rfl⟩
theorem codeSizeV_range {n : Nat} (h : codeSizeV n = true) : n % 4 = 0 ∧ n ≤ 256 := by
  unfold codeSizeV at h
  cases hb : decide ((n : Int).tmod 4 = 0) with
  | true =>
    rw [hb] at h
    simp only [cond_true, decide_eq_true_eq] at h hb
    rw [Int.tmod_eq_emod_of_nonneg (by omega)] at hb
    omega
  | false => rw [hb] at h; cases h
def funcSizeV (n : Nat) : Bool := bif codeSizeV n then decide ((n : Int) ≥ 20) else false
theorem funcSize_val (t : ByteArray) : impl_isFuncSize t = some (funcSizeV t.size) := by
  rw [impl_isFuncSize_eq, (codeSize_val t).1]
  simp only [Option.bind_some, funcSizeV]
  cases codeSizeV t.size <;> rfl
theorem rules_both (l : List Ins) (f at_ : Int) (calls E : List Int) (hE : EndsAre l f l.length E) (hf : 16 ≤ f ∧ f ≤ 128) (ha : 0 ≤ at_ ∧ at_ ≤ 1048575) (hl : l.length ≤ 1048576) (hc : calls.length ≤ 1048576) (hr : ∀ x ∈ l, InsR x) :
    ∀ (k i : Nat), 2 ≤ i → i + k = l.length → ∃ v, impl_lint.l111111111010 l (l, f, at_, calls, E) i = some v ∧ spec_l06Lint.l111111111010 at_ f calls l ((l.length : Int) - 1) i = some v := by
  intro k
  induction k with
  | zero =>
    intro i h2 hk
    rw [impl_lint.l111111111010_eq, spec_l06Lint.l111111111010_eq, lt_nat, show decide (i < l.length) = false by simp; omega, show decide ((i : Int) ≤ (l.length : Int) - 1) = false by simp; omega]
    exact ⟨_, rfl, rfl⟩
  | succ k ih =>
    intro i h2 hk
    obtain ⟨v, v1, v2⟩ := ih (i + 1) (by omega) (by omega)
    have hi : i < l.length := by omega
    obtain ⟨b, b1, b2⟩ := fault_both l f at_ calls E hE hf ha hl hc i (by omega) (by omega) (by rw [rd_nat (τ := TIns) l i hi]; exact hr _ (List.getElem_mem hi))
    rw [impl_lint.l111111111010_eq, spec_l06Lint.l111111111010_eq, lt_nat, decide_eq_true hi, show decide ((i : Int) ≤ (l.length : Int) - 1) = true by simp; omega, b1, b2, w64_succ i l.length hi (by omega), v1, v2]
    simp only [cond_true, Option.bind_some]
    cases decide (b = 0) <;> exact ⟨_, rfl, rfl⟩
theorem lint_both (code : ByteArray) (at_ f : Int) (calls : List Int) (hz : code.size ≤ 1048576) (hc : calls.length ≤ 1048576) : ∃ v, impl_lint code at_ f calls = some v ∧ spec_l06Lint code at_ f calls = some v := by
  rw [impl_lint_eq, spec_l06Lint_eq, codeAt_val, spec_in_val, (frame_val f).1, (frame_val f).2, funcSize_val, (codeSize_val code).2]
  simp only [Option.bind_some, joinB]
  have ec : (bif !(decide (0 ≤ at_) && decide (at_ ≤ 1048575)) then true else !decide (at_.tmod 4 = 0)) = !codeAtV at_ := by
    unfold codeAtV; cases (decide (0 ≤ at_) && decide (at_ ≤ 1048575)) <;> rfl
  cases hA : codeAtV at_ with
  | false =>
    unfold codeAtV at hA
    cases hq : (decide (0 ≤ at_) && decide (at_ ≤ 1048575)) with
    | false => exact ⟨_, rfl, rfl⟩
    | true => rw [hq] at hA; simp only [cond_true] at hA; rw [hA]; exact ⟨_, rfl, rfl⟩
  | true =>
    have ha := codeAtV_range hA
    have hq : (decide (0 ≤ at_) && decide (at_ ≤ 1048575)) = true := by simp [ha]
    have h4 : decide (at_.tmod 4 = 0) = true := by unfold codeAtV at hA; rw [hq] at hA; exact hA
    rw [hq, h4]
    simp only [Bool.not_true, cond_false]
    cases hF : frameV f with
    | false => exact ⟨_, rfl, rfl⟩
    | true =>
      have hf := frameV_range hF
      simp only [Bool.not_true, cond_false]
      cases hS : codeSizeV code.size with
      | false => unfold funcSizeV; rw [hS]; exact ⟨_, rfl, rfl⟩
      | true =>
        have hs := codeSizeV_range hS
        unfold funcSizeV
        rw [hS]
        simp only [Bool.not_true, cond_false, cond_true]
        by_cases h20 : (code.size : Int) ≥ 20
        · rw [decide_eq_true h20, show decide ((code.size : Int) < 20) = false by simp; omega]
          simp only [Bool.not_true, cond_false]
          cases instrs_both code hs.1 (by omega) with
          | bad k hi hsp h0 =>
            rw [hi, hsp]
            simp only [Option.bind_some, Bool.not_false, cond_true]
            rw [decide_eq_true (show k ≥ 0 from h0)]
            exact ⟨_, rfl, rfl⟩
          | ok l hi hsp hll hr =>
            rw [hi, hsp, impl_prologue_eq]
            simp only [Option.bind_some, Bool.not_true, cond_false]
            rw [show decide ((-1 : Int) ≥ 0) = false by rfl]
            simp only [cond_false]
            have hl5 : 5 ≤ l.length := by omega
            have hl64 : l.length ≤ 64 := by omega
            have last : ∃ v, impl_lint.l1111010 at_ f calls l [(22, 2, 2, 0, (IntKind.wrap .i64 (0 - f))), (21, 0, 2, 1, (IntKind.wrap .i64 (f - 8)))] 2 2 = some v ∧ spec_l06Lint.l111111010 at_ f calls l 2 = some v := by
              rw [impl_lint.l1111010_eq, spec_l06Lint.l111111010_eq]
              rw [show decide ((2 : Int) < 2) = false by rfl]
              simp only [cond_false, joinB]
              rw [w64 (n := (l.length : Int) - 1) (by omega) (by omega), inL_true (by omega) (by omega), room_le (by rw [Int.toNat_natCast]; omega) (by rw [Int.toNat_natCast]; omega), show decide ((0 : Int) ≤ (l.length : Int)) = true by simp, Int.toNat_natCast]
              simp only [cond_true, Bool.and_self]
              obtain ⟨E, hE, e⟩ := lint_ends at_ calls l f hf (by omega) (by omega) (l.length - 4) 2 (List.replicate l.length 0) (by omega) (by omega) ⟨by simp, fun j hj => by
                rw [List.getElem?_replicate, if_pos hj]
                unfold endV
                have z : ∀ m : Int, m < ((2 : Nat) : Int) → endsI l f m = false := by
                  intro m hm
                  unfold endsI
                  rw [show decide (2 ≤ m) = false by simp; omega]; simp
                rw [if_neg (fun h => by rw [z _ h.1] at h; cases h.2), if_neg (fun h => by rw [z _ h.1] at h; cases h.2), if_neg (fun h => by rw [z _ h.1] at h; cases h.2)]⟩
              rw [show ((2 : Nat) : Int) = 2 by rfl] at e
              rw [e]
              obtain ⟨v, v1, v2⟩ := rules_both l f at_ calls E hE hf ha (by omega) (by omega) hr (l.length - 2) 2 (by omega) (by omega)
              rw [show ((2 : Nat) : Int) = 2 by rfl] at v1 v2
              rw [v1, v2]
              cases decide ((rd (τ := TIns) l ((l.length : Int) - 1)).1 = 4) <;> cases decide ((rd (τ := TIns) l ((l.length : Int) - 1)).1 = 3) <;> cases decide ((rd (τ := TIns) l ((l.length : Int) - 1)).2.1 = 0) <;> exact ⟨_, rfl, rfl⟩
            have step : ∀ (j : Nat), j < 2 → (∃ v, impl_lint.l1111010 at_ f calls l [(22, 2, 2, 0, (IntKind.wrap .i64 (0 - f))), (21, 0, 2, 1, (IntKind.wrap .i64 (f - 8)))] 2 ((j + 1 : Nat) : Int) = some v ∧ spec_l06Lint.l111111010 at_ f calls l ((j + 1 : Nat) : Int) = some v) →
                ∃ v, impl_lint.l1111010 at_ f calls l [(22, 2, 2, 0, (IntKind.wrap .i64 (0 - f))), (21, 0, 2, 1, (IntKind.wrap .i64 (f - 8)))] 2 (j : Int) = some v ∧ spec_l06Lint.l111111010 at_ f calls l (j : Int) = some v := by
              rintro j hj ⟨v, v1, v2⟩
              rw [impl_lint.l1111010_eq, spec_l06Lint.l111111010_eq, show decide ((j : Int) < 2) = true by simp; omega, inL_true (i := (j : Int)) (by omega) (by simp; omega), inL_true (i := (j : Int)) (by omega) (by omega), w64 (n := (j : Int) + 1) (by omega) (by omega), show (j : Int) + 1 = ((j + 1 : Nat) : Int) by omega, v1, v2, spec_l06Prologue_eq]
              simp only [cond_true, Option.bind_some]
              rw [inL_true (i := (j : Int)) (by omega) (by simp; omega)]
              simp only [cond_true]
              cases eqD TIns (rd (τ := TIns) l (j : Int)) (rd (τ := TIns) [(22, 2, 2, 0, (IntKind.wrap .i64 (0 - f))), (21, 0, 2, 1, (IntKind.wrap .i64 (f - 8)))] (j : Int)) <;> exact ⟨_, rfl, rfl⟩
            exact step 0 (by omega) (step 1 (by omega) last)
        · rw [decide_eq_false h20, show decide ((code.size : Int) < 20) = true by simp; omega]
          exact ⟨_, rfl, rfl⟩
abbrev TSym : Ty := .pair .str (.pair (.int .i64) (.pair (.int .i64) (.pair (.int .i64) (.int .i64))))
abbrev Sym : Type := ByteArray × Int × Int × Int × Int
abbrev Img : Type := ByteArray × ByteArray × List Sym
noncomputable def nameV (t : ByteArray) : Bool := (impl_NameOK t).getD false
theorem name_i (t : ByteArray) : impl_NameOK t = some (nameV t) := by
  obtain ⟨v, h1⟩ := some_name t
  unfold nameV
  rw [h1]; rfl
theorem name_val (t : ByteArray) : impl_NameOK t = some (nameV t) ∧ spec_l00Word t = some (nameV t) := by
  obtain ⟨v, h1, h2⟩ := both_name t
  unfold nameV
  rw [h1, h2]; exact ⟨rfl, rfl⟩
def dupV (l : List Sym) (name : ByteArray) : Bool := l.any fun y => decide (y.1 = name)
theorem dupV_pos {y : Sym} {l : List Sym} {n : ByteArray} (h : y.1 = n) : dupV (y :: l) n = true := by simp [dupV, h]
theorem dupV_neg {y : Sym} {l : List Sym} {n : ByteArray} (h : ¬ y.1 = n) : dupV (y :: l) n = dupV l n := by simp [dupV, h]
theorem impl_dup (e : Int × Int) (im : Img) (s : Sym) (l : List Sym) (hl : l.length ≤ 16) : ∀ (k j : Nat), j + k = l.length → impl_Image_lintSymbol.l111010 e im s l (l.length : Int) (j : Int) = if dupV (l.drop j) s.1 = true then some (24, e) else impl_Image_lintSymbol.l111010 e im s l (l.length : Int) (l.length : Int) := by
  intro k
  induction k with
  | zero => intro j h; have : j = l.length := by omega
            subst this; simp [dupV]
  | succ k ih =>
    intro j h
    have hj : j < l.length := by omega
    rw [impl_Image_lintSymbol.l111010_eq, lt_nat, inL_nat, decide_eq_true hj, w64_succ j l.length hj (by omega), ih (j + 1) (by omega), rd_nat (τ := TSym) l j hj, strEq_dec, List.drop_eq_getElem_cons hj]
    by_cases hn : l[j].1 = s.1
    · rw [dupV_pos hn, decide_eq_true hn]; rfl
    · rw [dupV_neg hn, decide_eq_false hn]; rfl
theorem spec_dup (im : Img) (c d : Int) (i : Nat) (s : Sym) (hi : i ≤ im.2.2.length) (hl : im.2.2.length ≤ 16) : ∀ (k j : Nat), j + k = i → spec_l07Symbols.l111010010011010 im c d (i : Int) s (j : Int) = if dupV ((im.2.2.take i).drop j) s.1 = true then some ((i : Int), 24) else spec_l07Symbols.l111010010011010 im c d (i : Int) s (i : Int) := by
  intro k
  induction k with
  | zero => intro j h; have : j = i := by omega
            subst this; simp [dupV]
  | succ k ih =>
    intro j h
    have hj : j < i := by omega
    rw [spec_l07Symbols.l111010010011010_eq, lt_nat, inL_nat, decide_eq_true hj, decide_eq_true (show j < im.2.2.length by omega), w64_succ j i hj (by omega), ih (j + 1) (by omega), rd_nat (τ := TSym) im.2.2 j (by omega), strEq_dec, List.drop_eq_getElem_cons (show j < (im.2.2.take i).length by simp; omega)]
    have hg : (im.2.2.take i)[j]'(by simp; omega) = im.2.2[j] := List.getElem_take
    rw [hg]
    by_cases hn : im.2.2[j].1 = s.1
    · rw [dupV_pos hn, decide_eq_true hn]; rfl
    · rw [dupV_neg hn, decide_eq_false hn]; rfl
/-- What the check of a symbol comes to. -/
noncomputable def lintS (im : Img) (i : Nat) (s : Sym) (e : Int × Int) : Int × Int × Int :=
  if nameV s.1 = false then (3, e)
  else if dupV (im.2.2.take i) s.1 = true then (24, e)
  else if s.2.1 = 1 then
    if s.2.2.1 = e.1 ∧ 1 ≤ s.2.2.2.1 ∧ s.2.2.2.1 ≤ (im.1.size : Int) - e.1 then (0, s.2.2.1 + s.2.2.2.1, e.2) else (4, e)
  else if s.2.1 = 2 then
    if e.2 ≤ s.2.2.1 ∧ s.2.2.1 ≤ (im.2.1.size : Int) ∧ s.2.2.1 % 8 = 0 ∧ s.2.2.2.1 % 8 = 0 ∧ 1 ≤ s.2.2.2.1 ∧ s.2.2.2.1 ≤ (im.2.1.size : Int) - s.2.2.1 then
      if s.2.2.2.2 = 0 then (0, e.1, s.2.2.1 + s.2.2.2.1) else (17, e.1, s.2.2.1 + s.2.2.2.1)
    else (4, e)
  else (26, e)
structure EndsR (im : Img) (e : Int × Int) : Prop where
  c : 0 ≤ e.1 ∧ e.1 ≤ (im.1.size : Int)
  d : 0 ≤ e.2 ∧ e.2 ≤ (im.2.1.size : Int)
structure ImgSz (im : Img) : Prop where
  n : im.2.2.length ≤ 16
  c : im.1.size ≤ 1024
  d : im.2.1.size ≤ 256
theorem tmod8 {n : Int} : decide (n.tmod 8 = 0) = decide (n % 8 = 0) := by
  congr 1; exact propext ⟨fun h => by rw [← Int.dvd_iff_tmod_eq_zero] at h; omega, fun h => by rw [← Int.dvd_iff_tmod_eq_zero]; omega⟩
theorem impl_lintS (im : Img) (hz : ImgSz im) (i : Nat) (hi : i < im.2.2.length) (e : Int × Int) (he : EndsR im e) : impl_Image_lintSymbol im i e = some (lintS im i im.2.2[i] e) := by
  obtain ⟨hn, hc, hd⟩ := hz
  rw [impl_Image_lintSymbol_eq, inL_nat, decide_eq_true hi, rd_nat (τ := TSym) im.2.2 i hi, name_i _, Int.toNat_natCast, show (Int.toNat 0) = 0 by rfl, List.drop_zero, show decide ((0 : Int) ≤ (i : Int)) = true by simp, show decide ((i : Int) ≤ (im.2.2.length : Int)) = true by simp; omega]
  simp only [cond_true, Bool.and_self, Nat.le_refl, decide_true, Option.bind_some]
  have hlt : (im.2.2.take i).length = i := by simp; omega
  have hd' := impl_dup e im im.2.2[i] (im.2.2.take i) (by omega) i 0 (by omega)
  rw [hlt, show ((0 : Nat) : Int) = 0 by rfl, List.drop_zero] at hd'
  rw [hlt, hd', impl_Image_lintSymbol.l111010_eq, show decide ((i : Int) < (i : Int)) = false by simp]
  obtain ⟨s, hs⟩ : ∃ s : Sym, im.2.2[i] = s := ⟨_, rfl⟩
  rw [hs]
  obtain ⟨nm, kd, at_, sz, fr⟩ := s
  obtain ⟨ec, ed⟩ := e
  obtain ⟨⟨hc1, hc2⟩, ⟨hd1, hd2⟩⟩ := he
  dsimp only at *
  unfold lintS
  dsimp only
  simp only [cond_false, within_val, Option.bind_some, joinB]
  cases nameV nm with
  | false => rfl
  | true =>
    simp only [Bool.not_true, cond_false, Bool.true_eq_false, ↓reduceIte]
    by_cases hdup : dupV (im.2.2.take i) nm = true
    · rw [if_pos hdup, if_pos hdup]
    · rw [if_neg hdup, if_neg hdup]
      by_cases k1 : kd = 1
      · rw [decide_eq_true k1, if_pos k1]
        simp only [cond_true]
        by_cases h1 : at_ = ec
        · subst h1
          rw [w64 (n := (im.1.size : Int) - at_) (by omega) (by omega)]
          simp only [decide_true, Bool.not_true, cond_false]
          by_cases h2 : 1 ≤ sz ∧ sz ≤ (im.1.size : Int) - at_
          · rw [if_pos ⟨trivial, h2⟩, decide_eq_true h2.1, decide_eq_true h2.2, w64 (n := at_ + sz) (by omega) (by omega)]; rfl
          · rw [if_neg (fun hh => h2 hh.2), show (decide (1 ≤ sz) && decide (sz ≤ (im.1.size : Int) - at_)) = false by simpa using h2]; rfl
        · rw [decide_eq_false h1, if_neg (fun hh => h1 hh.1)]; rfl
      · rw [decide_eq_false k1, if_neg k1]
        simp only [cond_false]
        by_cases k2 : kd = 2
        · rw [decide_eq_true k2, if_pos k2, tmod8, tmod8]
          simp only [cond_true]
          by_cases h1 : ed ≤ at_ ∧ at_ ≤ (im.2.1.size : Int)
          · rw [w64 (n := (im.2.1.size : Int) - at_) (by omega) (by omega), decide_eq_true h1.1, decide_eq_true h1.2]
            simp only [Bool.and_self, Bool.not_true, cond_false]
            by_cases h2 : at_ % 8 = 0
            · by_cases h3 : sz % 8 = 0
              · by_cases h4 : 1 ≤ sz ∧ sz ≤ (im.2.1.size : Int) - at_
                · rw [if_pos ⟨h1.1, h1.2, h2, h3, h4⟩, decide_eq_true h2, decide_eq_true h3, decide_eq_true h4.1, decide_eq_true h4.2, w64 (n := at_ + sz) (by omega) (by omega)]
                  by_cases h5 : fr = 0
                  · rw [decide_eq_true h5, if_pos h5]; rfl
                  · rw [decide_eq_false h5, if_neg h5]; rfl
                · rw [if_neg (fun hh => h4 hh.2.2.2.2), decide_eq_true h2, decide_eq_true h3, show (decide (1 ≤ sz) && decide (sz ≤ (im.2.1.size : Int) - at_)) = false by simpa using h4]; rfl
              · rw [if_neg (fun hh => h3 hh.2.2.2.1), decide_eq_true h2, decide_eq_false h3]; rfl
            · rw [if_neg (fun hh => h2 hh.2.2.1), decide_eq_false h2]; rfl
          · rw [if_neg (fun hh => h1 ⟨hh.1, hh.2.1⟩), show (decide (ed ≤ at_) && decide (at_ ≤ (im.2.1.size : Int))) = false by simpa using h1]; rfl
        · rw [decide_eq_false k2, if_neg k2]; rfl
theorem spec_lintS (im : Img) (hz : ImgSz im) (i : Nat) (hi : i < im.2.2.length) (e : Int × Int) (he : EndsR im e) : spec_l07Symbols.l111010 im e.1 e.2 i = if (lintS im i im.2.2[i] e).1 = 0 then spec_l07Symbols.l111010 im (lintS im i im.2.2[i] e).2.1 (lintS im i im.2.2[i] e).2.2 ((i + 1 : Nat) : Int) else some ((i : Int), (lintS im i im.2.2[i] e).1) := by
  obtain ⟨hn, hc, hd⟩ := hz
  rw [spec_l07Symbols.l111010_eq, inL_nat, lt_nat, decide_eq_true hi, rd_nat (τ := TSym) im.2.2 i hi, (name_val _).2]
  simp only [cond_true, Option.bind_some]
  have hd' := spec_dup im e.1 e.2 i im.2.2[i] (by omega) hn i 0 (by omega)
  rw [show ((0 : Nat) : Int) = 0 by rfl, List.drop_zero] at hd'
  rw [hd', spec_l07Symbols.l111010010011010_eq, show decide ((i : Int) < (i : Int)) = false by simp, w64_succ i im.2.2.length hi (by omega)]
  obtain ⟨s, hs⟩ : ∃ s : Sym, im.2.2[i] = s := ⟨_, rfl⟩
  rw [hs]
  obtain ⟨nm, kd, at_, sz, fr⟩ := s
  obtain ⟨ec, ed⟩ := e
  obtain ⟨⟨hc1, hc2⟩, ⟨hd1, hd2⟩⟩ := he
  dsimp only at *
  unfold lintS
  dsimp only
  simp only [cond_false]
  cases nameV nm with
  | false => rfl
  | true =>
    simp only [Bool.not_true, cond_false]
    by_cases hdup : dupV (im.2.2.take i) nm = true
    · simp [hdup]
    · simp only [hdup, if_false, Bool.false_eq_true]
      by_cases k1 : kd = 1
      · simp only [k1, decide_true, cond_true, if_true]
        by_cases h1 : at_ = ec
        · rw [← h1, w64 (n := (im.1.size : Int) - at_) (by omega) (by omega)]
          by_cases h2 : 1 ≤ sz
          · by_cases h3 : sz ≤ (im.1.size : Int) - at_
            · rw [w64 (n := at_ + sz) (by omega) (by omega)]
              simp [h2, h3, show ¬ sz < 1 by omega, show ¬ (im.1.size : Int) - at_ < sz by omega]
            · simp [h3, show ¬ sz < 1 by omega, show (im.1.size : Int) - at_ < sz by omega]
          · simp [h2, show sz < 1 by omega]
        · simp [h1]
      · simp only [k1, decide_false, cond_false, if_false]
        by_cases k2 : kd = 2
        · simp only [k2, decide_true, cond_true, if_true, tmod8]
          by_cases h1 : ed ≤ at_
          · by_cases h1' : at_ ≤ (im.2.1.size : Int)
            · rw [w64 (n := (im.2.1.size : Int) - at_) (by omega) (by omega), show decide (at_ < ed) = false by simp; omega, show decide (at_ > (im.2.1.size : Int)) = false by simp; omega]
              simp only [cond_false]
              by_cases h4 : 1 ≤ sz
              · by_cases h5 : sz ≤ (im.2.1.size : Int) - at_
                · rw [show decide (sz < 1) = false by simp; omega, show decide (sz > (im.2.1.size : Int) - at_) = false by simp; omega, w64 (n := at_ + sz) (by omega) (by omega)]
                  by_cases h2 : at_ % 8 = 0
                  · by_cases h3 : sz % 8 = 0
                    · by_cases h6 : fr = 0 <;> simp [h1, h1', h2, h3, h4, h5, h6]
                    · simp [h2, h3]
                  · simp [h2]
                · simp [h5, show ¬ sz < 1 by omega, show (im.2.1.size : Int) - at_ < sz by omega]
              · simp [h4, show sz < 1 by omega]
            · simp [h1', show ¬ at_ < ed by omega, show (im.2.1.size : Int) < at_ by omega]
          · simp [h1, show at_ < ed by omega]
        · simp [k2]
theorem lintS_ends {im : Img} {i : Nat} {s : Sym} {e : Int × Int} (he : EndsR im e) (h : (lintS im i s e).1 = 0) : EndsR im (lintS im i s e).2 := by
  obtain ⟨nm, kd, at_, sz, fr⟩ := s
  obtain ⟨ec, ed⟩ := e
  obtain ⟨⟨c1, c2⟩, ⟨d1, d2⟩⟩ := he
  dsimp only at *
  unfold lintS at h ⊢
  dsimp only at *
  split at h <;> (try (cases h; done))
  split at h <;> (try (cases h; done))
  rename_i n1 n2
  rw [if_neg n1, if_neg n2]
  split at h
  · rename_i k1
    rw [if_pos k1]
    split at h <;> (try (cases h; done))
    rename_i hh
    rw [if_pos hh]
    exact ⟨⟨by dsimp only; omega, by dsimp only; omega⟩, ⟨d1, d2⟩⟩
  · rename_i k1
    rw [if_neg k1]
    split at h
    · rename_i k2
      rw [if_pos k2]
      split at h <;> (try (cases h; done))
      rename_i hh
      rw [if_pos hh]
      split at h <;> (try (cases h; done))
      rename_i h3
      rw [if_pos h3]
      exact ⟨⟨c1, c2⟩, ⟨by dsimp only; omega, by dsimp only; omega⟩⟩
    · cases h
/-- The symbols in turn: where code and data have ended ahead of each. -/
def ChainTo (im : Img) (n : Nat) (E : Nat → Int × Int) : Prop := E 0 = (0, 0) ∧ (∀ i, i ≤ n → EndsR im (E i)) ∧ ∀ (i : Nat) (h : i < im.2.2.length), i < n → lintS im i im.2.2[i] (E i) = (0, E (i + 1))
def endC (im : Img) (e : Int × Int) : Int := if im.2.2.length = 0 then 23 else if (rd (τ := TSym) im.2.2 0).2.1 ≠ 1 then 23 else if e.1 ≠ (im.1.size : Int) then 22 else 0
theorem syms_both (im : Img) (hz : ImgSz im) : ∀ (k i : Nat) (E : Nat → Int × Int), i + k = im.2.2.length → ChainTo im i E →
    (∃ n c : Int, c ≠ 0 ∧ impl_LintImage.l111010 im (E i) (im.2.2.length : Int) i = some (n, 0, c) ∧ spec_l07Symbols.l111010 im (E i).1 (E i).2 i = some (n, c)) ∨
    (∃ E', ChainTo im im.2.2.length E' ∧ impl_LintImage.l111010 im (E i) (im.2.2.length : Int) i = impl_LintImage.l111010 im (E' im.2.2.length) (im.2.2.length : Int) (im.2.2.length : Int) ∧ spec_l07Symbols.l111010 im (E i).1 (E i).2 i = some (0, endC im (E' im.2.2.length))) := by
  intro k
  induction k with
  | zero =>
    intro i E hk hE
    have : i = im.2.2.length := by omega
    subst this
    refine Or.inr ⟨E, hE, rfl, ?_⟩
    rw [spec_l07Symbols.l111010_eq, lt_nat]
    simp only [Nat.lt_irrefl, decide_false, cond_false, endC]
    by_cases h0 : im.2.2.length = 0
    · simp [h0]
    · rw [inL_true (i := 0) (by omega) (by omega), show decide ((im.2.2.length : Int) = 0) = false from decide_eq_false (by omega), if_neg h0]
      simp only [cond_false, cond_true]
      by_cases h1 : (rd (τ := TSym) im.2.2 0).2.1 = 1
      · simp only [h1, decide_true, Bool.not_true, cond_false, ne_eq, not_true_eq_false, ↓reduceIte]
        by_cases h2 : (E im.2.2.length).1 = (im.1.size : Int)
        · simp [h2]
        · simp [h2]
      · simp [h1]
  | succ k ih =>
    intro i E hk hE
    have hi : i < im.2.2.length := by omega
    have he := hE.2.1 i (Nat.le_refl _)
    rw [impl_LintImage.l111010_eq, lt_nat, decide_eq_true hi, impl_lintS im hz i hi (E i) he, spec_lintS im hz i hi (E i) he, w64_succ i im.2.2.length hi (by have := hz.n; omega)]
    simp only [cond_true, Option.bind_some]
    by_cases h0 : (lintS im i im.2.2[i] (E i)).1 = 0
    · rw [decide_eq_true h0, if_pos h0]
      simp only [Bool.not_true, cond_false]
      have hends := lintS_ends he h0
      have hch : ChainTo im (i + 1) (fun j => if j = i + 1 then (lintS im i im.2.2[i] (E i)).2 else E j) := by
        have ev : ∀ (j : Nat), (fun j => if j = i + 1 then (lintS im i im.2.2[i] (E i)).2 else E j) j = if j = i + 1 then (lintS im i im.2.2[i] (E i)).2 else E j := fun _ => rfl
        refine ⟨by rw [ev, if_neg (by omega)]; exact hE.1, fun j hj => ?_, fun j hj hj' => ?_⟩ <;> simp only
        · by_cases hji : j = i + 1
          · rw [if_pos hji]; exact hends
          · rw [if_neg hji]; exact hE.2.1 j (by omega)
        · rw [if_neg (by omega)]
          by_cases hji : j = i
          · subst hji
            rw [if_pos rfl, ← h0]
          · rw [if_neg (by omega)]; exact hE.2.2 j hj (by omega)
      have := ih (i + 1) _ (by omega) hch
      simp only [↓reduceIte] at this
      exact this
    · rw [decide_eq_false h0, if_neg h0]
      exact Or.inl ⟨_, _, h0, rfl, rfl⟩
theorem place_both (s : Sym) : ∃ v, impl_Symbol_address s = some v ∧ spec_l07Place s = some v := by
  rw [impl_Symbol_address_eq, spec_l07Place_eq]
  cases decide (s.2.1 = 1) <;> exact ⟨_, rfl, rfl⟩
theorem functions_both (im : Img) (hz : ImgSz im) : ∃ l, impl_Image_functions im = some l ∧ spec_l07Entries im.2.2 = some l ∧ l.length ≤ 16 := by
  have key : ∀ (k i : Nat) (l : List Int), i + k = im.2.2.length → l.length ≤ i → ∃ l', impl_Image_functions.l11010 l im.2.2 (im.2.2.length : Int) i = some l' ∧ spec_l07Entries.l11010 im.2.2 l i = some l' ∧ l'.length ≤ im.2.2.length := by
    intro k
    induction k with
    | zero =>
      intro i l hk hl
      rw [impl_Image_functions.l11010_eq, spec_l07Entries.l11010_eq, lt_nat, decide_eq_false (show ¬ i < im.2.2.length by omega)]
      exact ⟨l, rfl, rfl, by omega⟩
    | succ k ih =>
      intro i l hk hl
      have hi : i < im.2.2.length := by omega
      have hn := hz.n
      rw [impl_Image_functions.l11010_eq, spec_l07Entries.l11010_eq, lt_nat, inL_nat, decide_eq_true hi, w64_succ i _ hi (by omega)]
      simp only [cond_true]
      obtain ⟨v, v1, v2⟩ := place_both (rd (τ := TSym) im.2.2 i)
      obtain ⟨l1, a1, a2, a3⟩ := ih (i + 1) l (by omega) (by omega)
      obtain ⟨l2, b1, b2, b3⟩ := ih (i + 1) (l ++ [v]) (by omega) (by simp; omega)
      rw [v1, v2]
      simp only [Option.bind_some]
      rw [room_le (by simp; omega) (by simp; omega), a1, a2, b1, b2]
      cases decide ((rd (τ := TSym) im.2.2 i).2.1 = 1)
      · exact ⟨l1, rfl, rfl, a3⟩
      · exact ⟨l2, rfl, rfl, b3⟩
  obtain ⟨l, h1, h2, h3⟩ := key im.2.2.length 0 [] (by omega) (by simp)
  exact ⟨l, (impl_Image_functions_eq im).trans h1, (spec_l07Entries_eq im.2.2).trans h2, by have := hz.n; omega⟩
/-- A symbol that fits its image. -/
structure SymOK (im : Img) (s : Sym) : Prop where
  name : nameV s.1 = true
  kind : s.2.1 = 1 ∨ s.2.1 = 2
  at0 : 0 ≤ s.2.2.1
  size : 1 ≤ s.2.2.2.1
  func : s.2.1 = 1 → s.2.2.1 + s.2.2.2.1 ≤ (im.1.size : Int)
  data : s.2.1 = 2 → s.2.2.1 + s.2.2.2.1 ≤ (im.2.1.size : Int) ∧ s.2.2.1 % 8 = 0 ∧ s.2.2.2.1 % 8 = 0 ∧ s.2.2.2.2 = 0
theorem lintS_ok {im : Img} {i : Nat} {s : Sym} {e : Int × Int} (he : EndsR im e) (h : (lintS im i s e).1 = 0) : SymOK im s ∧ dupV (im.2.2.take i) s.1 = false := by
  obtain ⟨nm, kd, at_, sz, fr⟩ := s
  obtain ⟨ec, ed⟩ := e
  obtain ⟨⟨c1, c2⟩, ⟨d1, d2⟩⟩ := he
  dsimp only at *
  unfold lintS at h
  dsimp only at *
  split at h <;> (try (cases h; done))
  split at h <;> (try (cases h; done))
  rename_i n1 n2
  refine ⟨?_, by simpa using n2⟩
  have n1 : nameV nm = true := by simpa using n1
  split at h
  · rename_i k1
    split at h <;> (try (cases h; done))
    rename_i hh
    exact ⟨n1, Or.inl k1, by dsimp only; omega, by dsimp only; omega, fun _ => by dsimp only; omega, fun h => by dsimp only at h; omega⟩
  · rename_i k1
    split at h
    · rename_i k2
      split at h <;> (try (cases h; done))
      rename_i hh
      split at h <;> (try (cases h; done))
      rename_i h3
      exact ⟨n1, Or.inr k2, by dsimp only; omega, by dsimp only; omega, fun h => absurd h k1, fun _ => by dsimp only; omega⟩
    · cases h
theorem chain_sym {im : Img} {E : Nat → Int × Int} (h : ChainTo im im.2.2.length E) (i : Nat) (hi : i < im.2.2.length) : SymOK im im.2.2[i] ∧ dupV (im.2.2.take i) im.2.2[i].1 = false :=
  lintS_ok (h.2.1 i (by omega)) (by rw [h.2.2 i hi hi])
/-- What holds of a function in which nothing is found. -/
def FunG (s : Sym) : Prop := s.2.1 = 1 → codeAtV (4096 + s.2.2.1) = true ∧ frameV s.2.2.2.2 = true ∧ funcSizeV s.2.2.2.1.toNat = true
theorem lint_ok {code : ByteArray} {at_ f : Int} {calls : List Int} {v : Int × Int} (h : impl_lint code at_ f calls = some v) (hv : v.2 = 0) : codeAtV at_ = true ∧ frameV f = true ∧ funcSizeV code.size = true := by
  rw [impl_lint_eq, codeAt_val, (frame_val f).1, funcSize_val] at h
  simp only [Option.bind_some] at h
  cases h1 : codeAtV at_ with
  | false =>
    rw [h1] at h
    have e : (0, 4) = v := Option.some.inj h
    rw [← e] at hv; cases hv
  | true =>
    rw [h1] at h
    cases h2 : frameV f with
    | false =>
      rw [h2] at h
      have e : (0, 17) = v := Option.some.inj h
      rw [← e] at hv; cases hv
    | true =>
      rw [h2] at h
      cases h3 : funcSizeV code.size with
      | false =>
        rw [h3] at h
        have e : (0, 8) = v := Option.some.inj h
        rw [← e] at hv; cases hv
      | true => exact ⟨rfl, rfl, rfl⟩
theorem funcs_both (im : Img) (hz : ImgSz im) (hs : ∀ s ∈ im.2.2, SymOK im s) (calls : List Int) (hc : calls.length ≤ 16) : ∀ (k i : Nat), i + k = im.2.2.length → ∃ v, impl_LintImage.l111111010 im calls im.2.2 (im.2.2.length : Int) i = some v ∧ spec_l07Lint.l11111010 im calls i = some v ∧ (v.2.2 = 0 → ∀ j (hj : j < im.2.2.length), i ≤ j → FunG im.2.2[j]) := by
  intro k
  induction k with
  | zero =>
    intro i hk
    rw [impl_LintImage.l111111010_eq, spec_l07Lint.l11111010_eq, lt_nat, decide_eq_false (show ¬ i < im.2.2.length by omega)]
    exact ⟨_, rfl, rfl, fun _ j hj h => by omega⟩
  | succ k ih =>
    intro i hk
    have hi : i < im.2.2.length := by omega
    obtain ⟨v, v1, v2, v3⟩ := ih (i + 1) (by omega)
    obtain ⟨hn, hcz, hdz⟩ := hz
    rw [impl_LintImage.l111111010_eq, spec_l07Lint.l11111010_eq, lt_nat, inL_nat, decide_eq_true hi, w64_succ i _ hi (by omega), rd_nat (τ := TSym) im.2.2 i hi, v1, v2]
    simp only [cond_true]
    have hS := hs _ (List.getElem_mem hi)
    have next : FunG im.2.2[i] → (v.2.2 = 0 → ∀ j (hj : j < im.2.2.length), i ≤ j → FunG im.2.2[j]) := fun hg hv j hj hij => by
      by_cases e : j = i
      · subst e; exact hg
      · exact v3 hv j hj (by omega)
    obtain ⟨s, hse⟩ : ∃ s : Sym, im.2.2[i] = s := ⟨_, rfl⟩
    rw [hse] at hS next ⊢
    obtain ⟨p, p1, p2⟩ := place_both s
    rw [p1, p2]
    by_cases k1 : s.2.1 = 1
    · have hf := hS.func k1
      have h0 := hS.at0
      have h1 := hS.size
      rw [w64 (n := s.2.2.1 + s.2.2.2.1) (by omega) (by omega), decide_eq_true k1, decide_eq_true h0, decide_eq_true hf, decide_eq_true (show s.2.2.1 ≤ s.2.2.1 + s.2.2.2.1 by omega)]
      obtain ⟨b, b1, b2⟩ := lint_both (im.1.extract s.2.2.1.toNat (s.2.2.1 + s.2.2.2.1).toNat) p s.2.2.2.2 calls (by rw [ByteArray.size_extract]; omega) (by omega)
      simp only [Bool.and_self, Bool.not_true, cond_true, cond_false, Option.bind_some, b1, b2]
      have hp : p = 4096 + s.2.2.1 := by
        rw [impl_Symbol_address_eq, decide_eq_true k1, cond_true, w64 (n := 4096 + s.2.2.1) (by omega) (by omega)] at p1
        exact (Option.some.inj p1).symm
      by_cases hb : b.2 = 0
      · rw [decide_eq_true hb]
        refine ⟨_, rfl, rfl, next fun _ => ?_⟩
        have hl := lint_ok b1 hb
        rw [hp, ByteArray.size_extract] at hl
        rw [show min (s.2.2.1 + s.2.2.2.1).toNat im.1.size - s.2.2.1.toNat = s.2.2.2.1.toNat by omega] at hl
        exact hl
      · rw [decide_eq_false hb]; exact ⟨_, rfl, rfl, fun h => absurd h hb⟩
    · rw [decide_eq_false k1]; exact ⟨_, rfl, rfl, next fun h => absurd h k1⟩
/-- What holds of an image in which nothing is found. -/
structure ImgOK (im : Img) : Prop where
  sz : ImgSz im
  chain : ∃ E, ChainTo im im.2.2.length E ∧ (E im.2.2.length).1 = (im.1.size : Int)
  pos : 1 ≤ im.2.2.length
  first : (rd (τ := TSym) im.2.2 0).2.1 = 1
  funs : ∀ j (hj : j < im.2.2.length), FunG im.2.2[j]
theorem image_both (im : Img) : ∃ v, impl_LintImage im = some v ∧ spec_l07Lint im = some v ∧ (v.2.2 = 0 → ImgOK im) := by
  rw [impl_LintImage_eq, spec_l07Lint_eq]
  simp only [joinB]
  by_cases h1 : (im.2.2.length : Int) > 16
  · rw [decide_eq_true h1]; exact ⟨_, rfl, rfl, fun h => by cases h⟩
  · rw [decide_eq_false h1]
    by_cases h2 : (im.1.size : Int) > 1024
    · rw [decide_eq_true h2]; exact ⟨_, rfl, rfl, fun h => by cases h⟩
    · rw [decide_eq_false h2]
      by_cases h3 : (im.2.1.size : Int) > 256
      · rw [decide_eq_true h3]; exact ⟨_, rfl, rfl, fun h => by cases h⟩
      · rw [decide_eq_false h3]
        simp only [cond_false]
        have hz : ImgSz im := ⟨by omega, by omega, by omega⟩
        rw [spec_l07Symbols_eq]
        have hE0 : ChainTo im 0 (fun _ => (0, 0)) := ⟨rfl, fun i _ => ⟨⟨by simp, by simp⟩, ⟨by simp, by simp⟩⟩, fun i _ h => by omega⟩
        rcases syms_both im hz im.2.2.length 0 _ (by omega) hE0 with ⟨n, c, hc, a1, a2⟩ | ⟨E, hE, a1, a2⟩
        · have a1' : impl_LintImage.l111010 im (0, 0) (im.2.2.length : Int) 0 = some (n, 0, c) := a1
          have a2' : spec_l07Symbols.l111010 im 0 0 0 = some (n, c) := a2
          rw [a1', a2']
          simp only [Option.bind_some]
          rw [decide_eq_false hc]
          exact ⟨_, rfl, rfl, fun h => absurd h hc⟩
        · have a1' : impl_LintImage.l111010 im (0, 0) (im.2.2.length : Int) 0 = _ := a1
          have a2' : spec_l07Symbols.l111010 im 0 0 0 = _ := a2
          rw [a1', a2', impl_LintImage.l111010_eq, lt_nat]
          simp only [Nat.lt_irrefl, decide_false, cond_false, Option.bind_some, endC]
          by_cases h0 : im.2.2.length = 0
          · rw [if_pos h0, show decide ((im.2.2.length : Int) = 0) = true by simp [h0]]
            exact ⟨_, rfl, rfl, fun h => by cases h⟩
          · rw [if_neg h0, show decide ((im.2.2.length : Int) = 0) = false from decide_eq_false (by omega), inL_true (i := 0) (by omega) (by omega)]
            simp only [cond_false, cond_true]
            by_cases k1 : (rd (τ := TSym) im.2.2 0).2.1 = 1
            · rw [decide_eq_true k1]
              by_cases k2 : (E im.2.2.length).1 = (im.1.size : Int)
              · rw [decide_eq_true k2]
                obtain ⟨fs, f1, f2, f3⟩ := functions_both im hz
                have hs : ∀ s ∈ im.2.2, SymOK im s := fun s hs => by
                  obtain ⟨i, hi, rfl⟩ := List.getElem_of_mem hs
                  exact (chain_sym hE i hi).1
                obtain ⟨v, v1, v2, v3⟩ := funcs_both im hz hs fs f3 im.2.2.length 0 (by omega)
                rw [f1, f2]
                simp only [k1, k2, ne_eq, not_true_eq_false, ↓reduceIte, Bool.not_true, cond_false, decide_true, Option.bind_some]
                exact ⟨v, v1, v2, fun h => ⟨hz, ⟨E, hE, k2⟩, by omega, k1, fun j hj => v3 h j hj (Nat.zero_le _)⟩⟩
              · simp only [k1, k2, ne_eq, not_true_eq_false, not_false_eq_true, ↓reduceIte, Bool.not_true, Bool.not_false, cond_false, cond_true, decide_false]
                exact ⟨_, rfl, rfl, fun h => by cases h⟩
            · simp only [k1, ne_eq, not_false_eq_true, ↓reduceIte, Bool.not_false, cond_true, decide_false]
              exact ⟨_, rfl, rfl, fun h => by cases h⟩
/-- The lowest bytes of a number, the lowest first. -/
def leB (v : Int) : Nat → List Int
  | 0 => []
  | n + 1 => v % 256 :: leB (v / 256) n
theorem leB_length (n : Nat) : ∀ v, (leB v n).length = n := by
  induction n with
  | zero => intro v; rfl
  | succ n ih => intro v; simp [leB, ih]
theorem wrap_u8 (n : Int) : IntKind.wrap .u8 n = n % 256 := by simp [IntKind.wrap, IntKind.bits, IntKind.signed]
theorem put_little_loop (n : Nat) : ∀ (v : Int) (xs : List Int), n ≤ 1000 → xs.length + n ≤ 1000 → impl_putLittle.l1100 v n xs = some (bytesOf (xs ++ leB v n)) := by
  induction n with
  | zero => intro v xs _ _; rw [impl_putLittle.l1100_eq]; simp [leB]
  | succ n ih =>
    intro v xs hn hx
    rw [impl_putLittle.l1100_eq, show decide (((n + 1 : Nat) : Int) > 0) = true from decide_eq_true (by omega), room_le (by simp; omega) (by simp; omega), w64 (n := ((n + 1 : Nat) : Int) - 1) (by omega) (by omega), shr_div (by decide) (by decide), wrap_u8, show ((n + 1 : Nat) : Int) - 1 = (n : Int) by omega]
    simp only [cond_true]
    rw [ih _ _ (by omega) (by simp; omega), leB, List.append_assoc]
    rfl
theorem put_little (v : Int) (n : Nat) (h : n ≤ 1000) : impl_putLittle v n = some (bytesOf (leB v n)) := by
  rw [impl_putLittle_eq, put_little_loop n v [] h (by simpa using h)]; rfl
theorem bytesOf_size (xs : List Int) : (bytesOf xs).size = xs.length := by simp [bytesOf, ByteArray.size]
theorem bytesOf_getD (xs : List Int) (i : Nat) (h : ∀ x ∈ xs, 0 ≤ x ∧ x ≤ 255) (hi : i < xs.length) : (((bytesOf xs).data.getD i 0).toNat : Int) = xs[i] := by
  have hx := h _ (List.getElem_mem hi)
  unfold bytesOf
  simp [Array.getD, hi]
  omega
theorem leB_range (n : Nat) : ∀ v : Int, ∀ x ∈ leB v n, 0 ≤ x ∧ x ≤ 255 := by
  induction n with
  | zero => intro v x hx; cases hx
  | succ n ih =>
    intro v x hx
    rw [leB] at hx
    rcases List.mem_cons.mp hx with h | h
    · omega
    · exact ih _ x h
theorem leN_leB (n : Nat) : ∀ (v : Int) (pre : List Int), 0 ≤ v → (∀ x ∈ pre, 0 ≤ x ∧ x ≤ 255) → ((leN (bytesOf (pre ++ leB v n)) pre.length n : Nat) : Int) = v % 256 ^ n := by
  induction n with
  | zero => intro v pre _ _; simp [leN, Int.emod_one]
  | succ n ih =>
    intro v pre hv hp
    have h1 := ih (v / 256) (pre ++ [v % 256]) (by omega) (by
      intro x hx
      rcases List.mem_append.mp hx with h | h
      · exact hp x h
      · rw [List.mem_singleton.mp h]; omega)
    rw [List.append_assoc, List.singleton_append, List.length_append, List.length_singleton] at h1
    rw [leB, leN]
    have hr : ∀ x ∈ pre ++ v % 256 :: leB (v / 256) n, 0 ≤ x ∧ x ≤ 255 := by
      intro x hx
      rcases List.mem_append.mp hx with h | h
      · exact hp x h
      · rcases List.mem_cons.mp h with h | h
        · rw [h]; omega
        · exact leB_range n _ x h
    have h2 := bytesOf_getD (pre ++ v % 256 :: leB (v / 256) n) pre.length hr (by simp)
    rw [Int.natCast_add, Int.natCast_mul, h1, h2]
    simp
    rw [Int.pow_succ, Int.mul_comm (256 ^ n) 256]
    have hp0 : (0 : Int) ≤ 256 := by decide
    rw [Int.emod_def v (256 * 256 ^ n), Int.emod_def (v / 256) (256 ^ n), ← Int.ediv_ediv_of_nonneg hp0, Int.mul_sub, Int.mul_assoc]
    omega
theorem byte_ext {a b : ByteArray} (hs : a.size = b.size) (h : ∀ i, i < a.size → a.data.getD i 0 = b.data.getD i 0) : a = b := by
  cases a with | mk x => cases b with | mk y =>
  congr 1
  have hs : x.size = y.size := hs
  apply Array.ext hs
  intro i h1 h2
  have := h i h1
  simpa [Array.getD, h1, h2] using this
theorem sum_some (t : ByteArray) (ht : t.size ≤ 1048576) : ∀ (k i : Nat) (x : Int), i + k = t.size → 0 ≤ x → x < 65521 → ∃ v, spec_l01Sum.l11010 t x i = some v ∧ 0 ≤ v ∧ v < 65521 := by
  intro k
  induction k with
  | zero =>
    intro i x hi h0 h1
    rw [spec_l01Sum.l11010_eq, lt_nat, decide_eq_false (by omega)]
    exact ⟨x, rfl, h0, h1⟩
  | succ k ih =>
    intro i x hi h0 h1
    have hb := bt_range t (i : Int)
    rw [spec_l01Sum.l11010_eq, lt_nat, inL_nat, decide_eq_true (show i < t.size by omega), w64 (n := bt t (i : Int)) (by omega) (by omega), w64 (n := 31 * x) (by omega) (by omega), w64 (n := 31 * x + bt t (i : Int)) (by omega) (by omega), w64_succ i t.size (by omega) (by omega), Int.tmod_eq_emod_of_nonneg (by omega)]
    simp only [cond_true]
    exact ih (i + 1) _ (by omega) (by omega) (by omega)
theorem sum_both (t : ByteArray) (ht : t.size ≤ 1048576) : ∃ v, impl_sumOf t = some v ∧ spec_l01Sum t = some v ∧ 0 ≤ v ∧ v < 65521 := by
  obtain ⟨v, h1, h2⟩ := sum_some t ht t.size 0 1 (by omega) (by omega) (by omega)
  have e : spec_l01Sum t = some v := (spec_l01Sum_eq t).trans h1
  exact ⟨v, (sumOf t ht).trans e, e, h2⟩
theorem withSum_val (t : ByteArray) (ht : t.size ≤ 1048576) : ∃ v, spec_l01Sum t = some v ∧ 0 ≤ v ∧ v < 65521 ∧ impl_withSum t = some (t ++ bytesOf (leB v 4)) := by
  obtain ⟨v, h1, h2, h3, h4⟩ := sum_both t ht
  have hp := put_little v 4 (by omega)
  rw [show ((4 : Nat) : Int) = 4 by rfl] at hp
  refine ⟨v, h2, h3, h4, ?_⟩
  rw [impl_withSum_eq, h1]
  simp only [Option.bind_some, hp]
  rw [decide_eq_true (by rw [bytesOf_size, leB_length]; omega)]; rfl
theorem rd_some {τ : Ty} (xs : List τ.den) (i : Nat) (v : τ.den) (h : xs[i]? = some v) : rd (τ := τ) xs (i : Int) = v := by
  unfold rd; rw [Int.toNat_natCast, List.getD_eq_getElem?_getD, h]; rfl
def mapB {α : Type} (f : Nat → α) : Nat → Nat → List α
  | _, 0 => []
  | i, k + 1 => f i :: mapB f (i + 1) k
theorem byte_of (v : Int) (i : Nat) (hi : i < 8) : (v % 18446744073709551616) / 2 ^ (8 * i) % 256 = v / 2 ^ (8 * i) % 256 := by
  match i, hi with
  | 0, _ => omega
  | 1, _ => omega
  | 2, _ => omega
  | 3, _ => omega
  | 4, _ => omega
  | 5, _ => omega
  | 6, _ => omega
  | 7, _ => omega
theorem room1 (n : Nat) (h : n ≤ 4096) : roomB n 1 = true := by simp [roomB]; omega
theorem spec_little_loop (v : Int) (n : Nat) (hn : n ≤ 8) : ∀ (k i : Nat) (xs : List Int), i + k = n → xs.length = i → spec_l01Little.l11010 v (n : Int) xs (i : Int) = some (bytesOf (xs ++ leB (v / 2 ^ (8 * i)) k)) := by
  intro k
  induction k with
  | zero =>
    intro i xs h hx
    have : i = n := by omega
    subst this
    rw [spec_l01Little.l11010_eq, lt_nat, decide_eq_false (Nat.lt_irrefl _), cond_false, leB, List.append_nil]
  | succ k ih =>
    intro i xs h hx
    rw [spec_l01Little.l11010_eq, lt_nat, decide_eq_true (show i < n by omega), w64 (n := 8 * (i : Int)) (by omega) (by omega), wu64 (n := 8 * (i : Int)) (by omega) (by omega), decide_eq_false (show ¬ 8 * (i : Int) < 0 by omega), w64_succ i n (by omega) (by omega), wrap_u64, shr_div_u (by omega) (by omega), wrap_u8, room1 _ (by simp; omega), ih (i + 1) _ (by omega) (by simp; omega), leB, List.append_assoc]
    have e1 : (8 * (i : Int)).toNat = 8 * i := by omega
    rw [e1, byte_of v i (by omega)]
    have e2 : v / 2 ^ (8 * i) / 256 = v / 2 ^ (8 * (i + 1)) := by
      rw [Int.ediv_ediv_of_nonneg (Int.pow_nonneg (by decide))]
      congr 1
      rw [show 8 * (i + 1) = 8 * i + 8 by omega, Int.pow_add]; rfl
    rw [e2]; rfl
theorem spec_little (v : Int) (n : Nat) (hn : n ≤ 8) : spec_l01Little v (n : Int) = some (bytesOf (leB v n)) := by
  rw [spec_l01Little_eq]
  have := spec_little_loop v n hn n 0 [] (by omega) rfl
  simpa using this
theorem bt_append (a b : ByteArray) (i : Nat) : bt (a ++ b) (i : Int) = if i < a.size then bt a (i : Int) else bt b ((i - a.size : Nat) : Int) := by
  rw [bt_nat, bt_nat, bt_nat]
  have hs : a.size = a.data.size := rfl
  rw [ByteArray.data_append, Array.getD_eq_getD_getElem?, Array.getD_eq_getD_getElem?, Array.getD_eq_getD_getElem?, Array.getElem?_append, hs]
  split <;> rfl
theorem bt_extract (t : ByteArray) (s e i : Nat) (h : s + i < e) (he : e ≤ t.size) : bt (t.extract s e) (i : Int) = bt t ((s + i : Nat) : Int) := by
  rw [bt_nat, bt_nat]
  have hs : t.size = t.data.size := rfl
  rw [ByteArray.data_extract, Array.getD_eq_getD_getElem?, Array.getD_eq_getD_getElem?, Array.getElem?_extract, if_pos (by omega)]
theorem bt_ext {a b : ByteArray} (hs : a.size = b.size) (h : ∀ i : Nat, i < a.size → bt a (i : Int) = bt b (i : Int)) : a = b := by
  apply byte_ext hs
  intro i hi
  have := h i hi
  rw [bt_nat, bt_nat] at this
  exact UInt8.toNat_inj.1 (by omega)
/-- The pages of an area. -/
def arL (b p : Int) (n : Nat) : List (Int × Int) := mapB (fun i => (b + 128 * (i : Int), p)) 0 n
def L1 : List (Int × Int) := arL 4096 4 8
def L2 : List (Int × Int) := L1 ++ arL 8192 4 8
def L3 : List (Int × Int) := L2 ++ arL 16384 3 2
def L4 : List (Int × Int) := L3 ++ arL 20480 3 2
def L5 : List (Int × Int) := L4 ++ arL 32768 11 4
def bOK (L : List (Int × Int)) (m : Int) : Bool := decide (L.length ≤ 64) && L.all fun q => decide (0 ≤ q.1) && decide (q.1 ≤ 1048575) && decide (q.1 < m)
theorem b1 : bOK L1 8192 = true := by decide
theorem b2 : bOK L2 16384 = true := by decide
theorem b3 : bOK L3 20480 = true := by decide
theorem b4 : bOK L4 32768 = true := by decide
theorem b5 : bOK L5 33792 = true := by decide
theorem right_facts {x : Ins} (h : rightV x = true) : (1 ≤ x.1 ∧ x.1 ≤ 64) ∧ RegsOK x ∧ ((fieldsV (shp x.1).1).1 = false → x.2.1 = 0) ∧ ((fieldsV (shp x.1).1).2.1 = false → x.2.2.1 = 0) ∧ ((fieldsV (shp x.1).1).2.2 = false → x.2.2.2.1 = 0) ∧ immR (shp x.1).1 x.2.2.2.2 = true := by
  simp only [rightV, Bool.and_eq_true, Bool.or_eq_true, decide_eq_true_eq] at h
  obtain ⟨⟨⟨⟨⟨⟨⟨⟨⟨⟨⟨h1, h2⟩, h3⟩, h4⟩, h5⟩, h6⟩, h7⟩, h8⟩, a⟩, b⟩, c⟩, d⟩ := h
  have hf := shp_form (n := x.1) h1 h2
  refine ⟨⟨h1, h2⟩, ⟨⟨h3, h4⟩, ⟨h5, h6⟩, ⟨h7, h8⟩, ?_⟩, fun e => ?_, fun e => ?_, fun e => ?_, d⟩
  · generalize (shp x.1).1 = f at d hf
    rcases forms hf with rfl | rfl | rfl | rfl | rfl | rfl | rfl | rfl | rfl <;> simp [immR] at d <;> omega
  · simpa [e] using a
  · simpa [e] using b
  · simpa [e] using c
theorem sp2 (i : Int) (h : i % 2 = 0) : i = 2 * (i / 2 % 1024 + 1024 * (i / 2048 % 2 + 2 * (i / 4096 % 256 + 256 * (i / 1048576 % 2 + 2 * (i / 2097152))))) := by
  have a1 : i / 2048 = i / 2 / 1024 := by omega
  have a2 : i / 4096 = i / 2048 / 2 := by omega
  have a3 : i / 1048576 = i / 4096 / 256 := by omega
  have a4 : i / 2097152 = i / 1048576 / 2 := by omega
  have b0 : i = 2 * (i / 2) := by omega
  have b1 := Int.emod_add_mul_ediv (i / 2) 1024
  have b2 := Int.emod_add_mul_ediv (i / 2048) 2
  have b3 := Int.emod_add_mul_ediv (i / 4096) 256
  have b4 := Int.emod_add_mul_ediv (i / 1048576) 2
  rw [← a1] at b1; rw [← a2] at b2; rw [← a3] at b3; rw [← a4] at b4
  rw [b4, b3, b2, b1]; exact b0
theorem sp4 (i : Int) (h : i % 2 = 0) : i = 2 * (i / 2 % 16 + 16 * (i / 32 % 64 + 64 * (i / 2048 % 2 + 2 * (i / 4096 % 2 + 2 * (i / 8192))))) := by
  have a1 : i / 32 = i / 2 / 16 := by omega
  have a2 : i / 2048 = i / 32 / 64 := by omega
  have a3 : i / 4096 = i / 2048 / 2 := by omega
  have a4 : i / 8192 = i / 4096 / 2 := by omega
  have b0 : i = 2 * (i / 2) := by omega
  have b1 := Int.emod_add_mul_ediv (i / 2) 16
  have b2 := Int.emod_add_mul_ediv (i / 32) 64
  have b3 := Int.emod_add_mul_ediv (i / 2048) 2
  have b4 := Int.emod_add_mul_ediv (i / 4096) 2
  rw [← a1] at b1; rw [← a2] at b2; rw [← a3] at b3; rw [← a4] at b4
  rw [b4, b3, b2, b1]; exact b0
theorem sp5 (i : Int) : i = i % 32 + 32 * (i / 32 % 128 + 128 * (i / 4096)) := by
  have a1 : i / 4096 = i / 32 / 128 := by omega
  have b0 := Int.emod_add_mul_ediv i 32
  have b1 := Int.emod_add_mul_ediv (i / 32) 128
  rw [← a1] at b1
  rw [b1, b0]
theorem m2 (a : Int) : 0 ≤ a % 2 ∧ a % 2 < 2 := by omega
theorem m16 (a : Int) : 0 ≤ a % 16 ∧ a % 16 < 16 := by omega
theorem m32 (a : Int) : 0 ≤ a % 32 ∧ a % 32 < 32 := by omega
theorem m64 (a : Int) : 0 ≤ a % 64 ∧ a % 64 < 64 := by omega
theorem m128 (a : Int) : 0 ≤ a % 128 ∧ a % 128 < 128 := by omega
theorem m256 (a : Int) : 0 ≤ a % 256 ∧ a % 256 < 256 := by omega
theorem m1024 (a : Int) : 0 ≤ a % 1024 ∧ a % 1024 < 1024 := by omega
theorem un2 {c d y0 y1 y2 y3 : Int} (hc : 0 ≤ c ∧ c < 128) (hd : 0 ≤ d ∧ d ≤ 31) (q0 : 0 ≤ y0 ∧ y0 < 256) (q1 : 0 ≤ y1 ∧ y1 < 2) (q2 : 0 ≤ y2 ∧ y2 < 1024) (q3 : 0 ≤ y3 ∧ y3 < 2) :
    (c + d * 128 + y0 * 4096 + y1 * 1048576 + y2 * 2097152 + y3 * 2147483648) / 128 % 32 = d ∧ (c + d * 128 + y0 * 4096 + y1 * 1048576 + y2 * 2097152 + y3 * 2147483648) / 4096 % 256 = y0 ∧ (c + d * 128 + y0 * 4096 + y1 * 1048576 + y2 * 2097152 + y3 * 2147483648) / 1048576 % 2 = y1 ∧ (c + d * 128 + y0 * 4096 + y1 * 1048576 + y2 * 2097152 + y3 * 2147483648) / 2097152 % 1024 = y2 ∧ (c + d * 128 + y0 * 4096 + y1 * 1048576 + y2 * 2097152 + y3 * 2147483648) / 2147483648 % 2 = y3 := by
  refine ⟨?_, ?_, ?_, ?_, ?_⟩ <;> omega
theorem un4 {c y0 y1 f3 a b y2 y3 : Int} (hc : 0 ≤ c ∧ c < 128) (hf : 0 ≤ f3 ∧ f3 < 8) (ha : 0 ≤ a ∧ a ≤ 31) (hb : 0 ≤ b ∧ b ≤ 31) (q0 : 0 ≤ y0 ∧ y0 < 2) (q1 : 0 ≤ y1 ∧ y1 < 16) (q2 : 0 ≤ y2 ∧ y2 < 64) (q3 : 0 ≤ y3 ∧ y3 < 2) :
    (c + y0 * 128 + y1 * 256 + f3 * 4096 + a * 32768 + b * 1048576 + y2 * 33554432 + y3 * 2147483648) / 128 % 2 = y0 ∧ (c + y0 * 128 + y1 * 256 + f3 * 4096 + a * 32768 + b * 1048576 + y2 * 33554432 + y3 * 2147483648) / 256 % 16 = y1 ∧ (c + y0 * 128 + y1 * 256 + f3 * 4096 + a * 32768 + b * 1048576 + y2 * 33554432 + y3 * 2147483648) / 32768 % 32 = a ∧ (c + y0 * 128 + y1 * 256 + f3 * 4096 + a * 32768 + b * 1048576 + y2 * 33554432 + y3 * 2147483648) / 1048576 % 32 = b ∧ (c + y0 * 128 + y1 * 256 + f3 * 4096 + a * 32768 + b * 1048576 + y2 * 33554432 + y3 * 2147483648) / 33554432 % 64 = y2 ∧ (c + y0 * 128 + y1 * 256 + f3 * 4096 + a * 32768 + b * 1048576 + y2 * 33554432 + y3 * 2147483648) / 2147483648 % 2 = y3 := by
  refine ⟨?_, ?_, ?_, ?_, ?_, ?_⟩ <;> omega
theorem un5 {c y0 f3 a b y1 : Int} (hc : 0 ≤ c ∧ c < 128) (hf : 0 ≤ f3 ∧ f3 < 8) (ha : 0 ≤ a ∧ a ≤ 31) (hb : 0 ≤ b ∧ b ≤ 31) (q0 : 0 ≤ y0 ∧ y0 < 32) (q1 : 0 ≤ y1 ∧ y1 < 128) :
    (c + y0 * 128 + f3 * 4096 + a * 32768 + b * 1048576 + y1 * 33554432) / 128 % 32 = y0 ∧ (c + y0 * 128 + f3 * 4096 + a * 32768 + b * 1048576 + y1 * 33554432) / 32768 % 32 = a ∧ (c + y0 * 128 + f3 * 4096 + a * 32768 + b * 1048576 + y1 * 33554432) / 1048576 % 32 = b ∧ (c + y0 * 128 + f3 * 4096 + a * 32768 + b * 1048576 + y1 * 33554432) / 33554432 % 128 = y1 := by
  refine ⟨?_, ?_, ?_, ?_⟩ <;> omega
theorem dec_enc_x {f c f3 f7 n d a b i : Int} (hs : ShpOK (f, c, f3, f7) = true) (hr : RegsOK (n, d, a, b, i)) (hd : (fieldsV f).1 = false → d = 0) (ha : (fieldsV f).2.1 = false → a = 0) (hb : (fieldsV f).2.2 = false → b = 0) (hi : immR f i = true) : decV n f (encV (f, c, f3, f7) (n, d, a, b, i)) = (n, d, a, b, i) := by
  obtain ⟨h1, h2, h3, h4, h5, h6⟩ := shp_facts hs
  obtain ⟨⟨d0, d1⟩, ⟨a0, a1⟩, ⟨b0, b1⟩, _⟩ := hr
  simp only at d0 d1 a0 a1 b0 b1
  clear hs
  rcases forms h1 with rfl | rfl | rfl | rfl | rfl | rfl | rfl | rfl | rfl <;> simp [immR] at hi <;> simp [fieldsV] at hd ha hb <;> simp [decV, fieldsV, encV, immS, bitsV, immU, signV]
  · omega
  · have e := sp2 i (by omega)
    have q1 := m1024 (i / 2); have q2 := m2 (i / 2048); have q3 := m256 (i / 4096); have q4 := m2 (i / 1048576)
    generalize i / 2 % 1024 = y2 at *; generalize i / 2048 % 2 = y1 at *; generalize i / 4096 % 256 = y0 at *; generalize i / 1048576 % 2 = y3 at *
    obtain ⟨w1, w2, w3, w4, w5⟩ := un2 h2 ⟨d0, d1⟩ q3 q2 q1 q4
    rw [w1, w2, w3, w4, w5]; omega
  · omega
  · have e := sp4 i (by omega)
    have q1 := m16 (i / 2); have q2 := m64 (i / 32); have q3 := m2 (i / 2048); have q4 := m2 (i / 4096)
    generalize i / 2 % 16 = y1 at *; generalize i / 32 % 64 = y2 at *; generalize i / 2048 % 2 = y0 at *; generalize i / 4096 % 2 = y3 at *
    obtain ⟨w1, w2, w3, w4, w5, w6⟩ := un4 h2 h3 ⟨a0, a1⟩ ⟨b0, b1⟩ q3 q1 q2 q4
    rw [w1, w2, w3, w4, w5, w6]; omega
  · have e := sp5 i
    have q1 := m32 i; have q2 := m128 (i / 32)
    generalize i % 32 = y0 at *; generalize i / 32 % 128 = y1 at *
    obtain ⟨w1, w3, w4, w5⟩ := un5 h2 h3 ⟨a0, a1⟩ ⟨b0, b1⟩ q1 q2
    rw [w1, w3, w4, w5]; omega
  all_goals omega
theorem enc_range {f c f3 f7 n d a b i : Int} (hs : ShpOK (f, c, f3, f7) = true) (hr : RegsOK (n, d, a, b, i)) : 0 ≤ encV (f, c, f3, f7) (n, d, a, b, i) ∧ encV (f, c, f3, f7) (n, d, a, b, i) < 4294967296 ∧ encV (f, c, f3, f7) (n, d, a, b, i) % 128 = c ∧ (3 ≤ f → f ≤ 8 → encV (f, c, f3, f7) (n, d, a, b, i) / 4096 % 8 = f3)
    ∧ (f = 6 → encV (f, c, f3, f7) (n, d, a, b, i) / 67108864 = f7 / 2) ∧ (f = 7 ∨ f = 8 → encV (f, c, f3, f7) (n, d, a, b, i) / 33554432 = f7) ∧ (f = 9 → encV (f, c, f3, f7) (n, d, a, b, i) / 1048576 = f7) := by
  obtain ⟨h1, h2, h3, h4, h5, h6⟩ := shp_facts hs
  obtain ⟨⟨d0, d1⟩, ⟨a0, a1⟩, ⟨b0, b1⟩, _⟩ := hr
  simp only at d0 d1 a0 a1 b0 b1
  have q1 := m1024 (i / 2); have q2 := m2 (i / 2048); have q3 := m256 (i / 4096); have q4 := m2 (i / 1048576)
  have q5 := m16 (i / 2); have q6 := m64 (i / 32); have q7 := m2 (i / 4096); have q8 := m32 i; have q9 := m128 (i / 32)
  clear hs
  rcases forms h1 with rfl | rfl | rfl | rfl | rfl | rfl | rfl | rfl | rfl <;> simp [encV]
  · omega
  · generalize i / 2 % 1024 = y2 at *; generalize i / 2048 % 2 = y1 at *; generalize i / 4096 % 256 = y0 at *; generalize i / 1048576 % 2 = y3 at *
    clear q5 q6 q7 q8 q9; omega
  · omega
  · generalize i / 2 % 16 = y1 at *; generalize i / 32 % 64 = y2 at *; generalize i / 2048 % 2 = y0 at *; generalize i / 4096 % 2 = y3 at *
    clear q1 q3 q4 q8 q9; omega
  · generalize i % 32 = y0 at *; generalize i / 32 % 128 = y1 at *
    clear q1 q2 q3 q4 q5 q6 q7; omega
  all_goals omega
/-- Two operations have different words. -/
def apartOp (m n : Fin 65) : Bool :=
  let s := shp (m.val : Int); let t := shp (n.val : Int)
  decide (m.val = 0) || decide (n.val = 0) || decide (m = n) || !decide (s.2.1 = t.2.1) || (decide (3 ≤ s.1) && decide (s.1 ≤ 8) && decide (3 ≤ t.1) && decide (t.1 ≤ 8) && !decide (s.2.2.1 = t.2.2.1)) || (decide (s.1 = t.1) && decide (6 ≤ s.1) && !decide (s.2.2.2 = t.2.2.2))
theorem apart_op : ∀ m n : Fin 65, apartOp m n = true := by decide +kernel
theorem op_unique {x y : Ins} (hx : RegsOK x) (hy : RegsOK y) (h1 : 1 ≤ x.1 ∧ x.1 ≤ 64) (h2 : 1 ≤ y.1 ∧ y.1 ≤ 64) (e : encV (shp x.1) x = encV (shp y.1) y) : x.1 = y.1 := by
  obtain ⟨n, d, a, b, i⟩ := x
  obtain ⟨m, d', a', b', i'⟩ := y
  simp only at h1 h2 e ⊢
  have o1 := shp_ok n h1.1 h1.2
  have o2 := shp_ok m h2.1 h2.2
  have f1 := shp_facts (f := (shp n).1) (c := (shp n).2.1) (f3 := (shp n).2.2.1) (f7 := (shp n).2.2.2) o1
  have f2 := shp_facts (f := (shp m).1) (c := (shp m).2.1) (f3 := (shp m).2.2.1) (f7 := (shp m).2.2.2) o2
  have r1 : _ ∧ _ := enc_range (f := (shp n).1) (c := (shp n).2.1) (f3 := (shp n).2.2.1) (f7 := (shp n).2.2.2) o1 hx
  have r2 : _ ∧ _ := enc_range (f := (shp m).1) (c := (shp m).2.1) (f3 := (shp m).2.2.1) (f7 := (shp m).2.2.2) o2 hy
  change 0 ≤ encV (shp n) (n, d, a, b, i) ∧ encV (shp n) (n, d, a, b, i) < 4294967296 ∧ encV (shp n) (n, d, a, b, i) % 128 = _ ∧ (_ → _ → encV (shp n) (n, d, a, b, i) / 4096 % 8 = _) ∧ (_ → encV (shp n) (n, d, a, b, i) / 67108864 = _) ∧ (_ → encV (shp n) (n, d, a, b, i) / 33554432 = _) ∧ (_ → encV (shp n) (n, d, a, b, i) / 1048576 = _) at r1
  change 0 ≤ encV (shp m) (m, d', a', b', i') ∧ encV (shp m) (m, d', a', b', i') < 4294967296 ∧ encV (shp m) (m, d', a', b', i') % 128 = _ ∧ (_ → _ → encV (shp m) (m, d', a', b', i') / 4096 % 8 = _) ∧ (_ → encV (shp m) (m, d', a', b', i') / 67108864 = _) ∧ (_ → encV (shp m) (m, d', a', b', i') / 33554432 = _) ∧ (_ → encV (shp m) (m, d', a', b', i') / 1048576 = _) at r2
  rw [e] at r1
  obtain ⟨k, hk⟩ := fin65 (n := n) (by omega) (by omega)
  obtain ⟨l, hl⟩ := fin65 (n := m) (by omega) (by omega)
  have ha := apart_op k l
  unfold apartOp at ha
  rw [← hk, ← hl] at ha
  by_cases hkl : k = l
  · omega
  exfalso
  generalize encV (shp m) (m, d', a', b', i') = w at *
  have k0 : k.val ≠ 0 := by omega
  have l0 : l.val ≠ 0 := by omega
  simp only [Bool.or_eq_true, Bool.and_eq_true, Bool.not_eq_true', decide_eq_true_eq, decide_eq_false_iff_not, k0, l0, hkl, false_or] at ha
  clear e hk hl o1 o2
  generalize shp n = s at *
  generalize shp m = t at *
  obtain ⟨sf, sc, s3, s7⟩ := s
  obtain ⟨tf, tc, t3, t7⟩ := t
  simp only at *
  obtain ⟨_, _, u1, u2, u3, u4, u5⟩ := r1
  obtain ⟨_, _, v1, v2, v3, v4, v5⟩ := r2
  obtain ⟨f1a, _, _, _, f1b, _⟩ := f1
  obtain ⟨f2a, _, _, _, f2b, _⟩ := f2
  rcases ha with (ha | ⟨⟨⟨⟨ha, hb⟩, hc⟩, hd⟩, he⟩) | ⟨⟨ha, hb⟩, hc⟩
  · exact ha (u1.symm.trans v1)
  · exact he ((u2 ha hb).symm.trans (v2 hc hd))
  · subst ha
    have : sf = 6 ∨ sf = 7 ∨ sf = 8 ∨ sf = 9 := by omega
    rcases this with h | h | h | h
    · have := (u3 h).symm.trans (v3 h); have := f1b h; have := f2b h; omega
    · exact hc ((u4 (.inl h)).symm.trans (v4 (.inl h)))
    · exact hc ((u4 (.inr h)).symm.trans (v4 (.inr h)))
    · exact hc ((u5 h).symm.trans (v5 h))
theorem decode_i (x : Ins) (h : rightV x = true) : impl_decode (encV (shp x.1) x) = some (x, true) := by
  obtain ⟨h1, hr, hd, ha, hb, hi⟩ := right_facts h
  have ho := shp_ok x.1 h1.1 h1.2
  have er := enc_range (f := (shp x.1).1) (c := (shp x.1).2.1) (f3 := (shp x.1).2.2.1) (f7 := (shp x.1).2.2.2) (n := x.1) (d := x.2.1) (a := x.2.2.1) (b := x.2.2.2.1) (i := x.2.2.2.2) ho hr
  have ee : encV ((shp x.1).1, (shp x.1).2.1, (shp x.1).2.2.1, (shp x.1).2.2.2) (x.1, x.2.1, x.2.2.1, x.2.2.2.1, x.2.2.2.2) = encV (shp x.1) x := rfl
  rw [ee] at er
  have hdec : decV x.1 (shp x.1).1 (encV (shp x.1) x) = x := dec_enc_x (f := (shp x.1).1) (c := (shp x.1).2.1) (f3 := (shp x.1).2.2.1) (f7 := (shp x.1).2.2.2) (n := x.1) (d := x.2.1) (a := x.2.2.1) (b := x.2.2.2.1) (i := x.2.2.2.2) ho hr hd ha hb hi
  obtain ⟨os, ho', hl, hs⟩ := ops_rd 0 (by decide) (by decide)
  rw [impl_decode_eq, ho']
  simp only [Option.bind_some, hl]
  have hz : impl_decode.l1010 (encV (shp x.1) x) (0, 0, 0, 0, 0) os 65 0 = impl_decode.l1010 (encV (shp x.1) x) (0, 0, 0, 0, 0) os 65 1 := by
    rw [impl_decode.l1010_eq, hl]; rfl
  have key : ∀ (k n : Nat), (n : Int) + k = x.1 → 1 ≤ n → impl_decode.l1010 (encV (shp x.1) x) (0, 0, 0, 0, 0) os 65 (n : Int) = some (x, true) := by
    intro k
    induction k with
    | zero =>
      intro n hn hn1
      have hnx : (n : Int) = x.1 := by omega
      rw [impl_dec_step _ er.1 er.2.1 _ os hl hs n hn1 (by omega), hnx, hdec, if_pos ⟨er.2.2.1.symm, rfl⟩]
    | succ k ih =>
      intro n hn hn1
      rw [impl_dec_step _ er.1 er.2.1 _ os hl hs n hn1 (by omega), if_neg, ih (n + 1) (by omega) (by omega)]
      rintro ⟨_, hc⟩
      have := op_unique (x := decV (n : Int) (shp n).1 (encV (shp x.1) x)) (y := x) (dec_regs (shp_form (n := n) (by omega) (by omega)) er.1 er.2.1) hr (by simp only [decV]; omega) h1 hc
      simp only [decV] at this
      omega
  rw [show (((65 : Nat)) : Int) = 65 by rfl, hz]
  exact key (x.1 - 1).toNat 1 (by omega) (by omega)
def wordL (x : Ins) : List Int := leB (encV (shp x.1) x) 4
def codeL : List Ins → List Int
  | [] => []
  | x :: l => wordL x ++ codeL l
def codeOf (l : List Ins) : ByteArray := bytesOf (codeL l)
theorem wordL_length (x : Ins) : (wordL x).length = 4 := leB_length 4 _
theorem codeL_length : ∀ l : List Ins, (codeL l).length = 4 * l.length
  | [] => rfl
  | x :: l => by rw [codeL, List.length_append, wordL_length, codeL_length l, List.length_cons]; omega
theorem codeOf_size (l : List Ins) : (codeOf l).size = 4 * l.length := by rw [codeOf, bytesOf_size, codeL_length]
theorem codeL_append : ∀ a b : List Ins, codeL (a ++ b) = codeL a ++ codeL b
  | [], _ => rfl
  | x :: a, b => by rw [List.cons_append, codeL, codeL, codeL_append a b, List.append_assoc]
theorem bytesOf_append (xs ys : List Int) : bytesOf (xs ++ ys) = bytesOf xs ++ bytesOf ys := by
  apply ByteArray.ext
  rw [ByteArray.data_append]
  simp [bytesOf]
theorem codeOf_append (a b : List Ins) : codeOf (a ++ b) = codeOf a ++ codeOf b := by rw [codeOf, codeL_append, bytesOf_append]; rfl
theorem ba_extract_mid (a b c : ByteArray) : (a ++ (b ++ c)).extract a.size (a.size + b.size) = b := by
  apply ByteArray.ext
  rw [ByteArray.data_extract, ByteArray.data_append, ByteArray.data_append]
  simp only [ByteArray.size]
  rw [Array.extract_append]
  simp only [Nat.sub_self, Nat.add_sub_cancel_left, Array.extract_append]
  rw [Array.extract_eq_empty_of_le (by simp)]
  simp
theorem codeOf_extract (a b : List Ins) (x : Ins) : (codeOf (a ++ x :: b)).extract (4 * a.length) (4 * a.length + 4) = bytesOf (wordL x) := by
  have e : codeOf (a ++ x :: b) = codeOf a ++ (bytesOf (wordL x) ++ codeOf b) := by
    rw [codeOf, codeL_append, codeL, bytesOf_append, bytesOf_append]; rfl
  have h := ba_extract_mid (codeOf a) (bytesOf (wordL x)) (codeOf b)
  rw [codeOf_size, bytesOf_size, wordL_length] at h
  rw [e]; exact h
theorem right_range {x : Ins} (h : rightV x = true) : 0 ≤ encV (shp x.1) x ∧ encV (shp x.1) x < 4294967296 := by
  obtain ⟨h1, hr, _⟩ := right_facts h
  have er := enc_range (f := (shp x.1).1) (c := (shp x.1).2.1) (f3 := (shp x.1).2.2.1) (f7 := (shp x.1).2.2.2) (n := x.1) (d := x.2.1) (a := x.2.2.1) (b := x.2.2.2.1) (i := x.2.2.2.2) (shp_ok x.1 h1.1 h1.2) hr
  exact ⟨er.1, er.2.1⟩
theorem take_word (x : Ins) (h : rightV x = true) : impl_takeLittle (bytesOf (wordL x)) = some (encV (shp x.1) x) := by
  have hr := right_range h
  rw [impl_take_val _ (by rw [bytesOf_size, wordL_length]; decide), bytesOf_size, wordL_length]
  have := leN_leB 4 (encV (shp x.1) x) [] hr.1 (fun x hx => by cases hx)
  rw [List.nil_append, List.length_nil] at this
  unfold wordL
  rw [this, Int.emod_eq_of_lt hr.1 (by simpa using hr.2), w64 (by omega) (by omega)]
theorem instrs_loop (l : List Ins) (hl : l.length ≤ 1000) (hr : ∀ x ∈ l, rightV x = true) : ∀ (b a : List Ins), l = a ++ b → impl_instrsOf.l11010 (codeOf l) a ((4 * a.length : Nat) : Int) = some (l, 0, true) := by
  intro b
  induction b with
  | nil =>
    intro a e
    rw [List.append_nil] at e
    subst e
    rw [impl_instrsOf.l11010_eq, codeOf_size, lt_nat, decide_eq_false (Nat.lt_irrefl _), cond_false]
  | cons x b ih =>
    intro a e
    have hlen : l.length = a.length + (b.length + 1) := by rw [e]; simp
    have hx : rightV x = true := hr x (by rw [e]; simp)
    have w4 : IntKind.wrap .i64 (((4 * a.length : Nat) : Int) + 4) = ((4 * a.length + 4 : Nat) : Int) := by rw [w64 (by omega) (by omega)]; omega
    rw [impl_instrsOf.l11010_eq, codeOf_size, lt_nat, decide_eq_true (show 4 * a.length < 4 * l.length by omega), w4]
    simp only [cond_true, Int.toNat_natCast]
    rw [show (decide ((0 : Int) ≤ ((4 * a.length : Nat) : Int)) && decide (((4 * a.length : Nat) : Int) ≤ ((4 * a.length + 4 : Nat) : Int)) && decide (((4 * a.length + 4 : Nat) : Int) ≤ ((4 * l.length : Nat) : Int))) = true by simp; omega, cond_true]
    have hex : (codeOf l).extract (4 * a.length) (4 * a.length + 4) = bytesOf (wordL x) := by rw [e]; exact codeOf_extract a b x
    rw [hex, take_word x hx]
    simp only [Option.bind_some]
    rw [decode_i x hx]
    simp only [Option.bind_some, Bool.not_true, cond_false]
    rw [room_le (by simp; omega) (by simp; omega), cond_true]
    have := ih (a ++ [x]) (by rw [e]; simp)
    rw [List.length_append, List.length_singleton, Nat.mul_add] at this
    exact this
theorem instrs_val (l : List Ins) (hl : l.length ≤ 1000) (hr : ∀ x ∈ l, rightV x = true) : impl_instrsOf (codeOf l) = some (l, 0, true) ∧ spec_l06Instrs (codeOf l) = some (l, -1) := by
  have h1 : impl_instrsOf (codeOf l) = some (l, 0, true) := by
    rw [impl_instrsOf_eq]; exact instrs_loop l hl hr l [] rfl
  refine ⟨h1, ?_⟩
  cases instrs_both (codeOf l) (by rw [codeOf_size]; omega) (by rw [codeOf_size]; omega) with
  | ok l' hi hs _ _ => rw [h1] at hi; cases hi; exact hs
  | bad k hi _ _ => rw [h1] at hi; cases hi
/-- What the reference encodes, right or not. -/
def EncR (x : Ins) : Prop := (1 ≤ x.1 ∧ x.1 ≤ 64) ∧ RegsOK x ∧ ((shp x.1).1 = 1 → x.2.2.2.2 % 4096 = 0)
theorem EncR.right {x : Ins} (h : rightV x = true) : EncR x := by
  obtain ⟨h1, hr, _, _, _, hi⟩ := right_facts h
  refine ⟨h1, hr, fun e => ?_⟩
  rw [e] at hi
  simp [immR] at hi
  exact hi.2
theorem spec_words_loop (l : List Ins) (hl : l.length ≤ 1000) (hr : ∀ x ∈ l, EncR x) : ∀ (b a : List Ins), l = a ++ b → spec_l06Words.l11010 l (codeOf a) (a.length : Int) = some (codeOf l) := by
  intro b
  induction b with
  | nil =>
    intro a e
    rw [List.append_nil] at e
    subst e
    rw [spec_l06Words.l11010_eq, lt_nat, decide_eq_false (Nat.lt_irrefl _), cond_false]
  | cons x b ih =>
    intro a e
    have hlen : l.length = a.length + (b.length + 1) := by rw [e]; simp
    obtain ⟨h1, hrg, hu⟩ := hr x (by rw [e]; simp)
    have hrd : rd (τ := TIns) l (a.length : Int) = x := by rw [rd_nat _ _ (by omega)]; simp [e]
    rw [spec_l06Words.l11010_eq, lt_nat, decide_eq_true (show a.length < l.length by omega), inL_nat, decide_eq_true (show a.length < l.length by omega), hrd, w64_succ a.length l.length (by omega) (by omega)]
    simp only [cond_true]
    rw [spec_encode_val x h1.1 h1.2 hrg hu]
    simp only [Option.bind_some]
    have hp : spec_l01Little (encV (shp x.1) x) 4 = some (bytesOf (wordL x)) := spec_little _ 4 (by decide)
    rw [hp]
    simp only [Option.bind_some]
    rw [decide_eq_true (show (codeOf a).size + (bytesOf (wordL x)).size ≤ 9223372036854775807 by rw [codeOf_size, bytesOf_size, wordL_length]; omega), cond_true]
    have h2 := ih (a ++ [x]) (by rw [e]; simp)
    have h3 : codeOf (a ++ [x]) = codeOf a ++ bytesOf (wordL x) := by rw [codeOf_append]; simp [codeOf, codeL]
    rw [List.length_append, List.length_singleton, h3] at h2
    exact h2
theorem spec_words (l : List Ins) (hl : l.length ≤ 1000) (hr : ∀ x ∈ l, EncR x) : spec_l06Words l = some (codeOf l) := by
  rw [spec_l06Words_eq]
  exact spec_words_loop l hl hr l [] rfl
abbrev Src : Type := List Int × Int × Int
/-- A source from which K bytes may still be drawn. -/
structure SrcOK (K : Nat) (s : Src) : Prop where
  b : ∀ x ∈ s.1, 0 ≤ x ∧ x ≤ 255
  n : s.1.length ≤ 1048576
  a0 : 0 ≤ s.2.1
  a1 : s.2.1 + (K : Int) ≤ 4611686018427387904
  s0 : 0 ≤ s.2.2
  s1 : s.2.2 < 2147483648
theorem SrcOK.mono {K K' : Nat} {s : Src} (h : SrcOK K s) (hk : K' ≤ K) : SrcOK K' s := ⟨h.b, h.n, h.a0, by have := h.a1; omega, h.s0, h.s1⟩
theorem byte_ok {K : Nat} {s : Src} (h : SrcOK (K + 1) s) : ∃ (v : Int) (t : Src), spec_l00Src_byte s = some (v, t) ∧ 0 ≤ v ∧ v ≤ 255 ∧ SrcOK K t := by
  obtain ⟨c, a, d⟩ := s
  obtain ⟨hb, hn, ha, ha', hs, hs'⟩ := h
  simp only at hb hn ha ha' hs hs'
  rw [spec_l00Src_byte_eq]
  simp only
  rw [w64 (n := a + 1) (by omega) (by omega), w64 (n := a + 1 - 1) (by omega) (by omega), show a + 1 - 1 = a by omega]
  by_cases hi : a + 1 ≤ (c.length : Int)
  · rw [decide_eq_true hi, inL_true ha (by omega)]
    simp only [cond_true]
    obtain ⟨k, rfl⟩ : ∃ k : Nat, a = k := ⟨a.toNat, by omega⟩
    rw [rd_nat (τ := .int .u8) c k (by omega)]
    have hc := hb (c[k]'(by omega)) (List.getElem_mem _)
    generalize (c[k]'(by omega) : Int) = x at *
    rw [w64 (n := x) (by omega) (by omega), w64 (n := d * 31) (by omega) (by omega), w64 (n := d * 31 + x) (by omega) (by omega), w64 (n := d * 31 + x + 7) (by omega) (by omega)]
    refine ⟨_, _, rfl, hc.1, hc.2, ⟨hb, hn, by simp only; omega, by simp only; omega, ?_, ?_⟩⟩
    · simp only; rw [Int.tmod_eq_emod_of_nonneg (by omega)]; omega
    · simp only; rw [Int.tmod_eq_emod_of_nonneg (by omega)]; omega
  · rw [decide_eq_false hi]
    simp only [cond_false]
    by_cases hj : a + 1 > 3000
    · rw [decide_eq_true hj]
      exact ⟨_, _, rfl, by omega, by omega, ⟨hb, hn, by simp only; omega, by simp only; omega, hs, hs'⟩⟩
    · rw [decide_eq_false hj, w64 (n := d * 1103515245) (by omega) (by omega), w64 (n := d * 1103515245 + 12345) (by omega) (by omega)]
      simp only [cond_false]
      have h0 : 0 ≤ (d * 1103515245 + 12345).tmod 2147483648 ∧ (d * 1103515245 + 12345).tmod 2147483648 < 2147483648 := by
        rw [Int.tmod_eq_emod_of_nonneg (by omega)]; omega
      generalize (d * 1103515245 + 12345).tmod 2147483648 = e at *
      have h1 : 0 ≤ e.tdiv 65536 ∧ e.tdiv 65536 < 32768 := by rw [Int.tdiv_eq_ediv_of_nonneg h0.1]; omega
      rw [w64 (n := e.tdiv 65536) (by omega) (by omega)]
      have h2 : 0 ≤ (e.tdiv 65536).tmod 256 ∧ (e.tdiv 65536).tmod 256 ≤ 255 := by rw [Int.tmod_eq_emod_of_nonneg h1.1]; omega
      exact ⟨_, _, rfl, h2.1, h2.2, ⟨hb, hn, by simp only; omega, by simp only; omega, h0.1, h0.2⟩⟩
theorem next_ok {K : Nat} {s : Src} (h : SrcOK (K + 3) s) (n : Int) : ∃ (v : Int) (t : Src), spec_l00Src_next s n = some (v, t) ∧ 0 ≤ v ∧ (1 ≤ n → v < n) ∧ (n ≤ 1 → v = 0) ∧ SrcOK K t := by
  rw [spec_l00Src_next_eq]
  by_cases h1 : n ≤ 1
  · rw [decide_eq_true h1]
    exact ⟨0, s, rfl, by omega, by omega, fun _ => rfl, h.mono (by omega)⟩
  · rw [decide_eq_false h1]
    simp only [cond_false]
    by_cases h2 : n ≤ 256
    · obtain ⟨v, t, e, v0, v1, ht⟩ := byte_ok (h.mono (show K + 1 ≤ K + 3 by omega))
      rw [decide_eq_true h2, e, decide_eq_false (show ¬ n = 0 by omega)]
      simp only [cond_true, cond_false, Option.bind_some]
      refine ⟨_, t, rfl, ?_, fun _ => ?_, fun h => absurd h h1, ht⟩ <;> rw [Int.tmod_eq_emod_of_nonneg v0]
      · exact Int.emod_nonneg _ (by omega)
      · exact Int.emod_lt_of_pos _ (by omega)
    · obtain ⟨v, t, e, v0, v1, ht⟩ := byte_ok (h.mono (show K + 2 + 1 ≤ K + 3 by omega))
      obtain ⟨v', t', e', v0', v1', ht'⟩ := byte_ok (ht.mono (show K + 1 + 1 ≤ K + 2 by omega))
      obtain ⟨v'', t'', e'', v0'', v1'', ht''⟩ := byte_ok (ht'.mono (show K + 1 ≤ K + 1 by omega))
      rw [decide_eq_false h2, e]
      simp only [cond_false, Option.bind_some]
      rw [e']
      simp only [Option.bind_some]
      rw [e'']
      simp only [Option.bind_some]
      rw [decide_eq_false (show ¬ n = 0 by omega), w64 (n := v * 65536) (by omega) (by omega), w64 (n := v' * 256) (by omega) (by omega), w64 (n := v * 65536 + v' * 256) (by omega) (by omega), w64 (n := v * 65536 + v' * 256 + v'') (by omega) (by omega)]
      simp only [cond_false]
      refine ⟨_, t'', rfl, ?_, fun _ => ?_, fun h => absurd h h1, ht''⟩ <;> rw [Int.tmod_eq_emod_of_nonneg (by omega)]
      · exact Int.emod_nonneg _ (by omega)
      · exact Int.emod_lt_of_pos _ (by omega)
theorem source_ok (a : List Int) (hb : ∀ x ∈ a, 0 ≤ x ∧ x ≤ 255) (hn : a.length ≤ 1048576) : ∃ s : Src, spec_l00Source a = some (some s) ∧ SrcOK 1000000000 s := by
  refine ⟨_, spec_l00Source_eq a, ⟨hb, hn, by simp, by simp, ?_, ?_⟩⟩ <;> simp only <;> rw [Int.tmod_eq_emod_of_nonneg (by omega)] <;> omega
/-- The registers of drawn code. -/
def RegP (a : Int) : Prop := a = 5 ∨ a = 6 ∨ a = 7 ∨ a = 10 ∨ a = 11 ∨ a = 12 ∨ a = 28
theorem reg_ok {K : Nat} {s : Src} (h : SrcOK (K + 3) s) : ∃ (a : Int) (t : Src), spec_l00Src_reg s = some (a, t) ∧ RegP a ∧ SrcOK K t := by
  obtain ⟨v, t, e, v0, v1, _, ht⟩ := next_ok h 7
  have v1 := v1 (by decide)
  rw [spec_l00Src_reg_eq, e]
  simp only [Option.bind_some]
  rw [inL_true v0 (by simp; omega)]
  refine ⟨_, t, rfl, ?_, ht⟩
  have : v = 0 ∨ v = 1 ∨ v = 2 ∨ v = 3 ∨ v = 4 ∨ v = 5 ∨ v = 6 := by omega
  rcases this with rfl | rfl | rfl | rfl | rfl | rfl | rfl <;> simp [RegP, rd]
def FrmP (f : Int) : Prop := f = 16 ∨ f = 32 ∨ f = 48 ∨ f = 64 ∨ f = 128
theorem frm_ok {K : Nat} {s : Src} (h : SrcOK (K + 3) s) : ∃ (a : Int) (t : Src), spec_l00Src_frame s = some (a, t) ∧ FrmP a ∧ SrcOK K t := by
  obtain ⟨v, t, e, v0, v1, _, ht⟩ := next_ok h 6
  have v1 := v1 (by decide)
  rw [spec_l00Src_frame_eq, e]
  simp only [Option.bind_some]
  rw [inL_true v0 (by simp; omega)]
  refine ⟨_, t, rfl, ?_, ht⟩
  have : v = 0 ∨ v = 1 ∨ v = 2 ∨ v = 3 ∨ v = 4 ∨ v = 5 := by omega
  rcases this with rfl | rfl | rfl | rfl | rfl | rfl <;> simp [FrmP, rd]
theorem FrmP.ok {f : Int} (h : FrmP f) : frameV f = true := by rcases h with rfl | rfl | rfl | rfl | rfl <;> rfl
/-- A drawn piece; C: the numbers that a call may bear; D: the addresses of data. -/
inductive Dpc (f : Int) (C D : Int → Prop) : List Ins → Prop where
  | alu (n a b c : Int) (hn : (31 ≤ n ∧ n ≤ 40) ∨ (50 ≤ n ∧ n ≤ 62)) (ha : RegP a) (hb : RegP b) (hc : RegP c) : Dpc f C D [(n, a, b, c, 0)]
  | imm (a b i : Int) (ha : RegP a) (hb : RegP b) (hi : -8 ≤ i ∧ i ≤ 31) : Dpc f C D [(22, a, b, 0, i)]
  | data (a d : Int) (ha : RegP a) (hd : D d) : Dpc f C D [(1, 13, 0, 0, d / 4096 * 4096), (14, a, 13, 0, d % 4096), (22, a, a, 0, 1), (21, 0, 13, a, d % 4096)]
  | stack (a b c i k : Int) (ha : RegP a) (hb : RegP b) (hc : RegP c) (hi : -8 ≤ i ∧ i ≤ 31) (hk : 0 ≤ k ∧ 8 * k ≤ f - 16) : Dpc f C D [(21, 0, 2, b, 8 * k), (22, a, b, 0, i), (14, c, 2, 0, 8 * k)]
  | call (i : Int) (hi : C i) : Dpc f C D [(3, 1, 0, 0, i)]
  | out : Dpc f C D [(22, 17, 0, 0, 3), (63, 0, 0, 0, 0)]
  | skip (n a b i : Int) (hn : 5 ≤ n ∧ n ≤ 10) (ha : RegP a) (hb : RegP b) (hi : -8 ≤ i ∧ i ≤ 31) : Dpc f C D [(n, 0, a, b, 8), (22, a, b, 0, i)]
  | turn (k a b i : Int) (hk : 1 ≤ k ∧ k ≤ 4) (ha : RegP a) (hb : RegP b) (hi : -8 ≤ i ∧ i ≤ 31) : Dpc f C D [(22, 9, 0, 0, k), (22, a, b, 0, i), (22, 9, 9, 0, -1), (6, 0, 9, 0, -8)]
  | sys (v x y : Int) (hv : 1 ≤ v ∧ v ≤ 12) (hx : 0 ≤ x ∧ x ≤ 4) (hy : 0 ≤ y ∧ y ≤ 3) : Dpc f C D [(22, 17, 0, 0, v), (22, 10, 0, 0, x), (22, 11, 0, 0, y), (63, 0, 0, 0, 0)]
theorem Dpc.len {f : Int} {C D : Int → Prop} {l : List Ins} (h : Dpc f C D l) : 1 ≤ l.length ∧ l.length ≤ 4 := by cases h <;> simp
def DatP (d : Int) : Prop := 0 ≤ d ∧ d ≤ 1048575 ∧ d % 8 = 0 ∧ d % 4096 ≤ 2047
def CalP (c : Int) : Prop := -1099511627776 ≤ c ∧ c ≤ 1099511627776
theorem body_ok {K : Nat} {s : Src} (h : SrcOK (K + 24) s) (i a f : Int) (calls datas : List Int) (hf : FrmP f) (hi : 0 ≤ i ∧ i ≤ 1000) (ha : 0 ≤ a ∧ a ≤ 1048575) (hc : ∀ c ∈ calls, CalP c) (hd : ∀ d ∈ datas, DatP d) (hcl : calls.length ≤ 256) (hdl : datas.length ≤ 256) :
    ∃ (l : List Ins) (t : Src), spec_l00Src_body s i a f calls datas = some (l, t) ∧ Dpc f (fun m => ∃ c ∈ calls, m = c - a - 4 * i) (· ∈ datas) l ∧ SrcOK K t := by
  obtain ⟨ra, s1, e1, r1, h1⟩ := reg_ok (h.mono (show K + 21 + 3 ≤ K + 24 by omega))
  obtain ⟨rb, s2, e2, r2, h2⟩ := reg_ok (h1.mono (show K + 18 + 3 ≤ K + 21 by omega))
  obtain ⟨rc, s3, e3, r3, h3⟩ := reg_ok (h2.mono (show K + 15 + 3 ≤ K + 18 by omega))
  obtain ⟨v4, s4, e4, p4, q4, _, h4⟩ := next_ok (h3.mono (show K + 12 + 3 ≤ K + 15 by omega)) 40
  obtain ⟨v5, s5, e5, p5, q5, _, h5⟩ := next_ok (h4.mono (show K + 9 + 3 ≤ K + 12 by omega)) 11
  have q4 := q4 (by decide); have q5 := q5 (by decide)
  have him : -8 ≤ v4 - 8 ∧ v4 - 8 ≤ 31 := by omega
  rw [spec_l00Src_body_eq, e1]; simp only [Option.bind_some]
  rw [e2]; simp only [Option.bind_some]
  rw [e3]; simp only [Option.bind_some]
  rw [e4]; simp only [Option.bind_some]
  rw [e5]; simp only [Option.bind_some, joinB]
  rw [w64 (n := v4 - 8) (by omega) (by omega), w64 (n := 4 * i) (by omega) (by omega)]
  have plain : ∃ (l : List Ins) (t : Src), some ([((22 : Int), ra, rb, (0 : Int), v4 - 8)], s5) = some (l, t) ∧ Dpc f (fun m => ∃ c ∈ calls, m = c - a - 4 * i) (· ∈ datas) l ∧ SrcOK K t := ⟨_, _, rfl, .imm _ _ _ r1 r2 him, h5.mono (by omega)⟩
  have : v5 = 0 ∨ v5 = 1 ∨ (v5 = 2 ∨ v5 = 3) ∨ v5 = 4 ∨ (v5 = 5 ∨ v5 = 6) ∨ v5 = 7 ∨ v5 = 8 ∨ v5 = 9 ∨ v5 = 10 := by omega
  rcases this with rfl | rfl | h23 | rfl | h56 | rfl | rfl | rfl | rfl
  · obtain ⟨v, t, e, p, q, _, ht⟩ := next_ok (h5.mono (show K + 6 + 3 ≤ K + 9 by omega)) 10
    have q := q (by decide)
    simp only [decide_true, cond_true, e, Option.bind_some]
    rw [w64 (n := 31 + v) (by omega) (by omega)]
    exact ⟨_, _, rfl, .alu _ _ _ _ (.inl (by omega)) r1 r2 r3, ht.mono (by omega)⟩
  · obtain ⟨v, t, e, p, q, _, ht⟩ := next_ok (h5.mono (show K + 6 + 3 ≤ K + 9 by omega)) 13
    have q := q (by decide)
    simp only [show decide ((1 : Int) = 0) = false from rfl, decide_true, cond_true, cond_false, e, Option.bind_some]
    rw [w64 (n := 50 + v) (by omega) (by omega)]
    exact ⟨_, _, rfl, .alu _ _ _ _ (.inr (by omega)) r1 r2 r3, ht.mono (by omega)⟩
  · have hdat : ∃ (l : List Ins) (t : Src), (bif decide ((datas.length : Int) > 0) then ((spec_l00Src_next s5 (datas.length : Int)).bind fun r9 => bif inL r9.1 (datas.length) then some ([((1 : Int), (13 : Int), (0 : Int), (0 : Int), (IntKind.wrap .i64 ((IntKind.wrap .i64 ((rd (τ := (.int .i64)) datas r9.1).tdiv 4096)) * 4096))), (14, ra, 13, 0, ((rd (τ := (.int .i64)) datas r9.1).tmod 4096)), (22, ra, ra, 0, 1), (21, 0, 13, ra, ((rd (τ := (.int .i64)) datas r9.1).tmod 4096))], r9.2) else none) else some ([(22, ra, rb, 0, v4 - 8)], s5)) = some (l, t) ∧ Dpc f (fun m => ∃ c ∈ calls, m = c - a - 4 * i) (· ∈ datas) l ∧ SrcOK K t := by
      by_cases hdn : (datas.length : Int) > 0
      · obtain ⟨v, t, e, p, q, _, ht⟩ := next_ok (h5.mono (show K + 6 + 3 ≤ K + 9 by omega)) (datas.length : Int)
        have q := q (by omega)
        rw [decide_eq_true hdn, e]
        simp only [cond_true, Option.bind_some]
        rw [inL_true p q]
        simp only [cond_true]
        obtain ⟨k, rfl⟩ : ∃ k : Nat, v = k := ⟨v.toNat, by omega⟩
        have hk : k < datas.length := by omega
        rw [rd_nat (τ := .int .i64) datas k hk]
        have hdk := hd _ (List.getElem_mem hk)
        have hmem : (datas[k] : Int) ∈ datas := List.getElem_mem hk
        generalize (datas[k] : Int) = d at *
        obtain ⟨d0, d1, d2, d3⟩ := hdk
        rw [Int.tdiv_eq_ediv_of_nonneg d0, Int.tmod_eq_emod_of_nonneg d0, w64 (n := d / 4096) (by omega) (by omega), w64 (n := d / 4096 * 4096) (by omega) (by omega)]
        exact ⟨_, _, rfl, .data _ _ r1 hmem, ht.mono (by omega)⟩
      · rw [decide_eq_false hdn]; exact plain
    rcases h23 with rfl | rfl <;> exact hdat
  · simp only [show decide ((4 : Int) = 0) = false from rfl, show decide ((4 : Int) = 1) = false from rfl, show decide ((4 : Int) = 2) = false from rfl, show decide ((4 : Int) = 3) = false from rfl, decide_true, cond_true, cond_false]
    by_cases hf3 : f ≥ 32
    · have ht8 : f.tdiv 8 = f / 8 := Int.tdiv_eq_ediv_of_nonneg (by omega)
      have hfr : f ≤ 128 ∧ f % 8 = 0 := by rcases hf with rfl | rfl | rfl | rfl | rfl <;> decide
      obtain ⟨v, t, e, p, q, _, ht⟩ := next_ok (h5.mono (show K + 6 + 3 ≤ K + 9 by omega)) (f / 8 - 1)
      have q := q (by omega)
      rw [decide_eq_true hf3, ht8, w64 (n := f / 8) (by omega) (by omega), w64 (n := f / 8 - 1) (by omega) (by omega), e]
      simp only [cond_true, Option.bind_some]
      rw [w64 (n := 8 * v) (by omega) (by omega)]
      exact ⟨_, _, rfl, .stack _ _ _ _ _ r1 r2 r3 him ⟨p, by omega⟩, ht.mono (by omega)⟩
    · rw [decide_eq_false hf3]; exact plain
  · have hcal : ∃ (l : List Ins) (t : Src), (bif decide ((calls.length : Int) > 0) then ((spec_l00Src_next s5 (calls.length : Int)).bind fun r12 => bif inL r12.1 (calls.length) then some ([((3 : Int), (1 : Int), (0 : Int), (0 : Int), (IntKind.wrap .i64 ((IntKind.wrap .i64 ((rd (τ := (.int .i64)) calls r12.1) - a)) - (4 * i))))], r12.2) else none) else some ([(22, ra, rb, 0, v4 - 8)], s5)) = some (l, t) ∧ Dpc f (fun m => ∃ c ∈ calls, m = c - a - 4 * i) (· ∈ datas) l ∧ SrcOK K t := by
      by_cases hcn : (calls.length : Int) > 0
      · obtain ⟨v, t, e, p, q, _, ht⟩ := next_ok (h5.mono (show K + 6 + 3 ≤ K + 9 by omega)) (calls.length : Int)
        have q := q (by omega)
        rw [decide_eq_true hcn, e]
        simp only [cond_true, Option.bind_some]
        rw [inL_true p q]
        simp only [cond_true]
        obtain ⟨k, rfl⟩ : ∃ k : Nat, v = k := ⟨v.toNat, by omega⟩
        have hk : k < calls.length := by omega
        rw [rd_nat (τ := .int .i64) calls k hk]
        have hck := hc _ (List.getElem_mem hk)
        have hmem : (calls[k] : Int) ∈ calls := List.getElem_mem hk
        generalize (calls[k] : Int) = c at *
        obtain ⟨c0, c1⟩ := hck
        rw [w64 (n := c - a) (by omega) (by omega), w64 (n := c - a - 4 * i) (by omega) (by omega)]
        exact ⟨_, _, rfl, .call _ ⟨c, hmem, rfl⟩, ht.mono (by omega)⟩
      · rw [decide_eq_false hcn]; exact plain
    rcases h56 with rfl | rfl <;> exact hcal
  · exact ⟨_, _, rfl, .out, h5.mono (by omega)⟩
  · obtain ⟨v, t, e, p, q, _, ht⟩ := next_ok (h5.mono (show K + 6 + 3 ≤ K + 9 by omega)) 6
    have q := q (by decide)
    simp only [e, Option.bind_some]
    rw [w64 (n := 5 + v) (by omega) (by omega)]
    exact ⟨_, _, rfl, .skip _ _ _ _ (by omega) r1 r2 him, ht.mono (by omega)⟩
  · obtain ⟨v, t, e, p, q, _, ht⟩ := next_ok (h5.mono (show K + 6 + 3 ≤ K + 9 by omega)) 4
    have q := q (by decide)
    simp only [e, Option.bind_some]
    rw [w64 (n := 1 + v) (by omega) (by omega)]
    exact ⟨_, _, rfl, .turn _ _ _ _ (by omega) r1 r2 him, ht.mono (by omega)⟩
  · obtain ⟨v, t, e, p, q, _, ht⟩ := next_ok (h5.mono (show K + 6 + 3 ≤ K + 9 by omega)) 12
    obtain ⟨v', t', e', p', q', _, ht'⟩ := next_ok (ht.mono (show K + 3 + 3 ≤ K + 6 by omega)) 5
    obtain ⟨v'', t'', e'', p'', q'', _, ht''⟩ := next_ok (ht'.mono (show K + 3 ≤ K + 3 by omega)) 4
    have q := q (by decide); have q' := q' (by decide); have q'' := q'' (by decide)
    simp only [e, e', e'', Option.bind_some]
    rw [w64 (n := 1 + v) (by omega) (by omega)]
    exact ⟨_, _, rfl, .sys _ _ _ (by omega) (by omega) (by omega), ht''⟩
/-- Pieces one behind another; i: the number of the first instruction. -/
inductive Dpcs (f : Int) (C : Int → Int → Prop) (D : Int → Prop) : Int → List Ins → Prop where
  | nil (i : Int) : Dpcs f C D i []
  | cons (i : Int) (l m : List Ins) (h : Dpc f (C i) D l) (k : Dpcs f C D (i + l.length) m) : Dpcs f C D i (l ++ m)
theorem Dpcs.snoc {f : Int} {C : Int → Int → Prop} {D : Int → Prop} : ∀ {i : Int} {l m : List Ins}, Dpcs f C D i l → Dpc f (C (i + l.length)) D m → Dpcs f C D i (l ++ m) := by
  intro i l m h k
  induction h with
  | nil i =>
    have := Dpcs.cons i m [] (by simpa using k) (.nil _)
    simpa using this
  | cons i l' m' h' _ ih =>
    rw [List.append_assoc]
    refine .cons i l' (m' ++ m) h' (ih ?_)
    rw [List.length_append] at k
    have : i + ((l'.length + m'.length : Nat) : Int) = i + (l'.length : Int) + (m'.length : Int) := by omega
    rw [this] at k; exact k
def proL (f : Int) : List Ins := [(22, 2, 2, 0, 0 - f), (21, 0, 2, 1, f - 8)]
def epiL (f : Int) : List Ins := [(14, 1, 2, 0, f - 8), (22, 2, 2, 0, f), (4, 0, 1, 0, 0)]
theorem FrmP.range {f : Int} (h : FrmP f) : 16 ≤ f ∧ f ≤ 128 ∧ f % 16 = 0 := by rcases h with rfl | rfl | rfl | rfl | rfl <;> decide
theorem pro_val {f : Int} (h : FrmP f) : spec_l06Prologue f = some (proL f) := by
  have := h.range
  rw [spec_l06Prologue_eq, w64 (n := 0 - f) (by omega) (by omega), w64 (n := f - 8) (by omega) (by omega)]; rfl
theorem epi_val {f : Int} (h : FrmP f) : spec_l06Epilogue f = some (epiL f) := (epi_eq f ⟨h.range.1, h.range.2.1⟩).2
theorem function_ok2 {K : Nat} {s : Src} (n : Nat) (h : SrcOK (K + 24 * n) s) (a f : Int) (calls datas : List Int) (hf : FrmP f) (ha : 0 ≤ a ∧ a ≤ 1048575) (hc : ∀ c ∈ calls, CalP c) (hd : ∀ d ∈ datas, DatP d) (hcl : calls.length ≤ 256) (hdl : datas.length ≤ 256) (hn : n ≤ 1000) :
    ∃ (b : List Ins) (t : Src), spec_l00Src_function s a f (n : Int) calls datas = some (proL f ++ b ++ epiL f, t) ∧ Dpcs f (fun i m => ∃ c ∈ calls, m = c - a - 4 * i) (· ∈ datas) 2 b ∧ b.length ≤ 51 ∧ (1 ≤ n → 1 ≤ b.length) ∧ b.length ≤ 4 * n ∧ SrcOK K t := by
  rw [spec_l00Src_function_eq, pro_val hf]
  simp only [Option.bind_some]
  have key : ∀ (k j : Nat) (s : Src) (b : List Ins), j + k = n → SrcOK (K + 24 * k) s → b.length ≤ 51 → (1 ≤ j → 1 ≤ b.length) → b.length ≤ 4 * j → Dpcs f (fun i m => ∃ c ∈ calls, m = c - a - 4 * i) (· ∈ datas) 2 b →
      ∃ (d : List Ins) (t : Src), spec_l00Src_function.l11010 s a f (n : Int) calls datas (proL f ++ b) (j : Int) = some (proL f ++ d ++ epiL f, t) ∧ Dpcs f (fun i m => ∃ c ∈ calls, m = c - a - 4 * i) (· ∈ datas) 2 d ∧ d.length ≤ 51 ∧ (1 ≤ n → 1 ≤ d.length) ∧ d.length ≤ 4 * n ∧ SrcOK K t := by
    intro k
    induction k with
    | zero =>
      intro j s b hj hs hb hb1 hb4 hp
      have hjn : j = n := by omega
      subst hjn
      rw [spec_l00Src_function.l11010_eq, joinB, lt_nat, decide_eq_false (Nat.lt_irrefl _)]
      simp only [cond_false]
      rw [epi_val hf]
      simp only [Option.bind_some]
      rw [room_le (by simp [proL, epiL]; omega) (by simp [proL, epiL]; omega), cond_true]
      exact ⟨b, s, rfl, hp, hb, hb1, hb4, hs.mono (by omega)⟩
    | succ k ih =>
      intro j s b hj hs hb hb1 hb4 hp
      rw [spec_l00Src_function.l11010_eq, joinB, lt_nat, decide_eq_true (show j < n by omega)]
      simp only [cond_true]
      by_cases hlen : ((proL f ++ b).length : Int) < 50
      · have hl2 : (proL f ++ b).length = b.length + 2 := by simp [proL]
        obtain ⟨l, s', e, hl, hs'⟩ := body_ok (hs.mono (show K + 24 * k + 24 ≤ K + 24 * (k + 1) by omega)) (((proL f ++ b).length : Nat) : Int) a f calls datas hf (by omega) ha hc hd hcl hdl
        have hll := hl.len
        rw [decide_eq_true hlen, e]
        simp only [cond_true, Option.bind_some]
        rw [room_le (by omega) (by omega), cond_true, w64_succ j n (by omega) (by omega), List.append_assoc]
        refine ih (j + 1) s' (b ++ l) (by omega) hs' (by rw [List.length_append]; omega) (fun _ => by rw [List.length_append]; omega) (by rw [List.length_append]; omega) (hp.snoc ?_)
        have e2 : (((proL f ++ b).length : Nat) : Int) = 2 + (b.length : Int) := by omega
        rw [e2] at hl
        exact hl
      · rw [decide_eq_false hlen]
        simp only [cond_false]
        rw [epi_val hf]
        simp only [Option.bind_some]
        have hl2 : (proL f ++ b).length = b.length + 2 := by simp [proL]
        rw [room_le (by simp [proL, epiL]; omega) (by simp [proL, epiL]; omega), cond_true]
        exact ⟨b, s, rfl, hp, hb, fun _ => by omega, by omega, hs.mono (by omega)⟩
  have := key n 0 s [] (by omega) h (by simp) (by omega) (by simp) (.nil _)
  rw [List.append_nil] at this
  exact this
theorem rule_zero (l : List Ins) (f a : Int) (calls : List Int) (hf : 16 ≤ f ∧ f ≤ 128) (ha : 0 ≤ a ∧ a ≤ 1048575) (hl : l.length ≤ 1048576) (hc : calls.length ≤ 1048576) (i : Int) (h : 2 ≤ i) (h' : i < (l.length : Int)) (x : Ins) (hx : rd (τ := TIns) l i = x) (hr : InsR x)
    (c4 : x.1 = 4 → endsI l f (i - 2) = true) (c3 : x.1 = 3 → x.2.1 = 1 ∧ a + 4 * i + x.2.2.2.2 ∈ calls)
    (cb : 5 ≤ x.1 → x.1 ≤ 10 → x.2.2.2.2 % 4 = 0 ∧ 2 ≤ i + x.2.2.2.2 / 4 ∧ i + x.2.2.2.2 / 4 < (l.length : Int) ∧ endsI l f (i + x.2.2.2.2 / 4 - 1) = false ∧ endsI l f (i + x.2.2.2.2 / 4 - 2) = false)
    (c1 : x.1 ≠ 3 → x.1 ≠ 4 → x.2.1 = 1 → endsI l f i = true) (c2 : x.1 ≠ 3 → x.1 ≠ 4 → x.2.1 = 2 → endsI l f (i - 1) = true)
    (cm : 11 ≤ x.1 → x.1 ≤ 21 → x.2.2.1 = 2 → endsI l f i = true ∨ (0 ≤ x.2.2.2.2 ∧ x.2.2.2.2 ≤ f - 8 - (widV x.1).1 ∧ x.2.2.2.2 % (widV x.1).1 = 0)) : spec_l06Rule l i a f calls = some 0 := by
  have him := hr.imm
  have hbf := branch_form _ hr.1 hr.2.1
  rw [spec_l06Rule_eq, inL_true (by omega) h', hx, w64 (n := i - 2) (by omega) (by omega), w64 (n := i - 1) (by omega) (by omega), spec_ends_val l f i hf hl (by omega) (by omega), spec_ends_val l f (i - 1) hf hl (by omega) (by omega), spec_ends_val l f (i - 2) hf hl (by omega) (by omega), (has_val calls _ hc).2, spec_wid _ hr.1 hr.2.1, spec_shape _ (by have := hr.1; omega) hr.2.1, w64 (n := 4 * i) (by omega) (by omega), w64 (n := a + 4 * i) (by omega) (by omega), w64 (n := a + 4 * i + x.2.2.2.2) (by omega) (by omega), spec_l06Goes_eq, wrap_four x.2.2.2.2 (by omega) (by omega)]
  simp only [Option.bind_some, cond_true, joinB, hbf]
  obtain ⟨n, d, b, c, m⟩ := x
  simp only at *
  have n1 := hr.1; have n2 := hr.2.1
  simp only at n1 n2
  by_cases h4 : n = 4
  · rw [decide_eq_true h4, c4 h4]; rfl
  · rw [decide_eq_false h4]
    simp only [cond_false]
    by_cases h3 : n = 3
    · obtain ⟨hd, hm⟩ := c3 h3
      rw [decide_eq_true h3, decide_eq_true hd, decide_eq_true hm]; rfl
    · rw [decide_eq_false h3]
      simp only [cond_false]
      by_cases hb : 5 ≤ n ∧ n ≤ 10
      · obtain ⟨m4, t1, t2, t3, t4⟩ := cb hb.1 hb.2
        have mt : m.tmod 4 = 0 := Int.tmod_eq_zero_of_dvd (by omega)
        rw [tdiv4 m mt, w64 (n := i + m / 4) (by omega) (by omega), w64 (n := i + m / 4 - 1) (by omega) (by omega), w64 (n := i + m / 4 - 2) (by omega) (by omega), spec_ends_val l f _ hf hl (by omega) (by omega), spec_ends_val l f _ hf hl (by omega) (by omega), t3, t4, decide_eq_true mt, decide_eq_true t1, decide_eq_true t2, decide_eq_true hb.1, decide_eq_true hb.2]; rfl
      · have hb' : (decide (5 ≤ n) && decide (n ≤ 10)) = false := by simp; omega
        rw [hb']
        simp only [cond_false]
        have c1 := c1 h3 h4
        have c2 := c2 h3 h4
        by_cases q : 11 ≤ n ∧ n ≤ 21
        · have hw := wid_pos n q.1 q.2
          have cm := cm q.1 q.2
          rw [w64 (n := f - 8) (by omega) (by omega), w64 (n := f - 8 - (widV n).1) (by omega) (by omega), decide_eq_true (show (widV n).1 > 0 by omega), decide_eq_false (show ¬ (widV n).1 = 0 by omega)]
          have tail : (bif decide (b = 2) then (bif !(endsI l f i) then (bif decide (m < 0) then some (17 : Int) else (bif decide (m > f - 8 - (widV n).1) then some 17 else (bif false then none else (bif !decide (m.tmod (widV n).1 = 0) then some 17 else some 0)))) else some 0) else some 0) = some 0 := by
            by_cases hb2 : b = 2
            · rw [decide_eq_true hb2]
              rcases cm hb2 with he | ⟨m0, m1, m2⟩
              · rw [he]; rfl
              · have mt : m.tmod (widV n).1 = 0 := by rw [Int.tmod_eq_emod_of_nonneg m0]; exact m2
                rw [decide_eq_false (show ¬ m < 0 by omega), decide_eq_false (show ¬ m > f - 8 - (widV n).1 by omega), decide_eq_true mt]
                cases endsI l f i <;> rfl
            · rw [decide_eq_false hb2]; rfl
          by_cases d1 : d = 1
          · have := c1 d1
            subst d1
            rw [this] at tail ⊢
            exact tail
          · rw [decide_eq_false d1]
            by_cases d2 : d = 2
            · rw [decide_eq_true d2, c2 d2]
              exact tail
            · rw [decide_eq_false d2]
              exact tail
        · rw [wid_zero n q]
          by_cases d1 : d = 1
          · rw [c1 d1]; subst d1; rfl
          · rw [decide_eq_false d1]
            by_cases d2 : d = 2
            · rw [decide_eq_true d2, c2 d2]; rfl
            · rw [decide_eq_false d2]; rfl
/-- An instruction of a drawn function's body; i: its number; lo, hi: where its jumps may go. -/
def InsF (f : Int) (C : Int → Int → Prop) (lo hi i : Int) (x : Ins) : Prop :=
  (∃ m, x = (3, 1, 0, 0, m) ∧ C i m) ∨
  (rightV x = true ∧ x.1 ≠ 3 ∧ x.1 ≠ 4 ∧ x.2.1 ≠ 1 ∧ x.2.1 ≠ 2 ∧ (5 ≤ x.1 → x.1 ≤ 10 → x.2.2.2.2 % 4 = 0 ∧ lo ≤ i + x.2.2.2.2 / 4 ∧ i + x.2.2.2.2 / 4 ≤ hi) ∧ (11 ≤ x.1 → x.1 ≤ 21 → x.2.2.1 = 2 → 0 ≤ x.2.2.2.2 ∧ x.2.2.2.2 ≤ f - 8 - (widV x.1).1 ∧ x.2.2.2.2 % (widV x.1).1 = 0))
theorem InsF.mono {f : Int} {C : Int → Int → Prop} {lo hi lo' hi' i : Int} {x : Ins} (h : InsF f C lo hi i x) (h1 : lo' ≤ lo) (h2 : hi ≤ hi') : InsF f C lo' hi' i x := by
  rcases h with h | ⟨a, b, c, d, e, g, k⟩
  · exact .inl h
  · exact .inr ⟨a, b, c, d, e, fun p q => by obtain ⟨u, v, w⟩ := g p q; exact ⟨u, by omega, by omega⟩, k⟩
theorem RegP.range {a : Int} (h : RegP a) : 0 ≤ a ∧ a ≤ 31 ∧ a ≠ 1 ∧ a ≠ 2 := by rcases h with rfl | rfl | rfl | rfl | rfl | rfl | rfl <;> decide
theorem form8 {n : Int} (h : (31 ≤ n ∧ n ≤ 40) ∨ (50 ≤ n ∧ n ≤ 62)) : (shp n).1 = 8 := by
  obtain ⟨k, rfl⟩ := fin65 (n := n) (by omega) (by omega)
  revert k
  decide
theorem form4 {n : Int} (h : 5 ≤ n ∧ n ≤ 10) : (shp n).1 = 4 := by
  obtain ⟨k, rfl⟩ := fin65 (n := n) (by omega) (by omega)
  revert k
  decide
theorem right_of {n d a b i : Int} (f : Int) (hf : (shp n).1 = f) (hn : 1 ≤ n ∧ n ≤ 64) (hd : 0 ≤ d ∧ d ≤ 31) (ha : 0 ≤ a ∧ a ≤ 31) (hb : 0 ≤ b ∧ b ≤ 31) (g1 : (fieldsV f).1 = true ∨ d = 0) (g2 : (fieldsV f).2.1 = true ∨ a = 0) (g3 : (fieldsV f).2.2 = true ∨ b = 0) (hi : immR f i = true) : rightV (n, d, a, b, i) = true := by
  simp only [rightV, Bool.and_eq_true, Bool.or_eq_true, decide_eq_true_eq, hf]
  exact ⟨⟨⟨⟨⟨⟨⟨⟨⟨⟨⟨hn.1, hn.2⟩, hd.1⟩, hd.2⟩, ha.1⟩, ha.2⟩, hb.1⟩, hb.2⟩, g1⟩, g2⟩, g3⟩, hi⟩
theorem imm3 {i : Int} (h : -2048 ≤ i ∧ i ≤ 2047) : immR 3 i = true := by simp [immR]; omega
theorem imm5 {i : Int} (h : -2048 ≤ i ∧ i ≤ 2047) : immR 5 i = true := by simp [immR]; omega
theorem imm4 {i : Int} (h : -4096 ≤ i ∧ i ≤ 4094 ∧ i % 2 = 0) : immR 4 i = true := by simp [immR]; omega
theorem imm1 {i : Int} (h : -2147483648 ≤ i ∧ i ≤ 2147479552 ∧ i % 4096 = 0) : immR 1 i = true := by simp [immR]; omega
theorem r22 {a b i : Int} (ha : 0 ≤ a ∧ a ≤ 31) (hb : 0 ≤ b ∧ b ≤ 31) (h : -2048 ≤ i ∧ i ≤ 2047) : rightV (22, a, b, 0, i) = true := right_of 3 rfl (by decide) ha hb (by decide) (.inl rfl) (.inl rfl) (.inr rfl) (imm3 h)
theorem r14 {a b i : Int} (ha : 0 ≤ a ∧ a ≤ 31) (hb : 0 ≤ b ∧ b ≤ 31) (h : -2048 ≤ i ∧ i ≤ 2047) : rightV (14, a, b, 0, i) = true := right_of 3 rfl (by decide) ha hb (by decide) (.inl rfl) (.inl rfl) (.inr rfl) (imm3 h)
theorem r21 {a b i : Int} (ha : 0 ≤ a ∧ a ≤ 31) (hb : 0 ≤ b ∧ b ≤ 31) (h : -2048 ≤ i ∧ i ≤ 2047) : rightV (21, 0, a, b, i) = true := right_of 5 rfl (by decide) (by decide) ha hb (.inr rfl) (.inl rfl) (.inl rfl) (imm5 h)
theorem r1 {a i : Int} (ha : 0 ≤ a ∧ a ≤ 31) (h : -2147483648 ≤ i ∧ i ≤ 2147479552 ∧ i % 4096 = 0) : rightV (1, a, 0, 0, i) = true := right_of 1 rfl (by decide) ha (by decide) (by decide) (.inl rfl) (.inr rfl) (.inr rfl) (imm1 h)
theorem r8 {n a b c : Int} (h : (31 ≤ n ∧ n ≤ 40) ∨ (50 ≤ n ∧ n ≤ 62)) (ha : 0 ≤ a ∧ a ≤ 31) (hb : 0 ≤ b ∧ b ≤ 31) (hc : 0 ≤ c ∧ c ≤ 31) : rightV (n, a, b, c, 0) = true := right_of 8 (form8 h) (by omega) ha hb hc (.inl rfl) (.inl rfl) (.inl rfl) rfl
theorem rbr {n a b i : Int} (h : 5 ≤ n ∧ n ≤ 10) (ha : 0 ≤ a ∧ a ≤ 31) (hb : 0 ≤ b ∧ b ≤ 31) (hi : -4096 ≤ i ∧ i ≤ 4094 ∧ i % 2 = 0) : rightV (n, 0, a, b, i) = true := right_of 4 (form4 h) (by omega) (by decide) ha hb (.inr rfl) (.inl rfl) (.inl rfl) (imm4 hi)
theorem r63 : rightV (63, 0, 0, 0, 0) = true := by decide +kernel
theorem InsF.plain {f : Int} {C : Int → Int → Prop} {lo hi i n a b c m : Int} (hr : rightV (n, a, b, c, m) = true) (hn : n = 1 ∨ 22 ≤ n) (ha : a ≠ 1 ∧ a ≠ 2) : InsF f C lo hi i (n, a, b, c, m) := by
  refine .inr ⟨hr, ?_, ?_, ha.1, ha.2, fun h h' => ?_, fun h h' => ?_⟩ <;> simp only at * <;> omega
theorem InsF.mem {f : Int} {C : Int → Int → Prop} {lo hi i n a b c m : Int} (hr : rightV (n, a, b, c, m) = true) (hn : 11 ≤ n ∧ n ≤ 21) (ha : a ≠ 1 ∧ a ≠ 2) (hb : b = 2 → 0 ≤ m ∧ m ≤ f - 8 - (widV n).1 ∧ m % (widV n).1 = 0) : InsF f C lo hi i (n, a, b, c, m) := by
  refine .inr ⟨hr, ?_, ?_, ha.1, ha.2, fun h h' => ?_, fun h h' h2 => hb h2⟩ <;> simp only at * <;> omega
theorem InsF.br {f : Int} {C : Int → Int → Prop} {lo hi i n b c m : Int} (hr : rightV (n, 0, b, c, m) = true) (hn : 5 ≤ n ∧ n ≤ 10) (hm : m % 4 = 0 ∧ lo ≤ i + m / 4 ∧ i + m / 4 ≤ hi) : InsF f C lo hi i (n, 0, b, c, m) := by
  refine .inr ⟨hr, ?_, ?_, by simp, by simp, fun h h' => hm, fun h h' => ?_⟩ <;> simp only at * <;> omega
theorem Dpc.ins {f : Int} {C : Int → Int → Prop} {D : Int → Prop} (hD : ∀ d, D d → DatP d) (hf : FrmP f) {i : Int} {l : List Ins} (h : Dpc f (C i) D l) : ∀ (j : Nat) (x : Ins), l[j]? = some x → InsF f C i (i + l.length) (i + j) x := by
  have hfr := hf.range
  cases h with
  | alu n a b c hn ha hb hc =>
    have := ha.range; have := hb.range; have := hc.range
    intro j x e
    match j, e with
    | 0, e => cases e; exact .plain (r8 hn (by omega) (by omega) (by omega)) (by omega) (by omega)
  | imm a b m ha hb hi =>
    have := ha.range; have := hb.range
    intro j x e
    match j, e with
    | 0, e => cases e; exact .plain (r22 (by omega) (by omega) (by omega)) (by omega) (by omega)
  | data a d ha hd =>
    have := ha.range
    obtain ⟨d0, d1, d2, d3⟩ := hD d hd
    intro j x e
    match j, e with
    | 0, e => cases e; exact .plain (r1 (by omega) (by omega)) (by omega) (by omega)
    | 1, e => cases e; exact .mem (r14 (by omega) (by omega) (by omega)) (by omega) (by omega) (by omega)
    | 2, e => cases e; exact .plain (r22 (by omega) (by omega) (by omega)) (by omega) (by omega)
    | 3, e => cases e; exact .mem (r21 (by omega) (by omega) (by omega)) (by omega) (by omega) (by omega)
  | stack a b c m k ha hb hc hi hk =>
    have := ha.range; have := hb.range; have := hc.range
    intro j x e
    match j, e with
    | 0, e => cases e; exact .mem (r21 (by omega) (by omega) (by omega)) (by omega) (by omega) (fun _ => by simp [widV]; omega)
    | 1, e => cases e; exact .plain (r22 (by omega) (by omega) (by omega)) (by omega) (by omega)
    | 2, e => cases e; exact .mem (r14 (by omega) (by omega) (by omega)) (by omega) (by omega) (fun _ => by simp [widV]; omega)
  | call m hm =>
    intro j x e
    match j, e with
    | 0, e => cases e; exact .inl ⟨m, rfl, by simpa using hm⟩
  | out =>
    intro j x e
    match j, e with
    | 0, e => cases e; exact .plain (r22 (by omega) (by omega) (by omega)) (by omega) (by omega)
    | 1, e => cases e; exact .plain r63 (by omega) (by omega)
  | skip n a b m hn ha hb hi =>
    have := ha.range; have := hb.range
    intro j x e
    match j, e with
    | 0, e => cases e; exact .br (rbr hn (by omega) (by omega) (by omega)) hn (by simp; omega)
    | 1, e => cases e; exact .plain (r22 (by omega) (by omega) (by omega)) (by omega) (by omega)
  | turn k a b m hk ha hb hi =>
    have := ha.range; have := hb.range
    intro j x e
    match j, e with
    | 0, e => cases e; exact .plain (r22 (by omega) (by omega) (by omega)) (by omega) (by omega)
    | 1, e => cases e; exact .plain (r22 (by omega) (by omega) (by omega)) (by omega) (by omega)
    | 2, e => cases e; exact .plain (r22 (by omega) (by omega) (by omega)) (by omega) (by omega)
    | 3, e => cases e; exact .br (rbr (by omega) (by omega) (by omega) (by omega)) (by omega) (by simp; omega)
  | sys v x y hv hx hy =>
    intro j x e
    match j, e with
    | 0, e => cases e; exact .plain (r22 (by omega) (by omega) (by omega)) (by omega) (by omega)
    | 1, e => cases e; exact .plain (r22 (by omega) (by omega) (by omega)) (by omega) (by omega)
    | 2, e => cases e; exact .plain (r22 (by omega) (by omega) (by omega)) (by omega) (by omega)
    | 3, e => cases e; exact .plain r63 (by omega) (by omega)
theorem Dpcs.ins {f : Int} {C : Int → Int → Prop} {D : Int → Prop} (hD : ∀ d, D d → DatP d) (hf : FrmP f) {s : Int} {b : List Ins} (h : Dpcs f C D s b) : ∀ (j : Nat) (x : Ins), b[j]? = some x → InsF f C s (s + b.length) (s + j) x := by
  induction h with
  | nil i => intro j x e; cases e
  | cons i l m h k ih =>
    intro j x e
    rw [List.length_append]
    by_cases hj : j < l.length
    · rw [List.getElem?_append_left hj] at e
      exact (h.ins hD hf j x e).mono (Int.le_refl _) (by omega)
    · rw [List.getElem?_append_right (by omega)] at e
      have := ih (j - l.length) x e
      have e1 : i + (l.length : Int) + ((j - l.length : Nat) : Int) = i + (j : Int) := by omega
      rw [e1] at this
      exact this.mono (by omega) (by omega)
def funL (f : Int) (b : List Ins) : List Ins := proL f ++ b ++ epiL f
theorem funL_length (f : Int) (b : List Ins) : (funL f b).length = b.length + 5 := by simp [funL, proL, epiL]
theorem funL_cases (f : Int) (b : List Ins) (i : Nat) (x : Ins) (h : (funL f b)[i]? = some x) :
    (i = 0 ∧ x = (22, 2, 2, 0, 0 - f)) ∨ (i = 1 ∧ x = (21, 0, 2, 1, f - 8)) ∨ (∃ j, i = j + 2 ∧ j < b.length ∧ b[j]? = some x) ∨ (i = b.length + 2 ∧ x = (14, 1, 2, 0, f - 8)) ∨ (i = b.length + 3 ∧ x = (22, 2, 2, 0, f)) ∨ (i = b.length + 4 ∧ x = (4, 0, 1, 0, 0)) := by
  unfold funL proL epiL at h
  match i with
  | 0 => exact .inl ⟨rfl, by cases h; rfl⟩
  | 1 => exact .inr (.inl ⟨rfl, by cases h; rfl⟩)
  | j + 2 =>
    right; right
    simp only [List.cons_append, List.nil_append, List.getElem?_cons_succ] at h
    by_cases hj : j < b.length
    · rw [List.getElem?_append_left hj] at h
      exact .inl ⟨j, rfl, hj, h⟩
    · rw [List.getElem?_append_right (by omega)] at h
      right
      obtain ⟨k, rfl⟩ : ∃ k, j = b.length + k := ⟨j - b.length, by omega⟩
      rw [Nat.add_sub_cancel_left] at h
      match k with
      | 0 => simp at h; exact .inl ⟨by omega, h.symm⟩
      | 1 => simp at h; exact .inr (.inl ⟨by omega, h.symm⟩)
      | 2 => simp at h; exact .inr (.inr ⟨by omega, h.symm⟩)
      | k + 3 => simp at h
theorem rd_get {xs : List Ins} {i : Nat} (h : i < xs.length) : ∃ x, xs[i]? = some x ∧ rd (τ := TIns) xs (i : Int) = x := ⟨xs[i], by simp [h], rd_nat (τ := TIns) xs i h⟩
theorem funL_end (f : Int) (b : List Ins) : rd (τ := TIns) (funL f b) ((b.length + 2 : Nat) : Int) = (14, 1, 2, 0, f - 8) ∧ rd (τ := TIns) (funL f b) ((b.length + 3 : Nat) : Int) = (22, 2, 2, 0, f) ∧ rd (τ := TIns) (funL f b) ((b.length + 4 : Nat) : Int) = (4, 0, 1, 0, 0) := by
  refine ⟨?_, ?_, ?_⟩ <;> apply rd_some (τ := TIns) <;> simp [funL, proL, epiL]
theorem funL_begin (f : Int) (b : List Ins) : rd (τ := TIns) (funL f b) 0 = (22, 2, 2, 0, 0 - f) ∧ rd (τ := TIns) (funL f b) 1 = (21, 0, 2, 1, f - 8) := by
  constructor
  · exact rd_some (τ := TIns) (funL f b) 0 _ (by simp [funL, proL])
  · exact rd_some (τ := TIns) (funL f b) 1 _ (by simp [funL, proL])
theorem ends_funL {f : Int} {C : Int → Int → Prop} {D : Int → Prop} (hD : ∀ d, D d → DatP d) (hf : FrmP f) {b : List Ins} (h : Dpcs f C D 2 b) (k : Int) : endsI (funL f b) f k = decide (k = (b.length : Int) + 2) := by
  by_cases hk : k = (b.length : Int) + 2
  · rw [decide_eq_true hk]
    obtain ⟨e1, e2, e3⟩ := funL_end f b
    unfold endsI
    rw [funL_length, show k = ((b.length + 2 : Nat) : Int) by omega, show ((b.length + 2 : Nat) : Int) + 1 = ((b.length + 3 : Nat) : Int) by omega, show ((b.length + 2 : Nat) : Int) + 2 = ((b.length + 4 : Nat) : Int) by omega, e1, e2, e3]
    simp; omega
  · rw [decide_eq_false hk]
    cases he : endsI (funL f b) f k with
    | false => rfl
    | true =>
      unfold endsI at he
      simp only [Bool.and_eq_true, decide_eq_true_eq, funL_length] at he
      obtain ⟨⟨⟨⟨h1, h2⟩, h3⟩, _⟩, _⟩ := he
      obtain ⟨i, rfl⟩ : ∃ i : Nat, k = i := ⟨k.toNat, by omega⟩
      obtain ⟨x, hx, hr⟩ := rd_get (xs := funL f b) (i := i) (by rw [funL_length]; omega)
      rw [hr] at h3
      rcases funL_cases f b i x hx with ⟨hi, _⟩ | ⟨hi, _⟩ | ⟨j, hi, hj, hb⟩ | ⟨hi, _⟩ | ⟨hi, _⟩ | ⟨hi, _⟩
      · omega
      · omega
      · have := h.ins hD hf j x hb
        rw [h3] at this
        rcases this with ⟨m, e, _⟩ | ⟨_, _, _, e, _⟩
        · cases e
        · exact absurd rfl e
      · omega
      · omega
      · omega
theorem funL_right {f : Int} {C : Int → Int → Prop} {D : Int → Prop} (hD : ∀ d, D d → DatP d) (hC : ∀ i m, C i m → rightV (3, 1, 0, 0, m) = true) (hf : FrmP f) {b : List Ins} (h : Dpcs f C D 2 b) : ∀ x ∈ funL f b, rightV x = true := by
  have hfr := hf.range
  intro x hx
  obtain ⟨i, hi⟩ := List.getElem?_of_mem hx
  rcases funL_cases f b i x hi with ⟨_, rfl⟩ | ⟨_, rfl⟩ | ⟨j, _, hj, hb⟩ | ⟨_, rfl⟩ | ⟨_, rfl⟩ | ⟨_, rfl⟩
  · exact r22 (by decide) (by decide) (by omega)
  · exact r21 (by decide) (by decide) (by omega)
  · rcases h.ins hD hf j x hb with ⟨m, rfl, hm⟩ | h
    · exact hC _ _ hm
    · exact h.1
  · exact r14 (by decide) (by decide) (by omega)
  · exact r22 (by decide) (by decide) (by omega)
  · decide +kernel
theorem right_ins {x : Ins} (h : rightV x = true) : InsR x := by
  obtain ⟨h1, hr, _⟩ := right_facts h
  exact ⟨h1.1, h1.2, hr, h⟩
theorem spec_lint_funL {f a : Int} {calls : List Int} {C : Int → Int → Prop} {D : Int → Prop} (hD : ∀ d, D d → DatP d) (hC : ∀ i m, C i m → rightV (3, 1, 0, 0, m) = true ∧ a + 4 * i + m ∈ calls) (hf : FrmP f) {b : List Ins} (h : Dpcs f C D 2 b) (hb : b.length ≤ 59) (ha : codeAtV a = true) (hc : calls.length ≤ 1048576) :
    spec_l06Lint (codeOf (funL f b)) a f calls = some (0, 0) := by
  have hfr := hf.range
  have har := codeAtV_range ha
  have hn := funL_length f b
  have hq : (decide (0 ≤ a) && decide (a ≤ 1048575)) = true := by simp [har]
  have h4 : decide (a.tmod 4 = 0) = true := by unfold codeAtV at ha; rw [hq] at ha; exact ha
  have hright := funL_right hD (fun i m q => (hC i m q).1) hf h
  have hsz : codeSizeV (codeOf (funL f b)).size = true := by
    rw [codeOf_size]; unfold codeSizeV
    rw [show decide (((4 * (funL f b).length : Nat) : Int).tmod 4 = 0) = true from decide_eq_true (Int.tmod_eq_zero_of_dvd (by omega))]
    rw [cond_true]
    exact decide_eq_true (by omega)
  rw [spec_l06Lint_eq, spec_in_val, (frame_val f).2, (codeSize_val _).2, (instrs_val _ (by omega) hright).2, hq, h4, hf.ok, hsz, codeOf_size]
  simp only [Option.bind_some, joinB, Bool.not_true, cond_false]
  rw [show decide (((4 * (funL f b).length : Nat) : Int) < 20) = false from decide_eq_false (by omega), show decide ((-1 : Int) ≥ 0) = false from rfl]
  simp only [cond_false]
  obtain ⟨b0, b1⟩ := funL_begin f b
  obtain ⟨_, _, b2⟩ := funL_end f b
  have hp := pro_val hf
  rw [spec_l06Lint.l111111010_eq, hp, b0]
  simp only [Option.bind_some, show decide ((0 : Int) < 2) = true from rfl, cond_true]
  rw [inL_true (i := 0) (by omega) (by omega), inL_true (i := 0) (by omega) (by simp [proL])]
  have p0 : rd (τ := TIns) (proL f) 0 = (22, 2, 2, 0, 0 - f) := rfl
  have p1 : rd (τ := TIns) (proL f) 1 = (21, 0, 2, 1, f - 8) := rfl
  rw [p0, show eqD TIns (((22, 2, 2, 0, 0 - f) : Ins)) ((22, 2, 2, 0, 0 - f) : Ins) = true by rw [eqD_ins]; simp]
  simp only [cond_true, Bool.not_true, cond_false]
  rw [show IntKind.wrap .i64 (0 + 1) = 1 by rfl, spec_l06Lint.l111111010_eq, hp, b1]
  simp only [Option.bind_some, show decide ((1 : Int) < 2) = true from rfl, cond_true]
  rw [inL_true (i := 1) (by omega) (by omega), inL_true (i := 1) (by omega) (by simp [proL]), p1, show eqD TIns (((21, 0, 2, 1, f - 8) : Ins)) ((21, 0, 2, 1, f - 8) : Ins) = true by rw [eqD_ins]; simp]
  simp only [cond_true, Bool.not_true, cond_false]
  rw [show IntKind.wrap .i64 (1 + 1) = 2 by rfl, spec_l06Lint.l111111010_eq]
  have hl1 : IntKind.wrap .i64 (((funL f b).length : Int) - 1) = ((b.length + 4 : Nat) : Int) := by rw [w64 (by omega) (by omega)]; omega
  simp only [show decide ((2 : Int) < 2) = false from rfl, cond_false, joinB]
  rw [hl1, b2, inL_true (by omega) (by omega)]
  simp only [cond_true]
  have loop : ∀ (k i : Nat), i + k = b.length + 5 → 2 ≤ i → spec_l06Lint.l111111111010 a f calls (funL f b) ((b.length + 4 : Nat) : Int) (i : Int) = some (0, 0) := by
    intro k
    induction k with
    | zero =>
      intro i hi _
      rw [spec_l06Lint.l111111111010_eq, decide_eq_false (by omega)]; rfl
    | succ k ih =>
      intro i hi h2
      obtain ⟨x, hx, hr⟩ := rd_get (xs := funL f b) (i := i) (by omega)
      have hE := ends_funL hD hf h
      have hrule : spec_l06Rule (funL f b) (i : Int) a f calls = some 0 := by
        have R := rule_zero (funL f b) f a calls ⟨hfr.1, hfr.2.1⟩ har (by omega) hc i (by omega) (by omega) x hr (right_ins (hright x (List.mem_of_getElem? hx)))
        rcases funL_cases f b i x hx with ⟨hi', rfl⟩ | ⟨hi', rfl⟩ | ⟨j, hi', hj, hb⟩ | ⟨hi', rfl⟩ | ⟨hi', rfl⟩ | ⟨hi', rfl⟩
        · omega
        · omega
        · rcases h.ins hD hf j x hb with ⟨m, rfl, hm⟩ | ⟨_, g3, g4, g5, g6, g7, g8⟩
          · refine R (fun e => by simp at e) (fun _ => ⟨rfl, ?_⟩) (fun e => by simp at e) (fun e => absurd rfl e) (fun e => absurd rfl e) (fun e => by simp at e)
            have e2 : a + 4 * (i : Int) + m = a + 4 * (2 + (j : Int)) + m := by omega
            show a + 4 * (i : Int) + m ∈ calls
            rw [e2]; exact (hC _ _ hm).2
          · refine R (fun e => absurd e g4) (fun e => absurd e g3) (fun e e' => ?_) (fun _ _ e => absurd e g5) (fun _ _ e => absurd e g6) (fun e e' e2 => .inr (g8 e e' e2))
            obtain ⟨t1, t2, t3⟩ := g7 e e'
            rw [hE, hE]
            exact ⟨t1, by omega, by omega, decide_eq_false (by omega), decide_eq_false (by omega)⟩
        · exact R (fun e => by simp at e) (fun e => by simp at e) (fun _ e => by simp at e) (fun _ _ _ => by rw [hE]; exact decide_eq_true (by omega)) (fun _ _ e => by simp at e) (fun _ _ _ => .inl (by rw [hE]; exact decide_eq_true (by omega)))
        · exact R (fun e => by simp at e) (fun e => by simp at e) (fun _ e => by simp at e) (fun _ _ e => by simp at e) (fun _ _ _ => by rw [hE]; exact decide_eq_true (by omega)) (fun _ e => by simp at e)
        · exact R (fun _ => by rw [hE]; exact decide_eq_true (by omega)) (fun e => by simp at e) (fun e => by simp at e) (fun _ e => absurd rfl e) (fun _ e => absurd rfl e) (fun e => by simp at e)
      rw [spec_l06Lint.l111111111010_eq, decide_eq_true (by omega), hrule, w64_succ i (b.length + 5) (by omega) (by omega)]
      simp only [cond_true, Option.bind_some]
      exact ih (i + 1) (by omega) (by omega)
  exact loop (b.length + 3) 2 (by omega) (by omega)
theorem Dpc.mono {f : Int} {C C' D D' : Int → Prop} {l : List Ins} (hC : ∀ m, C m → C' m) (hD : ∀ d, D d → D' d) (h : Dpc f C D l) : Dpc f C' D' l := by
  cases h with
  | alu n a b c hn ha hb hc => exact .alu n a b c hn ha hb hc
  | imm a b i ha hb hi => exact .imm a b i ha hb hi
  | data a d ha hd => exact .data a d ha (hD d hd)
  | stack a b c i k ha hb hc hi hk => exact .stack a b c i k ha hb hc hi hk
  | call i hi => exact .call i (hC i hi)
  | out => exact .out
  | skip n a b i hn ha hb hi => exact .skip n a b i hn ha hb hi
  | turn k a b i hk ha hb hi => exact .turn k a b i hk ha hb hi
  | sys v x y hv hx hy => exact .sys v x y hv hx hy
theorem Dpcs.mono {f : Int} {C C' : Int → Int → Prop} {D D' : Int → Prop} (hC : ∀ i m, C i m → C' i m) (hD : ∀ d, D d → D' d) {i : Int} {l : List Ins} (h : Dpcs f C D i l) : Dpcs f C' D' i l := by
  induction h with
  | nil i => exact .nil i
  | cons i l m h _ ih => exact .cons i l m (h.mono (hC i) hD) ih
/-- Bytes. -/
def BytP (a : List Int) : Prop := ∀ x ∈ a, 0 ≤ x ∧ x ≤ 255
theorem enc_of {n d a b i : Int} (hn : 1 ≤ n ∧ n ≤ 64) (hd : 0 ≤ d ∧ d ≤ 31) (ha : 0 ≤ a ∧ a ≤ 31) (hb : 0 ≤ b ∧ b ≤ 31) (hi : -4611686018427387904 ≤ i ∧ i ≤ 4611686018427387904) (hu : (shp n).1 ≠ 1) : EncR (n, d, a, b, i) :=
  ⟨hn, ⟨hd, ha, hb, by simp only; omega⟩, fun e => absurd e hu⟩
theorem funL_enc {f : Int} {C : Int → Int → Prop} {D : Int → Prop} (hD : ∀ d, D d → DatP d) (hf : FrmP f) {b : List Ins} (h : Dpcs f C D 2 b) (hC : ∀ (j : Nat) (m : Int), j < b.length → C (2 + j) m → -4611686018427387904 ≤ m ∧ m ≤ 4611686018427387904) : ∀ x ∈ funL f b, EncR x := by
  have hfr := hf.range
  intro x hx
  obtain ⟨i, hi⟩ := List.getElem?_of_mem hx
  rcases funL_cases f b i x hi with ⟨_, rfl⟩ | ⟨_, rfl⟩ | ⟨j, _, hj, hb⟩ | ⟨_, rfl⟩ | ⟨_, rfl⟩ | ⟨_, rfl⟩
  · exact EncR.right (r22 (by decide) (by decide) (by omega))
  · exact EncR.right (r21 (by decide) (by decide) (by omega))
  · rcases h.ins hD hf j x hb with ⟨m, rfl, hm⟩ | h
    · have := hC j m hj hm
      exact enc_of (by decide) (by decide) (by decide) (by decide) this (by decide)
    · exact EncR.right h.1
  · exact EncR.right (r14 (by decide) (by decide) (by omega))
  · exact EncR.right (r22 (by decide) (by decide) (by omega))
  · exact EncR.right (by decide +kernel)
theorem size_app (a b : ByteArray) : (a ++ b).size = a.size + b.size := ByteArray.size_append
/-- A call put right: S: the symbols; i: the function's number; k: the instruction's. -/
def fix1 (S : List Sym) (i : Int) (k : Int) (x : Ins) : Ins :=
  if x.1 = 3 ∧ x.2.1 = 1 then (x.1, x.2.1, x.2.2.1, x.2.2.2.1, (rd (τ := TSym) S ((x.2.2.2.2 + 4 * k) / 1000000 - 1)).2.2.1 - (rd (τ := TSym) S i).2.2.1 - 4 * k) else x
def fixL (S : List Sym) (i : Int) : Int → List Ins → List Ins
  | _, [] => []
  | k, x :: l => fix1 S i k x :: fixL S i (k + 1) l
theorem fixL_length (S : List Sym) (i : Int) : ∀ (l : List Ins) (k : Int), (fixL S i k l).length = l.length
  | [], _ => rfl
  | x :: l, k => by simp [fixL, fixL_length S i l]
theorem fixL_append (S : List Sym) (i : Int) : ∀ (l m : List Ins) (k : Int), fixL S i k (l ++ m) = fixL S i k l ++ fixL S i (k + l.length) m
  | [], m, k => by simp [fixL]
  | x :: l, m, k => by
    simp only [List.cons_append, fixL, fixL_append S i l m (k + 1), List.length_cons]
    rw [show k + 1 + (l.length : Int) = k + ((l.length + 1 : Nat) : Int) by omega]
theorem fixL_get (S : List Sym) (i : Int) : ∀ (l : List Ins) (k : Int) (j : Nat) (x : Ins), l[j]? = some x → (fixL S i k l)[j]? = some (fix1 S i (k + j) x)
  | [], _, _, _, h => by simp at h
  | y :: l, k, 0, x, h => by simp at h; subst h; simp [fixL]
  | y :: l, k, j + 1, x, h => by
    have := fixL_get S i l (k + 1) j x (by simpa using h)
    simp only [fixL, List.getElem?_cons_succ, this]
    rw [show k + 1 + (j : Int) = k + ((j + 1 : Nat) : Int) by omega]
theorem fix1_other {S : List Sym} {i k : Int} {x : Ins} (h : x.1 ≠ 3) : fix1 S i k x = x := by
  unfold fix1; rw [if_neg fun e => h e.1]
/-- Half way: the first k are put right. -/
def halfL (S : List Sym) (i : Int) (l : List Ins) (k : Nat) : List Ins := (fixL S i 0 l).take k ++ l.drop k
theorem half_zero (S : List Sym) (i : Int) (l : List Ins) : halfL S i l 0 = l := by simp [halfL]
theorem half_full (S : List Sym) (i : Int) (l : List Ins) : halfL S i l l.length = fixL S i 0 l := by
  unfold halfL
  rw [List.take_of_length_le (by rw [fixL_length]; exact Nat.le_refl _), List.drop_length, List.append_nil]
theorem half_length (S : List Sym) (i : Int) (l : List Ins) (k : Nat) (h : k ≤ l.length) : (halfL S i l k).length = l.length := by
  simp [halfL, fixL_length]; omega
theorem half_get (S : List Sym) (i : Int) (l : List Ins) (k : Nat) (h : k < l.length) : (halfL S i l k)[k]? = l[k]? := by
  unfold halfL
  rw [List.getElem?_append_right (by simp [fixL_length]; omega)]
  simp only [List.length_take, fixL_length, List.getElem?_drop]
  rw [show k + (k - min k l.length) = k by omega]
theorem half_succ (S : List Sym) (i : Int) (l : List Ins) (k : Nat) (h : k < l.length) : (halfL S i l k).set k (fix1 S i k l[k]) = halfL S i l (k + 1) := by
  unfold halfL
  have h1 : ((fixL S i 0 l).take k).length = k := by simp [fixL_length]; omega
  rw [List.set_append_right _ _ (by omega), h1, Nat.sub_self, List.drop_eq_getElem_cons h, List.set_cons_zero]
  have h2 : (fixL S i 0 l)[k]? = some (fix1 S i (0 + k) l[k]) := fixL_get S i l 0 k l[k] (by simp [h])
  rw [List.take_add_one, h2, Int.zero_add]
  simp
theorem half_same (S : List Sym) (i : Int) (l : List Ins) (k : Nat) (h : k < l.length) (he : fix1 S i k l[k] = l[k]) : halfL S i l (k + 1) = halfL S i l k := by
  rw [← half_succ S i l k h, he]
  have := half_get S i l k h
  apply List.ext_getElem? 
  intro j
  rw [List.getElem?_set]
  split
  · rename_i e
    subst e
    rw [half_length S i l k (by omega), if_pos h, this]; simp [h]
  · rfl
/-- Pieces with their calls put right. -/
theorem Dpc.fix {S : List Sym} {i f : Int} {C C' : Int → Prop} {D : Int → Prop} {k : Int} (hC : ∀ m, C m → C' ((rd (τ := TSym) S ((m + 4 * k) / 1000000 - 1)).2.2.1 - (rd (τ := TSym) S i).2.2.1 - 4 * k)) {l : List Ins} (h : Dpc f C D l) : Dpc f C' D (fixL S i k l) := by
  cases h with
  | alu n a b c hn ha hb hc =>
    simp only [fixL]; rw [fix1_other (by simp only; omega)]; exact .alu n a b c hn ha hb hc
  | imm a b i ha hb hi => simp only [fixL]; rw [fix1_other (by simp)]; exact .imm a b i ha hb hi
  | data a d ha hd =>
    simp only [fixL]
    rw [fix1_other (by simp), fix1_other (by simp), fix1_other (by simp), fix1_other (by simp)]; exact .data a d ha hd
  | stack a b c i k ha hb hc hi hk =>
    simp only [fixL]
    rw [fix1_other (by simp), fix1_other (by simp), fix1_other (by simp)]; exact .stack a b c i k ha hb hc hi hk
  | call m hm =>
    simp only [fixL, fix1, and_self, ↓reduceIte]
    exact .call _ (hC m hm)
  | out => simp only [fixL]; rw [fix1_other (by simp), fix1_other (by simp)]; exact .out
  | skip n a b i hn ha hb hi =>
    simp only [fixL]
    rw [fix1_other (by simp only; omega), fix1_other (by simp)]; exact .skip n a b i hn ha hb hi
  | turn k a b i hk ha hb hi =>
    simp only [fixL]
    rw [fix1_other (by simp), fix1_other (by simp), fix1_other (by simp), fix1_other (by simp)]; exact .turn k a b i hk ha hb hi
  | sys v x y hv hx hy =>
    simp only [fixL]
    rw [fix1_other (by simp), fix1_other (by simp), fix1_other (by simp), fix1_other (by simp)]; exact .sys v x y hv hx hy
theorem Dpcs.fix {S : List Sym} {i f : Int} {C C' : Int → Int → Prop} {D : Int → Prop} (hC : ∀ k m, C k m → C' k ((rd (τ := TSym) S ((m + 4 * k) / 1000000 - 1)).2.2.1 - (rd (τ := TSym) S i).2.2.1 - 4 * k)) {k : Int} {l : List Ins} (h : Dpcs f C D k l) : Dpcs f C' D k (fixL S i k l) := by
  induction h with
  | nil k => exact .nil k
  | cons k l m h _ ih =>
    rw [fixL_append]
    refine .cons k _ _ (h.fix (hC k)) ?_
    rw [fixL_length]; exact ih
theorem fix_funL (S : List Sym) (i f : Int) (b : List Ins) : fixL S i 0 (funL f b) = funL f (fixL S i 2 b) := by
  unfold funL
  rw [fixL_append, fixL_append]
  congr 1
/-- A function of an image: its frame, its instructions. -/
abbrev Fn : Type := Int × List Ins
def lenS : List Fn → Nat
  | [] => 0
  | p :: r => p.2.length + lenS r
def catL : List Fn → List Ins
  | [] => []
  | p :: r => p.2 ++ catL r
def nmL : List ByteArray := [(⟨#[109, 97, 105, 110]⟩ : ByteArray), (⟨#[119, 111, 114, 107]⟩ : ByteArray), (⟨#[108, 101, 97, 102]⟩ : ByteArray), (⟨#[116, 105, 99, 107]⟩ : ByteArray), (⟨#[112, 97, 100]⟩ : ByteArray), (⟨#[99, 97, 108, 99]⟩ : ByteArray)]
def nmV (k : Nat) : ByteArray := rd (τ := .str) nmL (k : Int)
def symA : Nat → Nat → List Fn → List Sym
  | _, _, [] => []
  | k, a, p :: r => (nmV k, 1, ((4 * a : Nat) : Int), ((4 * p.2.length : Nat) : Int), p.1) :: symA (k + 1) (a + p.2.length) r
theorem catL_length : ∀ l : List Fn, (catL l).length = lenS l
  | [] => rfl
  | q :: l => by simp [catL, lenS, catL_length l]
theorem catL_snoc : ∀ (l : List Fn) (p : Fn), catL (l ++ [p]) = catL l ++ p.2
  | [], p => by simp [catL]
  | q :: l, p => by simp [catL, catL_snoc l p]
theorem symA_snoc : ∀ (l : List Fn) (p : Fn) (k a : Nat), symA k a (l ++ [p]) = symA k a l ++ [(nmV (k + l.length), 1, ((4 * (a + lenS l) : Nat) : Int), ((4 * p.2.length : Nat) : Int), p.1)]
  | [], p, k, a => by simp [symA, lenS]
  | q :: l, p, k, a => by
    simp only [List.cons_append, symA, symA_snoc l p, List.length_cons, lenS]
    rw [show k + 1 + l.length = k + (l.length + 1) by omega, show a + q.2.length + lenS l = a + (q.2.length + lenS l) by omega]
theorem symA_length : ∀ (l : List Fn) (k a : Nat), (symA k a l).length = l.length
  | [], _, _ => rfl
  | q :: l, k, a => by simp [symA, symA_length l]
theorem lenS_le (l : List Fn) (m : Nat) (h : ∀ p ∈ l, p.2.length ≤ m) : lenS l ≤ m * l.length := by
  induction l with
  | nil => simp [lenS]
  | cons p l ih =>
    have h1 := h p (by simp)
    have h2 := ih fun q hq => h q (by simp [hq])
    simp only [lenS, List.length_cons, Nat.mul_add]; omega
/-- A drawn function. -/
def FnD (C : Int → Int → Prop) (D : Int → Prop) (p : Fn) : Prop := FrmP p.1 ∧ ∃ b, p.2 = funL p.1 b ∧ Dpcs p.1 C D 2 b ∧ b.length ≤ 24 ∧ 1 ≤ b.length
theorem FnD.len {C : Int → Int → Prop} {D : Int → Prop} {p : Fn} (h : FnD C D p) : p.2.length ≤ 29 ∧ 6 ≤ p.2.length := by
  obtain ⟨_, b, e, _, h1, h2⟩ := h
  rw [e, funL_length]; omega
theorem l07names_val : spec_l07Names = some nmL := spec_l07Names_eq
def calD (calls : List Int) : Int → Int → Prop := fun i m => ∃ c ∈ calls, m = c - 0 - 4 * i
theorem fn_enc {C : Int → Int → Prop} {D : Int → Prop} (hD : ∀ d, D d → DatP d) {p : Fn} (h : FnD C D p) (hC : ∀ (j : Nat) (m : Int), j ≤ 100 → C j m → -4611686018427387904 ≤ m ∧ m ≤ 4611686018427387904) : ∀ x ∈ p.2, EncR x := by
  obtain ⟨hf, b, e, hp, h1, h2⟩ := h
  rw [e]
  refine funL_enc hD hf hp fun j m hj hm => hC (2 + j) m (by omega) ?_
  have : ((2 + j : Nat) : Int) = 2 + (j : Int) := by omega
  rw [this]; exact hm
theorem set_last {α : Type} (l : List α) (d x : α) : (l ++ [d]).set l.length x = l ++ [x] := by
  rw [List.set_append_right _ _ (Nat.le_refl _)]; simp
/-- The functions are drawn. -/
theorem image_funs (im0 : Img) (n words : Int) (calls datas : List Int) (hn : n ≤ 5) (hc : ∀ c ∈ calls, CalP c) (hd : ∀ d ∈ datas, DatP d) (hcl : calls.length ≤ 256) (hdl : datas.length ≤ 256) {K : Nat} : ∀ (k i : Nat) (s : Src) (fs : List Fn), (i : Int) + k = n → fs.length = i → (∀ p ∈ fs, FnD (calD calls) (· ∈ datas) p) → SrcOK (K + 150 * k) s →
    ∃ (fs' : List Fn) (t : Src), fs'.length = i + k ∧ (∀ p ∈ fs', FnD (calD calls) (· ∈ datas) p) ∧ SrcOK K t ∧
      spec_l00Src_image.l111111111010 s im0 n words datas calls (codeOf (catL fs), ⟨#[]⟩, symA 0 0 fs) (fs.map (·.2)) (i : Int) = spec_l00Src_image.l11111111111010 t im0 n words (⟨#[]⟩, ⟨#[]⟩, symA 0 0 fs') (fs'.map (·.2)) 0 := by
  intro k
  induction k with
  | zero =>
    intro i s fs hk hl hfs hs
    refine ⟨fs, s, by omega, hfs, hs.mono (by omega), ?_⟩
    rw [spec_l00Src_image.l111111111010_eq, decide_eq_false (show ¬ (i : Int) < n by omega)]; rfl
  | succ k ih =>
    intro i s fs hk hl hfs hs
    obtain ⟨f, s1, e1, hf, h1⟩ := frm_ok (hs.mono (show K + 150 * k + 147 + 3 ≤ K + 150 * (k + 1) by omega))
    obtain ⟨v, s2, e2, p2, q2, _, h2⟩ := next_ok (h1.mono (show K + 150 * k + 144 + 3 ≤ K + 150 * k + 147 by omega)) 6
    have q2 := q2 (by decide)
    obtain ⟨m, hm⟩ : ∃ m : Nat, 1 + v = m := ⟨(1 + v).toNat, by omega⟩
    obtain ⟨b, s3, e3, hp, _, hb1, hb4, h3⟩ := function_ok2 (K := K + 150 * k) m (h2.mono (by omega)) 0 f calls datas hf (by decide) hc hd hcl hdl (by omega)
    have hD : FnD (calD calls) (· ∈ datas) (f, funL f b) := ⟨hf, b, rfl, hp, by omega, hb1 (by omega)⟩
    have hlen : (proL f ++ b ++ epiL f).length = b.length + 5 := funL_length f b
    have hls := lenS_le fs 29 fun p hp => (hfs p hp).len.1
    have hsz : (codeOf (catL fs)).size = 4 * lenS fs := by rw [codeOf_size, catL_length]
    have henc : ∀ x ∈ proL f ++ b ++ epiL f, EncR x := fn_enc (p := (f, funL f b)) hd hD fun j m hj hm => by
      obtain ⟨c, hcm, rfl⟩ := hm
      have := hc c hcm
      unfold CalP at this; omega
    rw [spec_l00Src_image.l111111111010_eq, decide_eq_true (show (i : Int) < n by omega), e1]
    simp only [cond_true, Option.bind_some]
    rw [e2]
    simp only [Option.bind_some]
    rw [w64 (n := 1 + v) (by omega) (by omega), hm, e3, l07names_val]
    simp only [Option.bind_some]
    rw [room_le (by simp; omega) (by simp; omega), inL_true (by omega) (by simp [nmL]; omega), room_le (by simp [symA_length]; omega) (by simp [symA_length]; omega), spec_words _ (by omega) henc]
    simp only [cond_true, Option.bind_some]
    rw [decide_eq_true (by rw [codeOf_size, codeOf_size, hlen, catL_length]; omega), cond_true, w64_succ i 5 (by omega) (by omega), w64 (n := 4 * ((proL f ++ b ++ epiL f).length : Int)) (by omega) (by omega), hsz]
    have hset : ((fs.map (·.2)) ++ [([] : List Ins)]).set (fs.map (·.2)).length (proL f ++ b ++ epiL f) = (fs ++ [(f, funL f b)]).map (·.2) := by
      rw [set_last, List.map_append]; rfl
    have hcat : codeOf (catL fs) ++ codeOf (proL f ++ b ++ epiL f) = codeOf (catL (fs ++ [(f, funL f b)])) := by
      rw [catL_snoc, codeOf_append (catL fs)]; rfl
    have hsym : symA 0 0 fs ++ [((rd (τ := .str) nmL (i : Int)), 1, ((4 * lenS fs : Nat) : Int), 4 * ((proL f ++ b ++ epiL f).length : Int), f)] = symA 0 0 (fs ++ [(f, funL f b)]) := by
      rw [symA_snoc, Nat.zero_add, Nat.zero_add, hl]
      have : ((4 * (funL f b).length : Nat) : Int) = 4 * ((proL f ++ b ++ epiL f).length : Int) := by rw [show (proL f ++ b ++ epiL f) = funL f b from rfl]; omega
      rw [this]; rfl
    obtain ⟨fs', t, g1, g2, g3, g4⟩ := ih (i + 1) s3 (fs ++ [(f, funL f b)]) (by omega) (by simp [hl]) (fun p hp => by
      rcases List.mem_append.1 hp with hp | hp
      · exact hfs p hp
      · rw [List.mem_singleton.1 hp]; exact hD) h3
    refine ⟨fs', t, by omega, g2, g3, ?_⟩
    rw [← g4]
    have hset' : ((fs.map (·.2)) ++ [([] : List Ins)]).set (fs.map (·.2)).length (proL f ++ b ++ epiL f) = List.map (·.2) (fs ++ [(f, funL f b)]) := hset
    rw [hset', hcat, hsym]
theorem rd_set1 {τ : Ty} (xs : List τ.den) (i : Nat) (x : τ.den) (h : i < xs.length) : rd (τ := τ) (xs.set i x) (i : Int) = x := by
  rw [rd_nat _ i (by simpa using h)]; simp
/-- The symbols stand at places that are known. -/
def PlaceR (S : List Sym) : Prop := S.length ≤ 16 ∧ ∀ j : Nat, j < S.length → ∃ v : Int, (rd (τ := TSym) S (j : Int)).2.2.1 = v ∧ 0 ≤ v ∧ v ≤ 100000
/-- Its calls bear numbers of functions. -/
def CallR (n : Nat) (L : List Ins) : Prop := ∀ (k : Nat) (x : Ins), L[k]? = some x → x.1 = 3 → x.2.1 = 1 → ∃ t : Nat, t < n ∧ x.2.2.2.2 = 1000000 * ((t : Int) + 1) - 4 * (k : Int)
theorem image_fix (s : Src) (im0 : Img) (n words : Int) (S : List Sym) (code : ByteArray) (i : Nat) (L : List Ins) (codes : List (List Ins)) (hL : L.length ≤ 100) (hS : PlaceR S) (hi : i < S.length) (hic : i < codes.length) (hc : CallR S.length L) :
    ∀ (j k : Nat), k + j = L.length → spec_l00Src_image.l1111111111101001001010 s im0 n words (code, ⟨#[]⟩, S) (codes.set i (halfL S (i : Int) L k)) (i : Int) (i : Int) (k : Int) = spec_l00Src_image.l1111111111101001001010 s im0 n words (code, ⟨#[]⟩, S) (codes.set i (fixL S (i : Int) 0 L)) (i : Int) (i : Int) (L.length : Int) := by
  intro j
  induction j with
  | zero =>
    intro k hk
    have : k = L.length := by omega
    subst this
    rw [half_full]
  | succ j ih =>
    intro k hk
    have hkl : k < L.length := by omega
    rw [← ih (k + 1) (by omega)]
    have hrd : rd (τ := .list TIns) (codes.set i (halfL S (i : Int) L k)) (i : Int) = halfL S (i : Int) L k := rd_set1 (τ := .list TIns) codes i _ hic
    have hhl := half_length S (i : Int) L k (by omega)
    have hel : rd (τ := TIns) (halfL S (i : Int) L k) (k : Int) = L[k] := rd_some (τ := TIns) _ k _ (by rw [half_get _ _ _ _ hkl]; simp [hkl])
    rw [spec_l00Src_image.l1111111111101001001010_eq, hrd, hhl, lt_nat, decide_eq_true hkl]
    simp only [cond_true, joinB]
    rw [inL_nat, decide_eq_true hkl, hel, w64_succ k L.length hkl (by omega)]
    simp only [cond_true, Int.toNat_natCast, List.set_set]
    by_cases h3 : L[k].1 = 3
    · by_cases h1 : L[k].2.1 = 1
      · obtain ⟨t, ht, hm⟩ := hc k L[k] (by simp [hkl]) h3 h1
        have e1 : L[k].2.2.2.2 + 4 * (k : Int) = 1000000 * ((t : Int) + 1) := by omega
        have hti := hS.1
        obtain ⟨A, hA, hA0, hA1⟩ := hS.2 t ht
        obtain ⟨B, hB, hB0, hB1⟩ := hS.2 i hi
        rw [decide_eq_true h3, decide_eq_true h1]
        simp only [cond_true]
        rw [w64 (n := 4 * (k : Int)) (by omega) (by omega), e1, w64 (n := 1000000 * ((t : Int) + 1)) (by omega) (by omega), Int.tdiv_eq_ediv_of_nonneg (by omega), show 1000000 * ((t : Int) + 1) / 1000000 = (t : Int) + 1 by omega, w64 (n := (t : Int) + 1) (by omega) (by omega), w64 (n := (t : Int) + 1 - 1) (by omega) (by omega), show (t : Int) + 1 - 1 = (t : Int) by omega, inL_nat, decide_eq_true ht, inL_nat, decide_eq_true hi]
        simp only [cond_true, letB]
        rw [hA, hB, w64 (n := A - B) (by omega) (by omega), w64 (n := A - B - 4 * (k : Int)) (by omega) (by omega)]
        rw [← half_succ S (i : Int) L k hkl]
        have hf : fix1 S (i : Int) (k : Int) L[k] = (L[k].1, L[k].2.1, L[k].2.2.1, L[k].2.2.2.1, A - B - 4 * (k : Int)) := by
          unfold fix1
          rw [if_pos ⟨h3, h1⟩, e1, show 1000000 * ((t : Int) + 1) / 1000000 - 1 = (t : Int) by omega, hA, hB]
        rw [hf]
      · rw [decide_eq_true h3, decide_eq_false h1]
        simp only [cond_true, cond_false]
        rw [half_same S (i : Int) L k hkl (by unfold fix1; rw [if_neg fun e => h1 e.2])]
    · rw [decide_eq_false h3]
      simp only [cond_false]
      rw [half_same S (i : Int) L k hkl (fix1_other h3)]
/-- All functions with their calls put right. -/
def fixS (S : List Sym) : Nat → List Fn → List Fn
  | _, [] => []
  | i, p :: r => (p.1, fixL S (i : Int) 0 p.2) :: fixS S (i + 1) r
theorem fixS_length (S : List Sym) : ∀ (r : List Fn) (i : Nat), (fixS S i r).length = r.length
  | [], _ => rfl
  | p :: r, i => by simp [fixS, fixS_length S r]
theorem fixS_symA (S : List Sym) : ∀ (r : List Fn) (i k a : Nat), symA k a (fixS S i r) = symA k a r
  | [], _, _, _ => rfl
  | p :: r, i, k, a => by simp only [fixS, symA, fixL_length, fixS_symA S r]
theorem image_fixes (s : Src) (im0 : Img) (n words : Int) (S : List Sym) (hS : PlaceR S) : ∀ (r g : List Fn), ((g.length + r.length : Nat) : Int) = n → g.length + r.length ≤ S.length → (∀ q ∈ g, q.2.length ≤ 100) → (∀ q ∈ r, q.2.length ≤ 100 ∧ CallR S.length q.2 ∧ ∀ i : Nat, i < S.length → ∀ x ∈ fixL S (i : Int) 0 q.2, EncR x) →
    spec_l00Src_image.l11111111111010 s im0 n words (codeOf (catL g), ⟨#[]⟩, S) (g.map (·.2) ++ r.map (·.2)) (g.length : Int) = spec_l00Src_image.l111111111111010 s im0 words (codeOf (catL (g ++ fixS S g.length r)), ⟨#[]⟩, S) 0 := by
  intro r
  induction r with
  | nil =>
    intro g hn hg h1 h2
    rw [spec_l00Src_image.l11111111111010_eq, decide_eq_false (by simp at hn; omega)]
    simp [fixS]
  | cons p r ih =>
    intro g hn hg h1 h2
    obtain ⟨p1, p2, p3⟩ := h2 p (by simp)
    have hlen : ((g.map (·.2) ++ (p :: r).map (·.2)) : List (List Ins)).length = g.length + (r.length + 1) := by simp
    have hrd : rd (τ := .list TIns) (g.map (·.2) ++ (p :: r).map (·.2)) (g.length : Int) = p.2 := rd_some (τ := .list TIns) _ g.length _ (by rw [List.getElem?_append_right (by simp)]; simp)
    have hset : ∀ X : List Ins, ((g.map (·.2) ++ (p :: r).map (·.2)) : List (List Ins)).set g.length X = g.map (·.2) ++ X :: r.map (·.2) := fun X => by
      rw [List.set_append_right _ _ (by simp)]; simp
    have hls := lenS_le g 100 h1
    have hsl := hS.1
    simp only [List.length_cons] at hn hg
    rw [spec_l00Src_image.l11111111111010_eq, decide_eq_true (by omega), inL_nat, hlen, decide_eq_true (by omega), hrd]
    simp only [cond_true, Int.toNat_natCast]
    have hz := image_fix s im0 n words S (codeOf (catL g)) g.length p.2 (g.map (·.2) ++ (p :: r).map (·.2)) p1 hS (by omega) (by rw [hlen]; omega) p2 p.2.length 0 (by omega)
    rw [half_zero] at hz
    have hz' : spec_l00Src_image.l1111111111101001001010 s im0 n words (codeOf (catL g), ⟨#[]⟩, S) ((g.map (·.2) ++ (p :: r).map (·.2)).set g.length p.2) (g.length : Int) (g.length : Int) 0 = _ := hz
    rw [hz', spec_l00Src_image.l1111111111101001001010_eq]
    have hrd2 : rd (τ := .list TIns) ((g.map (·.2) ++ (p :: r).map (·.2)).set g.length (fixL S (g.length : Int) 0 p.2)) (g.length : Int) = fixL S (g.length : Int) 0 p.2 := rd_set1 (τ := .list TIns) _ _ _ (by rw [hlen]; omega)
    rw [hrd2, fixL_length, lt_nat, decide_eq_false (Nat.lt_irrefl _)]
    simp only [cond_false]
    rw [spec_words _ (by rw [fixL_length]; omega) (p3 g.length (by omega))]
    simp only [Option.bind_some]
    rw [decide_eq_true (by rw [codeOf_size, codeOf_size, catL_length, fixL_length]; omega), cond_true, Int.toNat_natCast, List.set_set, hset, w64_succ g.length (g.length + 1) (by omega) (by omega)]
    have := ih (g ++ [(p.1, fixL S (g.length : Int) 0 p.2)]) (by simp; omega) (by simp; omega) (fun q hq => by
      rcases List.mem_append.1 hq with hq | hq
      · exact h1 q hq
      · rw [List.mem_singleton.1 hq]; simp only; rw [fixL_length]; omega) (fun q hq => h2 q (by simp [hq]))
    simp only [List.length_append, List.length_cons, List.length_nil, Nat.zero_add, List.map_append, List.map_cons, List.map_nil, List.append_assoc, List.cons_append, List.nil_append] at this
    rw [catL_snoc, codeOf_append] at this
    rw [this]
    simp only [fixS]
/-- The symbols of drawn data. -/
def dsy (w c : Int) : List Sym := if w > 0 then ((⟨#[99, 111, 117, 110, 116]⟩ : ByteArray), 2, 0, 8 * c, 0) :: (if c < w then [((⟨#[108, 105, 115, 116]⟩ : ByteArray), 2, 8 * c, 8 * (w - c), 0)] else []) else []
theorem image_data (im0 : Img) (words : Int) (code : ByteArray) (S : List Sym) (hw : 0 ≤ words ∧ words ≤ 7) (hS : S.length ≤ 10) {K : Nat} : ∀ (k i : Nat) (s : Src) (dat : ByteArray), (i : Int) + k = words → dat.size = 8 * i → SrcOK (K + 3 + 3 * k) s →
    ∃ (dat' : ByteArray) (c : Int) (t : Src), (dat'.size : Int) = 8 * words ∧ 1 ≤ c ∧ (words > 0 → c ≤ words) ∧ SrcOK K t ∧ spec_l00Src_image.l111111111111010 s im0 words (code, dat, S) (i : Int) = some ((code, dat', S ++ dsy words c), t) := by
  intro k
  induction k with
  | zero =>
    intro i s dat hk hd hs
    rw [spec_l00Src_image.l111111111111010_eq, decide_eq_false (by omega)]
    simp only [cond_false]
    by_cases h0 : words > 0
    · obtain ⟨v, t, e, p, q, _, ht⟩ := next_ok (hs.mono (show K + 3 ≤ K + 3 + 3 * 0 by omega)) words
      have q := q (by omega)
      rw [decide_eq_true h0, e]
      simp only [cond_true, Option.bind_some]
      rw [w64 (n := 1 + v) (by omega) (by omega), w64 (n := 8 * (1 + v)) (by omega) (by omega), room_le (by simp; omega) (by simp; omega)]
      simp only [cond_true]
      by_cases h1 : 1 + v < words
      · rw [decide_eq_true h1, w64 (n := words - (1 + v)) (by omega) (by omega), w64 (n := 8 * (words - (1 + v))) (by omega) (by omega), room_le (by simp; omega) (by simp; omega)]
        refine ⟨dat, 1 + v, t, by omega, by omega, fun _ => by omega, ht, ?_⟩
        simp [dsy, h0, h1]
      · rw [decide_eq_false h1]
        refine ⟨dat, 1 + v, t, by omega, by omega, fun _ => by omega, ht, ?_⟩
        simp [dsy, h0, h1]
    · rw [decide_eq_false h0]
      refine ⟨dat, 1, s, by omega, by omega, fun h => absurd h h0, hs.mono (by omega), ?_⟩
      simp [dsy, h0]
  | succ k ih =>
    intro i s dat hk hd hs
    obtain ⟨v, t, e, p, q, _, ht⟩ := next_ok (hs.mono (show K + 3 + 3 * k + 3 ≤ K + 3 + 3 * (k + 1) by omega)) 50
    rw [spec_l00Src_image.l111111111111010_eq, decide_eq_true (by omega), e]
    simp only [cond_true, Option.bind_some]
    rw [show spec_l01Little v 8 = some (bytesOf (leB v 8)) from spec_little v 8 (by omega)]
    simp only [Option.bind_some]
    rw [decide_eq_true (by rw [bytesOf_size, leB_length, hd]; omega), cond_true, w64_succ i 7 (by omega) (by omega)]
    exact ih (i + 1) t (dat ++ bytesOf (leB v 8)) (by omega) (by rw [size_app, bytesOf_size, leB_length, hd]; omega) ht
def DatW (w d : Int) : Prop := ∃ i : Nat, (i : Int) < w ∧ d = 16384 + 8 * (i : Int)
theorem DatW.ok {w d : Int} (hw : w ≤ 7) (h : DatW w d) : DatP d := by
  obtain ⟨i, h1, rfl⟩ := h
  unfold DatP; omega
/-- Where function t begins, in instructions. -/
def offF (gs : List Fn) (t : Nat) : Nat := lenS (gs.take t)
theorem image_datas (s : Src) (im0 : Img) (n words : Int) (hw : words ≤ 7) : ∀ (k i : Nat) (l : List Int), (i : Int) + k = words → l.length = i → (∀ d ∈ l, DatW words d) →
    ∃ l', l'.length = i + k ∧ (∀ d ∈ l', DatW words d) ∧ spec_l00Src_image.l1111010 s im0 n words l (i : Int) = spec_l00Src_image.l111111010 s im0 n words l' [] 0 := by
  intro k
  induction k with
  | zero =>
    intro i l hk hl hd
    refine ⟨l, by omega, hd, ?_⟩
    rw [spec_l00Src_image.l1111010_eq, decide_eq_false (by omega)]; rfl
  | succ k ih =>
    intro i l hk hl hd
    obtain ⟨l', g1, g2, g3⟩ := ih (i + 1) (l ++ [16384 + 8 * (i : Int)]) (by omega) (by simp [hl]) (fun d hd' => by
      rcases List.mem_append.1 hd' with h | h
      · exact hd d h
      · rw [List.mem_singleton.1 h]; exact ⟨i, by omega, rfl⟩)
    refine ⟨l', by omega, g2, ?_⟩
    rw [← g3, spec_l00Src_image.l1111010_eq, decide_eq_true (by omega), room_le (by simp; omega) (by simp; omega), w64 (n := 8 * (i : Int)) (by omega) (by omega), w64 (n := 16384 + 8 * (i : Int)) (by omega) (by omega), w64_succ i 7 (by omega) (by omega)]
    rfl
def CalW (n : Int) (c : Int) : Prop := ∃ t : Nat, (t : Int) < n ∧ c = 1000000 * ((t : Int) + 1)
theorem image_calls (s : Src) (im0 : Img) (n words : Int) (datas : List Int) (hn : n ≤ 5) : ∀ (k i : Nat) (l : List Int), (i : Int) + k = n → l.length = i → (∀ d ∈ l, CalW n d) →
    ∃ l', l'.length = i + k ∧ (∀ d ∈ l', CalW n d) ∧ spec_l00Src_image.l111111010 s im0 n words datas l (i : Int) = spec_l00Src_image.l111111111010 s im0 n words datas l' (⟨#[]⟩, ⟨#[]⟩, []) [] 0 := by
  intro k
  induction k with
  | zero =>
    intro i l hk hl hd
    refine ⟨l, by omega, hd, ?_⟩
    rw [spec_l00Src_image.l111111010_eq, decide_eq_false (by omega)]; rfl
  | succ k ih =>
    intro i l hk hl hd
    obtain ⟨l', g1, g2, g3⟩ := ih (i + 1) (l ++ [1000000 * ((i : Int) + 1)]) (by omega) (by simp [hl]) (fun d hd' => by
      rcases List.mem_append.1 hd' with h | h
      · exact hd d h
      · rw [List.mem_singleton.1 h]; exact ⟨i, by omega, rfl⟩)
    refine ⟨l', by omega, g2, ?_⟩
    rw [← g3, spec_l00Src_image.l111111010_eq, decide_eq_true (by omega), room_le (by simp; omega) (by simp; omega), w64 (n := (i : Int) + 1) (by omega) (by omega), w64 (n := 1000000 * ((i : Int) + 1)) (by omega) (by omega)]
    rfl
theorem symA_get : ∀ (l : List Fn) (k a j : Nat) (p : Fn), l[j]? = some p → (symA k a l)[j]? = some (nmV (k + j), 1, ((4 * (a + offF l j) : Nat) : Int), ((4 * p.2.length : Nat) : Int), p.1)
  | [], _, _, _, _, h => by simp at h
  | q :: l, k, a, 0, p, h => by simp at h; subst h; simp [symA, offF, lenS]
  | q :: l, k, a, j + 1, p, h => by
    have := symA_get l (k + 1) (a + q.2.length) j p (by simpa using h)
    simp only [symA, List.getElem?_cons_succ, this, offF, List.take_succ_cons, lenS]
    rw [show k + 1 + j = k + (j + 1) by omega, Nat.add_assoc]
theorem offF_le (l : List Fn) (m j : Nat) (h : ∀ p ∈ l, p.2.length ≤ m) : offF l j ≤ m * l.length := by
  have h1 := lenS_le (l.take j) m fun p hp => h p (List.mem_of_mem_take hp)
  have h2 : (l.take j).length ≤ l.length := by simp; omega
  exact Nat.le_trans h1 (Nat.mul_le_mul_left m h2)
theorem fixS_get (S : List Sym) : ∀ (r : List Fn) (i j : Nat) (p : Fn), r[j]? = some p → (fixS S i r)[j]? = some (p.1, fixL S ((i + j : Nat) : Int) 0 p.2)
  | [], _, _, _, h => by simp at h
  | q :: r, i, 0, p, h => by simp at h; subst h; simp [fixS]
  | q :: r, i, j + 1, p, h => by
    have := fixS_get S r (i + 1) j p (by simpa using h)
    simp only [fixS, List.getElem?_cons_succ, this]
    rw [show i + 1 + j = i + (j + 1) by omega]
end Go.Proofs.Ythkkaoggieganaa.S
