/- Pure sides: what the functions come to (numbers and lists alone). -/
import Derived.Test.YtloggcnmmcjleaaSxI
import Derived.IntWalk
import Derived.Lib.AtoiAllCases
import Derived.Lib.IndexBytes
import Derived.Lib.IndexLaws
import Derived.Lib.SplitLaws
namespace Go.Proofs.Ytloggcnmmcjleaa.S
open Go.Ps
set_option linter.unusedVariables false
set_option maxRecDepth 100000
theorem w64 {n : Int} (h : -9223372036854775808 ≤ n) (h' : n ≤ 9223372036854775807) : IntKind.wrap .i64 n = n := IntWalk.i64_in n ⟨h, h'⟩
theorem isLetter_l00 (n : Int) : impl_isLetter n = spec_l00Letter n := by rw [impl_isLetter_eq, spec_l00Letter_eq]
theorem isDigit_l00 (n : Int) : impl_isDigit n = spec_l00Digit n := by rw [impl_isDigit_eq, spec_l00Digit_eq]
theorem name_loop (t : ByteArray) (ht : t.size ≤ 20) : ∀ (k : Nat) (i : Int), 0 ≤ i → t.size ≤ i.toNat + k → impl_NameOK.l11010 t i = spec_l00Word.l11010 t i := by
  intro k
  induction k with
  | zero =>
    intro i h0 hk
    have : decide (i < (t.size : Int)) = false := by simp; omega
    rw [impl_NameOK.l11010_eq, spec_l00Word.l11010_eq, this]; rfl
  | succ k ih =>
    intro i h0 hk
    rw [impl_NameOK.l11010_eq, spec_l00Word.l11010_eq, isLetter_l00, isDigit_l00]
    by_cases hi : i < (t.size : Int)
    · rw [w64 (n := i + 1) (by omega) (by omega), ih (i + 1) (by omega) (by omega)]
    · rw [show decide (i < (t.size : Int)) = false by simp; omega]; rfl
theorem nameOK (t : ByteArray) : impl_NameOK t = spec_l00Word t := by
  rw [impl_NameOK_eq, spec_l00Word_eq, impl_within_eq]
  by_cases h1 : (t.size : Int) < 1
  · rw [show decide ((1 : Int) ≤ (t.size : Int)) = false by simp; omega, show decide ((t.size : Int) < 1) = true by simp; omega]; rfl
  · rw [show decide ((1 : Int) ≤ (t.size : Int)) = true by simp; omega, show decide ((t.size : Int) < 1) = false by simp; omega]
    by_cases h2 : (t.size : Int) > 20
    · rw [show decide ((t.size : Int) > 20) = true by simp; omega, show decide ((t.size : Int) ≤ 20) = false by simp; omega]; rfl
    · rw [show decide ((t.size : Int) > 20) = false by simp; omega, show decide ((t.size : Int) ≤ 20) = true by simp; omega]
      simp only [cond_true, cond_false, Option.bind_some, Bool.not_true]
      rw [isLetter_l00, name_loop t (by omega) t.size 1 (by omega) (by omega)]
theorem sum_loop (t : ByteArray) (ht : t.size ≤ 1048576) : ∀ (k : Nat) (x i : Int), 0 ≤ i → t.size ≤ i.toNat + k → impl_sumOf.l11010 t x i = spec_l01Sum.l11010 t x i := by
  intro k
  induction k with
  | zero =>
    intro x i h0 hk
    have : decide (i < (t.size : Int)) = false := by simp; omega
    rw [impl_sumOf.l11010_eq, spec_l01Sum.l11010_eq, this]; rfl
  | succ k ih =>
    intro x i h0 hk
    rw [impl_sumOf.l11010_eq, spec_l01Sum.l11010_eq]
    by_cases hi : i < (t.size : Int)
    · rw [w64 (n := i + 1) (by omega) (by omega), ih _ (i + 1) (by omega) (by omega)]
    · rw [show decide (i < (t.size : Int)) = false by simp; omega]; rfl
theorem sumOf (t : ByteArray) (ht : t.size ≤ 1048576) : impl_sumOf t = spec_l01Sum t := by
  rw [impl_sumOf_eq, spec_l01Sum_eq, sum_loop t ht t.size 1 0 (by omega) (by omega)]
theorem bt_range (t : ByteArray) (i : Int) : 0 ≤ bt t i ∧ bt t i ≤ 255 := by
  unfold bt
  have := (t.data.getD i.toNat 0).toNat_lt
  omega
theorem wu64 {n : Int} (h : 0 ≤ n) (h' : n ≤ 18446744073709551615) : IntKind.wrap .u64 n = n := by
  have : IntKind.wrap .u64 n = n % 18446744073709551616 := by simp [IntKind.wrap, IntKind.bits, IntKind.signed]
  rw [this]; omega
/-- Both come to the same. -/
def Both {α : Type} (x y : Option α) : Prop := ∃ v, x = some v ∧ y = some v
theorem Both.bind {α β : Type} {x y : Option α} {f g : α → Option β} (h : Both x y) (k : ∀ v, x = some v → Both (f v) (g v)) : Both (x.bind f) (y.bind g) := by
  obtain ⟨v, h1, h2⟩ := h
  rw [h1, h2]; exact k v h1
theorem Both.some {α : Type} {x y : Option α} (e : x = y) (h : ∃ v, x = some v) : Both x y := by obtain ⟨v, h⟩ := h; exact ⟨v, h, e ▸ h⟩
theorem some_letter (n : Int) : ∃ v, impl_isLetter n = some v := by
  rw [impl_isLetter_eq]
  cases decide (n ≥ 97) <;> cases decide (n ≤ 122) <;> cases decide (n ≥ 65) <;> cases decide (n ≤ 90) <;> exact ⟨_, rfl⟩
theorem some_digit (n : Int) : ∃ v, impl_isDigit n = some v := by
  rw [impl_isDigit_eq]; cases decide (n ≥ 48) <;> exact ⟨_, rfl⟩
theorem some_name_loop (t : ByteArray) (ht : t.size ≤ 20) : ∀ (k : Nat) (i : Int), 0 ≤ i → t.size ≤ i.toNat + k → ∃ v, impl_NameOK.l11010 t i = some v := by
  intro k
  induction k with
  | zero =>
    intro i h0 hk
    have : decide (i < (t.size : Int)) = false := by simp; omega
    rw [impl_NameOK.l11010_eq, this]; exact ⟨_, rfl⟩
  | succ k ih =>
    intro i h0 hk
    rw [impl_NameOK.l11010_eq]
    by_cases hi : i < (t.size : Int)
    · have e : inL i t.size = true := by simp [inL]; omega
      obtain ⟨v1, h1⟩ := some_letter (bt t i)
      obtain ⟨v2, h2⟩ := some_digit (bt t i)
      obtain ⟨v3, h3⟩ := ih (i + 1) (by omega) (by omega)
      rw [w64 (n := i + 1) (by omega) (by omega), e, h1, h2, h3]
      simp only [decide_eq_true hi, cond_true, Option.bind_some]
      cases v1 <;> cases v2 <;> exact ⟨_, rfl⟩
    · rw [show decide (i < (t.size : Int)) = false by simp; omega]; exact ⟨_, rfl⟩
theorem some_name (t : ByteArray) : ∃ v, impl_NameOK t = some v := by
  rw [impl_NameOK_eq, impl_within_eq]
  by_cases h1 : (1 : Int) ≤ (t.size : Int)
  · by_cases h2 : (t.size : Int) ≤ 20
    · obtain ⟨v1, e1⟩ := some_letter (bt t 0)
      obtain ⟨v2, e2⟩ := some_name_loop t (by omega) t.size 1 (by omega) (by omega)
      have e : inL 0 t.size = true := by simp [inL]; omega
      simp only [decide_eq_true h1, decide_eq_true h2, cond_true, Option.bind_some, Bool.not_true, cond_false, e, e1, e2]
      cases v1 <;> exact ⟨_, rfl⟩
    · simp only [decide_eq_true h1, cond_true, Option.bind_some, decide_eq_false h2, Bool.not_false]; exact ⟨_, rfl⟩
  · simp only [decide_eq_false h1, cond_false, Option.bind_some, Bool.not_false, cond_true]; exact ⟨_, rfl⟩
theorem both_name (t : ByteArray) : Both (impl_NameOK t) (spec_l00Word t) := Both.some (nameOK t) (some_name t)
theorem cond_ite {α : Type} (c : Bool) (a b : α) : cond c a b = if c = true then a else b := by cases c <;> rfl
theorem wrap64_mod (n : Int) : ∃ q : Int, IntKind.wrap .i64 n = n - 18446744073709551616 * q := by
  rw [IntKind.wrap_i64]; exact ⟨(n + 9223372036854775808) / 18446744073709551616, by omega⟩
theorem bv64 (x : Int) : ((BitVec.ofInt IntKind.i64.bits x).toNat : Int) = x % 18446744073709551616 := by
  rw [BitVec.toNat_ofInt]
  have hb : ((2 ^ IntKind.i64.bits : Nat) : Int) = 18446744073709551616 := rfl
  rw [hb]; omega
theorem pow_le62 (c : Nat) (hc : c ≤ 62) : (1 : Int) ≤ 2 ^ c ∧ (2 : Int) ^ c ≤ 4611686018427387904 := by
  have h1 : 2 ^ c ≤ 2 ^ 62 := Nat.pow_le_pow_right (by decide) hc
  have h2 : 1 ≤ 2 ^ c := Nat.one_le_two_pow
  have e : ((2 ^ c : Nat) : Int) = (2 : Int) ^ c := by simp
  omega
theorem shr_div {x : Int} {k : Int} (h : 0 ≤ k) (h' : k ≤ 64) : shrI .i64 x k = x / 2 ^ k.toNat := by
  unfold shrI
  have hb : IntKind.i64.bits = 64 := rfl
  rw [show min k.toNat IntKind.i64.bits = k.toNat by omega, Int.fdiv_eq_ediv_of_nonneg]
  have := pow_le62
  exact Int.le_of_lt (Int.pow_pos (by decide))
theorem shr_div_u {x : Int} {k : Int} (h : 0 ≤ k) (h' : k ≤ 64) : shrI .u64 x k = x / 2 ^ k.toNat := by
  unfold shrI
  have hb : IntKind.u64.bits = 64 := rfl
  rw [show min k.toNat IntKind.u64.bits = k.toNat by omega, Int.fdiv_eq_ediv_of_nonneg]
  exact Int.le_of_lt (Int.pow_pos (by decide))
theorem shl_mul {x : Int} {k : Int} (h : 0 ≤ k) (h' : k ≤ 64) : shlI .i64 x k = IntKind.wrap .i64 (x * 2 ^ k.toNat) := by
  unfold shlI
  have hb : IntKind.i64.bits = 64 := rfl
  rw [show min k.toNat IntKind.i64.bits = k.toNat by omega]
/-- A number is laid into a place that is empty. -/
theorem nat_or_field (x y k c : Nat) (hy : y < 2 ^ c) (h : x / 2 ^ k % 2 ^ c = 0) : x ||| y * 2 ^ k = x + y * 2 ^ k := by
  have hk : 0 < 2 ^ k := Nat.two_pow_pos k
  have hkc : 0 < 2 ^ (k + c) := Nat.two_pow_pos _
  have e1 : x % 2 ^ (k + c) < 2 ^ k := by
    rw [Nat.pow_add]
    have : x % (2 ^ k * 2 ^ c) = x % 2 ^ k + 2 ^ k * (x / 2 ^ k % 2 ^ c) := Nat.mod_mul
    rw [this, h]
    have := Nat.mod_lt x hk
    omega
  have e2 : y * 2 ^ k + x % 2 ^ (k + c) < 2 ^ (k + c) := by
    have : (y + 1) * 2 ^ k ≤ 2 ^ c * 2 ^ k := Nat.mul_le_mul_right _ (by omega)
    rw [Nat.pow_add, Nat.mul_comm (2 ^ k) (2 ^ c)]
    rw [Nat.pow_add, Nat.mul_comm (2 ^ k) (2 ^ c)] at e1
    rw [Nat.add_mul] at this
    omega
  have hx : x = (x / 2 ^ (k + c)) <<< (k + c) ||| x % 2 ^ (k + c) := by
    rw [← Nat.shiftLeft_add_eq_or_of_lt (Nat.mod_lt x hkc), Nat.shiftLeft_eq]
    have := Nat.div_add_mod x (2 ^ (k + c))
    rw [Nat.mul_comm] at this; exact this.symm
  have h3 : x % 2 ^ (k + c) ||| y * 2 ^ k = y * 2 ^ k + x % 2 ^ (k + c) := by
    rw [Nat.or_comm, ← Nat.shiftLeft_eq y k, ← Nat.shiftLeft_add_eq_or_of_lt e1, Nat.shiftLeft_eq]
  calc
    x ||| y * 2 ^ k = (x / 2 ^ (k + c)) <<< (k + c) ||| (x % 2 ^ (k + c) ||| y * 2 ^ k) := by
        conv => lhs; rw [hx]
        rw [Nat.or_assoc]
    _ = (x / 2 ^ (k + c)) <<< (k + c) + (y * 2 ^ k + x % 2 ^ (k + c)) := by rw [h3, Nat.shiftLeft_add_eq_or_of_lt e2]
    _ = x + y * 2 ^ k := by
        rw [Nat.shiftLeft_eq]
        have := Nat.div_add_mod x (2 ^ (k + c))
        rw [Nat.mul_comm] at this; omega
theorem bit_val (v i : Int) (hv : -9223372036854775808 ≤ v) (hv' : v ≤ 9223372036854775807) (h : 0 ≤ i) (h' : i ≤ 63) : spec_l01Bit v i = some (v / 2 ^ i.toNat % 2) := by
  rw [spec_l01Bit_eq, wu64 (n := i) (by omega) (by omega), show decide (i < 0) = false by simp; omega, shr_div_u h (by omega)]
  have hu : IntKind.wrap .u64 v = v % 18446744073709551616 := by simp [IntKind.wrap, IntKind.bits, IntKind.signed]
  have h0 : 0 ≤ v % 18446744073709551616 := by omega
  have hp : (0 : Int) < 2 ^ i.toNat := Int.pow_pos (by decide)
  have hd : 0 ≤ v % 18446744073709551616 / 2 ^ i.toNat := Int.ediv_nonneg h0 (by omega)
  rw [hu, Int.tmod_eq_emod_of_nonneg hd]
  have e : v % 18446744073709551616 / 2 ^ i.toNat % 2 = v / 2 ^ i.toNat % 2 := by
    have hpe : (18446744073709551616 : Int) = 2 ^ i.toNat * (2 ^ (63 - i.toNat) * 2) := by
      rw [← Int.pow_succ, ← Int.pow_add, show i.toNat + (63 - i.toNat + 1) = 64 by omega]; rfl
    have h1 : v % 18446744073709551616 = v - 2 ^ i.toNat * (2 ^ (63 - i.toNat) * 2 * (v / 18446744073709551616)) := by
      rw [Int.emod_def, ← Int.mul_assoc, ← hpe]
    rw [h1, Int.sub_eq_add_neg, ← Int.mul_neg, Int.add_mul_ediv_left _ _ (by omega)]
    rw [Int.mul_comm (2 ^ (63 - i.toNat)) 2, Int.mul_assoc, ← Int.mul_neg, Int.add_mul_emod_self_left]
  rw [e]
  have : v / 2 ^ i.toNat % 2 = 0 ∨ v / 2 ^ i.toNat % 2 = 1 := by omega
  rcases this with h | h <;> rw [h] <;> rfl
theorem bit_low (a z : Int) (n i : Nat) (h : i < n) : (a + 2 ^ n * z) / 2 ^ i % 2 = a / 2 ^ i % 2 := by
  have e : (2 : Int) ^ n = 2 ^ i * (2 * 2 ^ (n - i - 1)) := by
    rw [← Int.mul_assoc, ← Int.pow_succ, ← Int.pow_add, show i + 1 + (n - i - 1) = n by omega]
  have hp : (0 : Int) < 2 ^ i := Int.pow_pos (by decide)
  rw [e, Int.mul_assoc, Int.add_mul_ediv_left _ _ (by omega), Int.mul_assoc, Int.add_mul_emod_self_left]
theorem bit_step (t : Int) (i : Nat) : 2 * (t / 2 ^ (i + 1)) + t / 2 ^ i % 2 = t / 2 ^ i := by
  have hp : (0 : Int) ≤ 2 ^ i := Int.le_of_lt (Int.pow_pos (by decide))
  rw [Int.pow_succ, ← Int.ediv_ediv_of_nonneg hp]; omega
def putV (w low count v : Int) : Int := w % 2 ^ low.toNat + 2 ^ low.toNat * (v % 2 ^ count.toNat + 2 ^ count.toNat * (w / 2 ^ (low.toNat + count.toNat)))
theorem putV_bit (w low count v : Int) (h : 0 ≤ low) (hc : 0 ≤ count) (i : Nat) : putV w low count v / 2 ^ i % 2 = if low ≤ i ∧ (i : Int) < low + count then v / 2 ^ (i - low.toNat) % 2 else w / 2 ^ i % 2 := by
  obtain ⟨l, rfl⟩ := Int.eq_ofNat_of_zero_le h
  obtain ⟨c, rfl⟩ := Int.eq_ofNat_of_zero_le hc
  have hl : (0 : Int) < 2 ^ l := Int.pow_pos (by decide)
  have hcc : (0 : Int) < 2 ^ c := Int.pow_pos (by decide)
  simp only [putV, Int.toNat_natCast]
  by_cases h1 : i < l
  · rw [bit_low _ _ _ _ h1, if_neg (by omega)]
    conv => rhs; rw [← Int.emod_add_mul_ediv w (2 ^ l)]
    rw [bit_low _ _ _ _ h1]
  · have e : (2 : Int) ^ i = 2 ^ l * 2 ^ (i - l) := by rw [← Int.pow_add, show l + (i - l) = i by omega]
    rw [e, ← Int.ediv_ediv_of_nonneg (by omega : (0 : Int) ≤ 2 ^ l), Int.add_mul_ediv_left _ _ (by omega), Int.ediv_eq_zero_of_lt (Int.emod_nonneg _ (by omega)) (Int.emod_lt_of_pos _ hl), Int.zero_add]
    by_cases h2 : i < l + c
    · rw [if_pos (by omega), bit_low _ _ _ _ (show i - l < c by omega)]
      conv => rhs; rw [← Int.emod_add_mul_ediv v (2 ^ c)]
      rw [bit_low _ _ _ _ (show i - l < c by omega)]
    · have e2 : (2 : Int) ^ (i - l) = 2 ^ c * 2 ^ (i - l - c) := by rw [← Int.pow_add, show c + (i - l - c) = i - l by omega]
      rw [if_neg (by omega), e2, ← Int.ediv_ediv_of_nonneg (by omega : (0 : Int) ≤ 2 ^ c), Int.add_mul_ediv_left _ _ (by omega), Int.ediv_eq_zero_of_lt (Int.emod_nonneg _ (by omega)) (Int.emod_lt_of_pos _ hcc), Int.zero_add, Int.pow_add, ← Int.ediv_ediv_of_nonneg (by omega : (0 : Int) ≤ 2 ^ l), Int.ediv_ediv_of_nonneg (by omega : (0 : Int) ≤ 2 ^ c), ← e2, Int.ediv_ediv_of_nonneg (by omega : (0 : Int) ≤ 2 ^ l)]
theorem putV_range (w low count v : Int) (h : 0 ≤ low) (hc : 0 ≤ count) (hlc : low + count ≤ 32) (hw : 0 ≤ w) (hw' : w < 4294967296) : 0 ≤ putV w low count v ∧ putV w low count v < 4294967296 := by
  obtain ⟨l, rfl⟩ := Int.eq_ofNat_of_zero_le h
  obtain ⟨c, rfl⟩ := Int.eq_ofNat_of_zero_le hc
  have hl : (0 : Int) < 2 ^ l := Int.pow_pos (by decide)
  have hcc : (0 : Int) < 2 ^ c := Int.pow_pos (by decide)
  simp only [putV, Int.toNat_natCast]
  have a1 := Int.emod_nonneg w (show (2 : Int) ^ l ≠ 0 by omega)
  have a2 := Int.emod_lt_of_pos w hl
  have b1 := Int.emod_nonneg v (show (2 : Int) ^ c ≠ 0 by omega)
  have b2 := Int.emod_lt_of_pos v hcc
  have hlcp : (0 : Int) < 2 ^ (l + c) := Int.pow_pos (by decide)
  have c1 : 0 ≤ w / 2 ^ (l + c) := Int.ediv_nonneg hw (by omega)
  have c2 : w / 2 ^ (l + c) + 1 ≤ 2 ^ (32 - l - c) := by
    have : w / 2 ^ (l + c) < 2 ^ (32 - l - c) := by
      apply Int.ediv_lt_of_lt_mul hlcp
      rw [← Int.pow_add, show 32 - l - c + (l + c) = 32 by omega]; exact hw'
    omega
  generalize w / 2 ^ (l + c) = z at *
  generalize w % 2 ^ l = x at *
  generalize v % 2 ^ c = y at *
  have d1 : 0 ≤ 2 ^ c * z := Int.mul_nonneg (by omega) c1
  have d2 : 2 ^ c * z + 2 ^ c ≤ 2 ^ c * 2 ^ (32 - l - c) := by
    have := Int.mul_le_mul_of_nonneg_left c2 (show (0 : Int) ≤ 2 ^ c by omega)
    rw [Int.mul_add, Int.mul_one] at this; exact this
  rw [← Int.pow_add, show c + (32 - l - c) = 32 - l by omega] at d2
  have d3 : 0 ≤ 2 ^ l * (y + 2 ^ c * z) := Int.mul_nonneg (by omega) (by omega)
  have d4 : 2 ^ l * (y + 2 ^ c * z) + 2 ^ l ≤ 2 ^ l * 2 ^ (32 - l) := by
    have := Int.mul_le_mul_of_nonneg_left (show y + 2 ^ c * z + 1 ≤ 2 ^ (32 - l) by omega) (show (0 : Int) ≤ 2 ^ l by omega)
    rw [Int.mul_add (2 ^ l) _ 1, Int.mul_one] at this; exact this
  rw [← Int.pow_add, show l + (32 - l) = 32 by omega, show (2 : Int) ^ 32 = 4294967296 by rfl] at d4
  omega
theorem put_loop (w low count v : Int) (h : 0 ≤ low) (hc : 0 ≤ count) (hlc : low + count ≤ 32) (hw : 0 ≤ w) (hw' : w < 4294967296) (hv : -9223372036854775808 ≤ v) (hv' : v ≤ 9223372036854775807) :
    ∀ (k : Nat), k ≤ 32 → spec_l01Put.l11010 w low count v (putV w low count v / 2 ^ k) ((k : Int) - 1) = some (putV w low count v) := by
  have hr := putV_range w low count v h hc hlc hw hw'
  intro k
  induction k with
  | zero =>
    intro _
    rw [spec_l01Put.l11010_eq, show decide (((0 : Nat) : Int) - 1 ≥ 0) = false by rfl]
    simp only [cond_false, Int.pow_zero, Int.ediv_one]
  | succ k ih =>
    intro hk
    have ih := ih (by omega)
    have hb := putV_bit w low count v h hc k
    have hst := bit_step (putV w low count v) k
    generalize ht : putV w low count v = T at *
    have hp : (0 : Int) < 2 ^ (k + 1) := Int.pow_pos (by decide)
    have q0 : 0 ≤ T / 2 ^ (k + 1) := Int.ediv_nonneg hr.1 (by omega)
    have q1 : T / 2 ^ (k + 1) ≤ T := Int.ediv_le_self _ hr.1
    have hs : (((k + 1 : Nat) : Int) - 1) = (k : Int) := by omega
    rw [hs, spec_l01Put.l11010_eq, show decide ((k : Int) ≥ 0) = true by simp, bit_val w k (by omega) (by omega) (by omega) (by omega), w64 (n := low + count) (by omega) (by omega), w64 (n := 2 * (T / 2 ^ (k + 1))) (by omega) (by omega), w64 (n := (k : Int) - 1) (by omega) (by omega)]
    simp only [cond_true, Option.bind_some, Int.toNat_natCast]
    by_cases h1 : low ≤ (k : Int)
    · by_cases h2 : (k : Int) < low + count
      · rw [show decide ((k : Int) ≥ low) = true by simp; omega, show decide ((k : Int) < low + count) = true by simp; omega, w64 (n := (k : Int) - low) (by omega) (by omega), bit_val v _ hv hv' (by omega) (by omega)]
        rw [if_pos ⟨h1, h2⟩] at hb
        simp only [cond_true, Option.bind_some]
        rw [show ((k : Int) - low).toNat = k - low.toNat by omega, ← hb, w64 (by omega) (by omega), hst, ih]
      · rw [show decide ((k : Int) ≥ low) = true by simp; omega, show decide ((k : Int) < low + count) = false by simp; omega]
        rw [if_neg (by omega)] at hb
        simp only [cond_true, cond_false]
        rw [← hb, w64 (by omega) (by omega), hst, ih]
    · rw [show decide ((k : Int) ≥ low) = false by simp; omega]
      rw [if_neg (by omega)] at hb
      simp only [cond_false]
      rw [← hb, w64 (by omega) (by omega), hst, ih]
theorem put_val (w low count v : Int) (h : 0 ≤ low) (hc : 0 ≤ count) (hlc : low + count ≤ 32) (hw : 0 ≤ w) (hw' : w < 4294967296) (hv : -9223372036854775808 ≤ v) (hv' : v ≤ 9223372036854775807) :
    spec_l01Put w low count v = some (putV w low count v) := by
  have hr := putV_range w low count v h hc hlc hw hw'
  have := put_loop w low count v h hc hlc hw hw' hv hv' 32 (by omega)
  rw [spec_l01Put_eq]
  rw [Int.ediv_eq_zero_of_lt hr.1 (by rw [show (2 : Int) ^ 32 = 4294967296 by rfl]; exact hr.2)] at this
  exact this
/-- A number's lowest bits with a sign. -/
def signV (v : Int) (c : Nat) : Int := if v % 2 ^ c < 2 ^ (c - 1) then v % 2 ^ c else v % 2 ^ c - 2 ^ c
theorem pow_half (c : Nat) (h : 1 ≤ c) : (2 : Int) ^ c = 2 * 2 ^ (c - 1) := by
  obtain ⟨d, rfl⟩ := Nat.exists_eq_add_of_le h
  rw [Nat.add_comm, Int.pow_succ, Int.mul_comm]; rfl
theorem signV_mod (v : Int) (c : Nat) : ∃ q, signV v c = v + 2 ^ c * q := by
  unfold signV
  rw [Int.emod_def]
  split
  · exact ⟨-(v / 2 ^ c), by rw [Int.mul_neg]; omega⟩
  · exact ⟨-(v / 2 ^ c) - 1, by rw [Int.mul_sub, Int.mul_neg]; omega⟩
theorem signV_range (v : Int) (c : Nat) (h : 1 ≤ c) : -2 ^ (c - 1) ≤ signV v c ∧ signV v c < 2 ^ (c - 1) := by
  have hp := pow_half c h
  have hp1 : (0 : Int) < 2 ^ (c - 1) := Int.pow_pos (by decide)
  have a1 := Int.emod_nonneg v (show (2 : Int) ^ c ≠ 0 by omega)
  have a2 := Int.emod_lt_of_pos v (show (0 : Int) < 2 ^ c by omega)
  unfold signV
  split <;> omega
theorem wrap_unique {n s : Int} (q : Int) (h : n = s + 18446744073709551616 * q) (h1 : -9223372036854775808 ≤ s) (h2 : s ≤ 9223372036854775807) : IntKind.wrap .i64 n = s := by
  rw [IntKind.wrap_i64]; omega
theorem signOf_val (v count : Int) (h : 1 ≤ count) (h' : count ≤ 64) : impl_signOf v count = some (signV v count.toNat) := by
  rw [impl_signOf_eq, w64 (n := 64 - count) (by omega) (by omega), show decide (64 - count < 0) = false by simp; omega, shl_mul (by omega) (by omega), shr_div (by omega) (by omega)]
  simp only [cond_false]
  congr 1
  obtain ⟨c, rfl⟩ := Int.eq_ofNat_of_zero_le (show 0 ≤ count by omega)
  rw [show ((64 : Int) - (c : Int)).toNat = 64 - c by omega, Int.toNat_natCast]
  have hp1 : (0 : Int) < 2 ^ (c - 1) := Int.pow_pos (by decide)
  have hk : (0 : Int) < 2 ^ (64 - c) := Int.pow_pos (by decide)
  obtain ⟨q, hq⟩ := signV_mod v c
  have hr := signV_range v c (by omega)
  have e64 : (2 : Int) ^ c * 2 ^ (64 - c) = 18446744073709551616 := by rw [← Int.pow_add, show c + (64 - c) = 64 by omega]; rfl
  have e63 : (2 : Int) ^ (c - 1) * 2 ^ (64 - c) = 9223372036854775808 := by rw [← Int.pow_add, show c - 1 + (64 - c) = 63 by omega]; rfl
  have hv : v * 2 ^ (64 - c) = signV v c * 2 ^ (64 - c) + 18446744073709551616 * (-q) := by
    rw [hq, ← e64, Int.add_mul, Int.mul_neg, Int.mul_assoc, Int.mul_comm q, ← Int.mul_assoc]; omega
  have l1 : -9223372036854775808 ≤ signV v c * 2 ^ (64 - c) := by
    have := Int.mul_le_mul_of_nonneg_right hr.1 (show (0 : Int) ≤ 2 ^ (64 - c) by omega)
    rw [Int.neg_mul, e63] at this; exact this
  have l2 : signV v c * 2 ^ (64 - c) ≤ 9223372036854775807 := by
    have := Int.mul_lt_mul_of_pos_right hr.2 hk
    rw [e63] at this; omega
  rw [wrap_unique (-q) hv l1 l2, Int.mul_ediv_cancel _ (by omega)]
def shpL : List (Int × Int × Int × Int) := [(0, 0, 0, 0), (1, 55, 0, 0), (1, 23, 0, 0), (2, 111, 0, 0), (3, 103, 0, 0), (4, 99, 0, 0), (4, 99, 1, 0), (4, 99, 4, 0), (4, 99, 5, 0), (4, 99, 6, 0), (4, 99, 7, 0), (3, 3, 0, 0), (3, 3, 1, 0), (3, 3, 2, 0), (3, 3, 3, 0), (3, 3, 4, 0), (3, 3, 5, 0), (3, 3, 6, 0), (5, 35, 0, 0), (5, 35, 1, 0), (5, 35, 2, 0), (5, 35, 3, 0), (3, 19, 0, 0), (3, 19, 2, 0), (3, 19, 3, 0), (3, 19, 4, 0), (3, 19, 6, 0), (3, 19, 7, 0), (6, 19, 1, 0), (6, 19, 5, 0), (6, 19, 5, 32), (8, 51, 0, 0), (8, 51, 0, 32), (8, 51, 1, 0), (8, 51, 2, 0), (8, 51, 3, 0), (8, 51, 4, 0), (8, 51, 5, 0), (8, 51, 5, 32), (8, 51, 6, 0), (8, 51, 7, 0), (3, 27, 0, 0), (7, 27, 1, 0), (7, 27, 5, 0), (7, 27, 5, 32), (8, 59, 0, 0), (8, 59, 0, 32), (8, 59, 1, 0), (8, 59, 5, 0), (8, 59, 5, 32), (8, 51, 0, 1), (8, 51, 1, 1), (8, 51, 2, 1), (8, 51, 3, 1), (8, 51, 4, 1), (8, 51, 5, 1), (8, 51, 6, 1), (8, 51, 7, 1), (8, 59, 0, 1), (8, 59, 4, 1), (8, 59, 5, 1), (8, 59, 6, 1), (8, 59, 7, 1), (9, 115, 0, 0), (9, 115, 0, 1)]
def shp (n : Int) : Int × Int × Int × Int := shpL.getD n.toNat (0, 0, 0, 0)
theorem fin65 {n : Int} (h : 0 ≤ n) (h' : n ≤ 64) : ∃ k : Fin 65, n = (k.val : Int) := ⟨⟨n.toNat, by omega⟩, by simp; omega⟩
theorem spec_shape (n : Int) (h : 0 ≤ n) (h' : n ≤ 64) : spec_l02Shape n = some (shp n) := by
  rw [spec_l02Shape_eq]
  obtain ⟨k, rfl⟩ := fin65 h h'
  clear h h'; revert k
  decide +kernel
/-- What shapes are: the form, the code, both others. -/
def ShpOK (s : Int × Int × Int × Int) : Bool := decide (1 ≤ s.1) && decide (s.1 ≤ 9) && decide (0 ≤ s.2.1) && decide (s.2.1 < 128) && decide (0 ≤ s.2.2.1) && decide (s.2.2.1 < 8) && decide (0 ≤ s.2.2.2) && decide (s.2.2.2 < 64) && (!decide (s.1 = 6) || decide (s.2.2.2 % 2 = 0)) && (!decide (s.1 = 9) || (decide (s.2.2.2 < 2) && decide (s.2.2.1 = 0)))
theorem shp_ok (n : Int) (h : 1 ≤ n) (h' : n ≤ 64) : ShpOK (shp n) = true := by
  obtain ⟨k, rfl⟩ := fin65 (show 0 ≤ n by omega) h'
  clear h'; revert k
  decide +kernel
/-- The word of an instruction. -/
def encV (s : Int × Int × Int × Int) (x : Int × Int × Int × Int × Int) : Int :=
  if s.1 = 1 then s.2.1 + x.2.1 * 128 + x.2.2.2.2 / 4096 % 1048576 * 4096
  else if s.1 = 2 then s.2.1 + x.2.1 * 128 + x.2.2.2.2 / 4096 % 256 * 4096 + x.2.2.2.2 / 2048 % 2 * 1048576 + x.2.2.2.2 / 2 % 1024 * 2097152 + x.2.2.2.2 / 1048576 % 2 * 2147483648
  else if s.1 = 3 then s.2.1 + x.2.1 * 128 + s.2.2.1 * 4096 + x.2.2.1 * 32768 + x.2.2.2.2 % 4096 * 1048576
  else if s.1 = 4 then s.2.1 + x.2.2.2.2 / 2048 % 2 * 128 + x.2.2.2.2 / 2 % 16 * 256 + s.2.2.1 * 4096 + x.2.2.1 * 32768 + x.2.2.2.1 * 1048576 + x.2.2.2.2 / 32 % 64 * 33554432 + x.2.2.2.2 / 4096 % 2 * 2147483648
  else if s.1 = 5 then s.2.1 + x.2.2.2.2 % 32 * 128 + s.2.2.1 * 4096 + x.2.2.1 * 32768 + x.2.2.2.1 * 1048576 + x.2.2.2.2 / 32 % 128 * 33554432
  else if s.1 = 6 then s.2.1 + x.2.1 * 128 + s.2.2.1 * 4096 + x.2.2.1 * 32768 + x.2.2.2.2 % 64 * 1048576 + s.2.2.2 / 2 * 67108864
  else if s.1 = 7 then s.2.1 + x.2.1 * 128 + s.2.2.1 * 4096 + x.2.2.1 * 32768 + x.2.2.2.2 % 32 * 1048576 + s.2.2.2 * 33554432
  else if s.1 = 8 then s.2.1 + x.2.1 * 128 + s.2.2.1 * 4096 + x.2.2.1 * 32768 + x.2.2.2.1 * 1048576 + s.2.2.2 * 33554432
  else s.2.1 + s.2.2.2 * 1048576
structure RegsOK (x : Int × Int × Int × Int × Int) : Prop where
  d : 0 ≤ x.2.1 ∧ x.2.1 ≤ 31
  a : 0 ≤ x.2.2.1 ∧ x.2.2.1 ≤ 31
  b : 0 ≤ x.2.2.2.1 ∧ x.2.2.2.1 ≤ 31
  i : -9223372036854775808 ≤ x.2.2.2.2 ∧ x.2.2.2.2 ≤ 9223372036854775807
theorem shp_facts {f c f3 f7 : Int} (h : ShpOK (f, c, f3, f7) = true) : (1 ≤ f ∧ f ≤ 9) ∧ (0 ≤ c ∧ c < 128) ∧ (0 ≤ f3 ∧ f3 < 8) ∧ (0 ≤ f7 ∧ f7 < 64) ∧ (f = 6 → f7 % 2 = 0) ∧ (f = 9 → f7 < 2 ∧ f3 = 0) := by
  simp only [ShpOK, Bool.and_eq_true, Bool.or_eq_true, Bool.not_eq_true', decide_eq_true_eq, decide_eq_false_iff_not] at h
  omega
theorem forms {f : Int} (h : 1 ≤ f ∧ f ≤ 9) : f = 1 ∨ f = 2 ∨ f = 3 ∨ f = 4 ∨ f = 5 ∨ f = 6 ∨ f = 7 ∨ f = 8 ∨ f = 9 := by omega
theorem inL_nat (j n : Nat) : inL (j : Int) n = decide (j < n) := by
  unfold inL; rw [show decide (0 ≤ (j : Int)) = true by simp, Bool.true_and]; congr 1; simp
theorem rd_nat {τ : Ty} (xs : List τ.den) (j : Nat) (h : j < xs.length) : rd (τ := τ) xs (j : Int) = xs[j] := by
  unfold rd; rw [Int.toNat_natCast, List.getD_eq_getElem?_getD, List.getElem?_eq_getElem h]; rfl
theorem w64_succ (j n : Nat) (h : j < n) (h' : n ≤ 9223372036854775807) : IntKind.wrap .i64 ((j : Int) + 1) = ((j + 1 : Nat) : Int) := by
  rw [w64 (by omega) (by omega)]; omega
theorem lt_nat (j n : Nat) : decide ((j : Int) < (n : Int)) = decide (j < n) := by congr 1; simp
def fieldsV (f : Int) : Bool × Bool × Bool :=
  if f = 1 ∨ f = 2 then (true, false, false) else if f = 3 ∨ f = 6 ∨ f = 7 then (true, true, false) else if f = 4 ∨ f = 5 then (false, true, true) else if f = 8 then (true, true, true) else (false, false, false)
theorem bits_ext {a b : Int} (ha : 0 ≤ a ∧ a < 4294967296) (hb : 0 ≤ b ∧ b < 4294967296) (h : ∀ i : Nat, i < 32 → a / 2 ^ i % 2 = b / 2 ^ i % 2) : a = b := by
  have : ∀ k : Nat, k ≤ 32 → a / 2 ^ (32 - k) = b / 2 ^ (32 - k) := by
    intro k
    induction k with
    | zero => intro _; rw [show (2 : Int) ^ (32 - 0) = 4294967296 by rfl]; omega
    | succ k ih =>
      intro hk
      have ih := ih (by omega)
      have h1 := h (32 - (k + 1)) (by omega)
      have e : 32 - k = 32 - (k + 1) + 1 := by omega
      rw [e] at ih
      have ea := bit_step a (32 - (k + 1))
      have eb := bit_step b (32 - (k + 1))
      omega
  have := this 32 (by omega)
  simpa using this
theorem putV_more (w low v : Int) (c : Nat) (h : 0 ≤ low) (hlc : low + c + 1 ≤ 32) (hw : 0 ≤ w) (hw' : w < 4294967296) : putV (putV w low c v) (low + c) 1 (v / 2 ^ c % 2) = putV w low ((c + 1 : Nat) : Int) v := by
  have r1 := putV_range w low c v h (by omega) (by omega) hw hw'
  apply bits_ext (putV_range _ _ _ _ (by omega) (by omega) (by omega) r1.1 r1.2) (putV_range _ _ _ _ h (by omega) (by omega) hw hw')
  intro i hi
  rw [putV_bit _ _ _ _ (by omega) (by omega), putV_bit _ _ _ _ h (by omega), putV_bit _ _ _ _ h (by omega)]
  by_cases h1 : low + c ≤ (i : Int) ∧ (i : Int) < low + c + 1
  · rw [if_pos h1, if_pos (by omega), show i - (low + (c : Int)).toNat = 0 by omega, show i - low.toNat = c by omega, Int.pow_zero, Int.ediv_one]; omega
  · rw [if_neg h1]
    by_cases h2 : low ≤ (i : Int) ∧ (i : Int) < low + c
    · rw [if_pos h2, if_pos (by omega)]
    · rw [if_neg h2, if_neg (by omega)]
theorem putV_zero (w low v : Int) (h : 0 ≤ low) (hl : low ≤ 31) (hw : 0 ≤ w) (hw' : w < 4294967296) : putV w low 0 v = w := by
  apply bits_ext (putV_range _ _ _ _ h (by omega) (by omega) hw hw') ⟨hw, hw'⟩
  intro i hi
  rw [putV_bit _ _ _ _ h (by omega), if_neg (by omega)]
theorem putV_empty {w v : Int} (k c : Nat) (P Q : Int) (hP : P = 2 ^ k) (hQ : Q = 2 ^ c) (h : w / P % Q = 0) : putV w (k : Int) (c : Int) v = w + v % Q * P := by
  subst hP hQ
  simp only [putV, Int.toNat_natCast]
  have hk : (0 : Int) < 2 ^ k := Int.pow_pos (by decide)
  have hc : (0 : Int) < 2 ^ c := Int.pow_pos (by decide)
  have e1 := Int.emod_add_mul_ediv w (2 ^ k)
  have e2 := Int.emod_add_mul_ediv (w / 2 ^ k) (2 ^ c)
  rw [h, Int.zero_add, Int.ediv_ediv_of_nonneg (by omega), ← Int.pow_add] at e2
  rw [e2, Int.mul_add]
  rw [Int.mul_comm (v % 2 ^ c)]
  omega
theorem jump_step (x : Int × Int × Int × Int × Int) (hx : -9223372036854775808 ≤ x.2.2.2.2) (hx' : x.2.2.2.2 ≤ 9223372036854775807) (w : Int) (hw : 0 ≤ w) (hw' : w < 4294967296) (i : Nat) (h : 1 ≤ i) (h' : i ≤ 20) :
    spec_l02Encode.l1110101110110 x w (i : Int) = spec_l02Encode.l1110101110110 x (putV w (if i = 20 then 31 else if 11 < i then i else if 10 < i then 9 + i else 20 + i : Nat) 1 (x.2.2.2.2 / 2 ^ i % 2)) ((i + 1 : Nat) : Int) := by
  rw [spec_l02Encode.l1110101110110_eq, show decide ((i : Int) < 21) = true by simp; omega, bit_val _ _ hx hx' (by omega) (by omega), w64 (n := 9 + (i : Int)) (by omega) (by omega), w64 (n := 20 + (i : Int)) (by omega) (by omega), w64 (n := (i : Int) + 1) (by omega) (by omega)]
  simp only [joinB, cond_true, Int.toNat_natCast, Option.bind_some]
  have e0 : ((i + 1 : Nat) : Int) = (i : Int) + 1 := by omega
  rw [e0]
  by_cases h1 : i = 20
  · subst h1; rw [show decide (((20 : Nat) : Int) = 20) = true by rfl, put_val _ _ _ _ (by omega) (by omega) (by omega) hw hw' (by omega) (by omega)]; rfl
  · by_cases h2 : 11 < i
    · rw [show decide ((i : Int) = 20) = false by simp; omega, show decide ((i : Int) > 11) = true by simp; omega, show decide ((i : Int) > 10) = true by simp; omega, if_neg h1, if_pos h2]
      simp only [cond_true, cond_false]
      rw [put_val _ _ _ _ (by omega) (by omega) (by omega) hw hw' (by omega) (by omega)]; rfl
    · by_cases h3 : 10 < i
      · rw [show decide ((i : Int) = 20) = false by simp; omega, show decide ((i : Int) > 11) = false by simp; omega, show decide ((i : Int) > 10) = true by simp; omega, if_neg h1, if_neg h2, if_pos h3]
        simp only [cond_true, cond_false]
        rw [put_val _ _ _ _ (by omega) (by omega) (by omega) hw hw' (by omega) (by omega), show ((9 + i : Nat) : Int) = 9 + (i : Int) by omega]; rfl
      · rw [show decide ((i : Int) = 20) = false by simp; omega, show decide ((i : Int) > 11) = false by simp; omega, show decide ((i : Int) > 10) = false by simp; omega, if_neg h1, if_neg h2, if_neg h3]
        simp only [cond_false]
        rw [put_val _ _ _ _ (by omega) (by omega) (by omega) hw hw' (by omega) (by omega), show ((20 + i : Nat) : Int) = 20 + (i : Int) by omega]; rfl
theorem bits_run (L : Int → Nat → Option Int) (v : Int) (pl : Nat → Nat) (lo hi : Nat) (step : ∀ (w : Int) (i : Nat), 0 ≤ w → w < 4294967296 → lo ≤ i → i < hi → L w i = L (putV w (pl i : Nat) 1 (v / 2 ^ i % 2)) (i + 1))
    (a p : Nat) (ha : lo ≤ a) (w : Int) (hw : 0 ≤ w) (hw' : w < 4294967296) (n : Nat) (hn : a + n ≤ hi) (hp1 : p ≤ 31) (hpn : p + n ≤ 32) (hp : ∀ c : Nat, c < n → pl (a + c) = p + c) :
    ∀ c : Nat, c ≤ n → L w a = L (putV w (p : Int) (c : Int) (v / 2 ^ a)) (a + c) := by
  intro c
  induction c with
  | zero => intro _; rw [show ((0 : Nat) : Int) = 0 by rfl, putV_zero _ _ _ (by omega) (by omega) hw hw', Nat.add_zero]
  | succ c ih =>
    intro hc
    have r := putV_range w p c (v / 2 ^ a) (by omega) (by omega) (by omega) hw hw'
    rw [ih (by omega), step _ (a + c) r.1 r.2 (by omega) (by omega), hp c (by omega)]
    have e : v / 2 ^ (a + c) = v / 2 ^ a / 2 ^ c := by rw [Int.pow_add, Int.ediv_ediv_of_nonneg (Int.le_of_lt (Int.pow_pos (by decide)))]
    rw [e, show ((p + c : Nat) : Int) = (p : Int) + (c : Int) by omega, putV_more _ _ _ _ (by omega) (by omega) hw hw']
    rfl
def jumpPl (i : Nat) : Nat := if i = 20 then 31 else if 11 < i then i else if 10 < i then 9 + i else 20 + i
def branchPl (i : Nat) : Nat := if i = 12 then 31 else if i = 11 then 7 else if 4 < i then 20 + i else 7 + i
theorem jump_run (x : Int × Int × Int × Int × Int) (hx : -9223372036854775808 ≤ x.2.2.2.2) (hx' : x.2.2.2.2 ≤ 9223372036854775807) (w : Int) (hw : 0 ≤ w) (hw' : w < 4294967296) :
    spec_l02Encode.l1110101110110 x w 1 = some (putV (putV (putV (putV w 21 10 (x.2.2.2.2 / 2)) 20 1 (x.2.2.2.2 / 2048)) 12 8 (x.2.2.2.2 / 4096)) 31 1 (x.2.2.2.2 / 1048576)) := by
  have st := bits_run (fun w i => spec_l02Encode.l1110101110110 x w (i : Int)) x.2.2.2.2 jumpPl 1 21 (fun w i h1 h2 h3 h4 => jump_step x hx hx' w h1 h2 i h3 (by omega))
  have r1 := putV_range w 21 10 (x.2.2.2.2 / 2) (by decide) (by decide) (by decide) hw hw'
  have r2 := putV_range _ 20 1 (x.2.2.2.2 / 2048) (by decide) (by decide) (by decide) r1.1 r1.2
  have r3 := putV_range _ 12 8 (x.2.2.2.2 / 4096) (by decide) (by decide) (by decide) r2.1 r2.2
  refine (st 1 21 (by decide) w hw hw' 10 (by decide) (by decide) (by decide) (by decide) 10 (by decide)).trans ?_
  refine (st 11 20 (by decide) _ r1.1 r1.2 1 (by decide) (by decide) (by decide) (by decide) 1 (by decide)).trans ?_
  refine (st 12 12 (by decide) _ r2.1 r2.2 8 (by decide) (by decide) (by decide) (by decide) 8 (by decide)).trans ?_
  refine (st 20 31 (by decide) _ r3.1 r3.2 1 (by decide) (by decide) (by decide) (by decide) 1 (by decide)).trans ?_
  exact spec_l02Encode.l1110101110110_eq _ _ _
theorem branch_step (x : Int × Int × Int × Int × Int) (hx : -9223372036854775808 ≤ x.2.2.2.2) (hx' : x.2.2.2.2 ≤ 9223372036854775807) (w : Int) (hw : 0 ≤ w) (hw' : w < 4294967296) (i : Nat) (h : 1 ≤ i) (h' : i ≤ 12) :
    spec_l02Encode.l1110101111111011110 x w (i : Int) = spec_l02Encode.l1110101111111011110 x (putV w (branchPl i : Nat) 1 (x.2.2.2.2 / 2 ^ i % 2)) ((i + 1 : Nat) : Int) := by
  rw [spec_l02Encode.l1110101111111011110_eq, show decide ((i : Int) < 13) = true by simp; omega, bit_val _ _ hx hx' (by omega) (by omega), w64 (n := 7 + (i : Int)) (by omega) (by omega), w64 (n := 20 + (i : Int)) (by omega) (by omega), w64 (n := (i : Int) + 1) (by omega) (by omega)]
  simp only [joinB, cond_true, Int.toNat_natCast, Option.bind_some, branchPl]
  have e0 : ((i + 1 : Nat) : Int) = (i : Int) + 1 := by omega
  rw [e0]
  by_cases h1 : i = 12
  · subst h1; rw [show decide (((12 : Nat) : Int) = 12) = true by rfl, put_val _ _ _ _ (by omega) (by omega) (by omega) hw hw' (by omega) (by omega)]; rfl
  · by_cases h2 : i = 11
    · subst h2
      rw [show decide (((11 : Nat) : Int) = 12) = false by rfl, show decide (((11 : Nat) : Int) > 4) = true by rfl, show decide (((11 : Nat) : Int) = 11) = true by rfl]
      simp only [cond_true, cond_false]
      rw [put_val _ _ _ _ (by omega) (by omega) (by omega) hw hw' (by omega) (by omega)]; rfl
    · by_cases h3 : 4 < i
      · rw [show decide ((i : Int) = 12) = false by simp; omega, show decide ((i : Int) = 11) = false by simp; omega, show decide ((i : Int) > 4) = true by simp; omega, if_neg h1, if_neg h2, if_pos h3]
        simp only [cond_true, cond_false]
        rw [put_val _ _ _ _ (by omega) (by omega) (by omega) hw hw' (by omega) (by omega), show ((20 + i : Nat) : Int) = 20 + (i : Int) by omega]; rfl
      · rw [show decide ((i : Int) = 12) = false by simp; omega, show decide ((i : Int) = 11) = false by simp; omega, show decide ((i : Int) > 4) = false by simp; omega, if_neg h1, if_neg h2, if_neg h3]
        simp only [cond_false]
        rw [put_val _ _ _ _ (by omega) (by omega) (by omega) hw hw' (by omega) (by omega), show ((7 + i : Nat) : Int) = 7 + (i : Int) by omega]; rfl
theorem branch_run (x : Int × Int × Int × Int × Int) (hx : -9223372036854775808 ≤ x.2.2.2.2) (hx' : x.2.2.2.2 ≤ 9223372036854775807) (w : Int) (hw : 0 ≤ w) (hw' : w < 4294967296) :
    spec_l02Encode.l1110101111111011110 x w 1 = some (putV (putV (putV (putV w 8 4 (x.2.2.2.2 / 2)) 25 6 (x.2.2.2.2 / 32)) 7 1 (x.2.2.2.2 / 2048)) 31 1 (x.2.2.2.2 / 4096)) := by
  have st := bits_run (fun w i => spec_l02Encode.l1110101111111011110 x w (i : Int)) x.2.2.2.2 branchPl 1 13 (fun w i h1 h2 h3 h4 => branch_step x hx hx' w h1 h2 i h3 (by omega))
  have r1 := putV_range w 8 4 (x.2.2.2.2 / 2) (by decide) (by decide) (by decide) hw hw'
  have r2 := putV_range _ 25 6 (x.2.2.2.2 / 32) (by decide) (by decide) (by decide) r1.1 r1.2
  have r3 := putV_range _ 7 1 (x.2.2.2.2 / 2048) (by decide) (by decide) (by decide) r2.1 r2.2
  refine (st 1 8 (by decide) w hw hw' 4 (by decide) (by decide) (by decide) (by decide) 4 (by decide)).trans ?_
  refine (st 5 25 (by decide) _ r1.1 r1.2 6 (by decide) (by decide) (by decide) (by decide) 6 (by decide)).trans ?_
  refine (st 11 7 (by decide) _ r2.1 r2.2 1 (by decide) (by decide) (by decide) (by decide) 1 (by decide)).trans ?_
  refine (st 12 31 (by decide) _ r3.1 r3.2 1 (by decide) (by decide) (by decide) (by decide) 1 (by decide)).trans ?_
  exact spec_l02Encode.l1110101111111011110_eq _ _ _
theorem store_step (x : Int × Int × Int × Int × Int) (hx : -9223372036854775808 ≤ x.2.2.2.2) (hx' : x.2.2.2.2 ≤ 9223372036854775807) (w : Int) (hw : 0 ≤ w) (hw' : w < 4294967296) (i : Nat) (h : 5 ≤ i) (h' : i ≤ 11) :
    spec_l02Encode.l1110101111111110111110 x w (i : Int) = spec_l02Encode.l1110101111111110111110 x (putV w (20 + i : Nat) 1 (x.2.2.2.2 / 2 ^ i % 2)) ((i + 1 : Nat) : Int) := by
  rw [spec_l02Encode.l1110101111111110111110_eq, show decide ((i : Int) < 12) = true by simp; omega, bit_val _ _ hx hx' (by omega) (by omega), w64 (n := 20 + (i : Int)) (by omega) (by omega), w64 (n := (i : Int) + 1) (by omega) (by omega)]
  simp only [cond_true, Int.toNat_natCast, Option.bind_some]
  rw [put_val _ _ _ _ (by omega) (by omega) (by omega) hw hw' (by omega) (by omega), show ((20 + i : Nat) : Int) = 20 + (i : Int) by omega]; rfl
theorem store_run (x : Int × Int × Int × Int × Int) (hx : -9223372036854775808 ≤ x.2.2.2.2) (hx' : x.2.2.2.2 ≤ 9223372036854775807) (w : Int) (hw : 0 ≤ w) (hw' : w < 4294967296) :
    spec_l02Encode.l1110101111111110111110 x w 5 = some (putV w 25 7 (x.2.2.2.2 / 32)) := by
  have st := bits_run (fun w i => spec_l02Encode.l1110101111111110111110 x w (i : Int)) x.2.2.2.2 (fun i => 20 + i) 5 12 (fun w i h1 h2 h3 h4 => store_step x hx hx' w h1 h2 i h3 (by omega))
  refine (st 5 25 (by decide) w hw hw' 7 (by decide) (by decide) (by decide) (by decide) 7 (by decide)).trans ?_
  exact spec_l02Encode.l1110101111111110111110_eq _ _ _
theorem put_7_5 {w v : Int} (hw : 0 ≤ w) (hw' : w < 4294967296) (h : w / 128 % 32 = 0) (hv : -9223372036854775808 ≤ v) (hv' : v ≤ 9223372036854775807) : spec_l01Put w 7 5 v = some (w + v % 32 * 128) :=
  (put_val w 7 5 v (by decide) (by decide) (by decide) hw hw' hv hv').trans (congrArg some (putV_empty 7 5 128 32 rfl rfl h))
theorem put_12_20 {w v : Int} (hw : 0 ≤ w) (hw' : w < 4294967296) (h : w / 4096 % 1048576 = 0) (hv : -9223372036854775808 ≤ v) (hv' : v ≤ 9223372036854775807) : spec_l01Put w 12 20 v = some (w + v % 1048576 * 4096) :=
  (put_val w 12 20 v (by decide) (by decide) (by decide) hw hw' hv hv').trans (congrArg some (putV_empty 12 20 4096 1048576 rfl rfl h))
theorem put_12_3 {w v : Int} (hw : 0 ≤ w) (hw' : w < 4294967296) (h : w / 4096 % 8 = 0) (hv : -9223372036854775808 ≤ v) (hv' : v ≤ 9223372036854775807) : spec_l01Put w 12 3 v = some (w + v % 8 * 4096) :=
  (put_val w 12 3 v (by decide) (by decide) (by decide) hw hw' hv hv').trans (congrArg some (putV_empty 12 3 4096 8 rfl rfl h))
theorem put_15_5 {w v : Int} (hw : 0 ≤ w) (hw' : w < 4294967296) (h : w / 32768 % 32 = 0) (hv : -9223372036854775808 ≤ v) (hv' : v ≤ 9223372036854775807) : spec_l01Put w 15 5 v = some (w + v % 32 * 32768) :=
  (put_val w 15 5 v (by decide) (by decide) (by decide) hw hw' hv hv').trans (congrArg some (putV_empty 15 5 32768 32 rfl rfl h))
theorem put_20_12 {w v : Int} (hw : 0 ≤ w) (hw' : w < 4294967296) (h : w / 1048576 % 4096 = 0) (hv : -9223372036854775808 ≤ v) (hv' : v ≤ 9223372036854775807) : spec_l01Put w 20 12 v = some (w + v % 4096 * 1048576) :=
  (put_val w 20 12 v (by decide) (by decide) (by decide) hw hw' hv hv').trans (congrArg some (putV_empty 20 12 1048576 4096 rfl rfl h))
theorem put_20_5 {w v : Int} (hw : 0 ≤ w) (hw' : w < 4294967296) (h : w / 1048576 % 32 = 0) (hv : -9223372036854775808 ≤ v) (hv' : v ≤ 9223372036854775807) : spec_l01Put w 20 5 v = some (w + v % 32 * 1048576) :=
  (put_val w 20 5 v (by decide) (by decide) (by decide) hw hw' hv hv').trans (congrArg some (putV_empty 20 5 1048576 32 rfl rfl h))
theorem put_20_6 {w v : Int} (hw : 0 ≤ w) (hw' : w < 4294967296) (h : w / 1048576 % 64 = 0) (hv : -9223372036854775808 ≤ v) (hv' : v ≤ 9223372036854775807) : spec_l01Put w 20 6 v = some (w + v % 64 * 1048576) :=
  (put_val w 20 6 v (by decide) (by decide) (by decide) hw hw' hv hv').trans (congrArg some (putV_empty 20 6 1048576 64 rfl rfl h))
theorem put_25_7 {w v : Int} (hw : 0 ≤ w) (hw' : w < 4294967296) (h : w / 33554432 % 128 = 0) (hv : -9223372036854775808 ≤ v) (hv' : v ≤ 9223372036854775807) : spec_l01Put w 25 7 v = some (w + v % 128 * 33554432) :=
  (put_val w 25 7 v (by decide) (by decide) (by decide) hw hw' hv hv').trans (congrArg some (putV_empty 25 7 33554432 128 rfl rfl h))
theorem putV_21_10 {w v : Int} (h : w / 2097152 % 1024 = 0) : putV w 21 10 v = w + v % 1024 * 2097152 := putV_empty 21 10 2097152 1024 rfl rfl h
theorem putV_20_1 {w v : Int} (h : w / 1048576 % 2 = 0) : putV w 20 1 v = w + v % 2 * 1048576 := putV_empty 20 1 1048576 2 rfl rfl h
theorem putV_12_8 {w v : Int} (h : w / 4096 % 256 = 0) : putV w 12 8 v = w + v % 256 * 4096 := putV_empty 12 8 4096 256 rfl rfl h
theorem putV_31_1 {w v : Int} (h : w / 2147483648 % 2 = 0) : putV w 31 1 v = w + v % 2 * 2147483648 := putV_empty 31 1 2147483648 2 rfl rfl h
theorem putV_8_4 {w v : Int} (h : w / 256 % 16 = 0) : putV w 8 4 v = w + v % 16 * 256 := putV_empty 8 4 256 16 rfl rfl h
theorem putV_25_6 {w v : Int} (h : w / 33554432 % 64 = 0) : putV w 25 6 v = w + v % 64 * 33554432 := putV_empty 25 6 33554432 64 rfl rfl h
theorem putV_7_1 {w v : Int} (h : w / 128 % 2 = 0) : putV w 7 1 v = w + v % 2 * 128 := putV_empty 7 1 128 2 rfl rfl h
theorem putV_25_7 {w v : Int} (h : w / 33554432 % 128 = 0) : putV w 25 7 v = w + v % 128 * 33554432 := putV_empty 25 7 33554432 128 rfl rfl h
theorem spec_encode_val (x : Int × Int × Int × Int × Int) (h : 1 ≤ x.1) (h' : x.1 ≤ 64) (hr : RegsOK x) (hu : (shp x.1).1 = 1 → x.2.2.2.2 % 4096 = 0) : spec_l02Encode x = some (encV (shp x.1) x) := by
  rw [spec_l02Encode_eq, spec_shape _ (by omega) h']
  have hs := shp_ok x.1 h h'
  generalize shp x.1 = s at *
  obtain ⟨n, rd', rs1, rs2, imm⟩ := x
  obtain ⟨f, c, f3, f7⟩ := s
  obtain ⟨⟨d1, d2⟩, ⟨a1, a2⟩, ⟨b1, b2⟩, ⟨i1, i2⟩⟩ := hr
  obtain ⟨s1, ⟨s2, s2'⟩, ⟨s3, s3'⟩, ⟨s4, s4'⟩, s5, s6⟩ := shp_facts hs
  clear hs
  dsimp only at *
  simp only [Option.bind_some, joinB]
  rcases forms s1 with rfl | rfl | rfl | rfl | rfl | rfl | rfl | rfl | rfl
  · have hu := hu rfl
    have ht : imm.tdiv 4096 = imm / 4096 := by
      rw [Int.tdiv_eq_ediv_of_dvd]; exact Int.dvd_of_emod_eq_zero hu
    simp only [cond_ite, ↓reduceIte, decide_true, ht]
    rw [w64 (n := imm / 4096) (by omega) (by omega), put_7_5 (by omega) (by omega) (by omega) (by omega) (by omega)]
    simp only [Option.bind_some]
    rw [put_12_20 (by omega) (by omega) (by omega) (by omega) (by omega)]
    simp [encV]; omega
  · simp (disch := omega) [put_7_5, jump_run, encV]
    rw [putV_21_10 (by omega)]
    have hb0 : 0 ≤ imm / 2 % 1024 ∧ imm / 2 % 1024 < 1024 := by omega
    generalize imm / 2 % 1024 = y0 at *
    rw [putV_20_1 (by omega)]
    have hb1 : 0 ≤ imm / 2048 % 2 ∧ imm / 2048 % 2 < 2 := by omega
    generalize imm / 2048 % 2 = y1 at *
    rw [putV_12_8 (by omega)]
    have hb2 : 0 ≤ imm / 4096 % 256 ∧ imm / 4096 % 256 < 256 := by omega
    generalize imm / 4096 % 256 = y2 at *
    rw [putV_31_1 (by omega)]
    have hb3 : 0 ≤ imm / 1048576 % 2 ∧ imm / 1048576 % 2 < 2 := by omega
    generalize imm / 1048576 % 2 = y3 at *
    omega
  · simp (disch := omega) [put_7_5, put_12_3, put_15_5, put_20_12, encV]
    omega
  · simp (disch := omega) [put_12_3, put_15_5, put_20_5, branch_run, encV]
    rw [putV_8_4 (by omega)]
    have hb0 : 0 ≤ imm / 2 % 16 ∧ imm / 2 % 16 < 16 := by omega
    generalize imm / 2 % 16 = y0 at *
    rw [putV_25_6 (by omega)]
    have hb1 : 0 ≤ imm / 32 % 64 ∧ imm / 32 % 64 < 64 := by omega
    generalize imm / 32 % 64 = y1 at *
    rw [putV_7_1 (by omega)]
    have hb2 : 0 ≤ imm / 2048 % 2 ∧ imm / 2048 % 2 < 2 := by omega
    generalize imm / 2048 % 2 = y2 at *
    rw [putV_31_1 (by omega)]
    have hb3 : 0 ≤ imm / 4096 % 2 ∧ imm / 4096 % 2 < 2 := by omega
    generalize imm / 4096 % 2 = y3 at *
    omega
  · simp (disch := omega) [put_7_5, put_12_3, put_15_5, put_20_5, store_run, encV]
    have hb0 : 0 ≤ imm % 32 ∧ imm % 32 < 32 := by omega
    generalize imm % 32 = y0 at *
    rw [putV_25_7 (by omega)]
    have hb1 : 0 ≤ imm / 32 % 128 ∧ imm / 32 % 128 < 128 := by omega
    generalize imm / 32 % 128 = y1 at *
    omega
  · have hf := s5 rfl
    simp (disch := omega) [put_7_5, put_12_3, put_15_5, put_25_7, put_20_6, encV]
    omega
  · simp (disch := omega) [put_7_5, put_12_3, put_15_5, put_25_7, put_20_5, encV]
    omega
  · simp (disch := omega) [put_7_5, put_12_3, put_15_5, put_25_7, put_20_5, encV]
    omega
  · simp (disch := omega) [put_20_12, encV]
    omega
theorem spec_in_val (n a b : Int) : spec_l01In n a b = some (decide (a ≤ n) && decide (n ≤ b)) := by
  rw [spec_l01In_eq]
  by_cases h : n ≥ a <;> simp [h]
theorem within_val (n a b : Int) : impl_within n a b = some (decide (a ≤ n) && decide (n ≤ b)) := by
  rw [impl_within_eq]
  by_cases h : a ≤ n <;> simp [h]
/-- An instruction's number fits its form. -/
def immR (f i : Int) : Bool :=
  if f = 1 then decide (-2147483648 ≤ i) && decide (i ≤ 2147479552) && decide (i % 4096 = 0)
  else if f = 2 then decide (-1048576 ≤ i) && decide (i ≤ 1048574) && decide (i % 2 = 0)
  else if f = 3 ∨ f = 5 then decide (-2048 ≤ i) && decide (i ≤ 2047)
  else if f = 4 then decide (-4096 ≤ i) && decide (i ≤ 4094) && decide (i % 2 = 0)
  else if f = 6 then decide (0 ≤ i) && decide (i ≤ 63)
  else if f = 7 then decide (0 ≤ i) && decide (i ≤ 31)
  else decide (i = 0)
def rightV (x : Int × Int × Int × Int × Int) : Bool :=
  decide (1 ≤ x.1) && decide (x.1 ≤ 64) && decide (0 ≤ x.2.1) && decide (x.2.1 ≤ 31) && decide (0 ≤ x.2.2.1) && decide (x.2.2.1 ≤ 31) && decide (0 ≤ x.2.2.2.1) && decide (x.2.2.2.1 ≤ 31)
    && ((fieldsV (shp x.1).1).1 || decide (x.2.1 = 0)) && ((fieldsV (shp x.1).1).2.1 || decide (x.2.2.1 = 0)) && ((fieldsV (shp x.1).1).2.2 || decide (x.2.2.2.1 = 0)) && immR (shp x.1).1 x.2.2.2.2
theorem shp_form {n : Int} (h : 1 ≤ n) (h' : n ≤ 64) : 1 ≤ (shp n).1 ∧ (shp n).1 ≤ 9 := by
  have := shp_ok n h h'
  generalize shp n = s at *
  exact (shp_facts this).1
abbrev TIns : Ty := .pair (.int .i64) (.pair (.int .i64) (.pair (.int .i64) (.pair (.int .i64) (.int .i64))))
abbrev Ins : Type := Int × Int × Int × Int × Int
theorem strEq_iff (a b : ByteArray) : (strEq a b = true) = (a = b) := by
  unfold strEq
  rw [beq_iff_eq]
  refine propext ⟨fun h => ?_, fun h => by rw [h]⟩
  have e : ∀ x : ByteArray, x.toList = x.data.toList := by
    intro x
    have : ∀ (n i : Nat) (r : List UInt8), n = x.size - i → ByteArray.toList.loop x i r = r.reverse ++ x.data.toList.drop i := by
      intro n
      induction n with
      | zero => intro i r hn
                rw [ByteArray.toList.loop, if_neg (by omega), List.drop_eq_nil_of_le (by have : x.size = x.data.size := rfl; simp; omega), List.append_nil]
      | succ n ih =>
        intro i r hn
        have hi : i < x.data.toList.length := by have : x.size = x.data.size := rfl; simp; omega
        rw [ByteArray.toList.loop, if_pos (by omega), ih (i + 1) _ (by omega), List.drop_eq_getElem_cons hi]
        have : x.get! i = x.data.toList[i] := by
          have h2 : i < x.data.size := by simpa using hi
          rw [ByteArray.get!, getElem!_pos x.data i h2]; simp
        rw [this]; simp
    have := this (x.size - 0) 0 [] rfl
    rw [ByteArray.toList, this]; simp
  rw [e, e] at h
  have : a.data = b.data := Array.toList_inj.mp h
  cases a; cases b; simp_all
theorem strEq_dec (a b : ByteArray) : strEq a b = decide (a = b) := by
  have := strEq_iff a b
  by_cases h : a = b
  · rw [decide_eq_true h, this.mpr h]
  · rw [decide_eq_false h]
    cases e : strEq a b
    · rfl
    · exact absurd (this.mp e) h
/-- The number that bytes are, the lowest first. -/
def leN (t : ByteArray) (a : Nat) : Nat → Nat
  | 0 => 0
  | n + 1 => (t.data.getD a 0).toNat + 256 * leN t (a + 1) n
theorem or_byte (V b : Int) (hV : 0 ≤ V) (hb : 0 ≤ b) (hb' : b ≤ 255) : orI .i64 (shlI .i64 (IntKind.wrap .i64 V) 8) b = IntKind.wrap .i64 (256 * V + b) := by
  have h1 : shlI .i64 (IntKind.wrap .i64 V) 8 = IntKind.wrap .i64 (V * 256) := by
    rw [shl_mul (by decide) (by decide)]
    obtain ⟨q, hq⟩ := wrap64_mod V
    have e8 : (2 : Int) ^ (8 : Int).toNat = 256 := by decide
    rw [hq, e8, IntKind.wrap_i64, IntKind.wrap_i64]; omega
  rw [h1]
  obtain ⟨y, rfl⟩ := Int.eq_ofNat_of_zero_le hb
  unfold orI
  rw [BitVec.toNat_or]
  have f1 := bv64 (IntKind.wrap .i64 (V * 256))
  have f2 : (BitVec.ofInt IntKind.i64.bits (y : Int)).toNat = y := by have := bv64 (y : Int); omega
  have f3 : IntKind.wrap .i64 (V * 256) % 18446744073709551616 = V * 256 % 18446744073709551616 := by
    rw [IntKind.wrap_i64]; omega
  rw [f3] at f1
  rw [f2]
  generalize (BitVec.ofInt IntKind.i64.bits (IntKind.wrap .i64 (V * 256))).toNat = x at *
  have h0 := nat_or_field x y 0 8 (by omega) (by omega)
  simp only [Nat.pow_zero, Nat.mul_one] at h0
  rw [h0, IntKind.wrap_i64, IntKind.wrap_i64]
  omega
theorem wrap_u64 (n : Int) : IntKind.wrap .u64 n = n % 18446744073709551616 := by simp [IntKind.wrap, IntKind.bits, IntKind.signed]
theorem bt_nat (t : ByteArray) (i : Nat) : bt t (i : Int) = ((t.data.getD i 0).toNat : Int) := by unfold bt; rw [Int.toNat_natCast]
theorem impl_take_loop (t : ByteArray) (hz : t.size ≤ 9223372036854775807) : ∀ (k : Nat), k ≤ t.size → impl_takeLittle.l11010 t (IntKind.wrap .i64 (leN t k (t.size - k))) ((k : Int) - 1) = some (IntKind.wrap .i64 (leN t 0 t.size)) := by
  intro k
  induction k with
  | zero =>
    intro _
    rw [impl_takeLittle.l11010_eq]; rfl
  | succ k ih =>
    intro hk
    have hs : (((k + 1 : Nat) : Int) - 1) = (k : Int) := by omega
    have hb := bt_range t (k : Int)
    rw [hs, impl_takeLittle.l11010_eq, show decide ((k : Int) ≥ 0) = true by simp, inL_nat, decide_eq_true (show k < t.size by omega), w64 (n := bt t (k : Int)) (by omega) (by omega), or_byte _ _ (by omega) hb.1 hb.2, w64 (n := (k : Int) - 1) (by omega) (by omega)]
    simp only [cond_true]
    have e : leN t k (t.size - k) = (t.data.getD k 0).toNat + 256 * leN t (k + 1) (t.size - (k + 1)) := by
      rw [show t.size - k = (t.size - (k + 1)) + 1 by omega, leN]
    have ih := ih (by omega)
    rw [e] at ih
    rw [bt_nat, show (256 : Int) * (leN t (k + 1) (t.size - (k + 1)) : Nat) + ((t.data.getD k 0).toNat : Nat) = (((t.data.getD k 0).toNat + 256 * leN t (k + 1) (t.size - (k + 1)) : Nat) : Int) by omega]
    exact ih
theorem impl_take_val (t : ByteArray) (hz : t.size ≤ 9223372036854775807) : impl_takeLittle t = some (IntKind.wrap .i64 (leN t 0 t.size)) := by
  have := impl_take_loop t hz t.size (by omega)
  rw [Nat.sub_self, show IntKind.wrap .i64 (leN t t.size 0 : Nat) = 0 by rfl] at this
  rw [impl_takeLittle_eq, w64 (n := (t.size : Int) - 1) (by omega) (by omega)]
  exact this
theorem room_le {n b : Nat} (h : n * b ≤ 140737488355328) (h' : n ≤ 140737488355328) : roomB n b = true := by
  simp only [roomB, Bool.and_eq_true, decide_eq_true_eq]; omega
theorem epi_s (f : Int) (h : 16 ≤ f ∧ f ≤ 128) : spec_l06Epilogue f = some [(14, 1, 2, 0, f - 8), (22, 2, 2, 0, f), (4, 0, 1, 0, 0)] := by
  rw [spec_l06Epilogue_eq, w64 (n := f - 8) (by omega) (by omega)]
theorem inL_iff (i : Int) (n : Nat) : (inL i n = true) = (0 ≤ i ∧ i < (n : Int)) := by simp [inL]
theorem inL_true {i : Int} {n : Nat} (h : 0 ≤ i) (h' : i < (n : Int)) : inL i n = true := by rw [inL_iff]; exact ⟨h, h'⟩
/-- How many bytes a load or store moves, and whether with a sign. -/
def widV (n : Int) : Int × Bool :=
  if n = 11 then (1, true) else if n = 12 then (2, true) else if n = 13 then (4, true) else if n = 14 then (8, true) else if n = 15 then (1, false) else if n = 16 then (2, false) else if n = 17 then (4, false)
  else if n = 18 then (1, false) else if n = 19 then (2, false) else if n = 20 then (4, false) else if n = 21 then (8, false) else (0, false)
def frameV (f : Int) : Bool := bif decide (16 ≤ f) && decide (f ≤ 128) then decide (f.tmod 16 = 0) else false
theorem frame_val (f : Int) : impl_FrameOK f = some (frameV f) ∧ spec_FrameOK f = some (frameV f) := by
  rw [impl_FrameOK_eq, spec_FrameOK_eq, within_val, spec_in_val]
  simp only [Option.bind_some, frameV]
  cases (decide (16 ≤ f) && decide (f ≤ 128)) <;> exact ⟨rfl, rfl⟩
def codeSizeV (n : Nat) : Bool := bif decide ((n : Int).tmod 4 = 0) then decide ((n : Int) ≤ 256) else false
theorem codeSize_1 (t : ByteArray) : impl_isCodeSize t = some (codeSizeV t.size) := by
  rw [impl_isCodeSize_eq]
  unfold codeSizeV
  cases decide ((t.size : Int).tmod 4 = 0) <;> rfl
theorem codeSizeV_range {n : Nat} (h : codeSizeV n = true) : n % 4 = 0 ∧ n ≤ 256 := by
  unfold codeSizeV at h
  cases hb : decide ((n : Int).tmod 4 = 0) with
  | true =>
    rw [hb] at h
    simp only [cond_true, decide_eq_true_eq] at h hb
    rw [Int.tmod_eq_emod_of_nonneg (by omega)] at hb
    omega
  | false => rw [hb] at h; cases h
def funcSizeV (n : Nat) : Bool := bif codeSizeV n then decide ((n : Int) ≥ 20) else false
theorem funcSize_val (t : ByteArray) : impl_isFuncSize t = some (funcSizeV t.size) := by
  rw [impl_isFuncSize_eq, codeSize_1 t]
  simp only [Option.bind_some, funcSizeV]
  cases codeSizeV t.size <;> rfl
noncomputable def nameV (t : ByteArray) : Bool := (impl_NameOK t).getD false
theorem name_val (t : ByteArray) : impl_NameOK t = some (nameV t) ∧ spec_l00Word t = some (nameV t) := by
  obtain ⟨v, h1, h2⟩ := both_name t
  unfold nameV
  rw [h1, h2]; exact ⟨rfl, rfl⟩
/-- The lowest bytes of a number, the lowest first. -/
def leB (v : Int) : Nat → List Int
  | 0 => []
  | n + 1 => v % 256 :: leB (v / 256) n
theorem leB_length (n : Nat) : ∀ v, (leB v n).length = n := by
  induction n with
  | zero => intro v; rfl
  | succ n ih => intro v; simp [leB, ih]
theorem wrap_u8 (n : Int) : IntKind.wrap .u8 n = n % 256 := by simp [IntKind.wrap, IntKind.bits, IntKind.signed]
theorem put_little_loop (n : Nat) : ∀ (v : Int) (xs : List Int), n ≤ 1000 → xs.length + n ≤ 1000 → impl_putLittle.l1100 v n xs = some (bytesOf (xs ++ leB v n)) := by
  induction n with
  | zero => intro v xs _ _; rw [impl_putLittle.l1100_eq]; simp [leB]
  | succ n ih =>
    intro v xs hn hx
    rw [impl_putLittle.l1100_eq, show decide (((n + 1 : Nat) : Int) > 0) = true from decide_eq_true (by omega), room_le (by simp; omega) (by simp; omega), w64 (n := ((n + 1 : Nat) : Int) - 1) (by omega) (by omega), shr_div (by decide) (by decide), wrap_u8, show ((n + 1 : Nat) : Int) - 1 = (n : Int) by omega]
    simp only [cond_true]
    rw [ih _ _ (by omega) (by simp; omega), leB, List.append_assoc]
    rfl
theorem put_little (v : Int) (n : Nat) (h : n ≤ 1000) : impl_putLittle v n = some (bytesOf (leB v n)) := by
  rw [impl_putLittle_eq, put_little_loop n v [] h (by simpa using h)]; rfl
theorem bytesOf_size (xs : List Int) : (bytesOf xs).size = xs.length := by simp [bytesOf, ByteArray.size]
theorem bytesOf_getD (xs : List Int) (i : Nat) (h : ∀ x ∈ xs, 0 ≤ x ∧ x ≤ 255) (hi : i < xs.length) : (((bytesOf xs).data.getD i 0).toNat : Int) = xs[i] := by
  have hx := h _ (List.getElem_mem hi)
  unfold bytesOf
  simp [Array.getD, hi]
  omega
theorem leB_range (n : Nat) : ∀ v : Int, ∀ x ∈ leB v n, 0 ≤ x ∧ x ≤ 255 := by
  induction n with
  | zero => intro v x hx; cases hx
  | succ n ih =>
    intro v x hx
    rw [leB] at hx
    rcases List.mem_cons.mp hx with h | h
    · omega
    · exact ih _ x h
theorem leN_leB (n : Nat) : ∀ (v : Int) (pre : List Int), 0 ≤ v → (∀ x ∈ pre, 0 ≤ x ∧ x ≤ 255) → ((leN (bytesOf (pre ++ leB v n)) pre.length n : Nat) : Int) = v % 256 ^ n := by
  induction n with
  | zero => intro v pre _ _; simp [leN, Int.emod_one]
  | succ n ih =>
    intro v pre hv hp
    have h1 := ih (v / 256) (pre ++ [v % 256]) (by omega) (by
      intro x hx
      rcases List.mem_append.mp hx with h | h
      · exact hp x h
      · rw [List.mem_singleton.mp h]; omega)
    rw [List.append_assoc, List.singleton_append, List.length_append, List.length_singleton] at h1
    rw [leB, leN]
    have hr : ∀ x ∈ pre ++ v % 256 :: leB (v / 256) n, 0 ≤ x ∧ x ≤ 255 := by
      intro x hx
      rcases List.mem_append.mp hx with h | h
      · exact hp x h
      · rcases List.mem_cons.mp h with h | h
        · rw [h]; omega
        · exact leB_range n _ x h
    have h2 := bytesOf_getD (pre ++ v % 256 :: leB (v / 256) n) pre.length hr (by simp)
    rw [Int.natCast_add, Int.natCast_mul, h1, h2]
    simp
    rw [Int.pow_succ, Int.mul_comm (256 ^ n) 256]
    have hp0 : (0 : Int) ≤ 256 := by decide
    rw [Int.emod_def v (256 * 256 ^ n), Int.emod_def (v / 256) (256 ^ n), ← Int.ediv_ediv_of_nonneg hp0, Int.mul_sub, Int.mul_assoc]
    omega
theorem byte_ext {a b : ByteArray} (hs : a.size = b.size) (h : ∀ i, i < a.size → a.data.getD i 0 = b.data.getD i 0) : a = b := by
  cases a with | mk x => cases b with | mk y =>
  congr 1
  have hs : x.size = y.size := hs
  apply Array.ext hs
  intro i h1 h2
  have := h i h1
  simpa [Array.getD, h1, h2] using this
theorem sum_some (t : ByteArray) (ht : t.size ≤ 1048576) : ∀ (k i : Nat) (x : Int), i + k = t.size → 0 ≤ x → x < 65521 → ∃ v, spec_l01Sum.l11010 t x i = some v ∧ 0 ≤ v ∧ v < 65521 := by
  intro k
  induction k with
  | zero =>
    intro i x hi h0 h1
    rw [spec_l01Sum.l11010_eq, lt_nat, decide_eq_false (by omega)]
    exact ⟨x, rfl, h0, h1⟩
  | succ k ih =>
    intro i x hi h0 h1
    have hb := bt_range t (i : Int)
    rw [spec_l01Sum.l11010_eq, lt_nat, inL_nat, decide_eq_true (show i < t.size by omega), w64 (n := bt t (i : Int)) (by omega) (by omega), w64 (n := 31 * x) (by omega) (by omega), w64 (n := 31 * x + bt t (i : Int)) (by omega) (by omega), w64_succ i t.size (by omega) (by omega), Int.tmod_eq_emod_of_nonneg (by omega)]
    simp only [cond_true]
    exact ih (i + 1) _ (by omega) (by omega) (by omega)
theorem sum_both (t : ByteArray) (ht : t.size ≤ 1048576) : ∃ v, impl_sumOf t = some v ∧ spec_l01Sum t = some v ∧ 0 ≤ v ∧ v < 65521 := by
  obtain ⟨v, h1, h2⟩ := sum_some t ht t.size 0 1 (by omega) (by omega) (by omega)
  have e : spec_l01Sum t = some v := (spec_l01Sum_eq t).trans h1
  exact ⟨v, (sumOf t ht).trans e, e, h2⟩
theorem withSum_val (t : ByteArray) (ht : t.size ≤ 1048576) : ∃ v, spec_l01Sum t = some v ∧ 0 ≤ v ∧ v < 65521 ∧ impl_withSum t = some (t ++ bytesOf (leB v 4)) := by
  obtain ⟨v, h1, h2, h3, h4⟩ := sum_both t ht
  have hp := put_little v 4 (by omega)
  rw [show ((4 : Nat) : Int) = 4 by rfl] at hp
  refine ⟨v, h2, h3, h4, ?_⟩
  rw [impl_withSum_eq, h1]
  simp only [Option.bind_some, hp]
  rw [decide_eq_true (by rw [bytesOf_size, leB_length]; omega)]; rfl
theorem rd_some {τ : Ty} (xs : List τ.den) (i : Nat) (v : τ.den) (h : xs[i]? = some v) : rd (τ := τ) xs (i : Int) = v := by
  unfold rd; rw [Int.toNat_natCast, List.getD_eq_getElem?_getD, h]; rfl
def allB (p : Nat → Bool) : Nat → Nat → Bool
  | _, 0 => true
  | i, k + 1 => bif p i then allB p (i + 1) k else false
theorem allB_iff (p : Nat → Bool) : ∀ k i, allB p i k = true ↔ ∀ j, i ≤ j → j < i + k → p j = true
  | 0, i => by simp [allB]; omega
  | k + 1, i => by
    rw [allB, cond_ite]
    by_cases h : p i = true
    · rw [if_pos h, allB_iff p k (i + 1)]
      refine ⟨fun H j h1 h2 => ?_, fun H j h1 h2 => H j (by omega) (by omega)⟩
      by_cases e : j = i
      · rw [e]; exact h
      · exact H j (by omega) (by omega)
    · rw [if_neg h]
      refine ⟨fun H => (by cases H), fun H => absurd (H i (Nat.le_refl _) (by omega)) h⟩
theorem loop_all (L : Int → Option Bool) (p : Nat → Bool) (n : Nat) (hend : L (n : Int) = some true) (hstep : ∀ i : Nat, i < n → L (i : Int) = bif p i then L ((i + 1 : Nat) : Int) else some false) :
    ∀ k i : Nat, i + k = n → L (i : Int) = some (allB p i k) := by
  intro k
  induction k with
  | zero => intro i h; have : i = n := by omega
            subst this; exact hend
  | succ k ih =>
    intro i h
    rw [hstep i (by omega), ih (i + 1) (by omega), allB]
    cases p i <;> rfl
theorem loop_all0 {L : Int → Option Bool} (p : Nat → Bool) (n : Nat) (hend : L (n : Int) = some true) (hstep : ∀ i : Nat, i < n → L (i : Int) = bif p i then L ((i + 1 : Nat) : Int) else some false) : L 0 = some (allB p 0 n) :=
  loop_all L p n hend hstep n 0 (by omega)
def findB (p : Nat → Bool) : Nat → Nat → Int
  | _, 0 => -1
  | i, k + 1 => bif p i then (i : Int) else findB p (i + 1) k
theorem loop_find (L : Int → Option Int) (p : Nat → Bool) (n : Nat) (hend : L (n : Int) = some (-1)) (hstep : ∀ i : Nat, i < n → L (i : Int) = bif p i then some (i : Int) else L ((i + 1 : Nat) : Int)) :
    ∀ k i : Nat, i + k = n → L (i : Int) = some (findB p i k) := by
  intro k
  induction k with
  | zero => intro i h; have : i = n := by omega
            subst this; exact hend
  | succ k ih =>
    intro i h
    rw [hstep i (by omega), ih (i + 1) (by omega), findB]
    cases p i <;> rfl
theorem loop_find0 {L : Int → Option Int} (p : Nat → Bool) (n : Nat) (hend : L (n : Int) = some (-1)) (hstep : ∀ i : Nat, i < n → L (i : Int) = bif p i then some (i : Int) else L ((i + 1 : Nat) : Int)) : L 0 = some (findB p 0 n) :=
  loop_find L p n hend hstep n 0 (by omega)
theorem findB_spec (p : Nat → Bool) : ∀ k i, (findB p i k = -1 ∧ ∀ j, i ≤ j → j < i + k → p j = false) ∨ ∃ j : Nat, findB p i k = (j : Int) ∧ i ≤ j ∧ j < i + k ∧ p j = true ∧ ∀ q, i ≤ q → q < j → p q = false
  | 0, i => .inl ⟨rfl, fun j h1 h2 => by omega⟩
  | k + 1, i => by
    rw [findB]
    cases h : p i with
    | true => exact .inr ⟨i, rfl, Nat.le_refl _, by omega, h, fun q h1 h2 => by omega⟩
    | false =>
      rw [cond_false]
      rcases findB_spec p k (i + 1) with ⟨h1, h2⟩ | ⟨j, h1, h2, h3, h4, h5⟩
      · refine .inl ⟨h1, fun j h3 h4 => ?_⟩
        by_cases e : j = i
        · rw [e]; exact h
        · exact h2 j (by omega) (by omega)
      · refine .inr ⟨j, h1, by omega, by omega, h4, fun q h6 h7 => ?_⟩
        by_cases e : q = i
        · rw [e]; exact h
        · exact h5 q (by omega) (by omega)
theorem w64_pred (i : Nat) (h : 0 < i) (h' : i ≤ 1048576) : IntKind.wrap .i64 ((i : Int) - 1) = ((i - 1 : Nat) : Int) := by
  rw [w64 (by omega) (by omega)]; omega
def inR (n a b : Int) : Bool := decide (a ≤ n) && decide (n ≤ b)
theorem in_val (n a b : Int) : impl_within n a b = some (inR n a b) ∧ spec_l01In n a b = some (inR n a b) := ⟨within_val n a b, spec_in_val n a b⟩
theorem inR_iff {n a b : Int} : inR n a b = true ↔ a ≤ n ∧ n ≤ b := by simp [inR]
theorem take_drop0 {α : Type} (l : List α) (i : Nat) : (l.take (Int.toNat (i : Int))).drop (Int.toNat 0) = l.take i := by
  rw [Int.toNat_natCast, show (Int.toNat 0) = 0 from rfl, List.drop_zero]
theorem range_true (i n : Nat) (h : i ≤ n) : (decide (0 ≤ 0) && decide (0 ≤ (i : Int)) && decide ((i : Int) ≤ (n : Int))) = true := by simp; omega
theorem less2_val (a b c d : Int) : spec_l00Less [a, b] [c, d] = some (if a = c then decide (b < d) else decide (a < c)) := by
  rw [spec_l00Less_eq, spec_l00Less.l1010_eq, spec_l00Less.l1010_eq, spec_l00Less.l1010_eq]
  show (bif !decide (a = c) then some (decide (a < c)) else bif !decide (b = d) then some (decide (b < d)) else some false) = _
  by_cases h : a = c
  · by_cases h2 : b = d
    · simp [h, h2]
    · simp [h, h2]
  · simp [h]
def anyB (p : Nat → Bool) : Nat → Nat → Bool
  | _, 0 => false
  | i, k + 1 => bif p i then true else anyB p (i + 1) k
theorem anyB_iff (p : Nat → Bool) : ∀ k i, anyB p i k = true ↔ ∃ j, i ≤ j ∧ j < i + k ∧ p j = true
  | 0, i => by simp [anyB]; omega
  | k + 1, i => by
    rw [anyB, cond_ite]
    by_cases h : p i = true
    · rw [if_pos h]; simp only [true_iff]; exact ⟨i, Nat.le_refl _, by omega, h⟩
    · rw [if_neg h, anyB_iff p k (i + 1)]
      refine ⟨fun ⟨j, h1, h2, h3⟩ => ⟨j, by omega, by omega, h3⟩, fun ⟨j, h1, h2, h3⟩ => ⟨j, ?_, by omega, h3⟩⟩
      rcases Nat.lt_or_ge i j with h4 | h4
      · exact h4
      · have : j = i := by omega
        subst this; exact absurd h3 h
theorem loop_any {β : Type} (L : Int → Option β) (p : Nat → Bool) (n : Nat) (r : Option β) (hstep : ∀ i : Nat, i < n → L (i : Int) = bif p i then r else L ((i + 1 : Nat) : Int)) :
    ∀ k i : Nat, i + k = n → L (i : Int) = bif anyB p i k then r else L (n : Int) := by
  intro k
  induction k with
  | zero => intro i h; have : i = n := by omega
            subst this; rfl
  | succ k ih =>
    intro i h
    rw [hstep i (by omega), ih (i + 1) (by omega), anyB]
    cases p i <;> rfl
theorem loop_any0 {β : Type} {L : Int → Option β} (p : Nat → Bool) (n : Nat) (r : Option β) (hstep : ∀ i : Nat, i < n → L (i : Int) = bif p i then r else L ((i + 1 : Nat) : Int)) : L 0 = bif anyB p 0 n then r else L (n : Int) :=
  loop_any L p n r hstep n 0 (by omega)
theorem find_any (p : Nat → Bool) (n : Nat) : decide (findB p 0 n ≥ 0) = anyB p 0 n := by
  rcases findB_spec p n 0 with ⟨h1, h2⟩ | ⟨j, h1, h2, h3, h4, h5⟩
  · rw [h1]
    cases h : anyB p 0 n with
    | false => rfl
    | true => obtain ⟨j, h3, h4, h5⟩ := (anyB_iff p n 0).1 h; rw [h2 j h3 h4] at h5; cases h5
  · rw [h1, (anyB_iff p n 0).2 ⟨j, h2, h3, h4⟩]; simp
def mapB {α : Type} (f : Nat → α) : Nat → Nat → List α
  | _, 0 => []
  | i, k + 1 => f i :: mapB f (i + 1) k
theorem mapB_length {α : Type} (f : Nat → α) : ∀ k i, (mapB f i k).length = k
  | 0, _ => rfl
  | k + 1, i => by rw [mapB, List.length_cons, mapB_length f k]
theorem loop_map {α β : Type} (L : List α → Int → Option β) (f : Nat → α) (n A : Nat) (hstep : ∀ acc (i : Nat), i < n → acc.length = A + i → L acc (i : Int) = L (acc ++ [f i]) ((i + 1 : Nat) : Int)) :
    ∀ (k i : Nat) (acc : List α), i + k = n → acc.length = A + i → L acc (i : Int) = L (acc ++ mapB f i k) (n : Int) := by
  intro k
  induction k with
  | zero => intro i acc h _; have : i = n := by omega
            subst this; rw [mapB, List.append_nil]
  | succ k ih =>
    intro i acc h ha
    rw [hstep acc i (by omega) ha, ih (i + 1) _ (by omega) (by simp; omega), mapB, List.append_assoc]; rfl
theorem loop_map0 {α β : Type} {L : List α → Int → Option β} (f : Nat → α) (n : Nat) (acc : List α) (hstep : ∀ acc' (i : Nat), i < n → acc'.length = acc.length + i → L acc' (i : Int) = L (acc' ++ [f i]) ((i + 1 : Nat) : Int)) : L acc 0 = L (acc ++ mapB f 0 n) (n : Int) :=
  loop_map L f n acc.length hstep n 0 acc (by omega) (by omega)
def scanB (c : Nat → Int) : Nat → Nat → Int × Int
  | _, 0 => (0, 0)
  | i, k + 1 => if c i = 0 then scanB c (i + 1) k else ((i : Int), c i)
theorem loop_scan (L : Int → Option (Int × Int)) (c : Nat → Int) (n : Nat) (hstep : ∀ i : Nat, i < n → L (i : Int) = if c i = 0 then L ((i + 1 : Nat) : Int) else some ((i : Int), c i)) :
    ∀ k i : Nat, i + k = n → L (i : Int) = if (scanB c i k).2 = 0 then L (n : Int) else some (scanB c i k) := by
  intro k
  induction k with
  | zero => intro i h; have : i = n := by omega
            subst this; rfl
  | succ k ih =>
    intro i h
    rw [hstep i (by omega), ih (i + 1) (by omega), scanB]
    by_cases h : c i = 0
    · rw [if_pos h, if_pos h]
    · rw [if_neg h, if_neg h, if_neg h]
theorem loop_scan0 {L : Int → Option (Int × Int)} (c : Nat → Int) (n : Nat) (hstep : ∀ i : Nat, i < n → L (i : Int) = if c i = 0 then L ((i + 1 : Nat) : Int) else some ((i : Int), c i)) : L 0 = if (scanB c 0 n).2 = 0 then L (n : Int) else some (scanB c 0 n) :=
  loop_scan L c n hstep n 0 (by omega)
theorem scanB_zero (c : Nat → Int) : ∀ k i, (scanB c i k).2 = 0 ↔ ∀ j, i ≤ j → j < i + k → c j = 0
  | 0, i => by simp [scanB]; omega
  | k + 1, i => by
    rw [scanB]
    by_cases h : c i = 0
    · rw [if_pos h, scanB_zero c k (i + 1)]
      refine ⟨fun H j h1 h2 => ?_, fun H j h1 h2 => H j (by omega) (by omega)⟩
      by_cases e : j = i
      · rw [e]; exact h
      · exact H j (by omega) (by omega)
    · rw [if_neg h]
      exact ⟨fun H => absurd H h, fun H => absurd (H i (Nat.le_refl _) (by omega)) h⟩
abbrev TFun : Ty := .pair .str (.pair .bool (.pair (.int .i64) .str))
abbrev Fun : Type := ByteArray × Bool × Int × ByteArray
abbrev TDat : Ty := .pair .str .str
abbrev Dat : Type := ByteArray × ByteArray
abbrev TRel : Ty := .pair (.int .i64) (.pair (.int .i64) (.pair (.int .i64) (.pair .str (.int .i64))))
abbrev Rel : Type := Int × Int × Int × ByteArray × Int
abbrev TDcl : Ty := .pair (.int .i64) .bool
abbrev Dcl : Type := Int × Bool
abbrev Obj : Type := ByteArray × Int × List Fun × List Dat × List Rel × List Dcl
structure ObjSz (o : Obj) : Prop where
  f : o.2.2.1.length ≤ 4
  d : o.2.2.2.1.length ≤ 4
  r : o.2.2.2.2.1.length ≤ 32
  s : o.2.2.2.2.2.length ≤ 4
/-- The names of functions, then of data. -/
def namesV (o : Obj) : List ByteArray := mapB (fun i => (rd (τ := TFun) o.2.2.1 (i : Int)).1) 0 o.2.2.1.length ++ mapB (fun i => (rd (τ := TDat) o.2.2.2.1 (i : Int)).1) 0 o.2.2.2.1.length
def unitsV (o : Obj) : List Int := mapB (fun i => IntKind.wrap .i64 (((rd (τ := TFun) o.2.2.1 (i : Int)).2.2.2.size : Int).tdiv 4)) 0 o.2.2.1.length ++ mapB (fun i => IntKind.wrap .i64 (((rd (τ := TDat) o.2.2.2.1 (i : Int)).2.size : Int).tdiv 8)) 0 o.2.2.2.1.length
theorem room16 (n : Nat) (h : n ≤ 4096) : roomB n 16 = true := by simp [roomB]; omega
theorem room8 (n : Nat) (h : n ≤ 4096) : roomB n 8 = true := by simp [roomB]; omega
theorem names_val (o : Obj) (hz : ObjSz o) (u : Nat) (hu : u ≤ (namesV o).length) : impl_Object_names o (u : Int) = some ((namesV o).take u) := by
  obtain ⟨hf, hd, _, _⟩ := hz
  rw [impl_Object_names_eq]
  rw [loop_map0 (L := fun acc i => impl_Object_names.l11010 (u : Int) o acc o.2.2.1 (o.2.2.1.length : Int) i) (fun i => (rd (τ := TFun) o.2.2.1 (i : Int)).1) o.2.2.1.length [] fun acc i hi ha => ?_]
  · rw [impl_Object_names.l11010_eq, lt_nat, decide_eq_false (Nat.lt_irrefl _), cond_false, List.nil_append]
    rw [loop_map0 (L := fun acc i => impl_Object_names.l111010 (u : Int) acc o.2.2.2.1 (o.2.2.2.1.length : Int) i) (fun i => (rd (τ := TDat) o.2.2.2.1 (i : Int)).1) o.2.2.2.1.length (mapB (fun i => (rd (τ := TFun) o.2.2.1 (i : Int)).1) 0 o.2.2.1.length) fun acc i hi ha => ?_]
    · show impl_Object_names.l111010 (u : Int) (namesV o) o.2.2.2.1 (o.2.2.2.1.length : Int) (o.2.2.2.1.length : Int) = _
      rw [impl_Object_names.l111010_eq, lt_nat, decide_eq_false (Nat.lt_irrefl _), cond_false, range_true u _ hu, cond_true, take_drop0]
    · rw [mapB_length] at ha
      show impl_Object_names.l111010 (u : Int) acc o.2.2.2.1 (o.2.2.2.1.length : Int) (i : Int) = _
      rw [impl_Object_names.l111010_eq, lt_nat, inL_nat, decide_eq_true hi, w64_succ i _ hi (by omega), room16 _ (by simp; omega)]; rfl
  · show impl_Object_names.l11010 (u : Int) o acc o.2.2.1 (o.2.2.1.length : Int) (i : Int) = _
    rw [impl_Object_names.l11010_eq, lt_nat, inL_nat, decide_eq_true hi, w64_succ i _ hi (by omega), room16 _ (by simp at ha ⊢; omega)]; rfl
theorem units_val (o : Obj) (hz : ObjSz o) : impl_Object_units o = some (unitsV o) := by
  obtain ⟨hf, hd, _, _⟩ := hz
  rw [impl_Object_units_eq]
  rw [loop_map0 (L := fun acc i => impl_Object_units.l11010 o acc o.2.2.1 (o.2.2.1.length : Int) i) (fun i => IntKind.wrap .i64 (((rd (τ := TFun) o.2.2.1 (i : Int)).2.2.2.size : Int).tdiv 4)) o.2.2.1.length [] fun acc i hi ha => ?_]
  · rw [impl_Object_units.l11010_eq, lt_nat, decide_eq_false (Nat.lt_irrefl _), cond_false, List.nil_append]
    rw [loop_map0 (L := fun acc i => impl_Object_units.l111010 acc o.2.2.2.1 (o.2.2.2.1.length : Int) i) (fun i => IntKind.wrap .i64 (((rd (τ := TDat) o.2.2.2.1 (i : Int)).2.size : Int).tdiv 8)) o.2.2.2.1.length (mapB (fun i => IntKind.wrap .i64 (((rd (τ := TFun) o.2.2.1 (i : Int)).2.2.2.size : Int).tdiv 4)) 0 o.2.2.1.length) fun acc i hi ha => ?_]
    · rw [impl_Object_units.l111010_eq, lt_nat, decide_eq_false (Nat.lt_irrefl _), cond_false]; rfl
    · rw [mapB_length] at ha
      show impl_Object_units.l111010 acc o.2.2.2.1 (o.2.2.2.1.length : Int) (i : Int) = _
      rw [impl_Object_units.l111010_eq, lt_nat, inL_nat, decide_eq_true hi, w64_succ i _ hi (by omega), room8 _ (by simp; omega)]; rfl
  · show impl_Object_units.l11010 o acc o.2.2.1 (o.2.2.1.length : Int) (i : Int) = _
    rw [impl_Object_units.l11010_eq, lt_nat, inL_nat, decide_eq_true hi, w64_succ i _ hi (by omega), room8 _ (by simp at ha ⊢; omega)]; rfl
def hasS (l : List ByteArray) (n : ByteArray) : Bool := l.any fun y => decide (y = n)
theorem hasS_iff {l : List ByteArray} {n : ByteArray} : hasS l n = true ↔ n ∈ l := by simp [hasS]
theorem hasStr_val (l : List ByteArray) (n : ByteArray) (hl : l.length ≤ 4096) : slices_Contains_string l n = some (hasS l n) := by
  rw [slices_Contains_string_eq, slices_Index_string_eq, loop_find0 (L := slices_Index_string.l1010 l n (l.length : Int)) (fun i => decide (n = rd (τ := .str) l (i : Int))) l.length ?_ fun i hi => ?_]
  · simp only [Option.bind_some]
    rw [find_any]
    congr 1
    rw [Bool.eq_iff_iff, anyB_iff, hasS_iff, List.mem_iff_getElem]
    refine ⟨fun ⟨j, h1, h2, h3⟩ => ⟨j, by omega, ?_⟩, fun ⟨j, h1, h2⟩ => ⟨j, by omega, by omega, ?_⟩⟩
    · rw [decide_eq_true_iff, rd_nat (τ := .str) l j (by omega)] at h3; exact h3.symm
    · rw [decide_eq_true_iff, rd_nat (τ := .str) l j h1]; exact h2.symm
  · rw [slices_Index_string.l1010_eq, lt_nat]; simp
  · rw [slices_Index_string.l1010_eq, lt_nat, inL_nat, decide_eq_true hi, w64_succ i _ hi (by omega), strEq_dec]; rfl
theorem mapB_mem {α : Type} (f : Nat → α) (x : α) : ∀ k i, x ∈ mapB f i k ↔ ∃ j, i ≤ j ∧ j < i + k ∧ f j = x
  | 0, i => by simp [mapB]; omega
  | k + 1, i => by
    rw [mapB, List.mem_cons, mapB_mem f x k (i + 1)]
    constructor
    · rintro (h | ⟨j, h1, h2, h3⟩)
      · exact ⟨i, Nat.le_refl _, by omega, h.symm⟩
      · exact ⟨j, by omega, by omega, h3⟩
    · rintro ⟨j, h1, h2, h3⟩
      by_cases e : j = i
      · subst e; exact .inl h3.symm
      · exact .inr ⟨j, by omega, by omega, h3⟩
theorem mapB_take {α : Type} (f : Nat → α) : ∀ k i n, (mapB f i k).take n = mapB f i (min n k)
  | 0, i, n => by simp [mapB]
  | k + 1, i, 0 => by simp [mapB]
  | k + 1, i, n + 1 => by rw [mapB, List.take_succ_cons, mapB_take f k (i + 1) n, Nat.add_min_add_right, mapB]
theorem names_take_f (o : Obj) (i : Nat) (hi : i ≤ o.2.2.1.length) : (namesV o).take i = mapB (fun i => (rd (τ := TFun) o.2.2.1 (i : Int)).1) 0 i := by
  unfold namesV
  rw [List.take_append_of_le_length (by rw [mapB_length]; exact hi), mapB_take, Nat.min_eq_left hi]
theorem names_take_d (o : Obj) (i : Nat) (hi : i ≤ o.2.2.2.1.length) : (namesV o).take (o.2.2.1.length + i) = mapB (fun i => (rd (τ := TFun) o.2.2.1 (i : Int)).1) 0 o.2.2.1.length ++ mapB (fun i => (rd (τ := TDat) o.2.2.2.1 (i : Int)).1) 0 i := by
  unfold namesV
  rw [List.take_append, mapB_length, List.take_of_length_le (by rw [mapB_length]; omega), mapB_take, show o.2.2.1.length + i - o.2.2.1.length = i by omega, Nat.min_eq_left hi]
theorem names_len (o : Obj) : (namesV o).length = o.2.2.1.length + o.2.2.2.1.length := by unfold namesV; rw [List.length_append, mapB_length, mapB_length]
theorem hasS_mapB (f : Nat → ByteArray) (n : ByteArray) (k : Nat) : hasS (mapB f 0 k) n = anyB (fun j => decide (f j = n)) 0 k := by
  rw [Bool.eq_iff_iff, hasS_iff, mapB_mem, anyB_iff]; simp
theorem hasS_app (a b : List ByteArray) (n : ByteArray) : hasS (a ++ b) n = (hasS a n || hasS b n) := by simp [hasS]
theorem scanB_none (c : Nat → Int) : ∀ k i, (scanB c i k).2 = 0 → scanB c i k = (0, 0)
  | 0, _, _ => rfl
  | k + 1, i, h => by
    rw [scanB] at h ⊢
    by_cases e : c i = 0
    · rw [if_pos e] at h ⊢; exact scanB_none c k (i + 1) h
    · rw [if_neg e] at h; exact absurd h e
theorem scan_end (c : Nat → Int) (i k : Nat) : (if (scanB c i k).2 = 0 then some ((0, 0) : Int × Int) else some (scanB c i k)) = some (scanB c i k) := by
  by_cases h : (scanB c i k).2 = 0
  · rw [if_pos h, scanB_none c k i h]
  · rw [if_neg h]
/-- What is wrong with a function, with data. -/
noncomputable def funC (o : Obj) (i : Nat) : Int :=
  if nameV (rd (τ := TFun) o.2.2.1 (i : Int)).1 = false then 3 else if hasS ((namesV o).take i) (rd (τ := TFun) o.2.2.1 (i : Int)).1 = true then 24
  else if frameV (rd (τ := TFun) o.2.2.1 (i : Int)).2.2.1 = false then 17 else if funcSizeV (rd (τ := TFun) o.2.2.1 (i : Int)).2.2.2.size = false then 8 else 0
def datSz (n : Nat) : Bool := inR (n : Int) 8 64 && decide ((n : Int).tmod 8 = 0)
noncomputable def datC (o : Obj) (i : Nat) : Int :=
  if nameV (rd (τ := TDat) o.2.2.2.1 (i : Int)).1 = false then 3 else if hasS ((namesV o).take (o.2.2.1.length + i)) (rd (τ := TDat) o.2.2.2.1 (i : Int)).1 = true then 24
  else if datSz (rd (τ := TDat) o.2.2.2.1 (i : Int)).2.size = false then 8 else 0
theorem lintName_val (o : Obj) (hz : ObjSz o) (n : ByteArray) (u : Nat) (hu : u ≤ (namesV o).length) : impl_Object_lintName o n (u : Int) = some (if nameV n = false then 3 else if hasS ((namesV o).take u) n = true then 24 else 0) := by
  have := hz.f; have := hz.d; have := names_len o
  rw [impl_Object_lintName_eq, (name_val _).1, names_val o hz u hu]
  simp only [Option.bind_some]
  rw [hasStr_val _ _ (by simp; omega)]
  cases nameV n <;> cases hasS ((namesV o).take u) n <;> rfl
theorem code_val (t : ByteArray) : spec_l08Code t = some (funcSizeV t.size) := by
  rw [spec_l08Code_eq]
  unfold funcSizeV codeSizeV
  cases decide ((t.size : Int).tmod 4 = 0) <;> cases decide ((t.size : Int) ≥ 20) <;> cases decide ((t.size : Int) ≤ 256) <;> rfl
theorem impl_funs (o : Obj) (hz : ObjSz o) : impl_LintObject.l11010 o o.2.2.1 (o.2.2.1.length : Int) 0 = if (scanB (funC o) 0 o.2.2.1.length).2 = 0 then impl_LintObject.l111010 o o.2.2.2.1 (o.2.2.2.1.length : Int) 0 else some (scanB (funC o) 0 o.2.2.1.length) := by
  have := hz.f
  rw [loop_scan0 (L := impl_LintObject.l11010 o o.2.2.1 (o.2.2.1.length : Int)) (funC o) o.2.2.1.length fun i hi => ?_]
  · rw [impl_LintObject.l11010_eq, lt_nat, decide_eq_false (Nat.lt_irrefl _), cond_false]
  · rw [impl_LintObject.l11010_eq, lt_nat, inL_nat, decide_eq_true hi, w64_succ i _ hi (by omega), lintName_val o hz _ i (by rw [names_len]; omega), (frame_val _).1, funcSize_val]
    unfold funC
    simp only [cond_true, Option.bind_some]
    cases nameV (rd (τ := TFun) o.2.2.1 (i : Int)).1 with
    | false => rfl
    | true =>
      cases hasS ((namesV o).take i) (rd (τ := TFun) o.2.2.1 (i : Int)).1 with
      | true => rfl
      | false => cases frameV (rd (τ := TFun) o.2.2.1 (i : Int)).2.2.1 <;> cases funcSizeV (rd (τ := TFun) o.2.2.1 (i : Int)).2.2.2.size <;> rfl
theorem impl_dats (o : Obj) (hz : ObjSz o) : impl_LintObject.l111010 o o.2.2.2.1 (o.2.2.2.1.length : Int) 0 = if (scanB (datC o) 0 o.2.2.2.1.length).2 = 0 then impl_LintObject.l1111010 o (o.2.2.2.2.1.length : Int) 0 else some (scanB (datC o) 0 o.2.2.2.1.length) := by
  have h1 := hz.f
  have h2 := hz.d
  rw [loop_scan0 (L := impl_LintObject.l111010 o o.2.2.2.1 (o.2.2.2.1.length : Int)) (datC o) o.2.2.2.1.length fun i hi => ?_]
  · rw [impl_LintObject.l111010_eq, lt_nat, decide_eq_false (Nat.lt_irrefl _), cond_false]
  · rw [impl_LintObject.l111010_eq, lt_nat, inL_nat, decide_eq_true hi, w64_succ i _ hi (by omega), w64 (n := (o.2.2.1.length : Int) + (i : Int)) (by omega) (by omega), ← Int.natCast_add, lintName_val o hz _ (o.2.2.1.length + i) (by rw [names_len]; omega), (in_val _ _ _).1]
    unfold datC datSz
    simp only [cond_true, Option.bind_some]
    cases nameV (rd (τ := TDat) o.2.2.2.1 (i : Int)).1 with
    | false => rfl
    | true =>
      cases hasS ((namesV o).take (o.2.2.1.length + i)) (rd (τ := TDat) o.2.2.2.1 (i : Int)).1 with
      | true => rfl
      | false => cases inR ((rd (τ := TDat) o.2.2.2.1 (i : Int)).2.size : Int) 8 64 <;> cases decide (((rd (τ := TDat) o.2.2.2.1 (i : Int)).2.size : Int).tmod 8 = 0) <;> rfl
theorem spec_funs (o : Obj) (hz : ObjSz o) : spec_l08Funcs o = some (scanB (funC o) 0 o.2.2.1.length) := by
  have h1 := hz.f
  rw [spec_l08Funcs_eq, loop_scan0 (L := spec_l08Funcs.l1010 o) (funC o) o.2.2.1.length fun i hi => ?_]
  · rw [spec_l08Funcs.l1010_eq, lt_nat, decide_eq_false (Nat.lt_irrefl _), cond_false]
    exact scan_end _ _ _
  · rw [spec_l08Funcs.l1010_eq, lt_nat, inL_nat, decide_eq_true hi, (name_val _).2]
    unfold funC
    simp only [cond_true, Option.bind_some]
    cases nameV (rd (τ := TFun) o.2.2.1 (i : Int)).1 with
    | false => rfl
    | true =>
      rw [show (!true) = false from rfl, cond_false, loop_any0 (L := spec_l08Funcs.l1010010011010 o (i : Int) (rd (τ := TFun) o.2.2.1 (i : Int))) (fun j => decide ((rd (τ := TFun) o.2.2.1 (j : Int)).1 = (rd (τ := TFun) o.2.2.1 (i : Int)).1)) i (some ((i : Int), 24)) fun j hj => ?_]
      · rw [names_take_f o i (by omega), hasS_mapB]
        cases anyB (fun j => decide ((rd (τ := TFun) o.2.2.1 (j : Int)).1 = (rd (τ := TFun) o.2.2.1 (i : Int)).1)) 0 i with
        | true => rfl
        | false =>
          rw [spec_l08Funcs.l1010010011010_eq, lt_nat, decide_eq_false (Nat.lt_irrefl _), cond_false, cond_false, (frame_val _).2, code_val, w64_succ i _ hi (by omega)]
          simp only [Option.bind_some]
          cases frameV (rd (τ := TFun) o.2.2.1 (i : Int)).2.2.1 <;> cases funcSizeV (rd (τ := TFun) o.2.2.1 (i : Int)).2.2.2.size <;> rfl
      · rw [spec_l08Funcs.l1010010011010_eq, lt_nat, inL_nat, decide_eq_true hj, decide_eq_true (show j < o.2.2.1.length by omega), w64_succ j _ hj (by omega), strEq_dec]; rfl
theorem spec_dats (o : Obj) (hz : ObjSz o) : spec_l08Datas o = some (scanB (datC o) 0 o.2.2.2.1.length) := by
  have h1 := hz.f
  have h2 := hz.d
  rw [spec_l08Datas_eq, loop_scan0 (L := spec_l08Datas.l1010 o) (datC o) o.2.2.2.1.length fun i hi => ?_]
  · rw [spec_l08Datas.l1010_eq, lt_nat, decide_eq_false (Nat.lt_irrefl _), cond_false]
    exact scan_end _ _ _
  · rw [spec_l08Datas.l1010_eq, lt_nat, inL_nat, decide_eq_true hi, (name_val _).2]
    unfold datC datSz
    simp only [cond_true, Option.bind_some]
    cases nameV (rd (τ := TDat) o.2.2.2.1 (i : Int)).1 with
    | false => rfl
    | true =>
      rw [show (!true) = false from rfl, cond_false, loop_any0 (L := spec_l08Datas.l1010010011010 o (i : Int) (rd (τ := TDat) o.2.2.2.1 (i : Int))) (fun j => decide ((rd (τ := TFun) o.2.2.1 (j : Int)).1 = (rd (τ := TDat) o.2.2.2.1 (i : Int)).1)) o.2.2.1.length (some ((i : Int), 24)) fun j hj => ?_]
      · rw [names_take_d o i (by omega), hasS_app, hasS_mapB, hasS_mapB]
        cases anyB (fun j => decide ((rd (τ := TFun) o.2.2.1 (j : Int)).1 = (rd (τ := TDat) o.2.2.2.1 (i : Int)).1)) 0 o.2.2.1.length with
        | true => rfl
        | false =>
          rw [spec_l08Datas.l1010010011010_eq, lt_nat, decide_eq_false (Nat.lt_irrefl _), cond_false, cond_false, loop_any0 (L := spec_l08Datas.l10100100111010 o (i : Int) (rd (τ := TDat) o.2.2.2.1 (i : Int))) (fun j => decide ((rd (τ := TDat) o.2.2.2.1 (j : Int)).1 = (rd (τ := TDat) o.2.2.2.1 (i : Int)).1)) i (some ((i : Int), 24)) fun j hj => ?_]
          · cases anyB (fun j => decide ((rd (τ := TDat) o.2.2.2.1 (j : Int)).1 = (rd (τ := TDat) o.2.2.2.1 (i : Int)).1)) 0 i with
            | true => rfl
            | false =>
              rw [spec_l08Datas.l10100100111010_eq, lt_nat, decide_eq_false (Nat.lt_irrefl _), cond_false, cond_false, w64_succ i _ hi (by omega)]
              unfold inR
              generalize (rd (τ := TDat) o.2.2.2.1 (i : Int)).2.size = n
              rw [show decide ((n : Int) < 8) = !decide (8 ≤ (n : Int)) by rw [← decide_not]; congr 1; apply propext; omega, show decide ((n : Int) > 64) = !decide ((n : Int) ≤ 64) by rw [← decide_not]; congr 1; apply propext; omega]
              cases decide ((n : Int).tmod 8 = 0) <;> cases decide (8 ≤ (n : Int)) <;> cases decide ((n : Int) ≤ 64) <;> rfl
          · rw [spec_l08Datas.l10100100111010_eq, lt_nat, inL_nat, decide_eq_true hj, decide_eq_true (show j < o.2.2.2.1.length by omega), w64_succ j _ hj (by omega), strEq_dec]; rfl
      · rw [spec_l08Datas.l1010010011010_eq, lt_nat, inL_nat, decide_eq_true hj, w64_succ j _ hj (by omega), strEq_dec]; rfl
def lessR (a b c d : Int) : Bool := if a = c then decide (b < d) else decide (a < c)
def unitV (o : Obj) (u : Int) : Int :=
  if 0 ≤ u ∧ u < (o.2.2.1.length : Int) then ((rd (τ := TFun) o.2.2.1 u).2.2.2.size : Int).tdiv 4
  else if (o.2.2.1.length : Int) ≤ u ∧ u < (o.2.2.1.length : Int) + (o.2.2.2.1.length : Int) then ((rd (τ := TDat) o.2.2.2.1 (u - (o.2.2.1.length : Int))).2.size : Int).tdiv 8 else -1
structure UnitSz (o : Obj) : Prop extends ObjSz o where
  fs : ∀ i, i < o.2.2.1.length → (rd (τ := TFun) o.2.2.1 (i : Int)).2.2.2.size ≤ 256
  ds : ∀ i, i < o.2.2.2.1.length → (rd (τ := TDat) o.2.2.2.1 (i : Int)).2.size ≤ 64
theorem mapB_get {α : Type} (f : Nat → α) : ∀ k i j (h : j < (mapB f i k).length), (mapB f i k)[j] = f (i + j)
  | 0, _, _, h => by simp [mapB] at h
  | k + 1, i, 0, _ => by simp [mapB]
  | k + 1, i, j + 1, h => by
    have := mapB_get f k (i + 1) j (by rw [mapB_length] at h ⊢; omega)
    simp only [mapB, List.getElem_cons_succ]
    rw [this]; congr 1; omega
theorem wdiv (n k : Nat) (h : n ≤ 4096) : IntKind.wrap .i64 ((n : Int).tdiv (k : Int)) = (n : Int).tdiv (k : Int) := by
  rw [Int.tdiv_eq_ediv_of_nonneg (by omega)]
  have h1 : 0 ≤ (n : Int) / (k : Int) := Int.ediv_nonneg (by omega) (by omega)
  have h2 : (n : Int) / (k : Int) ≤ (n : Int) := Int.ediv_le_self _ (by omega)
  exact w64 (by omega) (by omega)
theorem units_len (o : Obj) : (unitsV o).length = o.2.2.1.length + o.2.2.2.1.length := by unfold unitsV; rw [List.length_append, mapB_length, mapB_length]
theorem units_rd (o : Obj) (hz : UnitSz o) (u : Nat) (hu : u < o.2.2.1.length + o.2.2.2.1.length) : rd (τ := .int .i64) (unitsV o) (u : Int) = unitV o (u : Int) := by
  unfold unitV
  have hl := units_len o
  rw [rd_nat (τ := .int .i64) (unitsV o) u (by omega)]
  by_cases h : u < o.2.2.1.length
  · rw [if_pos ⟨by omega, by omega⟩]
    have : (unitsV o)[u]'(by omega) = IntKind.wrap .i64 (((rd (τ := TFun) o.2.2.1 ((0 + u : Nat) : Int)).2.2.2.size : Int).tdiv 4) := by
      unfold unitsV
      rw [List.getElem_append_left (by rw [mapB_length]; exact h), mapB_get]
    rw [this, Nat.zero_add]
    exact wdiv _ 4 (by have := hz.fs u h; omega)
  · rw [if_neg (by omega), if_pos ⟨by omega, by omega⟩]
    have : (unitsV o)[u]'(by omega) = IntKind.wrap .i64 (((rd (τ := TDat) o.2.2.2.1 ((0 + (u - (mapB (fun i => IntKind.wrap .i64 (((rd (τ := TFun) o.2.2.1 (i : Int)).2.2.2.size : Int).tdiv 4)) 0 o.2.2.1.length).length) : Nat) : Int)).2.size : Int).tdiv 8) := by
      unfold unitsV
      rw [List.getElem_append_right (by rw [mapB_length]; omega), mapB_get]
    rw [mapB_length] at this
    rw [this, Nat.zero_add, show (u : Int) - (o.2.2.1.length : Int) = ((u - o.2.2.1.length : Nat) : Int) by omega]
    exact wdiv _ 8 (by have := hz.ds (u - o.2.2.1.length) (by omega); omega)
theorem unitV_range (o : Obj) (hz : UnitSz o) (u : Int) : -1 ≤ unitV o u ∧ unitV o u ≤ 256 := by
  unfold unitV
  split
  · rename_i h
    have := hz.fs u.toNat (by omega)
    rw [show ((u.toNat : Nat) : Int) = u by omega] at this
    rw [Int.tdiv_eq_ediv_of_nonneg (by omega)]
    omega
  · split
    · rename_i h
      have := hz.ds (u - (o.2.2.1.length : Int)).toNat (by omega)
      rw [show (((u - (o.2.2.1.length : Int)).toNat : Nat) : Int) = u - (o.2.2.1.length : Int) by omega] at this
      rw [Int.tdiv_eq_ediv_of_nonneg (by omega)]
      omega
    · omega
theorem spec_unit (o : Obj) (hz : UnitSz o) (u : Int) (hu : -9223372036854775808 ≤ u ∧ u ≤ 9223372036854775807) : spec_l08Unit o u = some (unitV o u) := by
  rw [spec_l08Unit_eq]
  have h1 := hz.f
  have h2 := hz.d
  unfold unitV
  by_cases h : 0 ≤ u ∧ u < (o.2.2.1.length : Int)
  · have e1 : decide (u ≥ 0) = true := decide_eq_true h.1
    have e2 : decide (u < (o.2.2.1.length : Int)) = true := decide_eq_true h.2
    simp only [joinB, e1, e2, cond_true, inL_true h.1 h.2, if_pos h]
    have := hz.fs u.toNat (by omega)
    rw [show ((u.toNat : Nat) : Int) = u by omega] at this
    rw [show (4 : Int) = ((4 : Nat) : Int) from rfl, wdiv _ 4 (by omega)]
  · have e0 : (decide (u ≥ 0) && decide (u < (o.2.2.1.length : Int))) = false := by simp; omega
    simp only [joinB, if_neg h]
    generalize decide (u ≥ 0) = b0 at *
    generalize decide (u < (o.2.2.1.length : Int)) = b1 at *
    by_cases h3 : (o.2.2.1.length : Int) ≤ u
    · rw [decide_eq_true (show u ≥ (o.2.2.1.length : Int) from h3), w64 (n := u - (o.2.2.1.length : Int)) (by omega) (by omega)]
      by_cases h4 : u < (o.2.2.1.length : Int) + (o.2.2.2.1.length : Int)
      · rw [if_pos ⟨h3, h4⟩, decide_eq_true (show u - (o.2.2.1.length : Int) < (o.2.2.2.1.length : Int) by omega), inL_true (i := u - (o.2.2.1.length : Int)) (n := o.2.2.2.1.length) (by omega) (by omega)]
        have := hz.ds (u - (o.2.2.1.length : Int)).toNat (by omega)
        rw [show (((u - (o.2.2.1.length : Int)).toNat : Nat) : Int) = u - (o.2.2.1.length : Int) by omega] at this
        rw [show (8 : Int) = ((8 : Nat) : Int) from rfl, wdiv _ 8 (by omega)]
        cases b0 <;> cases b1 <;> first | rfl | (exact absurd e0 (by decide))
      · rw [if_neg (by omega), decide_eq_false (show ¬ u - (o.2.2.1.length : Int) < (o.2.2.2.1.length : Int) by omega)]
        cases b0 <;> cases b1 <;> first | rfl | (exact absurd e0 (by decide))
    · rw [decide_eq_false (show ¬ u ≥ (o.2.2.1.length : Int) from h3), if_neg (by omega)]
      cases b0 <;> cases b1 <;> first | rfl | (exact absurd e0 (by decide))
def I64 (n : Int) : Prop := -9223372036854775808 ≤ n ∧ n ≤ 9223372036854775807
def RelsR (o : Obj) : Prop := ∀ k, k < o.2.2.2.2.1.length → I64 (rd (τ := TRel) o.2.2.2.2.1 (k : Int)).1
def relAt (o : Obj) (r : Rel) : Bool := inR r.1 0 ((o.2.2.1.length : Int) + (o.2.2.2.1.length : Int) - 1) && inR r.2.1 0 (unitV o r.1 - 1)
noncomputable def relC (o : Obj) (k : Nat) : Int :=
  if relAt o (rd (τ := TRel) o.2.2.2.2.1 (k : Int)) = false then 4
  else if (inR (rd (τ := TRel) o.2.2.2.2.1 (k : Int)).2.2.1 1 9 && (decide ((rd (τ := TRel) o.2.2.2.2.1 (k : Int)).2.2.1 = 9) == decide ((rd (τ := TRel) o.2.2.2.2.1 (k : Int)).1 ≥ (o.2.2.1.length : Int)))) = false then 26
  else if nameV (rd (τ := TRel) o.2.2.2.2.1 (k : Int)).2.2.2.1 = false then 3
  else if inR (rd (τ := TRel) o.2.2.2.2.1 (k : Int)).2.2.2.2 (-2147483648) 2147483647 = false then 4
  else if k = 0 then 0
  else if lessR (rd (τ := TRel) o.2.2.2.2.1 ((k - 1 : Nat) : Int)).1 (rd (τ := TRel) o.2.2.2.2.1 ((k - 1 : Nat) : Int)).2.1 (rd (τ := TRel) o.2.2.2.2.1 (k : Int)).1 (rd (τ := TRel) o.2.2.2.2.1 (k : Int)).2.1 = false then 24 else 0
theorem lessR_impl (pu pa u a : Int) : (bif decide (u < pu) then some (24 : Int) else bif decide (u = pu) then bif decide (a ≤ pa) then some 24 else some 0 else some 0) = some (if lessR pu pa u a = false then 24 else 0) := by
  rcases Int.lt_trichotomy u pu with h | h | h
  · rw [decide_eq_true h, show lessR pu pa u a = false by unfold lessR; rw [if_neg (show ¬ pu = u by omega)]; exact decide_eq_false (by omega)]; rfl
  · subst h
    rw [decide_eq_false (by omega), decide_eq_true rfl, cond_false, cond_true]
    have : lessR u pa u a = decide (pa < a) := by unfold lessR; rw [if_pos rfl]
    rw [this]
    by_cases h : a ≤ pa
    · rw [decide_eq_true h, decide_eq_false (show ¬ pa < a by omega)]; rfl
    · rw [decide_eq_false h, decide_eq_true (show pa < a by omega)]; rfl
  · rw [decide_eq_false (by omega), decide_eq_false (by omega), show lessR pu pa u a = true by unfold lessR; rw [if_neg (show ¬ pu = u by omega)]; exact decide_eq_true (by omega)]; rfl
theorem relAt_impl (o : Obj) (hz : UnitSz o) (r : Rel) {β : Type} (K : Bool → Option β) :
    ((impl_within r.1 0 (IntKind.wrap .i64 (((unitsV o).length : Int) - 1))).bind fun r2 => bif (!r2) then K true else (bif (inL r.1 (unitsV o).length) then ((impl_within r.2.1 0 (IntKind.wrap .i64 ((rd (τ := .int .i64) (unitsV o) r.1) - 1))).bind fun r3 => K (!r3)) else none)) = K (!relAt o r) := by
  have h1 := hz.f
  have h2 := hz.d
  rw [units_len, w64 (n := ((o.2.2.1.length + o.2.2.2.1.length : Nat) : Int) - 1) (by omega) (by omega), (in_val _ _ _).1, (in_val _ _ _).1]
  simp only [Option.bind_some]
  unfold relAt
  rw [Int.natCast_add]
  by_cases h : 0 ≤ r.1 ∧ r.1 ≤ (o.2.2.1.length : Int) + (o.2.2.2.1.length : Int) - 1
  · rw [inR_iff.2 h, inL_true (by omega) (by omega)]
    have hu := units_rd o hz r.1.toNat (by omega)
    rw [show ((r.1.toNat : Nat) : Int) = r.1 by omega] at hu
    have hr := unitV_range o hz r.1
    simp only [Bool.not_true, cond_false, cond_true, Bool.true_and]
    rw [hu, w64 (n := unitV o r.1 - 1) (by omega) (by omega)]
  · rw [show inR r.1 0 ((o.2.2.1.length : Int) + (o.2.2.2.1.length : Int) - 1) = false by cases h5 : inR r.1 0 ((o.2.2.1.length : Int) + (o.2.2.2.1.length : Int) - 1); rfl; exact absurd (inR_iff.1 h5) h]; rfl
theorem relAt_spec (o : Obj) (hz : UnitSz o) (r : Rel) (hr : I64 r.1) {β : Type} (K : Bool → Option β) :
    (bif decide (r.2.1 < 0) then K true else ((spec_l08Unit o r.1).bind fun r1 => K (decide (r.2.1 ≥ r1)))) = K (!relAt o r) := by
  rw [spec_unit o hz _ hr]
  simp only [Option.bind_some]
  have h1 := hz.f
  have h2 := hz.d
  have e : (decide (r.2.1 < 0) || decide (r.2.1 ≥ unitV o r.1)) = !relAt o r := by
    unfold relAt
    rw [Bool.eq_iff_iff]
    simp only [Bool.or_eq_true, decide_eq_true_eq, Bool.not_eq_true', Bool.and_eq_false_imp, inR_iff]
    constructor
    · intro h h3
      cases h4 : inR r.2.1 0 (unitV o r.1 - 1) with
      | false => rfl
      | true => rw [inR_iff] at h4; omega
    · intro h
      by_cases h3 : 0 ≤ r.1 ∧ r.1 ≤ (o.2.2.1.length : Int) + (o.2.2.2.1.length : Int) - 1
      · have := h h3
        by_cases h4 : 0 ≤ r.2.1 ∧ r.2.1 ≤ unitV o r.1 - 1
        · rw [inR_iff.2 h4] at this; cases this
        · omega
      · have : unitV o r.1 = -1 := by unfold unitV; rw [if_neg (by omega), if_neg (by omega)]
        omega
  rw [← e]
  cases decide (r.2.1 < 0) <;> rfl
theorem impl_rels (o : Obj) (hz : UnitSz o) : impl_LintObject.l1111010 o (o.2.2.2.2.1.length : Int) 0 = if (scanB (relC o) 0 o.2.2.2.2.1.length).2 = 0 then impl_LintObject.l11111010 o o.2.2.2.2.2 (o.2.2.2.2.2.length : Int) 0 else some (scanB (relC o) 0 o.2.2.2.2.1.length) := by
  have h3 := hz.r
  rw [loop_scan0 (L := impl_LintObject.l1111010 o (o.2.2.2.2.1.length : Int)) (relC o) o.2.2.2.2.1.length fun i hi => ?_]
  · rw [impl_LintObject.l1111010_eq, lt_nat, decide_eq_false (Nat.lt_irrefl _), cond_false]
  · have e : impl_Object_lintReloc o (i : Int) = some (relC o i) := by
      rw [impl_Object_lintReloc_eq, inL_nat, decide_eq_true hi, cond_true, units_val o hz.toObjSz]
      simp only [Option.bind_some, joinB]
      rw [relAt_impl o hz (rd (τ := TRel) o.2.2.2.2.1 (i : Int)) (fun r5 => bif r5 then some 4 else _)]
      unfold relC
      generalize hrel : relAt o (rd (τ := TRel) o.2.2.2.2.1 (i : Int)) = ra
      rw [(in_val _ _ _).1, (in_val _ _ _).1, (name_val _).1]
      simp only [Option.bind_some]
      cases ra with
      | false => rfl
      | true =>
        generalize inR (rd (τ := TRel) o.2.2.2.2.1 (i : Int)).2.2.1 1 9 = b1
        generalize (decide ((rd (τ := TRel) o.2.2.2.2.1 (i : Int)).2.2.1 = 9) == decide ((rd (τ := TRel) o.2.2.2.2.1 (i : Int)).1 ≥ (o.2.2.1.length : Int))) = b2
        cases b1 with
        | false => rfl
        | true =>
          cases b2 with
          | false => rfl
          | true =>
            generalize nameV (rd (τ := TRel) o.2.2.2.2.1 (i : Int)).2.2.2.1 = b3
            generalize inR (rd (τ := TRel) o.2.2.2.2.1 (i : Int)).2.2.2.2 (-2147483648) 2147483647 = b4
            cases b3 with
            | false => rfl
            | true =>
              cases b4 with
              | false => rfl
              | true =>
                by_cases h0 : i = 0
                · rw [show decide ((i : Int) > 0) = false by simp [h0], if_pos h0]; rfl
                · rw [show decide ((i : Int) > 0) = true by simp; omega, if_neg h0, w64_pred i (by omega) (by omega), inL_nat, decide_eq_true (show i - 1 < o.2.2.2.2.1.length by omega), lessR_impl]; rfl
    rw [impl_LintObject.l1111010_eq, lt_nat, decide_eq_true hi, w64_succ i _ hi (by omega), e]
    simp only [Option.bind_some, cond_true]
    by_cases h : relC o i = 0
    · rw [if_pos h, decide_eq_true h]; rfl
    · rw [if_neg h, decide_eq_false h]; rfl
theorem spec_rels (o : Obj) (hz : UnitSz o) (hr : RelsR o) : spec_l08Relocs o = some (scanB (relC o) 0 o.2.2.2.2.1.length) := by
  have h3 := hz.r
  rw [spec_l08Relocs_eq, loop_scan0 (L := spec_l08Relocs.l1010 o) (relC o) o.2.2.2.2.1.length fun i hi => ?_]
  · rw [spec_l08Relocs.l1010_eq, lt_nat, decide_eq_false (Nat.lt_irrefl _), cond_false]
    exact scan_end _ _ _
  · rw [spec_l08Relocs.l1010_eq, lt_nat, inL_nat, decide_eq_true hi, cond_true, cond_true]
    simp only [joinB]
    rw [relAt_spec o hz (rd (τ := TRel) o.2.2.2.2.1 (i : Int)) (hr i hi) (fun r5 => bif r5 then some ((i : Int), 4) else _)]
    unfold relC
    generalize hrel : relAt o (rd (τ := TRel) o.2.2.2.2.1 (i : Int)) = ra
    rw [(in_val _ _ _).2, (in_val _ _ _).2, (name_val _).2, w64_succ i _ hi (by omega)]
    simp only [Option.bind_some]
    cases ra with
    | false => rfl
    | true =>
      generalize inR (rd (τ := TRel) o.2.2.2.2.1 (i : Int)).2.2.1 1 9 = b1
      generalize (decide ((rd (τ := TRel) o.2.2.2.2.1 (i : Int)).2.2.1 = 9) == decide ((rd (τ := TRel) o.2.2.2.2.1 (i : Int)).1 ≥ (o.2.2.1.length : Int))) = b2
      cases b1 with
      | false => rfl
      | true =>
        cases b2 with
        | false => rfl
        | true =>
          generalize nameV (rd (τ := TRel) o.2.2.2.2.1 (i : Int)).2.2.2.1 = b3
          generalize inR (rd (τ := TRel) o.2.2.2.2.1 (i : Int)).2.2.2.2 (-2147483648) 2147483647 = b4
          cases b3 with
          | false => rfl
          | true =>
            cases b4 with
            | false => rfl
            | true =>
              by_cases h0 : i = 0
              · rw [show decide ((i : Int) > 0) = false by simp [h0], if_pos h0]; rfl
              · rw [show decide ((i : Int) > 0) = true by simp; omega, if_neg h0, w64_pred i (by omega) (by omega), inL_nat, decide_eq_true (show i - 1 < o.2.2.2.2.1.length by omega), less2_val]
                unfold lessR
                simp only [Option.bind_some, cond_true, Bool.not_true, cond_false, Bool.and_self]
                generalize (if (rd (τ := TRel) o.2.2.2.2.1 ((i - 1 : Nat) : Int)).1 = (rd (τ := TRel) o.2.2.2.2.1 (i : Int)).1 then decide ((rd (τ := TRel) o.2.2.2.2.1 ((i - 1 : Nat) : Int)).2.1 < (rd (τ := TRel) o.2.2.2.2.1 (i : Int)).2.1) else decide ((rd (τ := TRel) o.2.2.2.2.1 ((i - 1 : Nat) : Int)).1 < (rd (τ := TRel) o.2.2.2.2.1 (i : Int)).1)) = b5
                cases b5 <;> rfl
def dclC (o : Obj) (k : Nat) : Int :=
  if inR (rd (τ := TDcl) o.2.2.2.2.2 (k : Int)).1 0 255 = false then 4 else if k = 0 then 0
  else if decide ((rd (τ := TDcl) o.2.2.2.2.2 (k : Int)).1 ≤ (rd (τ := TDcl) o.2.2.2.2.2 ((k - 1 : Nat) : Int)).1) = true then 24 else 0
theorem impl_dcls (o : Obj) (hz : ObjSz o) : impl_LintObject.l11111010 o o.2.2.2.2.2 (o.2.2.2.2.2.length : Int) 0 = some (scanB (dclC o) 0 o.2.2.2.2.2.length) := by
  have h3 := hz.s
  rw [loop_scan0 (L := impl_LintObject.l11111010 o o.2.2.2.2.2 (o.2.2.2.2.2.length : Int)) (dclC o) o.2.2.2.2.2.length fun i hi => ?_]
  · rw [impl_LintObject.l11111010_eq, lt_nat, decide_eq_false (Nat.lt_irrefl _), cond_false]
    exact scan_end _ _ _
  · rw [impl_LintObject.l11111010_eq, lt_nat, inL_nat, decide_eq_true hi, w64_succ i _ hi (by omega), (in_val _ _ _).1]
    unfold dclC
    simp only [Option.bind_some, cond_true]
    by_cases h0 : i = 0
    · rw [show decide ((i : Int) > 0) = false by simp [h0], if_pos h0]
      cases inR (rd (τ := TDcl) o.2.2.2.2.2 (i : Int)).1 0 255 <;> rfl
    · rw [show decide ((i : Int) > 0) = true by simp; omega, if_neg h0, w64_pred i (by omega) (by omega), inL_nat, decide_eq_true (show i - 1 < o.2.2.2.2.2.length by omega)]
      cases inR (rd (τ := TDcl) o.2.2.2.2.2 (i : Int)).1 0 255 <;> cases decide ((rd (τ := TDcl) o.2.2.2.2.2 (i : Int)).1 ≤ (rd (τ := TDcl) o.2.2.2.2.2 ((i - 1 : Nat) : Int)).1) <;> rfl
theorem spec_dcls (o : Obj) (hz : ObjSz o) : spec_l08Decls o = some (scanB (dclC o) 0 o.2.2.2.2.2.length) := by
  have h3 := hz.s
  rw [spec_l08Decls_eq, loop_scan0 (L := spec_l08Decls.l1010 o) (dclC o) o.2.2.2.2.2.length fun i hi => ?_]
  · rw [spec_l08Decls.l1010_eq, lt_nat, decide_eq_false (Nat.lt_irrefl _), cond_false]
    exact scan_end _ _ _
  · rw [spec_l08Decls.l1010_eq, lt_nat, inL_nat, decide_eq_true hi, w64_succ i _ hi (by omega), (in_val _ _ _).2]
    unfold dclC
    simp only [Option.bind_some, cond_true]
    by_cases h0 : i = 0
    · rw [show decide ((i : Int) > 0) = false by simp [h0], if_pos h0]
      cases inR (rd (τ := TDcl) o.2.2.2.2.2 (i : Int)).1 0 255 <;> rfl
    · rw [show decide ((i : Int) > 0) = true by simp; omega, if_neg h0, w64_pred i (by omega) (by omega), inL_nat, decide_eq_true (show i - 1 < o.2.2.2.2.2.length by omega)]
      cases inR (rd (τ := TDcl) o.2.2.2.2.2 (i : Int)).1 0 255 <;> cases decide ((rd (τ := TDcl) o.2.2.2.2.2 (i : Int)).1 ≤ (rd (τ := TDcl) o.2.2.2.2.2 ((i - 1 : Nat) : Int)).1) <;> rfl
/-- What the check of an object comes to. -/
noncomputable def lintO (o : Obj) : Int × Int :=
  if nameV o.1 = false then (0, 3) else if inR o.2.1 0 5 = false then (0, 27) else if o.2.2.1.length = 0 then (0, 5)
  else if ¬ (o.2.2.1.length ≤ 4 ∧ o.2.2.2.1.length ≤ 4 ∧ o.2.2.2.2.1.length ≤ 32 ∧ o.2.2.2.2.2.length ≤ 4) then (0, 6)
  else if (scanB (funC o) 0 o.2.2.1.length).2 ≠ 0 then scanB (funC o) 0 o.2.2.1.length
  else if (scanB (datC o) 0 o.2.2.2.1.length).2 ≠ 0 then scanB (datC o) 0 o.2.2.2.1.length
  else if (scanB (relC o) 0 o.2.2.2.2.1.length).2 ≠ 0 then scanB (relC o) 0 o.2.2.2.2.1.length
  else scanB (dclC o) 0 o.2.2.2.2.2.length
theorem funSz_range {n : Nat} (h : funcSizeV n = true) : n ≤ 256 := by
  unfold funcSizeV at h
  cases h1 : codeSizeV n with
  | false => rw [h1] at h; cases h
  | true => exact (codeSizeV_range h1).2
theorem funC_zero {o : Obj} {i : Nat} (h : funC o i = 0) : nameV (rd (τ := TFun) o.2.2.1 (i : Int)).1 = true ∧ hasS ((namesV o).take i) (rd (τ := TFun) o.2.2.1 (i : Int)).1 = false ∧ frameV (rd (τ := TFun) o.2.2.1 (i : Int)).2.2.1 = true ∧ funcSizeV (rd (τ := TFun) o.2.2.1 (i : Int)).2.2.2.size = true := by
  unfold funC at h
  cases h1 : nameV (rd (τ := TFun) o.2.2.1 (i : Int)).1 <;> cases h2 : hasS ((namesV o).take i) (rd (τ := TFun) o.2.2.1 (i : Int)).1 <;> cases h3 : frameV (rd (τ := TFun) o.2.2.1 (i : Int)).2.2.1 <;> cases h4 : funcSizeV (rd (τ := TFun) o.2.2.1 (i : Int)).2.2.2.size <;> simp [h1, h2, h3, h4] at h ⊢
theorem datC_zero {o : Obj} {i : Nat} (h : datC o i = 0) : nameV (rd (τ := TDat) o.2.2.2.1 (i : Int)).1 = true ∧ hasS ((namesV o).take (o.2.2.1.length + i)) (rd (τ := TDat) o.2.2.2.1 (i : Int)).1 = false ∧ datSz (rd (τ := TDat) o.2.2.2.1 (i : Int)).2.size = true := by
  unfold datC at h
  cases h1 : nameV (rd (τ := TDat) o.2.2.2.1 (i : Int)).1 <;> cases h2 : hasS ((namesV o).take (o.2.2.1.length + i)) (rd (τ := TDat) o.2.2.2.1 (i : Int)).1 <;> cases h4 : datSz (rd (τ := TDat) o.2.2.2.1 (i : Int)).2.size <;> simp [h1, h2, h4] at h ⊢
theorem datSz_range {n : Nat} (h : datSz n = true) : 8 ≤ n ∧ n ≤ 64 ∧ n % 8 = 0 := by
  unfold datSz at h
  rw [Bool.and_eq_true, inR_iff, decide_eq_true_eq, Int.tmod_eq_emod_of_nonneg (by omega)] at h
  omega
theorem unitSz_of {o : Obj} (hz : ObjSz o) (h1 : (scanB (funC o) 0 o.2.2.1.length).2 = 0) (h2 : (scanB (datC o) 0 o.2.2.2.1.length).2 = 0) : UnitSz o :=
  ⟨hz, fun i hi => funSz_range (funC_zero ((scanB_zero _ _ _).1 h1 i (Nat.zero_le _) (by omega))).2.2.2, fun i hi => (datSz_range (datC_zero ((scanB_zero _ _ _).1 h2 i (Nat.zero_le _) (by omega))).2.2).2.1⟩
theorem lintO_val (o : Obj) (hr : RelsR o) : impl_LintObject o = some (lintO o) ∧ spec_l08Lint o = some (lintO o) := by
  rw [impl_LintObject_eq, spec_l08Lint_eq, (name_val _).1, (name_val _).2, (in_val _ _ _).1, (in_val _ _ _).2]
  unfold lintO
  simp only [Option.bind_some, joinB]
  cases nameV o.1 with
  | false => exact ⟨rfl, rfl⟩
  | true =>
    cases inR o.2.1 0 5 with
    | false => exact ⟨rfl, rfl⟩
    | true =>
      by_cases h0 : o.2.2.1.length = 0
      · rw [if_pos h0, decide_eq_true (show (o.2.2.1.length : Int) = 0 by omega)]; exact ⟨rfl, rfl⟩
      rw [if_neg h0, decide_eq_false (show ¬ (o.2.2.1.length : Int) = 0 by omega)]
      rcases Classical.em (o.2.2.1.length ≤ 4 ∧ o.2.2.2.1.length ≤ 4 ∧ o.2.2.2.2.1.length ≤ 32 ∧ o.2.2.2.2.2.length ≤ 4) with hz | hz
      · rw [if_neg (not_not_intro hz), decide_eq_false (show ¬ (o.2.2.1.length : Int) > 4 by omega), decide_eq_false (show ¬ (o.2.2.2.1.length : Int) > 4 by omega), decide_eq_false (show ¬ (o.2.2.2.2.1.length : Int) > 32 by omega), decide_eq_false (show ¬ (o.2.2.2.2.2.length : Int) > 4 by omega)]
        have hz' : ObjSz o := ⟨hz.1, hz.2.1, hz.2.2.1, hz.2.2.2⟩
        simp only [Bool.not_true, cond_false]
        rw [impl_funs o hz', spec_funs o hz']
        simp only [Option.bind_some]
        by_cases h1 : (scanB (funC o) 0 o.2.2.1.length).2 = 0
        · rw [if_pos h1, if_neg (not_not_intro h1), decide_eq_true h1, impl_dats o hz', spec_dats o hz']
          simp only [Option.bind_some, Bool.not_true, cond_false]
          by_cases h2 : (scanB (datC o) 0 o.2.2.2.1.length).2 = 0
          · have hu := unitSz_of hz' h1 h2
            rw [if_pos h2, if_neg (not_not_intro h2), decide_eq_true h2, impl_rels o hu, spec_rels o hu hr]
            simp only [Option.bind_some, Bool.not_true, cond_false]
            by_cases h3 : (scanB (relC o) 0 o.2.2.2.2.1.length).2 = 0
            · rw [if_pos h3, if_neg (not_not_intro h3), decide_eq_true h3, impl_dcls o hz', spec_dcls o hz']; exact ⟨rfl, rfl⟩
            · rw [if_neg h3, if_pos h3, decide_eq_false h3]; exact ⟨rfl, rfl⟩
          · rw [if_neg h2, if_pos h2, decide_eq_false h2]; exact ⟨rfl, rfl⟩
        · rw [if_neg h1, if_pos h1, decide_eq_false h1]; exact ⟨rfl, rfl⟩
      · rw [if_pos hz]
        have e : (decide ((o.2.2.1.length : Int) > 4) || decide ((o.2.2.2.1.length : Int) > 4) || decide ((o.2.2.2.2.1.length : Int) > 32) || decide ((o.2.2.2.2.2.length : Int) > 4)) = true := by simp; omega
        generalize decide ((o.2.2.1.length : Int) > 4) = b1 at *
        generalize decide ((o.2.2.2.1.length : Int) > 4) = b2 at *
        generalize decide ((o.2.2.2.2.1.length : Int) > 32) = b3 at *
        generalize decide ((o.2.2.2.2.2.length : Int) > 4) = b4 at *
        cases b1 <;> cases b2 <;> cases b3 <;> cases b4 <;> first | exact ⟨rfl, rfl⟩ | (exact absurd e (by decide))
noncomputable def objV (o : Obj) : Bool := decide ((lintO o).2 = 0)
theorem object_val (o : Obj) (hr : RelsR o) : impl_ObjectOK o = some (objV o) ∧ spec_ObjectOK o = some (objV o) := by
  rw [impl_ObjectOK_eq, spec_ObjectOK_eq, (lintO_val o hr).1, (lintO_val o hr).2]; exact ⟨rfl, rfl⟩
structure ObjOK (o : Obj) : Prop extends UnitSz o where
  depth : 0 ≤ o.2.1 ∧ o.2.1 ≤ 5
  pos : 0 < o.2.2.1.length
  fun_ : ∀ i, i < o.2.2.1.length → funC o i = 0
  dat : ∀ i, i < o.2.2.2.1.length → datC o i = 0
  rel : ∀ i, i < o.2.2.2.2.1.length → relC o i = 0
theorem objOK_of {o : Obj} (h : objV o = true) : ObjOK o := by
  unfold objV at h
  rw [decide_eq_true_eq] at h
  unfold lintO at h
  split at h
  · cases h
  split at h
  · cases h
  rename_i hn hd
  split at h
  · cases h
  split at h
  · cases h
  rename_i h0 hz
  have hz := Classical.not_not.1 hz
  split at h
  · rename_i h1; exact absurd h h1
  split at h
  · rename_i h2; exact absurd h h2
  split at h
  · rename_i h3; exact absurd h h3
  rename_i h1 h2 h3
  have h1 := Classical.not_not.1 h1
  have h2 := Classical.not_not.1 h2
  have h3 := Classical.not_not.1 h3
  have hz' : ObjSz o := ⟨hz.1, hz.2.1, hz.2.2.1, hz.2.2.2⟩
  have hd : inR o.2.1 0 5 = true := by cases h4 : inR o.2.1 0 5; exact absurd h4 hd; rfl
  exact ⟨unitSz_of hz' h1 h2, inR_iff.1 hd, by omega, fun i hi => (scanB_zero _ _ _).1 h1 i (Nat.zero_le _) (by omega), fun i hi => (scanB_zero _ _ _).1 h2 i (Nat.zero_le _) (by omega), fun i hi => (scanB_zero _ _ _).1 h3 i (Nat.zero_le _) (by omega)⟩
def dsz (o : Obj) (i : Nat) : Nat := (rd (τ := TDat) o.2.2.2.1 (i : Int)).2.size
theorem ObjOK.dsz_pos {o : Obj} (h : ObjOK o) (i : Nat) (hi : i < o.2.2.2.1.length) : 8 ≤ dsz o i ∧ dsz o i ≤ 64 ∧ dsz o i % 8 = 0 := datSz_range (datC_zero (h.dat i hi)).2.2
theorem byte_of (v : Int) (i : Nat) (hi : i < 8) : (v % 18446744073709551616) / 2 ^ (8 * i) % 256 = v / 2 ^ (8 * i) % 256 := by
  match i, hi with
  | 0, _ => omega
  | 1, _ => omega
  | 2, _ => omega
  | 3, _ => omega
  | 4, _ => omega
  | 5, _ => omega
  | 6, _ => omega
  | 7, _ => omega
theorem room1 (n : Nat) (h : n ≤ 4096) : roomB n 1 = true := by simp [roomB]; omega
theorem spec_little_loop (v : Int) (n : Nat) (hn : n ≤ 8) : ∀ (k i : Nat) (xs : List Int), i + k = n → xs.length = i → spec_l01Little.l11010 v (n : Int) xs (i : Int) = some (bytesOf (xs ++ leB (v / 2 ^ (8 * i)) k)) := by
  intro k
  induction k with
  | zero =>
    intro i xs h hx
    have : i = n := by omega
    subst this
    rw [spec_l01Little.l11010_eq, lt_nat, decide_eq_false (Nat.lt_irrefl _), cond_false, leB, List.append_nil]
  | succ k ih =>
    intro i xs h hx
    rw [spec_l01Little.l11010_eq, lt_nat, decide_eq_true (show i < n by omega), w64 (n := 8 * (i : Int)) (by omega) (by omega), wu64 (n := 8 * (i : Int)) (by omega) (by omega), decide_eq_false (show ¬ 8 * (i : Int) < 0 by omega), w64_succ i n (by omega) (by omega), wrap_u64, shr_div_u (by omega) (by omega), wrap_u8, room1 _ (by simp; omega), ih (i + 1) _ (by omega) (by simp; omega), leB, List.append_assoc]
    have e1 : (8 * (i : Int)).toNat = 8 * i := by omega
    rw [e1, byte_of v i (by omega)]
    have e2 : v / 2 ^ (8 * i) / 256 = v / 2 ^ (8 * (i + 1)) := by
      rw [Int.ediv_ediv_of_nonneg (Int.pow_nonneg (by decide))]
      congr 1
      rw [show 8 * (i + 1) = 8 * i + 8 by omega, Int.pow_add]; rfl
    rw [e2]; rfl
theorem spec_little (v : Int) (n : Nat) (hn : n ≤ 8) : spec_l01Little v (n : Int) = some (bytesOf (leB v n)) := by
  rw [spec_l01Little_eq]
  have := spec_little_loop v n hn n 0 [] (by omega) rfl
  simpa using this
structure RelR (o : Obj) (r : Rel) : Prop where
  at_ : relAt o r = true
  kind : 1 ≤ r.2.2.1 ∧ r.2.2.1 ≤ 9
  word : r.2.2.1 = 9 ↔ (o.2.2.1.length : Int) ≤ r.1
  add : -2147483648 ≤ r.2.2.2.2 ∧ r.2.2.2.2 ≤ 2147483647
theorem relC_zero {o : Obj} {k : Nat} (h : relC o k = 0) : RelR o (rd (τ := TRel) o.2.2.2.2.1 (k : Int)) := by
  unfold relC at h
  generalize rd (τ := TRel) o.2.2.2.2.1 (k : Int) = r at *
  split at h
  · cases h
  split at h
  · cases h
  split at h
  · cases h
  split at h
  · cases h
  rename_i h1 h2 h3 h4
  have h2 : (inR r.2.2.1 1 9 && (decide (r.2.2.1 = 9) == decide (r.1 ≥ (o.2.2.1.length : Int)))) = true := by
    cases h5 : (inR r.2.2.1 1 9 && (decide (r.2.2.1 = 9) == decide (r.1 ≥ (o.2.2.1.length : Int)))); exact absurd h5 h2; rfl
  rw [Bool.and_eq_true, inR_iff] at h2
  refine ⟨?_, h2.1, ?_, ?_⟩
  · cases h5 : relAt o r; exact absurd h5 h1; rfl
  · have := h2.2
    rw [beq_iff_eq, decide_eq_decide] at this
    exact this
  · rw [← inR_iff]
    cases h5 : inR r.2.2.2.2 (-2147483648) 2147483647; exact absurd h5 h4; rfl
theorem RelR.data {o : Obj} {r : Rel} (ho : ObjOK o) (h : RelR o r) (hu : (o.2.2.1.length : Int) ≤ r.1) : ∃ k j : Nat, r.1 - (o.2.2.1.length : Int) = (k : Int) ∧ k < o.2.2.2.1.length ∧ r.2.1 = (j : Int) ∧ 8 * j + 8 ≤ dsz o k := by
  have h1 := h.at_
  unfold relAt at h1
  rw [Bool.and_eq_true, inR_iff, inR_iff] at h1
  refine ⟨(r.1 - (o.2.2.1.length : Int)).toNat, r.2.1.toNat, by omega, by omega, by omega, ?_⟩
  have hv : unitV o r.1 = ((dsz o (r.1 - (o.2.2.1.length : Int)).toNat : Nat) : Int) / 8 := by
    unfold unitV
    rw [if_neg (by omega), if_pos ⟨hu, by omega⟩, Int.tdiv_eq_ediv_of_nonneg (by omega)]
    unfold dsz
    rw [show (((r.1 - (o.2.2.1.length : Int)).toNat : Nat) : Int) = r.1 - (o.2.2.1.length : Int) by omega]
  have := ho.dsz_pos (r.1 - (o.2.2.1.length : Int)).toNat (by omega)
  omega
theorem right_facts {x : Ins} (h : rightV x = true) : (1 ≤ x.1 ∧ x.1 ≤ 64) ∧ RegsOK x ∧ ((fieldsV (shp x.1).1).1 = false → x.2.1 = 0) ∧ ((fieldsV (shp x.1).1).2.1 = false → x.2.2.1 = 0) ∧ ((fieldsV (shp x.1).1).2.2 = false → x.2.2.2.1 = 0) ∧ immR (shp x.1).1 x.2.2.2.2 = true := by
  simp only [rightV, Bool.and_eq_true, Bool.or_eq_true, decide_eq_true_eq] at h
  obtain ⟨⟨⟨⟨⟨⟨⟨⟨⟨⟨⟨h1, h2⟩, h3⟩, h4⟩, h5⟩, h6⟩, h7⟩, h8⟩, a⟩, b⟩, c⟩, d⟩ := h
  have hf := shp_form (n := x.1) h1 h2
  refine ⟨⟨h1, h2⟩, ⟨⟨h3, h4⟩, ⟨h5, h6⟩, ⟨h7, h8⟩, ?_⟩, fun e => ?_, fun e => ?_, fun e => ?_, d⟩
  · generalize (shp x.1).1 = f at d hf
    rcases forms hf with rfl | rfl | rfl | rfl | rfl | rfl | rfl | rfl | rfl <;> simp [immR] at d <;> omega
  · simpa [e] using a
  · simpa [e] using b
  · simpa [e] using c
theorem bt_append (a b : ByteArray) (i : Nat) : bt (a ++ b) (i : Int) = if i < a.size then bt a (i : Int) else bt b ((i - a.size : Nat) : Int) := by
  rw [bt_nat, bt_nat, bt_nat]
  have hs : a.size = a.data.size := rfl
  rw [ByteArray.data_append, Array.getD_eq_getD_getElem?, Array.getD_eq_getD_getElem?, Array.getD_eq_getD_getElem?, Array.getElem?_append, hs]
  split <;> rfl
theorem bt_extract (t : ByteArray) (s e i : Nat) (h : s + i < e) (he : e ≤ t.size) : bt (t.extract s e) (i : Int) = bt t ((s + i : Nat) : Int) := by
  rw [bt_nat, bt_nat]
  have hs : t.size = t.data.size := rfl
  rw [ByteArray.data_extract, Array.getD_eq_getD_getElem?, Array.getD_eq_getD_getElem?, Array.getElem?_extract, if_pos (by omega)]
theorem bt_ext {a b : ByteArray} (hs : a.size = b.size) (h : ∀ i : Nat, i < a.size → bt a (i : Int) = bt b (i : Int)) : a = b := by
  apply byte_ext hs
  intro i hi
  have := h i hi
  rw [bt_nat, bt_nat] at this
  exact UInt8.toNat_inj.1 (by omega)
/-- The pages of an area. -/
def arL (b p : Int) (n : Nat) : List (Int × Int) := mapB (fun i => (b + 128 * (i : Int), p)) 0 n
def L1 : List (Int × Int) := arL 4096 4 8
def L2 : List (Int × Int) := L1 ++ arL 8192 4 8
def L3 : List (Int × Int) := L2 ++ arL 16384 3 2
def L4 : List (Int × Int) := L3 ++ arL 20480 3 2
def L5 : List (Int × Int) := L4 ++ arL 32768 11 4
def bOK (L : List (Int × Int)) (m : Int) : Bool := decide (L.length ≤ 64) && L.all fun q => decide (0 ≤ q.1) && decide (q.1 ≤ 1048575) && decide (q.1 < m)
theorem b1 : bOK L1 8192 = true := by decide
theorem b2 : bOK L2 16384 = true := by decide
theorem b3 : bOK L3 20480 = true := by decide
theorem b4 : bOK L4 32768 = true := by decide
theorem b5 : bOK L5 33792 = true := by decide
theorem rd_mem_list {τ : Ty} (l : List τ.den) (i : Nat) (h : i < l.length) : rd (τ := τ) l (i : Int) ∈ l := by rw [rd_nat l i h]; exact List.getElem_mem h
theorem mem_rd {τ : Ty} {l : List τ.den} {x : τ.den} (h : x ∈ l) : ∃ i : Nat, i < l.length ∧ rd (τ := τ) l (i : Int) = x := by
  obtain ⟨i, hi, e⟩ := List.mem_iff_getElem.1 h
  exact ⟨i, hi, by rw [rd_nat l i hi]; exact e⟩
theorem rd_app1 {τ : Ty} (A B : List τ.den) (k : Nat) (h : k < A.length) : rd (τ := τ) (A ++ B) (k : Int) = rd (τ := τ) A (k : Int) := by
  rw [rd_nat (τ := τ) (A ++ B) k (by rw [List.length_append]; omega), rd_nat (τ := τ) A k h, List.getElem_append_left h]
theorem equal_gen {L : Int → Option Bool} {n m : Nat} (p : Nat → Bool) (hend : n = m → L (n : Int) = some true) (hstep : n = m → ∀ i : Nat, i < n → L (i : Int) = bif p i then L ((i + 1 : Nat) : Int) else some false) :
    (bif (!decide ((n : Int) = (m : Int))) then some false else L 0) = some (decide (n = m) && allB p 0 n) := by
  by_cases h : n = m
  · rw [decide_eq_true (show (n : Int) = (m : Int) by omega), decide_eq_true h, loop_all0 p n (hend h) (hstep h)]; rfl
  · rw [decide_eq_false (show ¬ (n : Int) = (m : Int) by omega), decide_eq_false h]; rfl
def wordL (x : Ins) : List Int := leB (encV (shp x.1) x) 4
def codeL : List Ins → List Int
  | [] => []
  | x :: l => wordL x ++ codeL l
def codeOf (l : List Ins) : ByteArray := bytesOf (codeL l)
theorem wordL_length (x : Ins) : (wordL x).length = 4 := leB_length 4 _
theorem codeL_length : ∀ l : List Ins, (codeL l).length = 4 * l.length
  | [] => rfl
  | x :: l => by rw [codeL, List.length_append, wordL_length, codeL_length l, List.length_cons]; omega
theorem codeOf_size (l : List Ins) : (codeOf l).size = 4 * l.length := by rw [codeOf, bytesOf_size, codeL_length]
theorem codeL_append : ∀ a b : List Ins, codeL (a ++ b) = codeL a ++ codeL b
  | [], _ => rfl
  | x :: a, b => by rw [List.cons_append, codeL, codeL, codeL_append a b, List.append_assoc]
theorem bytesOf_append (xs ys : List Int) : bytesOf (xs ++ ys) = bytesOf xs ++ bytesOf ys := by
  apply ByteArray.ext
  rw [ByteArray.data_append]
  simp [bytesOf]
theorem codeOf_append (a b : List Ins) : codeOf (a ++ b) = codeOf a ++ codeOf b := by rw [codeOf, codeL_append, bytesOf_append]; rfl
/-- What the reference encodes, right or not. -/
def EncR (x : Ins) : Prop := (1 ≤ x.1 ∧ x.1 ≤ 64) ∧ RegsOK x ∧ ((shp x.1).1 = 1 → x.2.2.2.2 % 4096 = 0)
theorem EncR.right {x : Ins} (h : rightV x = true) : EncR x := by
  obtain ⟨h1, hr, _, _, _, hi⟩ := right_facts h
  refine ⟨h1, hr, fun e => ?_⟩
  rw [e] at hi
  simp [immR] at hi
  exact hi.2
theorem spec_words_loop (l : List Ins) (hl : l.length ≤ 1000) (hr : ∀ x ∈ l, EncR x) : ∀ (b a : List Ins), l = a ++ b → spec_l06Words.l11010 l (codeOf a) (a.length : Int) = some (codeOf l) := by
  intro b
  induction b with
  | nil =>
    intro a e
    rw [List.append_nil] at e
    subst e
    rw [spec_l06Words.l11010_eq, lt_nat, decide_eq_false (Nat.lt_irrefl _), cond_false]
  | cons x b ih =>
    intro a e
    have hlen : l.length = a.length + (b.length + 1) := by rw [e]; simp
    obtain ⟨h1, hrg, hu⟩ := hr x (by rw [e]; simp)
    have hrd : rd (τ := TIns) l (a.length : Int) = x := by rw [rd_nat _ _ (by omega)]; simp [e]
    rw [spec_l06Words.l11010_eq, lt_nat, decide_eq_true (show a.length < l.length by omega), inL_nat, decide_eq_true (show a.length < l.length by omega), hrd, w64_succ a.length l.length (by omega) (by omega)]
    simp only [cond_true]
    rw [spec_encode_val x h1.1 h1.2 hrg hu]
    simp only [Option.bind_some]
    have hp : spec_l01Little (encV (shp x.1) x) 4 = some (bytesOf (wordL x)) := spec_little _ 4 (by decide)
    rw [hp]
    simp only [Option.bind_some]
    rw [decide_eq_true (show (codeOf a).size + (bytesOf (wordL x)).size ≤ 9223372036854775807 by rw [codeOf_size, bytesOf_size, wordL_length]; omega), cond_true]
    have h2 := ih (a ++ [x]) (by rw [e]; simp)
    have h3 : codeOf (a ++ [x]) = codeOf a ++ bytesOf (wordL x) := by rw [codeOf_append]; simp [codeOf, codeL]
    rw [List.length_append, List.length_singleton, h3] at h2
    exact h2
theorem spec_words (l : List Ins) (hl : l.length ≤ 1000) (hr : ∀ x ∈ l, EncR x) : spec_l06Words l = some (codeOf l) := by
  rw [spec_l06Words_eq]
  exact spec_words_loop l hl hr l [] rfl
abbrev Src : Type := List Int × Int × Int
/-- A source from which K bytes may still be drawn. -/
structure SrcOK (K : Nat) (s : Src) : Prop where
  b : ∀ x ∈ s.1, 0 ≤ x ∧ x ≤ 255
  n : s.1.length ≤ 1048576
  a0 : 0 ≤ s.2.1
  a1 : s.2.1 + (K : Int) ≤ 4611686018427387904
  s0 : 0 ≤ s.2.2
  s1 : s.2.2 < 2147483648
theorem SrcOK.mono {K K' : Nat} {s : Src} (h : SrcOK K s) (hk : K' ≤ K) : SrcOK K' s := ⟨h.b, h.n, h.a0, by have := h.a1; omega, h.s0, h.s1⟩
theorem byte_ok {K : Nat} {s : Src} (h : SrcOK (K + 1) s) : ∃ (v : Int) (t : Src), spec_l00Src_byte s = some (v, t) ∧ 0 ≤ v ∧ v ≤ 255 ∧ SrcOK K t := by
  obtain ⟨c, a, d⟩ := s
  obtain ⟨hb, hn, ha, ha', hs, hs'⟩ := h
  simp only at hb hn ha ha' hs hs'
  rw [spec_l00Src_byte_eq]
  simp only
  rw [w64 (n := a + 1) (by omega) (by omega), w64 (n := a + 1 - 1) (by omega) (by omega), show a + 1 - 1 = a by omega]
  by_cases hi : a + 1 ≤ (c.length : Int)
  · rw [decide_eq_true hi, inL_true ha (by omega)]
    simp only [cond_true]
    obtain ⟨k, rfl⟩ : ∃ k : Nat, a = k := ⟨a.toNat, by omega⟩
    rw [rd_nat (τ := .int .u8) c k (by omega)]
    have hc := hb (c[k]'(by omega)) (List.getElem_mem _)
    generalize (c[k]'(by omega) : Int) = x at *
    rw [w64 (n := x) (by omega) (by omega), w64 (n := d * 31) (by omega) (by omega), w64 (n := d * 31 + x) (by omega) (by omega), w64 (n := d * 31 + x + 7) (by omega) (by omega)]
    refine ⟨_, _, rfl, hc.1, hc.2, ⟨hb, hn, by simp only; omega, by simp only; omega, ?_, ?_⟩⟩
    · simp only; rw [Int.tmod_eq_emod_of_nonneg (by omega)]; omega
    · simp only; rw [Int.tmod_eq_emod_of_nonneg (by omega)]; omega
  · rw [decide_eq_false hi]
    simp only [cond_false]
    by_cases hj : a + 1 > 3000
    · rw [decide_eq_true hj]
      exact ⟨_, _, rfl, by omega, by omega, ⟨hb, hn, by simp only; omega, by simp only; omega, hs, hs'⟩⟩
    · rw [decide_eq_false hj, w64 (n := d * 1103515245) (by omega) (by omega), w64 (n := d * 1103515245 + 12345) (by omega) (by omega)]
      simp only [cond_false]
      have h0 : 0 ≤ (d * 1103515245 + 12345).tmod 2147483648 ∧ (d * 1103515245 + 12345).tmod 2147483648 < 2147483648 := by
        rw [Int.tmod_eq_emod_of_nonneg (by omega)]; omega
      generalize (d * 1103515245 + 12345).tmod 2147483648 = e at *
      have h1 : 0 ≤ e.tdiv 65536 ∧ e.tdiv 65536 < 32768 := by rw [Int.tdiv_eq_ediv_of_nonneg h0.1]; omega
      rw [w64 (n := e.tdiv 65536) (by omega) (by omega)]
      have h2 : 0 ≤ (e.tdiv 65536).tmod 256 ∧ (e.tdiv 65536).tmod 256 ≤ 255 := by rw [Int.tmod_eq_emod_of_nonneg h1.1]; omega
      exact ⟨_, _, rfl, h2.1, h2.2, ⟨hb, hn, by simp only; omega, by simp only; omega, h0.1, h0.2⟩⟩
theorem next_ok {K : Nat} {s : Src} (h : SrcOK (K + 3) s) (n : Int) : ∃ (v : Int) (t : Src), spec_l00Src_next s n = some (v, t) ∧ 0 ≤ v ∧ (1 ≤ n → v < n) ∧ (n ≤ 1 → v = 0) ∧ SrcOK K t := by
  rw [spec_l00Src_next_eq]
  by_cases h1 : n ≤ 1
  · rw [decide_eq_true h1]
    exact ⟨0, s, rfl, by omega, by omega, fun _ => rfl, h.mono (by omega)⟩
  · rw [decide_eq_false h1]
    simp only [cond_false]
    by_cases h2 : n ≤ 256
    · obtain ⟨v, t, e, v0, v1, ht⟩ := byte_ok (h.mono (show K + 1 ≤ K + 3 by omega))
      rw [decide_eq_true h2, e, decide_eq_false (show ¬ n = 0 by omega)]
      simp only [cond_true, cond_false, Option.bind_some]
      refine ⟨_, t, rfl, ?_, fun _ => ?_, fun h => absurd h h1, ht⟩ <;> rw [Int.tmod_eq_emod_of_nonneg v0]
      · exact Int.emod_nonneg _ (by omega)
      · exact Int.emod_lt_of_pos _ (by omega)
    · obtain ⟨v, t, e, v0, v1, ht⟩ := byte_ok (h.mono (show K + 2 + 1 ≤ K + 3 by omega))
      obtain ⟨v', t', e', v0', v1', ht'⟩ := byte_ok (ht.mono (show K + 1 + 1 ≤ K + 2 by omega))
      obtain ⟨v'', t'', e'', v0'', v1'', ht''⟩ := byte_ok (ht'.mono (show K + 1 ≤ K + 1 by omega))
      rw [decide_eq_false h2, e]
      simp only [cond_false, Option.bind_some]
      rw [e']
      simp only [Option.bind_some]
      rw [e'']
      simp only [Option.bind_some]
      rw [decide_eq_false (show ¬ n = 0 by omega), w64 (n := v * 65536) (by omega) (by omega), w64 (n := v' * 256) (by omega) (by omega), w64 (n := v * 65536 + v' * 256) (by omega) (by omega), w64 (n := v * 65536 + v' * 256 + v'') (by omega) (by omega)]
      simp only [cond_false]
      refine ⟨_, t'', rfl, ?_, fun _ => ?_, fun h => absurd h h1, ht''⟩ <;> rw [Int.tmod_eq_emod_of_nonneg (by omega)]
      · exact Int.emod_nonneg _ (by omega)
      · exact Int.emod_lt_of_pos _ (by omega)
theorem chance_ok {K : Nat} {s : Src} (h : SrcOK (K + 3) s) (n : Int) : ∃ (v : Bool) (t : Src), spec_l00Src_chance s n = some (v, t) ∧ SrcOK K t := by
  obtain ⟨v, t, e, _, _, _, ht⟩ := next_ok h n
  rw [spec_l00Src_chance_eq, e]
  exact ⟨_, t, rfl, ht⟩
theorem source_ok (a : List Int) (hb : ∀ x ∈ a, 0 ≤ x ∧ x ≤ 255) (hn : a.length ≤ 1048576) : ∃ s : Src, spec_l00Source a = some (some s) ∧ SrcOK 1000000000 s := by
  refine ⟨_, spec_l00Source_eq a, ⟨hb, hn, by simp, by simp, ?_, ?_⟩⟩ <;> simp only <;> rw [Int.tmod_eq_emod_of_nonneg (by omega)] <;> omega
/-- The registers of drawn code. -/
def RegP (a : Int) : Prop := a = 5 ∨ a = 6 ∨ a = 7 ∨ a = 10 ∨ a = 11 ∨ a = 12 ∨ a = 28
theorem reg_ok {K : Nat} {s : Src} (h : SrcOK (K + 3) s) : ∃ (a : Int) (t : Src), spec_l00Src_reg s = some (a, t) ∧ RegP a ∧ SrcOK K t := by
  obtain ⟨v, t, e, v0, v1, _, ht⟩ := next_ok h 7
  have v1 := v1 (by decide)
  rw [spec_l00Src_reg_eq, e]
  simp only [Option.bind_some]
  rw [inL_true v0 (by simp; omega)]
  refine ⟨_, t, rfl, ?_, ht⟩
  have : v = 0 ∨ v = 1 ∨ v = 2 ∨ v = 3 ∨ v = 4 ∨ v = 5 ∨ v = 6 := by omega
  rcases this with rfl | rfl | rfl | rfl | rfl | rfl | rfl <;> simp [RegP, rd]
def FrmP (f : Int) : Prop := f = 16 ∨ f = 32 ∨ f = 48 ∨ f = 64 ∨ f = 128
theorem frm_ok {K : Nat} {s : Src} (h : SrcOK (K + 3) s) : ∃ (a : Int) (t : Src), spec_l00Src_frame s = some (a, t) ∧ FrmP a ∧ SrcOK K t := by
  obtain ⟨v, t, e, v0, v1, _, ht⟩ := next_ok h 6
  have v1 := v1 (by decide)
  rw [spec_l00Src_frame_eq, e]
  simp only [Option.bind_some]
  rw [inL_true v0 (by simp; omega)]
  refine ⟨_, t, rfl, ?_, ht⟩
  have : v = 0 ∨ v = 1 ∨ v = 2 ∨ v = 3 ∨ v = 4 ∨ v = 5 := by omega
  rcases this with rfl | rfl | rfl | rfl | rfl | rfl <;> simp [FrmP, rd]
/-- A drawn piece; C: the numbers that a call may bear; D: the addresses of data. -/
inductive Dpc (f : Int) (C D : Int → Prop) : List Ins → Prop where
  | alu (n a b c : Int) (hn : (31 ≤ n ∧ n ≤ 40) ∨ (50 ≤ n ∧ n ≤ 62)) (ha : RegP a) (hb : RegP b) (hc : RegP c) : Dpc f C D [(n, a, b, c, 0)]
  | imm (a b i : Int) (ha : RegP a) (hb : RegP b) (hi : -8 ≤ i ∧ i ≤ 31) : Dpc f C D [(22, a, b, 0, i)]
  | data (a d : Int) (ha : RegP a) (hd : D d) : Dpc f C D [(1, 13, 0, 0, d / 4096 * 4096), (14, a, 13, 0, d % 4096), (22, a, a, 0, 1), (21, 0, 13, a, d % 4096)]
  | stack (a b c i k : Int) (ha : RegP a) (hb : RegP b) (hc : RegP c) (hi : -8 ≤ i ∧ i ≤ 31) (hk : 0 ≤ k ∧ 8 * k ≤ f - 16) : Dpc f C D [(21, 0, 2, b, 8 * k), (22, a, b, 0, i), (14, c, 2, 0, 8 * k)]
  | call (i : Int) (hi : C i) : Dpc f C D [(3, 1, 0, 0, i)]
  | out : Dpc f C D [(22, 17, 0, 0, 3), (63, 0, 0, 0, 0)]
  | skip (n a b i : Int) (hn : 5 ≤ n ∧ n ≤ 10) (ha : RegP a) (hb : RegP b) (hi : -8 ≤ i ∧ i ≤ 31) : Dpc f C D [(n, 0, a, b, 8), (22, a, b, 0, i)]
  | turn (k a b i : Int) (hk : 1 ≤ k ∧ k ≤ 4) (ha : RegP a) (hb : RegP b) (hi : -8 ≤ i ∧ i ≤ 31) : Dpc f C D [(22, 9, 0, 0, k), (22, a, b, 0, i), (22, 9, 9, 0, -1), (6, 0, 9, 0, -8)]
  | sys (v x y : Int) (hv : 1 ≤ v ∧ v ≤ 12) (hx : 0 ≤ x ∧ x ≤ 4) (hy : 0 ≤ y ∧ y ≤ 3) : Dpc f C D [(22, 17, 0, 0, v), (22, 10, 0, 0, x), (22, 11, 0, 0, y), (63, 0, 0, 0, 0)]
theorem Dpc.len {f : Int} {C D : Int → Prop} {l : List Ins} (h : Dpc f C D l) : 1 ≤ l.length ∧ l.length ≤ 4 := by cases h <;> simp
def DatP (d : Int) : Prop := 0 ≤ d ∧ d ≤ 1048575 ∧ d % 8 = 0 ∧ d % 4096 ≤ 2047
def CalP (c : Int) : Prop := -1099511627776 ≤ c ∧ c ≤ 1099511627776
theorem body_ok {K : Nat} {s : Src} (h : SrcOK (K + 24) s) (i a f : Int) (calls datas : List Int) (hf : FrmP f) (hi : 0 ≤ i ∧ i ≤ 1000) (ha : 0 ≤ a ∧ a ≤ 1048575) (hc : ∀ c ∈ calls, CalP c) (hd : ∀ d ∈ datas, DatP d) (hcl : calls.length ≤ 256) (hdl : datas.length ≤ 256) :
    ∃ (l : List Ins) (t : Src), spec_l00Src_body s i a f calls datas = some (l, t) ∧ Dpc f (fun m => ∃ c ∈ calls, m = c - a - 4 * i) (· ∈ datas) l ∧ SrcOK K t := by
  obtain ⟨ra, s1, e1, r1, h1⟩ := reg_ok (h.mono (show K + 21 + 3 ≤ K + 24 by omega))
  obtain ⟨rb, s2, e2, r2, h2⟩ := reg_ok (h1.mono (show K + 18 + 3 ≤ K + 21 by omega))
  obtain ⟨rc, s3, e3, r3, h3⟩ := reg_ok (h2.mono (show K + 15 + 3 ≤ K + 18 by omega))
  obtain ⟨v4, s4, e4, p4, q4, _, h4⟩ := next_ok (h3.mono (show K + 12 + 3 ≤ K + 15 by omega)) 40
  obtain ⟨v5, s5, e5, p5, q5, _, h5⟩ := next_ok (h4.mono (show K + 9 + 3 ≤ K + 12 by omega)) 11
  have q4 := q4 (by decide); have q5 := q5 (by decide)
  have him : -8 ≤ v4 - 8 ∧ v4 - 8 ≤ 31 := by omega
  rw [spec_l00Src_body_eq, e1]; simp only [Option.bind_some]
  rw [e2]; simp only [Option.bind_some]
  rw [e3]; simp only [Option.bind_some]
  rw [e4]; simp only [Option.bind_some]
  rw [e5]; simp only [Option.bind_some, joinB]
  rw [w64 (n := v4 - 8) (by omega) (by omega), w64 (n := 4 * i) (by omega) (by omega)]
  have plain : ∃ (l : List Ins) (t : Src), some ([((22 : Int), ra, rb, (0 : Int), v4 - 8)], s5) = some (l, t) ∧ Dpc f (fun m => ∃ c ∈ calls, m = c - a - 4 * i) (· ∈ datas) l ∧ SrcOK K t := ⟨_, _, rfl, .imm _ _ _ r1 r2 him, h5.mono (by omega)⟩
  have : v5 = 0 ∨ v5 = 1 ∨ (v5 = 2 ∨ v5 = 3) ∨ v5 = 4 ∨ (v5 = 5 ∨ v5 = 6) ∨ v5 = 7 ∨ v5 = 8 ∨ v5 = 9 ∨ v5 = 10 := by omega
  rcases this with rfl | rfl | h23 | rfl | h56 | rfl | rfl | rfl | rfl
  · obtain ⟨v, t, e, p, q, _, ht⟩ := next_ok (h5.mono (show K + 6 + 3 ≤ K + 9 by omega)) 10
    have q := q (by decide)
    simp only [decide_true, cond_true, e, Option.bind_some]
    rw [w64 (n := 31 + v) (by omega) (by omega)]
    exact ⟨_, _, rfl, .alu _ _ _ _ (.inl (by omega)) r1 r2 r3, ht.mono (by omega)⟩
  · obtain ⟨v, t, e, p, q, _, ht⟩ := next_ok (h5.mono (show K + 6 + 3 ≤ K + 9 by omega)) 13
    have q := q (by decide)
    simp only [show decide ((1 : Int) = 0) = false from rfl, decide_true, cond_true, cond_false, e, Option.bind_some]
    rw [w64 (n := 50 + v) (by omega) (by omega)]
    exact ⟨_, _, rfl, .alu _ _ _ _ (.inr (by omega)) r1 r2 r3, ht.mono (by omega)⟩
  · have hdat : ∃ (l : List Ins) (t : Src), (bif decide ((datas.length : Int) > 0) then ((spec_l00Src_next s5 (datas.length : Int)).bind fun r9 => bif inL r9.1 (datas.length) then some ([((1 : Int), (13 : Int), (0 : Int), (0 : Int), (IntKind.wrap .i64 ((IntKind.wrap .i64 ((rd (τ := (.int .i64)) datas r9.1).tdiv 4096)) * 4096))), (14, ra, 13, 0, ((rd (τ := (.int .i64)) datas r9.1).tmod 4096)), (22, ra, ra, 0, 1), (21, 0, 13, ra, ((rd (τ := (.int .i64)) datas r9.1).tmod 4096))], r9.2) else none) else some ([(22, ra, rb, 0, v4 - 8)], s5)) = some (l, t) ∧ Dpc f (fun m => ∃ c ∈ calls, m = c - a - 4 * i) (· ∈ datas) l ∧ SrcOK K t := by
      by_cases hdn : (datas.length : Int) > 0
      · obtain ⟨v, t, e, p, q, _, ht⟩ := next_ok (h5.mono (show K + 6 + 3 ≤ K + 9 by omega)) (datas.length : Int)
        have q := q (by omega)
        rw [decide_eq_true hdn, e]
        simp only [cond_true, Option.bind_some]
        rw [inL_true p q]
        simp only [cond_true]
        obtain ⟨k, rfl⟩ : ∃ k : Nat, v = k := ⟨v.toNat, by omega⟩
        have hk : k < datas.length := by omega
        rw [rd_nat (τ := .int .i64) datas k hk]
        have hdk := hd _ (List.getElem_mem hk)
        have hmem : (datas[k] : Int) ∈ datas := List.getElem_mem hk
        generalize (datas[k] : Int) = d at *
        obtain ⟨d0, d1, d2, d3⟩ := hdk
        rw [Int.tdiv_eq_ediv_of_nonneg d0, Int.tmod_eq_emod_of_nonneg d0, w64 (n := d / 4096) (by omega) (by omega), w64 (n := d / 4096 * 4096) (by omega) (by omega)]
        exact ⟨_, _, rfl, .data _ _ r1 hmem, ht.mono (by omega)⟩
      · rw [decide_eq_false hdn]; exact plain
    rcases h23 with rfl | rfl <;> exact hdat
  · simp only [show decide ((4 : Int) = 0) = false from rfl, show decide ((4 : Int) = 1) = false from rfl, show decide ((4 : Int) = 2) = false from rfl, show decide ((4 : Int) = 3) = false from rfl, decide_true, cond_true, cond_false]
    by_cases hf3 : f ≥ 32
    · have ht8 : f.tdiv 8 = f / 8 := Int.tdiv_eq_ediv_of_nonneg (by omega)
      have hfr : f ≤ 128 ∧ f % 8 = 0 := by rcases hf with rfl | rfl | rfl | rfl | rfl <;> decide
      obtain ⟨v, t, e, p, q, _, ht⟩ := next_ok (h5.mono (show K + 6 + 3 ≤ K + 9 by omega)) (f / 8 - 1)
      have q := q (by omega)
      rw [decide_eq_true hf3, ht8, w64 (n := f / 8) (by omega) (by omega), w64 (n := f / 8 - 1) (by omega) (by omega), e]
      simp only [cond_true, Option.bind_some]
      rw [w64 (n := 8 * v) (by omega) (by omega)]
      exact ⟨_, _, rfl, .stack _ _ _ _ _ r1 r2 r3 him ⟨p, by omega⟩, ht.mono (by omega)⟩
    · rw [decide_eq_false hf3]; exact plain
  · have hcal : ∃ (l : List Ins) (t : Src), (bif decide ((calls.length : Int) > 0) then ((spec_l00Src_next s5 (calls.length : Int)).bind fun r12 => bif inL r12.1 (calls.length) then some ([((3 : Int), (1 : Int), (0 : Int), (0 : Int), (IntKind.wrap .i64 ((IntKind.wrap .i64 ((rd (τ := (.int .i64)) calls r12.1) - a)) - (4 * i))))], r12.2) else none) else some ([(22, ra, rb, 0, v4 - 8)], s5)) = some (l, t) ∧ Dpc f (fun m => ∃ c ∈ calls, m = c - a - 4 * i) (· ∈ datas) l ∧ SrcOK K t := by
      by_cases hcn : (calls.length : Int) > 0
      · obtain ⟨v, t, e, p, q, _, ht⟩ := next_ok (h5.mono (show K + 6 + 3 ≤ K + 9 by omega)) (calls.length : Int)
        have q := q (by omega)
        rw [decide_eq_true hcn, e]
        simp only [cond_true, Option.bind_some]
        rw [inL_true p q]
        simp only [cond_true]
        obtain ⟨k, rfl⟩ : ∃ k : Nat, v = k := ⟨v.toNat, by omega⟩
        have hk : k < calls.length := by omega
        rw [rd_nat (τ := .int .i64) calls k hk]
        have hck := hc _ (List.getElem_mem hk)
        have hmem : (calls[k] : Int) ∈ calls := List.getElem_mem hk
        generalize (calls[k] : Int) = c at *
        obtain ⟨c0, c1⟩ := hck
        rw [w64 (n := c - a) (by omega) (by omega), w64 (n := c - a - 4 * i) (by omega) (by omega)]
        exact ⟨_, _, rfl, .call _ ⟨c, hmem, rfl⟩, ht.mono (by omega)⟩
      · rw [decide_eq_false hcn]; exact plain
    rcases h56 with rfl | rfl <;> exact hcal
  · exact ⟨_, _, rfl, .out, h5.mono (by omega)⟩
  · obtain ⟨v, t, e, p, q, _, ht⟩ := next_ok (h5.mono (show K + 6 + 3 ≤ K + 9 by omega)) 6
    have q := q (by decide)
    simp only [e, Option.bind_some]
    rw [w64 (n := 5 + v) (by omega) (by omega)]
    exact ⟨_, _, rfl, .skip _ _ _ _ (by omega) r1 r2 him, ht.mono (by omega)⟩
  · obtain ⟨v, t, e, p, q, _, ht⟩ := next_ok (h5.mono (show K + 6 + 3 ≤ K + 9 by omega)) 4
    have q := q (by decide)
    simp only [e, Option.bind_some]
    rw [w64 (n := 1 + v) (by omega) (by omega)]
    exact ⟨_, _, rfl, .turn _ _ _ _ (by omega) r1 r2 him, ht.mono (by omega)⟩
  · obtain ⟨v, t, e, p, q, _, ht⟩ := next_ok (h5.mono (show K + 6 + 3 ≤ K + 9 by omega)) 12
    obtain ⟨v', t', e', p', q', _, ht'⟩ := next_ok (ht.mono (show K + 3 + 3 ≤ K + 6 by omega)) 5
    obtain ⟨v'', t'', e'', p'', q'', _, ht''⟩ := next_ok (ht'.mono (show K + 3 ≤ K + 3 by omega)) 4
    have q := q (by decide); have q' := q' (by decide); have q'' := q'' (by decide)
    simp only [e, e', e'', Option.bind_some]
    rw [w64 (n := 1 + v) (by omega) (by omega)]
    exact ⟨_, _, rfl, .sys _ _ _ (by omega) (by omega) (by omega), ht''⟩
/-- Pieces one behind another; i: the number of the first instruction. -/
inductive Dpcs (f : Int) (C : Int → Int → Prop) (D : Int → Prop) : Int → List Ins → Prop where
  | nil (i : Int) : Dpcs f C D i []
  | cons (i : Int) (l m : List Ins) (h : Dpc f (C i) D l) (k : Dpcs f C D (i + l.length) m) : Dpcs f C D i (l ++ m)
theorem Dpcs.snoc {f : Int} {C : Int → Int → Prop} {D : Int → Prop} : ∀ {i : Int} {l m : List Ins}, Dpcs f C D i l → Dpc f (C (i + l.length)) D m → Dpcs f C D i (l ++ m) := by
  intro i l m h k
  induction h with
  | nil i =>
    have := Dpcs.cons i m [] (by simpa using k) (.nil _)
    simpa using this
  | cons i l' m' h' _ ih =>
    rw [List.append_assoc]
    refine .cons i l' (m' ++ m) h' (ih ?_)
    rw [List.length_append] at k
    have : i + ((l'.length + m'.length : Nat) : Int) = i + (l'.length : Int) + (m'.length : Int) := by omega
    rw [this] at k; exact k
def proL (f : Int) : List Ins := [(22, 2, 2, 0, 0 - f), (21, 0, 2, 1, f - 8)]
def epiL (f : Int) : List Ins := [(14, 1, 2, 0, f - 8), (22, 2, 2, 0, f), (4, 0, 1, 0, 0)]
theorem FrmP.range {f : Int} (h : FrmP f) : 16 ≤ f ∧ f ≤ 128 ∧ f % 16 = 0 := by rcases h with rfl | rfl | rfl | rfl | rfl <;> decide
theorem pro_val {f : Int} (h : FrmP f) : spec_l06Prologue f = some (proL f) := by
  have := h.range
  rw [spec_l06Prologue_eq, w64 (n := 0 - f) (by omega) (by omega), w64 (n := f - 8) (by omega) (by omega)]; rfl
theorem epi_val {f : Int} (h : FrmP f) : spec_l06Epilogue f = some (epiL f) := epi_s f ⟨h.range.1, h.range.2.1⟩
theorem function_ok2 {K : Nat} {s : Src} (n : Nat) (h : SrcOK (K + 24 * n) s) (a f : Int) (calls datas : List Int) (hf : FrmP f) (ha : 0 ≤ a ∧ a ≤ 1048575) (hc : ∀ c ∈ calls, CalP c) (hd : ∀ d ∈ datas, DatP d) (hcl : calls.length ≤ 256) (hdl : datas.length ≤ 256) (hn : n ≤ 1000) :
    ∃ (b : List Ins) (t : Src), spec_l00Src_function s a f (n : Int) calls datas = some (proL f ++ b ++ epiL f, t) ∧ Dpcs f (fun i m => ∃ c ∈ calls, m = c - a - 4 * i) (· ∈ datas) 2 b ∧ b.length ≤ 51 ∧ (1 ≤ n → 1 ≤ b.length) ∧ b.length ≤ 4 * n ∧ SrcOK K t := by
  rw [spec_l00Src_function_eq, pro_val hf]
  simp only [Option.bind_some]
  have key : ∀ (k j : Nat) (s : Src) (b : List Ins), j + k = n → SrcOK (K + 24 * k) s → b.length ≤ 51 → (1 ≤ j → 1 ≤ b.length) → b.length ≤ 4 * j → Dpcs f (fun i m => ∃ c ∈ calls, m = c - a - 4 * i) (· ∈ datas) 2 b →
      ∃ (d : List Ins) (t : Src), spec_l00Src_function.l11010 s a f (n : Int) calls datas (proL f ++ b) (j : Int) = some (proL f ++ d ++ epiL f, t) ∧ Dpcs f (fun i m => ∃ c ∈ calls, m = c - a - 4 * i) (· ∈ datas) 2 d ∧ d.length ≤ 51 ∧ (1 ≤ n → 1 ≤ d.length) ∧ d.length ≤ 4 * n ∧ SrcOK K t := by
    intro k
    induction k with
    | zero =>
      intro j s b hj hs hb hb1 hb4 hp
      have hjn : j = n := by omega
      subst hjn
      rw [spec_l00Src_function.l11010_eq, joinB, lt_nat, decide_eq_false (Nat.lt_irrefl _)]
      simp only [cond_false]
      rw [epi_val hf]
      simp only [Option.bind_some]
      rw [room_le (by simp [proL, epiL]; omega) (by simp [proL, epiL]; omega), cond_true]
      exact ⟨b, s, rfl, hp, hb, hb1, hb4, hs.mono (by omega)⟩
    | succ k ih =>
      intro j s b hj hs hb hb1 hb4 hp
      rw [spec_l00Src_function.l11010_eq, joinB, lt_nat, decide_eq_true (show j < n by omega)]
      simp only [cond_true]
      by_cases hlen : ((proL f ++ b).length : Int) < 50
      · have hl2 : (proL f ++ b).length = b.length + 2 := by simp [proL]
        obtain ⟨l, s', e, hl, hs'⟩ := body_ok (hs.mono (show K + 24 * k + 24 ≤ K + 24 * (k + 1) by omega)) (((proL f ++ b).length : Nat) : Int) a f calls datas hf (by omega) ha hc hd hcl hdl
        have hll := hl.len
        rw [decide_eq_true hlen, e]
        simp only [cond_true, Option.bind_some]
        rw [room_le (by omega) (by omega), cond_true, w64_succ j n (by omega) (by omega), List.append_assoc]
        refine ih (j + 1) s' (b ++ l) (by omega) hs' (by rw [List.length_append]; omega) (fun _ => by rw [List.length_append]; omega) (by rw [List.length_append]; omega) (hp.snoc ?_)
        have e2 : (((proL f ++ b).length : Nat) : Int) = 2 + (b.length : Int) := by omega
        rw [e2] at hl
        exact hl
      · rw [decide_eq_false hlen]
        simp only [cond_false]
        rw [epi_val hf]
        simp only [Option.bind_some]
        have hl2 : (proL f ++ b).length = b.length + 2 := by simp [proL]
        rw [room_le (by simp [proL, epiL]; omega) (by simp [proL, epiL]; omega), cond_true]
        exact ⟨b, s, rfl, hp, hb, fun _ => by omega, by omega, hs.mono (by omega)⟩
  have := key n 0 s [] (by omega) h (by simp) (by omega) (by simp) (.nil _)
  rw [List.append_nil] at this
  exact this
/-- An instruction of a drawn function's body; i: its number; lo, hi: where its jumps may go. -/
def InsF (f : Int) (C : Int → Int → Prop) (lo hi i : Int) (x : Ins) : Prop :=
  (∃ m, x = (3, 1, 0, 0, m) ∧ C i m) ∨
  (rightV x = true ∧ x.1 ≠ 3 ∧ x.1 ≠ 4 ∧ x.2.1 ≠ 1 ∧ x.2.1 ≠ 2 ∧ (5 ≤ x.1 → x.1 ≤ 10 → x.2.2.2.2 % 4 = 0 ∧ lo ≤ i + x.2.2.2.2 / 4 ∧ i + x.2.2.2.2 / 4 ≤ hi) ∧ (11 ≤ x.1 → x.1 ≤ 21 → x.2.2.1 = 2 → 0 ≤ x.2.2.2.2 ∧ x.2.2.2.2 ≤ f - 8 - (widV x.1).1 ∧ x.2.2.2.2 % (widV x.1).1 = 0))
theorem InsF.mono {f : Int} {C : Int → Int → Prop} {lo hi lo' hi' i : Int} {x : Ins} (h : InsF f C lo hi i x) (h1 : lo' ≤ lo) (h2 : hi ≤ hi') : InsF f C lo' hi' i x := by
  rcases h with h | ⟨a, b, c, d, e, g, k⟩
  · exact .inl h
  · exact .inr ⟨a, b, c, d, e, fun p q => by obtain ⟨u, v, w⟩ := g p q; exact ⟨u, by omega, by omega⟩, k⟩
theorem RegP.range {a : Int} (h : RegP a) : 0 ≤ a ∧ a ≤ 31 ∧ a ≠ 1 ∧ a ≠ 2 := by rcases h with rfl | rfl | rfl | rfl | rfl | rfl | rfl <;> decide
theorem form8 {n : Int} (h : (31 ≤ n ∧ n ≤ 40) ∨ (50 ≤ n ∧ n ≤ 62)) : (shp n).1 = 8 := by
  obtain ⟨k, rfl⟩ := fin65 (n := n) (by omega) (by omega)
  revert k
  decide
theorem form4 {n : Int} (h : 5 ≤ n ∧ n ≤ 10) : (shp n).1 = 4 := by
  obtain ⟨k, rfl⟩ := fin65 (n := n) (by omega) (by omega)
  revert k
  decide
theorem right_of {n d a b i : Int} (f : Int) (hf : (shp n).1 = f) (hn : 1 ≤ n ∧ n ≤ 64) (hd : 0 ≤ d ∧ d ≤ 31) (ha : 0 ≤ a ∧ a ≤ 31) (hb : 0 ≤ b ∧ b ≤ 31) (g1 : (fieldsV f).1 = true ∨ d = 0) (g2 : (fieldsV f).2.1 = true ∨ a = 0) (g3 : (fieldsV f).2.2 = true ∨ b = 0) (hi : immR f i = true) : rightV (n, d, a, b, i) = true := by
  simp only [rightV, Bool.and_eq_true, Bool.or_eq_true, decide_eq_true_eq, hf]
  exact ⟨⟨⟨⟨⟨⟨⟨⟨⟨⟨⟨hn.1, hn.2⟩, hd.1⟩, hd.2⟩, ha.1⟩, ha.2⟩, hb.1⟩, hb.2⟩, g1⟩, g2⟩, g3⟩, hi⟩
theorem imm3 {i : Int} (h : -2048 ≤ i ∧ i ≤ 2047) : immR 3 i = true := by simp [immR]; omega
theorem imm5 {i : Int} (h : -2048 ≤ i ∧ i ≤ 2047) : immR 5 i = true := by simp [immR]; omega
theorem imm4 {i : Int} (h : -4096 ≤ i ∧ i ≤ 4094 ∧ i % 2 = 0) : immR 4 i = true := by simp [immR]; omega
theorem imm1 {i : Int} (h : -2147483648 ≤ i ∧ i ≤ 2147479552 ∧ i % 4096 = 0) : immR 1 i = true := by simp [immR]; omega
theorem r22 {a b i : Int} (ha : 0 ≤ a ∧ a ≤ 31) (hb : 0 ≤ b ∧ b ≤ 31) (h : -2048 ≤ i ∧ i ≤ 2047) : rightV (22, a, b, 0, i) = true := right_of 3 rfl (by decide) ha hb (by decide) (.inl rfl) (.inl rfl) (.inr rfl) (imm3 h)
theorem r14 {a b i : Int} (ha : 0 ≤ a ∧ a ≤ 31) (hb : 0 ≤ b ∧ b ≤ 31) (h : -2048 ≤ i ∧ i ≤ 2047) : rightV (14, a, b, 0, i) = true := right_of 3 rfl (by decide) ha hb (by decide) (.inl rfl) (.inl rfl) (.inr rfl) (imm3 h)
theorem r21 {a b i : Int} (ha : 0 ≤ a ∧ a ≤ 31) (hb : 0 ≤ b ∧ b ≤ 31) (h : -2048 ≤ i ∧ i ≤ 2047) : rightV (21, 0, a, b, i) = true := right_of 5 rfl (by decide) (by decide) ha hb (.inr rfl) (.inl rfl) (.inl rfl) (imm5 h)
theorem r1 {a i : Int} (ha : 0 ≤ a ∧ a ≤ 31) (h : -2147483648 ≤ i ∧ i ≤ 2147479552 ∧ i % 4096 = 0) : rightV (1, a, 0, 0, i) = true := right_of 1 rfl (by decide) ha (by decide) (by decide) (.inl rfl) (.inr rfl) (.inr rfl) (imm1 h)
theorem r8 {n a b c : Int} (h : (31 ≤ n ∧ n ≤ 40) ∨ (50 ≤ n ∧ n ≤ 62)) (ha : 0 ≤ a ∧ a ≤ 31) (hb : 0 ≤ b ∧ b ≤ 31) (hc : 0 ≤ c ∧ c ≤ 31) : rightV (n, a, b, c, 0) = true := right_of 8 (form8 h) (by omega) ha hb hc (.inl rfl) (.inl rfl) (.inl rfl) rfl
theorem rbr {n a b i : Int} (h : 5 ≤ n ∧ n ≤ 10) (ha : 0 ≤ a ∧ a ≤ 31) (hb : 0 ≤ b ∧ b ≤ 31) (hi : -4096 ≤ i ∧ i ≤ 4094 ∧ i % 2 = 0) : rightV (n, 0, a, b, i) = true := right_of 4 (form4 h) (by omega) (by decide) ha hb (.inr rfl) (.inl rfl) (.inl rfl) (imm4 hi)
theorem r63 : rightV (63, 0, 0, 0, 0) = true := by decide +kernel
theorem InsF.plain {f : Int} {C : Int → Int → Prop} {lo hi i n a b c m : Int} (hr : rightV (n, a, b, c, m) = true) (hn : n = 1 ∨ 22 ≤ n) (ha : a ≠ 1 ∧ a ≠ 2) : InsF f C lo hi i (n, a, b, c, m) := by
  refine .inr ⟨hr, ?_, ?_, ha.1, ha.2, fun h h' => ?_, fun h h' => ?_⟩ <;> simp only at * <;> omega
theorem InsF.mem {f : Int} {C : Int → Int → Prop} {lo hi i n a b c m : Int} (hr : rightV (n, a, b, c, m) = true) (hn : 11 ≤ n ∧ n ≤ 21) (ha : a ≠ 1 ∧ a ≠ 2) (hb : b = 2 → 0 ≤ m ∧ m ≤ f - 8 - (widV n).1 ∧ m % (widV n).1 = 0) : InsF f C lo hi i (n, a, b, c, m) := by
  refine .inr ⟨hr, ?_, ?_, ha.1, ha.2, fun h h' => ?_, fun h h' h2 => hb h2⟩ <;> simp only at * <;> omega
theorem InsF.br {f : Int} {C : Int → Int → Prop} {lo hi i n b c m : Int} (hr : rightV (n, 0, b, c, m) = true) (hn : 5 ≤ n ∧ n ≤ 10) (hm : m % 4 = 0 ∧ lo ≤ i + m / 4 ∧ i + m / 4 ≤ hi) : InsF f C lo hi i (n, 0, b, c, m) := by
  refine .inr ⟨hr, ?_, ?_, by simp, by simp, fun h h' => hm, fun h h' => ?_⟩ <;> simp only at * <;> omega
theorem Dpc.ins {f : Int} {C : Int → Int → Prop} {D : Int → Prop} (hD : ∀ d, D d → DatP d) (hf : FrmP f) {i : Int} {l : List Ins} (h : Dpc f (C i) D l) : ∀ (j : Nat) (x : Ins), l[j]? = some x → InsF f C i (i + l.length) (i + j) x := by
  have hfr := hf.range
  cases h with
  | alu n a b c hn ha hb hc =>
    have := ha.range; have := hb.range; have := hc.range
    intro j x e
    match j, e with
    | 0, e => cases e; exact .plain (r8 hn (by omega) (by omega) (by omega)) (by omega) (by omega)
  | imm a b m ha hb hi =>
    have := ha.range; have := hb.range
    intro j x e
    match j, e with
    | 0, e => cases e; exact .plain (r22 (by omega) (by omega) (by omega)) (by omega) (by omega)
  | data a d ha hd =>
    have := ha.range
    obtain ⟨d0, d1, d2, d3⟩ := hD d hd
    intro j x e
    match j, e with
    | 0, e => cases e; exact .plain (r1 (by omega) (by omega)) (by omega) (by omega)
    | 1, e => cases e; exact .mem (r14 (by omega) (by omega) (by omega)) (by omega) (by omega) (by omega)
    | 2, e => cases e; exact .plain (r22 (by omega) (by omega) (by omega)) (by omega) (by omega)
    | 3, e => cases e; exact .mem (r21 (by omega) (by omega) (by omega)) (by omega) (by omega) (by omega)
  | stack a b c m k ha hb hc hi hk =>
    have := ha.range; have := hb.range; have := hc.range
    intro j x e
    match j, e with
    | 0, e => cases e; exact .mem (r21 (by omega) (by omega) (by omega)) (by omega) (by omega) (fun _ => by simp [widV]; omega)
    | 1, e => cases e; exact .plain (r22 (by omega) (by omega) (by omega)) (by omega) (by omega)
    | 2, e => cases e; exact .mem (r14 (by omega) (by omega) (by omega)) (by omega) (by omega) (fun _ => by simp [widV]; omega)
  | call m hm =>
    intro j x e
    match j, e with
    | 0, e => cases e; exact .inl ⟨m, rfl, by simpa using hm⟩
  | out =>
    intro j x e
    match j, e with
    | 0, e => cases e; exact .plain (r22 (by omega) (by omega) (by omega)) (by omega) (by omega)
    | 1, e => cases e; exact .plain r63 (by omega) (by omega)
  | skip n a b m hn ha hb hi =>
    have := ha.range; have := hb.range
    intro j x e
    match j, e with
    | 0, e => cases e; exact .br (rbr hn (by omega) (by omega) (by omega)) hn (by simp; omega)
    | 1, e => cases e; exact .plain (r22 (by omega) (by omega) (by omega)) (by omega) (by omega)
  | turn k a b m hk ha hb hi =>
    have := ha.range; have := hb.range
    intro j x e
    match j, e with
    | 0, e => cases e; exact .plain (r22 (by omega) (by omega) (by omega)) (by omega) (by omega)
    | 1, e => cases e; exact .plain (r22 (by omega) (by omega) (by omega)) (by omega) (by omega)
    | 2, e => cases e; exact .plain (r22 (by omega) (by omega) (by omega)) (by omega) (by omega)
    | 3, e => cases e; exact .br (rbr (by omega) (by omega) (by omega) (by omega)) (by omega) (by simp; omega)
  | sys v x y hv hx hy =>
    intro j x e
    match j, e with
    | 0, e => cases e; exact .plain (r22 (by omega) (by omega) (by omega)) (by omega) (by omega)
    | 1, e => cases e; exact .plain (r22 (by omega) (by omega) (by omega)) (by omega) (by omega)
    | 2, e => cases e; exact .plain (r22 (by omega) (by omega) (by omega)) (by omega) (by omega)
    | 3, e => cases e; exact .plain r63 (by omega) (by omega)
theorem Dpcs.ins {f : Int} {C : Int → Int → Prop} {D : Int → Prop} (hD : ∀ d, D d → DatP d) (hf : FrmP f) {s : Int} {b : List Ins} (h : Dpcs f C D s b) : ∀ (j : Nat) (x : Ins), b[j]? = some x → InsF f C s (s + b.length) (s + j) x := by
  induction h with
  | nil i => intro j x e; cases e
  | cons i l m h k ih =>
    intro j x e
    rw [List.length_append]
    by_cases hj : j < l.length
    · rw [List.getElem?_append_left hj] at e
      exact (h.ins hD hf j x e).mono (Int.le_refl _) (by omega)
    · rw [List.getElem?_append_right (by omega)] at e
      have := ih (j - l.length) x e
      have e1 : i + (l.length : Int) + ((j - l.length : Nat) : Int) = i + (j : Int) := by omega
      rw [e1] at this
      exact this.mono (by omega) (by omega)
theorem rd_get {xs : List Ins} {i : Nat} (h : i < xs.length) : ∃ x, xs[i]? = some x ∧ rd (τ := TIns) xs (i : Int) = x := ⟨xs[i], by simp [h], rd_nat (τ := TIns) xs i h⟩
theorem Dpc.mono {f : Int} {C C' D D' : Int → Prop} {l : List Ins} (hC : ∀ m, C m → C' m) (hD : ∀ d, D d → D' d) (h : Dpc f C D l) : Dpc f C' D' l := by
  cases h with
  | alu n a b c hn ha hb hc => exact .alu n a b c hn ha hb hc
  | imm a b i ha hb hi => exact .imm a b i ha hb hi
  | data a d ha hd => exact .data a d ha (hD d hd)
  | stack a b c i k ha hb hc hi hk => exact .stack a b c i k ha hb hc hi hk
  | call i hi => exact .call i (hC i hi)
  | out => exact .out
  | skip n a b i hn ha hb hi => exact .skip n a b i hn ha hb hi
  | turn k a b i hk ha hb hi => exact .turn k a b i hk ha hb hi
  | sys v x y hv hx hy => exact .sys v x y hv hx hy
theorem Dpcs.mono {f : Int} {C C' : Int → Int → Prop} {D D' : Int → Prop} (hC : ∀ i m, C i m → C' i m) (hD : ∀ d, D d → D' d) {i : Int} {l : List Ins} (h : Dpcs f C D i l) : Dpcs f C' D' i l := by
  induction h with
  | nil i => exact .nil i
  | cons i l m h _ ih => exact .cons i l m (h.mono (hC i) hD) ih
/-- Bytes. -/
def BytP (a : List Int) : Prop := ∀ x ∈ a, 0 ≤ x ∧ x ≤ 255
theorem enc_of {n d a b i : Int} (hn : 1 ≤ n ∧ n ≤ 64) (hd : 0 ≤ d ∧ d ≤ 31) (ha : 0 ≤ a ∧ a ≤ 31) (hb : 0 ≤ b ∧ b ≤ 31) (hi : -4611686018427387904 ≤ i ∧ i ≤ 4611686018427387904) (hu : (shp n).1 ≠ 1) : EncR (n, d, a, b, i) :=
  ⟨hn, ⟨hd, ha, hb, by simp only; omega⟩, fun e => absurd e hu⟩
theorem some_ok {K : Nat} {s : Src} (n : Nat) (hn : n ≤ 1000) (h : SrcOK (K + n) s) : ∃ (t : ByteArray) (s' : Src), spec_l00Src_some s (n : Int) = some (t, s') ∧ t.size = n ∧ SrcOK K s' := by
  rw [spec_l00Src_some_eq]
  have key : ∀ (k i : Nat) (s : Src) (xs : List Int), i + k = n → xs.length = i → SrcOK (K + k) s → ∃ (t : ByteArray) (s' : Src), spec_l00Src_some.l11010 s (n : Int) xs (i : Int) = some (t, s') ∧ t.size = n ∧ SrcOK K s' := by
    intro k
    induction k with
    | zero =>
      intro i s xs h1 h2 hs
      have : i = n := by omega
      subst this
      rw [spec_l00Src_some.l11010_eq, lt_nat, decide_eq_false (Nat.lt_irrefl _)]
      exact ⟨_, _, rfl, by rw [bytesOf_size]; exact h2, hs⟩
    | succ k ih =>
      intro i s xs h1 h2 hs
      obtain ⟨v, s1, e, _, _, hs1⟩ := byte_ok (hs.mono (show K + k + 1 ≤ K + (k + 1) by omega))
      rw [spec_l00Src_some.l11010_eq, lt_nat, decide_eq_true (show i < n by omega), e]
      simp only [cond_true, Option.bind_some]
      rw [room_le (by simp; omega) (by simp; omega), w64_succ i n (by omega) (by omega)]
      exact ih (i + 1) s1 _ (by omega) (by simp; exact h2) hs1
  exact key n 0 s [] (by omega) rfl h
theorem at_ok (l : List Int) (hb : BytP l) (hl : l.length ≤ 1048576) (k n : Int) (hk : 0 ≤ k ∧ k ≤ 1000) (hn : n ≤ 1000000) : ∃ v, laws_at l k n = some v ∧ 0 ≤ v ∧ (1 ≤ n → v < n) := by
  rw [laws_at_eq]
  by_cases h1 : n ≤ 1
  · rw [decide_eq_true h1]; exact ⟨0, rfl, by omega, by omega⟩
  · rw [decide_eq_false h1]
    simp only [cond_false]
    by_cases h0 : (l.length : Int) = 0
    · rw [decide_eq_true h0, decide_eq_false (show ¬ n = 0 by omega), w64 (n := k * 7) (by omega) (by omega)]
      refine ⟨_, rfl, ?_, fun _ => ?_⟩ <;> rw [Int.tmod_eq_emod_of_nonneg (by omega)]
      · exact Int.emod_nonneg _ (by omega)
      · exact Int.emod_lt_of_pos _ (by omega)
    · have ht : ∀ m : Int, 0 ≤ m → 0 ≤ m.tmod (l.length : Int) ∧ m.tmod (l.length : Int) < (l.length : Int) := fun m hm => by
        rw [Int.tmod_eq_emod_of_nonneg hm]
        exact ⟨Int.emod_nonneg _ (by omega), Int.emod_lt_of_pos _ (by omega)⟩
      have hby : ∀ m : Int, 0 ≤ m → m < (l.length : Int) → ∃ v : Int, rd (τ := .int .u8) l m = v ∧ 0 ≤ v ∧ v ≤ 255 := fun m hm hm' => by
        obtain ⟨j, rfl⟩ : ∃ j : Nat, m = j := ⟨m.toNat, by omega⟩
        rw [rd_nat (τ := .int .u8) l j (by omega)]
        exact ⟨_, rfl, hb _ (List.getElem_mem _)⟩
      obtain ⟨t1, t2⟩ := ht k hk.1
      obtain ⟨t3, t4⟩ := ht (k + 1) (by omega)
      obtain ⟨A, eA, r1, r2⟩ := hby _ t1 t2
      obtain ⟨B, eB, r3, r4⟩ := hby _ t3 t4
      have hd : 0 ≤ k.tdiv (l.length : Int) ∧ k.tdiv (l.length : Int) ≤ k := by
        rw [Int.tdiv_eq_ediv_of_nonneg hk.1]
        exact ⟨Int.ediv_nonneg hk.1 (by omega), Int.ediv_le_self _ hk.1⟩
      rw [decide_eq_false h0, decide_eq_false (show ¬ n = 0 by omega), w64 (n := k + 1) (by omega) (by omega), inL_true t1 t2, inL_true t3 t4]
      simp only [cond_false, cond_true]
      rw [eA, eB]
      generalize k.tdiv (l.length : Int) = D at *
      rw [w64 (n := A) (by omega) (by omega), w64 (n := B) (by omega) (by omega), w64 (n := A * 31) (by omega) (by omega), w64 (n := A * 31 + B) (by omega) (by omega), w64 (n := D) (by omega) (by omega), w64 (n := A * 31 + B + D) (by omega) (by omega)]
      refine ⟨_, rfl, ?_, fun _ => ?_⟩ <;> rw [Int.tmod_eq_emod_of_nonneg (by omega)]
      · exact Int.emod_nonneg _ (by omega)
      · exact Int.emod_lt_of_pos _ (by omega)
theorem szc {a b : ByteArray} (h : a.size + b.size ≤ 4194304) : decide (a.size + b.size ≤ 9223372036854775807) = true := decide_eq_true (by omega)
theorem put1 (v : Int) : impl_putLittle v 1 = some (bytesOf (leB v 1)) := put_little v 1 (by decide)
theorem lit1 (v : Int) : spec_l01Little v 1 = some (bytesOf (leB v 1)) := spec_little v 1 (by decide)
theorem lit4 (v : Int) : spec_l01Little v 4 = some (bytesOf (leB v 4)) := spec_little v 4 (by decide)
theorem l07Name_val (n : ByteArray) (h : n.size ≤ 4096) : spec_l07Name n = some (bytesOf (leB (n.size : Int) 1) ++ n) := by
  have e : bytesOf [IntKind.wrap .u8 (n.size : Int)] = bytesOf (leB (n.size : Int) 1) := by rw [wrap_u8]; rfl
  rw [spec_l07Name_eq, e, szc (by rw [bytesOf_size, leB_length]; omega)]; rfl
theorem tk_bytes (s rest : ByteArray) (n : Int) (hn : n = (s.size : Int)) : impl_taker_bytes (s ++ rest, false) n = some (s, rest, false) := by
  subst hn
  rw [impl_taker_bytes_eq]
  simp only [joinB, cond_false, ByteArray.size_append]
  rw [decide_eq_false (show ¬ (s.size : Int) > ((s.size + rest.size : Nat) : Int) by omega), decide_eq_true (show (0 : Int) ≤ (s.size : Int) by omega), decide_eq_true (show (s.size : Int) ≤ ((s.size + rest.size : Nat) : Int) by omega), decide_eq_true (show ((s.size + rest.size : Nat) : Int) ≤ ((s.size + rest.size : Nat) : Int) by omega)]
  simp only [Nat.le_refl, decide_true, Bool.and_self, cond_true, cond_false, Int.toNat_natCast]
  rw [show Int.toNat 0 = 0 by rfl, ByteArray.extract_append_eq_left rfl, ByteArray.extract_append_eq_right rfl rfl]
theorem tk_num (v : Int) (n : Nat) (rest : ByteArray) (hn : n ≤ 4) (h0 : 0 ≤ v) (h1 : v < 256 ^ n) : impl_taker_number (bytesOf (leB v n) ++ rest, false) (n : Int) = some (v, rest, false) := by
  have hs : (bytesOf (leB v n)).size = n := by rw [bytesOf_size, leB_length]
  have hl := leN_leB n v [] h0 (by simp)
  rw [List.nil_append, List.length_nil, Int.emod_eq_of_lt h0 h1] at hl
  have hb : (256 : Int) ^ n ≤ 256 ^ 4 := by
    have := Nat.pow_le_pow_right (n := 256) (by decide) hn
    exact_mod_cast this
  have e4 : (256 : Int) ^ 4 = 4294967296 := by decide
  rw [impl_taker_number_eq, tk_bytes _ rest _ (by rw [hs])]
  simp only [Option.bind_some]
  rw [impl_take_val _ (by omega), hs, hl, w64 (by omega) (by omega)]; rfl
theorem tk_num1 (v : Int) (rest : ByteArray) (h0 : 0 ≤ v) (h1 : v < 256) : impl_taker_number (bytesOf (leB v 1) ++ rest, false) 1 = some (v, rest, false) := tk_num v 1 rest (by decide) h0 (by simpa using h1)
theorem tk_text1 (s rest : ByteArray) (h1 : s.size < 256) : impl_taker_text (bytesOf (leB (s.size : Int) 1) ++ (s ++ rest), false) 1 = some (s, rest, false) := by
  rw [impl_taker_text_eq, tk_num1 _ _ (by omega) (by omega)]
  simp only [Option.bind_some]
  rw [tk_bytes s rest _ rfl]; rfl
/-- A text with its sum. -/
def wsB (b : ByteArray) (v : Int) : ByteArray := b ++ bytesOf (leB v 4)
theorem wsB_size (b : ByteArray) (v : Int) : (wsB b v).size = b.size + 4 := by unfold wsB; rw [ByteArray.size_append, bytesOf_size, leB_length]
def sumN (t : ByteArray) : Nat → Nat → Int → Int
  | 0, _, x => x
  | k + 1, i, x => sumN t k (i + 1) ((31 * x + bt t (i : Int)) % 65521)
theorem sumN_val (t : ByteArray) (ht : t.size ≤ 1048576) : ∀ (k i : Nat) (x : Int), i + k = t.size → 0 ≤ x → x < 65521 → spec_l01Sum.l11010 t x i = some (sumN t k i x) := by
  intro k
  induction k with
  | zero =>
    intro i x hi h0 h1
    rw [spec_l01Sum.l11010_eq, lt_nat, decide_eq_false (by omega)]; rfl
  | succ k ih =>
    intro i x hi h0 h1
    have hb := bt_range t (i : Int)
    rw [spec_l01Sum.l11010_eq, lt_nat, inL_nat, decide_eq_true (show i < t.size by omega), w64 (n := bt t (i : Int)) (by omega) (by omega), w64 (n := 31 * x) (by omega) (by omega), w64 (n := 31 * x + bt t (i : Int)) (by omega) (by omega), w64_succ i t.size (by omega) (by omega), Int.tmod_eq_emod_of_nonneg (by omega)]
    simp only [cond_true]
    exact ih (i + 1) _ (by omega) (by omega) (by omega)
theorem sumN_all (t : ByteArray) (ht : t.size ≤ 1048576) : spec_l01Sum t = some (sumN t t.size 0 1) :=
  (spec_l01Sum_eq t).trans (sumN_val t ht t.size 0 1 (by omega) (by omega) (by omega))
theorem sumN_ne (a b : ByteArray) : ∀ (k i : Nat) (x y : Int), (∀ j : Nat, i ≤ j → j < i + k → bt a (j : Int) = bt b (j : Int)) → 0 ≤ x → x < 65521 → 0 ≤ y → y < 65521 → x ≠ y → sumN a k i x ≠ sumN b k i y := by
  intro k
  induction k with
  | zero => intro i x y _ _ _ _ _ h; exact h
  | succ k ih =>
    intro i x y h x0 x1 y0 y1 hne
    rw [sumN, sumN, h i (by omega) (by omega)]
    generalize bt b (i : Int) = c
    exact ih (i + 1) _ _ (fun j h1 h2 => h j (by omega) (by omega)) (by omega) (by omega) (by omega) (by omega) (by omega)
theorem sumN_bent (a b : ByteArray) (m : Nat) (hm : bt a (m : Int) ≠ bt b (m : Int)) (h : ∀ j : Nat, j ≠ m → bt a (j : Int) = bt b (j : Int)) : ∀ (k i : Nat) (x : Int), i ≤ m → m < i + k → 0 ≤ x → x < 65521 → sumN a k i x ≠ sumN b k i x := by
  intro k
  induction k with
  | zero => intro i x h1 h2; omega
  | succ k ih =>
    intro i x h1 h2 x0 x1
    rw [sumN, sumN]
    by_cases e : i = m
    · subst e
      have ha := bt_range a (i : Int)
      have hb := bt_range b (i : Int)
      refine sumN_ne a b k (i + 1) _ _ (fun j h3 h4 => h j (by omega)) (by omega) (by omega) (by omega) (by omega) ?_
      generalize bt a (i : Int) = p at *
      generalize bt b (i : Int) = q at *
      omega
    · rw [h i e]
      exact ih (i + 1) _ (by omega) (by omega) (by omega) (by omega)
theorem leB_inj4 {v w : Int} (hv : 0 ≤ v ∧ v < 65521) (hw : 0 ≤ w ∧ w < 65521) (h : bytesOf (leB v 4) = bytesOf (leB w 4)) : v = w := by
  have h1 := leN_leB 4 v [] hv.1 (by simp)
  have h2 := leN_leB 4 w [] hw.1 (by simp)
  rw [List.nil_append] at h1 h2
  rw [h] at h1
  have e : (256 : Int) ^ 4 = 4294967296 := by decide
  rw [e] at h1 h2
  have := h1.symm.trans h2
  omega
theorem xor_u8 (x y : Int) (hx : 0 ≤ x ∧ x ≤ 255) (hy : 1 ≤ y ∧ y ≤ 255) : ∃ z : Int, xorI .u8 x y = z ∧ 0 ≤ z ∧ z ≤ 255 ∧ z ≠ x := by
  unfold xorI
  rw [show IntKind.bits .u8 = 8 by rfl, wrap_u8]
  have hlt := (BitVec.ofInt 8 x ^^^ BitVec.ofInt 8 y).isLt
  have h256 : (2 : Nat) ^ 8 = 256 := by decide
  rw [h256] at hlt
  refine ⟨_, rfl, by omega, by omega, fun h => ?_⟩
  have h1 : ((BitVec.ofInt 8 x ^^^ BitVec.ofInt 8 y).toNat : Int) = x := by omega
  have hX : BitVec.ofInt 8 x ^^^ BitVec.ofInt 8 y = BitVec.ofInt 8 x := by
    apply BitVec.eq_of_toNat_eq
    have e : ((BitVec.ofInt 8 x).toNat : Int) = x := by rw [BitVec.toNat_ofInt]; omega
    omega
  have hY : BitVec.ofInt 8 y = 0#8 := by
    have : BitVec.ofInt 8 x ^^^ (BitVec.ofInt 8 x ^^^ BitVec.ofInt 8 y) = BitVec.ofInt 8 x ^^^ BitVec.ofInt 8 x := by rw [hX]
    rwa [← BitVec.xor_assoc, BitVec.xor_self, BitVec.zero_xor] at this
  have e : ((BitVec.ofInt 8 y).toNat : Int) = y := by rw [BitVec.toNat_ofInt]; omega
  rw [hY] at e
  have : ((0#8).toNat : Int) = 0 := rfl
  omega
theorem bt_one (z : Int) (h0 : 0 ≤ z) (h1 : z ≤ 255) : bt (bytesOf [z]) ((0 : Nat) : Int) = z := by
  rw [bt_nat, bytesOf_getD [z] 0 (by intro x hx; rw [List.mem_singleton] at hx; omega) (by simp)]; rfl
theorem bt_out (t : ByteArray) (j : Nat) (h : t.size ≤ j) : bt t (j : Int) = 0 := by
  rw [bt_nat]
  have h1 : ¬ j < t.size := by omega
  have h2 : ¬ j < t.data.size := h1
  simp [Array.getD, h1]
def bentB (T : ByteArray) (k : Nat) (z : Int) : ByteArray := (T.extract 0 k ++ bytesOf [z]) ++ T.extract (k + 1) T.size
theorem bentB_size (T : ByteArray) (k : Nat) (z : Int) (hk : k < T.size) : (bentB T k z).size = T.size := by
  unfold bentB; simp only [ByteArray.size_append, ByteArray.size_extract, bytesOf_size, List.length_singleton]; omega
theorem bentB_bt (T : ByteArray) (k : Nat) (z : Int) (hk : k < T.size) (h0 : 0 ≤ z) (h1 : z ≤ 255) : bt (bentB T k z) (k : Int) = z ∧ ∀ j : Nat, j ≠ k → bt (bentB T k z) (j : Int) = bt T (j : Int) := by
  have e1 : (T.extract 0 k).size = k := by simp only [ByteArray.size_extract]; omega
  have e2 : (T.extract 0 k ++ bytesOf [z]).size = k + 1 := by simp only [ByteArray.size_append, e1, bytesOf_size, List.length_singleton]
  constructor
  · unfold bentB
    rw [bt_append, if_pos (by omega), bt_append, if_neg (by omega), e1, show k - k = 0 by omega]
    exact bt_one z h0 h1
  · intro j hj
    by_cases h : j < T.size
    · unfold bentB
      rw [bt_append]
      by_cases hlt : j < k
      · rw [if_pos (by omega), bt_append, if_pos (by omega), bt_extract _ _ _ _ (by omega) (by omega), Nat.zero_add]
      · rw [if_neg (by omega), e2, bt_extract _ _ _ _ (by omega) (by omega)]
        congr 2; omega
    · rw [bt_out _ _ (by rw [bentB_size T k z hk]; omega), bt_out _ _ (by omega)]
theorem nameV_size {t : ByteArray} (h : nameV t = true) : t.size ≤ 20 := by
  rcases Nat.lt_or_ge 20 t.size with h1 | h1
  · have e := (name_val t).2
    rw [spec_l00Word_eq, h, decide_eq_false (show ¬ (t.size : Int) < 1 by omega), decide_eq_true (show (t.size : Int) > 20 by omega)] at e
    cases e
  · exact h1
structure NamS (o : Obj) : Prop where
  n : o.1.size ≤ 20
  f : o.2.2.1.length ≤ 4
  d : o.2.2.2.1.length ≤ 4
  fn : ∀ f ∈ o.2.2.1, f.1.size ≤ 20
  dn : ∀ d ∈ o.2.2.2.1, d.1.size ≤ 20
theorem namS_of {o : Obj} (h : objV o = true) : NamS o := by
  have hO := objOK_of h
  refine ⟨?_, hO.f, hO.d, fun f hf => ?_, fun d hd => ?_⟩
  · unfold objV at h
    rw [decide_eq_true_eq] at h
    unfold lintO at h
    split at h
    · cases h
    · rename_i hn
      exact nameV_size (by simpa using hn)
  · obtain ⟨i, hi, hr⟩ := mem_rd (τ := TFun) hf
    rw [← hr]
    exact nameV_size (funC_zero (hO.fun_ i hi)).1
  · obtain ⟨i, hi, hr⟩ := mem_rd (τ := TDat) hd
    rw [← hr]
    exact nameV_size (datC_zero (hO.dat i hi)).1
def nmB (n : ByteArray) : ByteArray := bytesOf (leB (n.size : Int) 1) ++ n
def catB {α : Type} (E : α → ByteArray) : List α → ByteArray
  | [] => ByteArray.empty
  | a :: l => E a ++ catB E l
def bitI (b : Bool) : Int := bif b then 1 else 0
theorem bitI_range (b : Bool) : 0 ≤ bitI b ∧ bitI b < 256 := by cases b <;> decide
abbrev oneB (v : Int) : ByteArray := bytesOf (leB v 1)
def funE (f : Fun) : ByteArray := (((nmB f.1 ++ oneB (bitI f.2.1)) ++ oneB f.2.2.1) ++ oneB ((f.2.2.2.size : Int) / 4)) ++ f.2.2.2
def datE (d : Dat) : ByteArray := nmB d.1 ++ nmB d.2
def relE (r : Rel) : ByteArray := (((oneB r.1 ++ oneB r.2.1) ++ oneB r.2.2.1) ++ nmB r.2.2.2.1) ++ bytesOf (leB r.2.2.2.2 4)
def dclE (d : Int × Bool) : ByteArray := oneB d.1 ++ oneB (bitI d.2)
structure FunQ (f : Fun) : Prop where
  n : f.1.size ≤ 20
  fr : 0 ≤ f.2.2.1 ∧ f.2.2.1 < 256
  c : f.2.2.2.size ≤ 256 ∧ f.2.2.2.size % 4 = 0
structure RelQ (r : Rel) : Prop where
  u : 0 ≤ r.1 ∧ r.1 < 256
  a : 0 ≤ r.2.1 ∧ r.2.1 < 256
  k : 0 ≤ r.2.2.1 ∧ r.2.2.1 < 256
  n : r.2.2.2.1.size ≤ 20
  d : -2147483648 ≤ r.2.2.2.2 ∧ r.2.2.2.2 ≤ 2147483647
/-- An object whose parts fit the fields of a text. -/
structure ObjQ (o : Obj) : Prop where
  n : o.1.size ≤ 20
  dep : 0 ≤ o.2.1 ∧ o.2.1 < 256
  f : o.2.2.1.length ≤ 4
  d : o.2.2.2.1.length ≤ 4
  r : o.2.2.2.2.1.length ≤ 32
  s : o.2.2.2.2.2.length ≤ 4
  fs : ∀ f ∈ o.2.2.1, FunQ f
  ds : ∀ d ∈ o.2.2.2.1, d.1.size ≤ 20 ∧ d.2.size ≤ 64
  rs : ∀ r ∈ o.2.2.2.2.1, RelQ r
  ss : ∀ d ∈ o.2.2.2.2.2, 0 ≤ d.1 ∧ d.1 < 256
def hdO : ByteArray := ⟨#[80, 79, 66, 49]⟩
def objB (o : Obj) : ByteArray := ((((((((((hdO ++ nmB o.1) ++ oneB o.2.1) ++ oneB o.2.2.1.length) ++ catB funE o.2.2.1) ++ oneB o.2.2.2.1.length) ++ catB datE o.2.2.2.1) ++ oneB o.2.2.2.2.1.length) ++ catB relE o.2.2.2.2.1) ++ oneB o.2.2.2.2.2.length) ++ catB dclE o.2.2.2.2.2)
theorem nmB_size (n : ByteArray) : (nmB n).size = n.size + 1 := by unfold nmB; rw [ByteArray.size_append, bytesOf_size, leB_length]; omega
theorem oneB_size (v : Int) : (oneB v).size = 1 := by unfold oneB; rw [bytesOf_size, leB_length]
theorem nm_l07 (n : ByteArray) (h : n.size ≤ 4096) : spec_l07Name n = some (nmB n) := l07Name_val n h
theorem bit_l03 (b : Bool) : spec_l03Bit b = some (bitI b) := by rw [spec_l03Bit_eq]; cases b <;> rfl
theorem catB_size {α : Type} {E : α → ByteArray} {m : Nat} : ∀ l : List α, (∀ a ∈ l, (E a).size ≤ m) → (catB E l).size ≤ m * l.length
  | [], _ => Nat.zero_le _
  | a :: l, h => by
    have h1 := catB_size l fun x hx => h x (List.mem_cons_of_mem _ hx)
    have h2 := h a (List.mem_cons_self ..)
    simp only [catB, ByteArray.size_append, List.length_cons, Nat.mul_add, Nat.mul_one]; omega
theorem funE_size {f : Fun} (h : FunQ f) : (funE f).size ≤ 280 := by
  have h1 := h.n; have h2 := h.c
  unfold funE; simp only [ByteArray.size_append, nmB_size, oneB_size]; omega
theorem datE_size {d : Dat} (h : d.1.size ≤ 20 ∧ d.2.size ≤ 64) : (datE d).size ≤ 86 := by
  unfold datE; simp only [ByteArray.size_append, nmB_size]; omega
theorem relE_size {r : Rel} (h : RelQ r) : (relE r).size ≤ 28 := by
  have h1 := h.n
  unfold relE; simp only [ByteArray.size_append, nmB_size, bytesOf_size, leB_length]; omega
theorem dclE_size (d : Int × Bool) : (dclE d).size ≤ 2 := by
  unfold dclE; simp only [ByteArray.size_append, oneB_size]; omega
theorem txt_funs {o : Obj} (h : ObjQ o) : ∀ (k i : Nat) (x : ByteArray), i + k = o.2.2.1.length → x.size ≤ 100 + 280 * i → spec_l08Text.l11010 o x (i : Int) = spec_l08Text.l11010 o (x ++ catB funE (o.2.2.1.drop i)) (o.2.2.1.length : Int) := by
  intro k
  have hl := h.f
  induction k with
  | zero =>
    intro i x hi hx
    have : i = o.2.2.1.length := by omega
    subst this
    rw [List.drop_length, catB, ByteArray.append_empty]
  | succ k ih =>
    intro i x hk hx
    have hi : i < o.2.2.1.length := by omega
    have hq := h.fs _ (List.getElem_mem hi)
    have hz := funE_size hq
    rw [spec_l08Text.l11010_eq o x (i : Int), lt_nat, decide_eq_true hi, inL_nat, decide_eq_true hi, rd_nat (τ := TFun) o.2.2.1 i hi, w64_succ i _ hi (by omega), List.drop_eq_getElem_cons hi, catB]
    generalize o.2.2.1[i] = f at hq hz
    have h1 := hq.n; have h2 := hq.c
    have hd : ((f.2.2.2.size : Int).tdiv 4) = (f.2.2.2.size : Int) / 4 := Int.tdiv_eq_ediv_of_nonneg (by omega)
    rw [nm_l07 _ (by omega), bit_l03, hd, w64 (n := (f.2.2.2.size : Int) / 4) (by omega) (by omega)]
    simp only [cond_true, lit1, Option.bind_some]
    have e : ∀ y : ByteArray, y = funE f → (bif decide (x.size + y.size ≤ 9223372036854775807) then spec_l08Text.l11010 o (x ++ y) ((i + 1 : Nat) : Int) else none) = spec_l08Text.l11010 o (x ++ (funE f ++ catB funE (o.2.2.1.drop (i + 1)))) (o.2.2.1.length : Int) := by
      intro y hy
      subst hy
      rw [szc (by omega), cond_true, ← ByteArray.append_assoc]
      exact ih (i + 1) _ (by omega) (by rw [ByteArray.size_append]; omega)
    rw [szc, szc, szc, szc]
    · exact e _ rfl
    all_goals simp only [ByteArray.size_append, nmB_size, bytesOf_size, leB_length]; omega
theorem txt_dats {o : Obj} (h : ObjQ o) : ∀ (k i : Nat) (x : ByteArray), i + k = o.2.2.2.1.length → x.size ≤ 1300 + 86 * i → spec_l08Text.l1111010 o x (i : Int) = spec_l08Text.l1111010 o (x ++ catB datE (o.2.2.2.1.drop i)) (o.2.2.2.1.length : Int) := by
  intro k
  have hl := h.d
  induction k with
  | zero =>
    intro i x hi hx
    have : i = o.2.2.2.1.length := by omega
    subst this
    rw [List.drop_length, catB, ByteArray.append_empty]
  | succ k ih =>
    intro i x hk hx
    have hi : i < o.2.2.2.1.length := by omega
    have hq := h.ds _ (List.getElem_mem hi)
    have hz := datE_size hq
    rw [spec_l08Text.l1111010_eq o x (i : Int), lt_nat, decide_eq_true hi, inL_nat, decide_eq_true hi, rd_nat (τ := TDat) o.2.2.2.1 i hi, w64_succ i _ hi (by omega), List.drop_eq_getElem_cons hi, catB]
    generalize o.2.2.2.1[i] = d at hq hz
    rw [nm_l07 _ (by omega), nm_l07 _ (by omega)]
    simp only [cond_true, Option.bind_some]
    rw [szc (by simp only [nmB_size]; omega), szc (by unfold datE at hz; omega)]
    simp only [cond_true]
    have q := ih (i + 1) (x ++ datE d) (by omega) (by rw [ByteArray.size_append]; omega)
    rw [ByteArray.append_assoc] at q
    exact q
theorem txt_rels {o : Obj} (h : ObjQ o) : ∀ (k i : Nat) (x : ByteArray), i + k = o.2.2.2.2.1.length → x.size ≤ 1700 + 28 * i → spec_l08Text.l111111010 o x (i : Int) = spec_l08Text.l111111010 o (x ++ catB relE (o.2.2.2.2.1.drop i)) (o.2.2.2.2.1.length : Int) := by
  intro k
  have hl := h.r
  induction k with
  | zero =>
    intro i x hi hx
    have : i = o.2.2.2.2.1.length := by omega
    subst this
    rw [List.drop_length, catB, ByteArray.append_empty]
  | succ k ih =>
    intro i x hk hx
    have hi : i < o.2.2.2.2.1.length := by omega
    have hq := h.rs _ (List.getElem_mem hi)
    have hz := relE_size hq
    rw [spec_l08Text.l111111010_eq o x (i : Int), lt_nat, decide_eq_true hi, inL_nat, decide_eq_true hi, rd_nat (τ := TRel) o.2.2.2.2.1 i hi, w64_succ i _ hi (by omega), List.drop_eq_getElem_cons hi, catB]
    generalize o.2.2.2.2.1[i] = r at hq hz
    have h1 := hq.n
    rw [nm_l07 _ (by omega)]
    simp only [cond_true, lit1, lit4, Option.bind_some]
    have e : ∀ y : ByteArray, y = relE r → (bif decide (x.size + y.size ≤ 9223372036854775807) then spec_l08Text.l111111010 o (x ++ y) ((i + 1 : Nat) : Int) else none) = spec_l08Text.l111111010 o (x ++ (relE r ++ catB relE (o.2.2.2.2.1.drop (i + 1)))) (o.2.2.2.2.1.length : Int) := by
      intro y hy
      subst hy
      rw [szc (by omega), cond_true, ← ByteArray.append_assoc]
      exact ih (i + 1) _ (by omega) (by rw [ByteArray.size_append]; omega)
    rw [szc, szc, szc, szc]
    · exact e _ rfl
    all_goals simp only [ByteArray.size_append, nmB_size, bytesOf_size, leB_length]; omega
theorem txt_dcls {o : Obj} (h : ObjQ o) : ∀ (k i : Nat) (x : ByteArray), i + k = o.2.2.2.2.2.length → x.size ≤ 2700 + 2 * i → spec_l08Text.l11111111010 o x (i : Int) = spec_l08Text.l11111111010 o (x ++ catB dclE (o.2.2.2.2.2.drop i)) (o.2.2.2.2.2.length : Int) := by
  intro k
  have hl := h.s
  induction k with
  | zero =>
    intro i x hi hx
    have : i = o.2.2.2.2.2.length := by omega
    subst this
    rw [List.drop_length, catB, ByteArray.append_empty]
  | succ k ih =>
    intro i x hk hx
    have hi : i < o.2.2.2.2.2.length := by omega
    rw [spec_l08Text.l11111111010_eq o x (i : Int), lt_nat, decide_eq_true hi, inL_nat, decide_eq_true hi, rd_nat (τ := TDcl) o.2.2.2.2.2 i hi, w64_succ i _ hi (by omega), List.drop_eq_getElem_cons hi, catB]
    generalize o.2.2.2.2.2[i] = d
    have hz := dclE_size d
    rw [bit_l03]
    simp only [cond_true, lit1, Option.bind_some]
    rw [szc (by simp only [bytesOf_size, leB_length]; omega), szc (by unfold dclE oneB at hz; omega)]
    simp only [cond_true]
    have q := ih (i + 1) (x ++ dclE d) (by omega) (by rw [ByteArray.size_append]; omega)
    rw [ByteArray.append_assoc] at q
    exact q
theorem text_l08s {o : Obj} (h : ObjQ o) (v : Int) (w1 : spec_l01Sum (objB o) = some v) : spec_l08Text o = some (wsB (objB o) v) := by
  have l1 := h.n; have l2 := h.f; have l3 := h.d; have l4 := h.r; have l5 := h.s
  have z1 := catB_size (E := funE) o.2.2.1 fun f hf => funE_size (h.fs f hf)
  have z2 := catB_size (E := datE) o.2.2.2.1 fun f hf => datE_size (h.ds f hf)
  have z3 := catB_size (E := relE) o.2.2.2.2.1 fun f hf => relE_size (h.rs f hf)
  have z4 := catB_size (E := dclE) o.2.2.2.2.2 fun f _ => dclE_size f
  have e4 : (⟨#[80, 79, 66, 49]⟩ : ByteArray).size = 4 := rfl
  have e4' : hdO.size = 4 := rfl
  have hB : (objB o).size ≤ 4000 := by unfold objB; simp only [ByteArray.size_append, nmB_size, oneB_size]; omega
  rw [spec_l08Text_eq, nm_l07 _ (by omega)]
  simp only [lit1, Option.bind_some]
  rw [szc (by simp only [nmB_size]; omega), szc (by simp only [ByteArray.size_append, nmB_size, bytesOf_size, leB_length]; omega), szc (by simp only [ByteArray.size_append, nmB_size, bytesOf_size, leB_length]; omega)]
  simp only [cond_true]
  rw [show (0 : Int) = ((0 : Nat) : Int) from rfl, txt_funs h o.2.2.1.length 0 _ (by omega) (by simp only [ByteArray.size_append, nmB_size, bytesOf_size, leB_length]; omega), spec_l08Text.l11010_eq, lt_nat, decide_eq_false (Nat.lt_irrefl _), List.drop_zero]
  simp only [cond_false, lit1, Option.bind_some]
  rw [szc (by simp only [ByteArray.size_append, nmB_size, bytesOf_size, leB_length]; omega), cond_true,
    show (0 : Int) = ((0 : Nat) : Int) from rfl, txt_dats h o.2.2.2.1.length 0 _ (by omega) (by simp only [ByteArray.size_append, nmB_size, bytesOf_size, leB_length]; omega), spec_l08Text.l1111010_eq, lt_nat, decide_eq_false (Nat.lt_irrefl _), List.drop_zero]
  simp only [cond_false, lit1, Option.bind_some]
  rw [szc (by simp only [ByteArray.size_append, nmB_size, bytesOf_size, leB_length]; omega), cond_true,
    show (0 : Int) = ((0 : Nat) : Int) from rfl, txt_rels h o.2.2.2.2.1.length 0 _ (by omega) (by simp only [ByteArray.size_append, nmB_size, bytesOf_size, leB_length]; omega), spec_l08Text.l111111010_eq, lt_nat, decide_eq_false (Nat.lt_irrefl _), List.drop_zero]
  simp only [cond_false, lit1, Option.bind_some]
  rw [szc (by simp only [ByteArray.size_append, nmB_size, bytesOf_size, leB_length]; omega), cond_true,
    show (0 : Int) = ((0 : Nat) : Int) from rfl, txt_dcls h o.2.2.2.2.2.length 0 _ (by omega) (by simp only [ByteArray.size_append, nmB_size, bytesOf_size, leB_length]; omega), spec_l08Text.l11111111010_eq, lt_nat, decide_eq_false (Nat.lt_irrefl _), List.drop_zero]
  simp only [cond_false]
  show (spec_l01Sum (objB o)).bind (fun r19 => (spec_l01Little r19 4).bind fun r20 => bif decide ((objB o).size + r20.size ≤ 9223372036854775807) then some (objB o ++ r20) else none) = _
  rw [w1]
  simp only [Option.bind_some, lit4]
  rw [szc (by simp only [bytesOf_size, leB_length]; omega)]
  rfl
theorem codeSz4 {n : Nat} (h : funcSizeV n = true) : n ≤ 256 ∧ n % 4 = 0 := by
  have h0 := funSz_range h
  unfold funcSizeV at h
  cases h1 : codeSizeV n with
  | false => rw [h1] at h; cases h
  | true =>
    refine ⟨h0, ?_⟩
    have := (codeSizeV_range h1).1
    omega
theorem relAt_range {o : Obj} (hO : ObjOK o) {r : Rel} (h : relAt o r = true) : (0 ≤ r.1 ∧ r.1 < 256) ∧ (0 ≤ r.2.1 ∧ r.2.1 < 256) := by
  unfold relAt at h
  rw [Bool.and_eq_true, inR_iff, inR_iff] at h
  have h1 := (unitV_range o hO.toUnitSz r.1).2
  have h2 := hO.f
  have h3 := hO.d
  omega
/-- A valid object fits. -/
theorem objQ_of {o : Obj} (h : objV o = true) : ObjQ o := by
  have hO := objOK_of h
  have hN := namS_of h
  refine ⟨hN.n, by have := hO.depth; omega, hO.f, hO.d, hO.r, hO.s, fun f hf => ?_, fun d hd => ?_, fun r hr => ?_, fun d hd => ?_⟩
  · obtain ⟨i, hi, e⟩ := mem_rd (τ := TFun) hf
    obtain ⟨g1, _, g3, g4⟩ := funC_zero (hO.fun_ i hi)
    rw [e] at g1 g3 g4
    refine ⟨nameV_size g1, ?_, codeSz4 g4⟩
    unfold frameV at g3
    cases hc : decide (16 ≤ f.2.2.1) && decide (f.2.2.1 ≤ 128) with
    | false => rw [hc] at g3; cases g3
    | true => rw [Bool.and_eq_true, decide_eq_true_eq, decide_eq_true_eq] at hc; omega
  · obtain ⟨i, hi, e⟩ := mem_rd (τ := TDat) hd
    obtain ⟨g1, _, g3⟩ := datC_zero (hO.dat i hi)
    rw [e] at g1 g3
    have := datSz_range g3
    exact ⟨nameV_size g1, by omega⟩
  · obtain ⟨i, hi, e⟩ := mem_rd (τ := TRel) hr
    have g := relC_zero (hO.rel i hi)
    have g4 := hO.rel i hi
    unfold relC at g4
    rw [e] at g g4
    split at g4
    · cases g4
    split at g4
    · cases g4
    split at g4
    · cases g4
    rename_i _ _ gn
    have gn : nameV r.2.2.2.1 = true := by simpa using gn
    obtain ⟨u1, u2⟩ := relAt_range hO g.at_
    exact ⟨u1, u2, by have := g.kind; omega, nameV_size gn, g.add⟩
  · obtain ⟨i, hi, e⟩ := mem_rd (τ := TDcl) hd
    unfold objV at h
    rw [decide_eq_true_eq] at h
    unfold lintO at h
    split at h
    · cases h
    split at h
    · cases h
    split at h
    · cases h
    split at h
    · cases h
    split at h
    · rename_i h1; exact absurd h h1
    split at h
    · rename_i h2; exact absurd h h2
    split at h
    · rename_i h3; exact absurd h h3
    have g := (scanB_zero _ _ _).1 h i (Nat.zero_le _) (by omega)
    unfold dclC at g
    rw [e] at g
    cases hr : inR d.1 0 255 with
    | false => rw [hr] at g; cases g
    | true => have := inR_iff.1 hr; omega
/-- Data that '==' tells apart. -/
def tellB : Ty → Bool
  | .bool | .str | .int _ => true
  | .pair a b => tellB a && tellB b
  | _ => false
theorem eqD_iff : ∀ (τ : Ty), tellB τ = true → ∀ x y : τ.den, eqD τ x y = true ↔ x = y
  | .bool, _, x, y => by show ((x : Bool) == y) = true ↔ _; simp
  | .str, _, x, y => by show strEq x y = true ↔ _; rw [strEq_dec, decide_eq_true_eq]
  | .int k, _, x, y => by show decide ((x : Int) = y) = true ↔ _; rw [decide_eq_true_eq]
  | .pair a b, h, x, y => by
    have h' : tellB a = true ∧ tellB b = true := by simpa [tellB] using h
    show (eqD a x.1 y.1 && eqD b x.2 y.2) = true ↔ _
    rw [Bool.and_eq_true, eqD_iff a h'.1, eqD_iff b h'.2]
    exact ⟨fun ⟨h1, h2⟩ => Prod.ext h1 h2, fun h => by rw [h]; exact ⟨rfl, rfl⟩⟩
  | .unit, h, _, _ => by cases h
  | .list _, h, _, _ => by cases h
  | .arr _ _, h, _, _ => by cases h
  | .opt _, h, _, _ => by cases h
theorem list_iff {τ : Ty} (p : τ.den → τ.den → Bool) (a b : List τ.den) (hp : ∀ i : Nat, i < a.length → i < b.length → (p (rd (τ := τ) a (i : Int)) (rd (τ := τ) b (i : Int)) = true ↔ rd (τ := τ) a (i : Int) = rd (τ := τ) b (i : Int))) :
    (decide (a.length = b.length) && allB (fun i => p (rd (τ := τ) a (i : Int)) (rd (τ := τ) b (i : Int))) 0 a.length) = true ↔ a = b := by
  rw [Bool.and_eq_true, decide_eq_true_eq, allB_iff]
  constructor
  · rintro ⟨h1, h2⟩
    refine List.ext_getElem h1 fun i hi hj => ?_
    have := (hp i hi hj).1 (h2 i (Nat.zero_le _) (by omega))
    rw [rd_nat a i hi, rd_nat b i hj] at this
    exact this
  · rintro rfl
    exact ⟨rfl, fun j _ hj => (hp j (by omega) (by omega)).2 rfl⟩
def eqL (τ : Ty) (a b : List τ.den) : Bool := decide (a.length = b.length) && allB (fun i => eqD τ (rd (τ := τ) a (i : Int)) (rd (τ := τ) b (i : Int))) 0 a.length
theorem eqL_iff {τ : Ty} (h : tellB τ = true) (a b : List τ.den) : eqL τ a b = true ↔ a = b := list_iff (eqD τ) a b fun i _ _ => eqD_iff τ h _ _
theorem funs_eq (a b : List Fun) (h : a.length ≤ 1048576) : slices_Equal_impl_PatchFunc a b = some (eqL TFun a b) := by
  rw [slices_Equal_impl_PatchFunc_eq]
  refine equal_gen (L := slices_Equal_impl_PatchFunc.l11010 a b (a.length : Int)) _ (fun _ => ?_) fun hl i hi => ?_
  · rw [slices_Equal_impl_PatchFunc.l11010_eq, lt_nat, decide_eq_false (Nat.lt_irrefl _), cond_false]
  · rw [slices_Equal_impl_PatchFunc.l11010_eq, lt_nat, inL_nat, inL_nat, decide_eq_true hi, decide_eq_true (show i < b.length by omega), w64_succ i _ hi (by omega)]
    simp only [cond_true]
    cases eqD TFun (rd (τ := TFun) a (i : Int)) (rd (τ := TFun) b (i : Int)) <;> rfl
theorem dats_eq (a b : List Dat) (h : a.length ≤ 1048576) : slices_Equal_impl_PatchData a b = some (eqL TDat a b) := by
  rw [slices_Equal_impl_PatchData_eq]
  refine equal_gen (L := slices_Equal_impl_PatchData.l11010 a b (a.length : Int)) _ (fun _ => ?_) fun hl i hi => ?_
  · rw [slices_Equal_impl_PatchData.l11010_eq, lt_nat, decide_eq_false (Nat.lt_irrefl _), cond_false]
  · rw [slices_Equal_impl_PatchData.l11010_eq, lt_nat, inL_nat, inL_nat, decide_eq_true hi, decide_eq_true (show i < b.length by omega), w64_succ i _ hi (by omega)]
    simp only [cond_true]
    cases eqD TDat (rd (τ := TDat) a (i : Int)) (rd (τ := TDat) b (i : Int)) <;> rfl
theorem rels_eq (a b : List Rel) (h : a.length ≤ 1048576) : slices_Equal_impl_Reloc a b = some (eqL TRel a b) := by
  rw [slices_Equal_impl_Reloc_eq]
  refine equal_gen (L := slices_Equal_impl_Reloc.l11010 a b (a.length : Int)) _ (fun _ => ?_) fun hl i hi => ?_
  · rw [slices_Equal_impl_Reloc.l11010_eq, lt_nat, decide_eq_false (Nat.lt_irrefl _), cond_false]
  · rw [slices_Equal_impl_Reloc.l11010_eq, lt_nat, inL_nat, inL_nat, decide_eq_true hi, decide_eq_true (show i < b.length by omega), w64_succ i _ hi (by omega)]
    simp only [cond_true]
    cases eqD TRel (rd (τ := TRel) a (i : Int)) (rd (τ := TRel) b (i : Int)) <;> rfl
theorem dcls_eq (a b : List (Int × Bool)) (h : a.length ≤ 1048576) : slices_Equal_impl_ShadowDecl a b = some (eqL TDcl a b) := by
  rw [slices_Equal_impl_ShadowDecl_eq]
  refine equal_gen (L := slices_Equal_impl_ShadowDecl.l11010 a b (a.length : Int)) _ (fun _ => ?_) fun hl i hi => ?_
  · rw [slices_Equal_impl_ShadowDecl.l11010_eq, lt_nat, decide_eq_false (Nat.lt_irrefl _), cond_false]
  · rw [slices_Equal_impl_ShadowDecl.l11010_eq, lt_nat, inL_nat, inL_nat, decide_eq_true hi, decide_eq_true (show i < b.length by omega), w64_succ i _ hi (by omega)]
    simp only [cond_true]
    cases eqD TDcl (rd (τ := TDcl) a (i : Int)) (rd (τ := TDcl) b (i : Int)) <;> rfl
theorem obj_same (a b : Obj) (h : ObjSz a) : ∃ v, impl_Object_same a b = some v ∧ (v = true ↔ a = b) := by
  have h1 := h.f; have h2 := h.d; have h3 := h.r; have h4 := h.s
  rw [impl_Object_same_eq, strEq_dec, funs_eq _ _ (by omega), dats_eq _ _ (by omega), rels_eq _ _ (by omega), dcls_eq _ _ (by omega)]
  simp only [Option.bind_some]
  by_cases e1 : a.1 = b.1
  · rw [decide_eq_true e1, cond_true]
    by_cases e2 : a.2.1 = b.2.1
    · rw [decide_eq_true e2, cond_true]
      cases q1 : eqL TFun a.2.2.1 b.2.2.1 with
      | false => exact ⟨_, rfl, fun h => (by cases h), fun h => by rw [h, (eqL_iff (τ := TFun) rfl _ _).2 rfl] at q1; cases q1⟩
      | true =>
        cases q2 : eqL TDat a.2.2.2.1 b.2.2.2.1 with
        | false => exact ⟨_, rfl, fun h => (by cases h), fun h => by rw [h, (eqL_iff (τ := TDat) rfl _ _).2 rfl] at q2; cases q2⟩
        | true =>
          cases q3 : eqL TRel a.2.2.2.2.1 b.2.2.2.2.1 with
          | false => exact ⟨_, rfl, fun h => (by cases h), fun h => by rw [h, (eqL_iff (τ := TRel) rfl _ _).2 rfl] at q3; cases q3⟩
          | true =>
            refine ⟨_, rfl, fun q4 => Prod.ext e1 (Prod.ext e2 (Prod.ext ((eqL_iff (τ := TFun) rfl _ _).1 q1) (Prod.ext ((eqL_iff (τ := TDat) rfl _ _).1 q2) (Prod.ext ((eqL_iff (τ := TRel) rfl _ _).1 q3) ((eqL_iff (τ := TDcl) rfl _ _).1 q4))))), fun h => ?_⟩
            rw [h]; exact (eqL_iff (τ := TDcl) rfl _ _).2 rfl
    · rw [decide_eq_false e2]
      exact ⟨_, rfl, fun h => (by cases h), fun h => absurd (by rw [h]) e2⟩
  · rw [decide_eq_false e1]
    exact ⟨_, rfl, fun h => (by cases h), fun h => absurd (by rw [h]) e1⟩
theorem pick_ok {K : Nat} {s : Src} (h : SrcOK (K + 3) s) (l : List ByteArray) (h1 : 1 ≤ l.length) : ∃ (x : ByteArray) (t : Src), spec_l00Src_pick s l = some (x, t) ∧ x ∈ l ∧ SrcOK K t := by
  obtain ⟨v, t, e, v0, v1, _, ht⟩ := next_ok h (l.length : Int)
  have hv := v1 (by omega)
  obtain ⟨n, rfl⟩ : ∃ n : Nat, v = n := ⟨v.toNat, by omega⟩
  have hn : n < l.length := by omega
  rw [spec_l00Src_pick_eq, decide_eq_false (show ¬ (l.length : Int) = 0 by omega), e]
  refine ⟨l[n], t, ?_, List.getElem_mem _, ht⟩
  rw [cond_false, Option.bind_some, inL_nat, decide_eq_true hn, rd_nat (τ := .str) l n hn]; rfl
theorem scan_hit (c : Nat → Int) : ∀ (k i : Nat), (∀ j, i ≤ j → j < i + k → c j = 0) → c (i + k) ≠ 0 → scanB c i (k + 1) = (((i + k : Nat) : Int), c (i + k))
  | 0, i, h, hc => by
    have hc : c i ≠ 0 := hc
    rw [scanB, if_neg hc]; rfl
  | k + 1, i, h, hc => by
    rw [scanB, if_pos (h i (Nat.le_refl _) (by omega)), scan_hit c k (i + 1) (fun j h1 h2 => h j (by omega) (by omega)) (by rw [show i + 1 + k = i + (k + 1) by omega]; exact hc), show i + 1 + k = i + (k + 1) by omega]
/-- A relocation more, in a unit that is not there. -/
def wideO (o : Obj) : Obj := (o.1, o.2.1, o.2.2.1, o.2.2.2.1, o.2.2.2.2.1 ++ [(((o.2.2.1.length : Int) + (o.2.2.2.1.length : Int)), 0, 7, (⟨#[109, 97, 105, 110]⟩ : ByteArray), 0)], o.2.2.2.2.2)
theorem rd_front {τ : Ty} (l : List τ.den) (x : τ.den) (k : Nat) (h : k < l.length) : rd (τ := τ) (l ++ [x]) (k : Int) = rd (τ := τ) l (k : Int) := rd_app1 l [x] k h
theorem rd_last {τ : Ty} (l : List τ.den) (x : τ.den) : rd (τ := τ) (l ++ [x]) (l.length : Int) = x := by
  rw [rd_nat _ _ (by simp)]; simp
theorem wide_rels {o : Obj} (h : RelsR o) (hn : o.2.2.1.length ≤ 4 ∧ o.2.2.2.1.length ≤ 4) : RelsR (wideO o) := by
  intro k hk
  have hk' : k < o.2.2.2.2.1.length + 1 := by simpa [wideO] using hk
  show I64 (rd (τ := TRel) (o.2.2.2.2.1 ++ [_]) (k : Int)).1
  by_cases e : k < o.2.2.2.2.1.length
  · rw [rd_front (τ := TRel) _ _ k e]; exact h k e
  · rw [show k = o.2.2.2.2.1.length by omega, rd_last (τ := TRel)]
    constructor <;> simp only <;> omega
theorem wide_lint {o : Obj} (h : objV o = true) : (o.2.2.1.length ≤ 4 ∧ o.2.2.2.1.length ≤ 4) ∧ lintO (wideO o) = if o.2.2.2.2.1.length + 1 > 32 then (0, 6) else ((o.2.2.2.2.1.length : Int), 4) := by
  have hO := objOK_of h
  unfold objV at h
  rw [decide_eq_true_eq] at h
  unfold lintO at h
  split at h
  · cases h
  rename_i a1
  split at h
  · cases h
  rename_i a2
  split at h
  · cases h
  rename_i a3
  split at h
  · cases h
  rename_i a4
  split at h
  · rename_i a5; exact absurd h a5
  rename_i a5
  split at h
  · rename_i a6; exact absurd h a6
  rename_i a6
  have a4 := Classical.not_not.1 a4
  refine ⟨⟨a4.1, a4.2.1⟩, ?_⟩
  have b1 : nameV (wideO o).1 = nameV o.1 := rfl
  have hlen : (wideO o).2.2.2.2.1.length = o.2.2.2.2.1.length + 1 := by simp [wideO]
  have hrel : scanB (relC (wideO o)) 0 (o.2.2.2.2.1.length + 1) = ((o.2.2.2.2.1.length : Int), 4) := by
    have hlast : relC (wideO o) (0 + o.2.2.2.2.1.length) = 4 := by
      rw [Nat.zero_add]
      unfold relC
      have e : rd (τ := TRel) (wideO o).2.2.2.2.1 (o.2.2.2.2.1.length : Int) = (((o.2.2.1.length : Int) + (o.2.2.2.1.length : Int)), 0, 7, (⟨#[109, 97, 105, 110]⟩ : ByteArray), 0) := rd_last (τ := TRel) _ _
      rw [e, if_pos]
      unfold relAt
      have : inR ((o.2.2.1.length : Int) + (o.2.2.2.1.length : Int)) 0 (((wideO o).2.2.1.length : Int) + ((wideO o).2.2.2.1.length : Int) - 1) = false := by
        cases hq : inR ((o.2.2.1.length : Int) + (o.2.2.2.1.length : Int)) 0 (((wideO o).2.2.1.length : Int) + ((wideO o).2.2.2.1.length : Int) - 1) with
        | false => rfl
        | true =>
          have := inR_iff.1 hq
          have e1 : (wideO o).2.2.1.length = o.2.2.1.length := rfl
          have e2 : (wideO o).2.2.2.1.length = o.2.2.2.1.length := rfl
          omega
      simp only
      rw [this]; rfl
    have := scan_hit (relC (wideO o)) o.2.2.2.2.1.length 0 (fun j _ hj => by
      have hj : j < o.2.2.2.2.1.length := by omega
      have e1 : rd (τ := TRel) (wideO o).2.2.2.2.1 (j : Int) = rd (τ := TRel) o.2.2.2.2.1 (j : Int) := rd_front (τ := TRel) _ _ j hj
      have e2 : rd (τ := TRel) (wideO o).2.2.2.2.1 ((j - 1 : Nat) : Int) = rd (τ := TRel) o.2.2.2.2.1 ((j - 1 : Nat) : Int) := rd_front (τ := TRel) _ _ (j - 1) (by omega)
      have := hO.rel j hj
      unfold relC at this ⊢
      rw [e1, e2]
      exact this) (by rw [hlast]; decide)
    rw [hlast, Nat.zero_add] at this
    exact this
  unfold lintO
  rw [if_neg (show ¬ nameV (wideO o).1 = false from a1), if_neg (show ¬ inR (wideO o).2.1 0 5 = false from a2), if_neg (show ¬ (wideO o).2.2.1.length = 0 from a3), hlen]
  by_cases hm : o.2.2.2.2.1.length + 1 > 32
  · rw [if_pos hm, if_pos (fun hh => by have := hh.2.2.1; omega)]
  · have a7 : (wideO o).2.2.1.length ≤ 4 ∧ (wideO o).2.2.2.1.length ≤ 4 ∧ o.2.2.2.2.1.length + 1 ≤ 32 ∧ (wideO o).2.2.2.2.2.length ≤ 4 := ⟨a4.1, a4.2.1, by omega, a4.2.2.2⟩
    rw [if_neg hm, if_neg (fun hh => hh a7), if_neg (show ¬ (scanB (funC (wideO o)) 0 (wideO o).2.2.1.length).2 ≠ 0 from a5), if_neg (show ¬ (scanB (datC (wideO o)) 0 (wideO o).2.2.2.1.length).2 ≠ 0 from a6), hrel, if_pos (show ((o.2.2.2.2.1.length : Int), (4 : Int)).2 ≠ 0 from by show (4 : Int) ≠ 0; decide)]
/-- How many functions are new. -/
def newC (o : Obj) : Nat → Nat → Nat
  | _, 0 => 0
  | i, k + 1 => (bif (rd (τ := TFun) o.2.2.1 (i : Int)).2.1 then 0 else 1) + newC o (i + 1) k
theorem added_i (o : Obj) (hr : RelsR o) (h : objV o = true) : ∃ A : List ByteArray, impl_AddedNames o = some (A, 0) ∧ A.length = newC o 0 o.2.2.1.length + o.2.2.2.1.length := by
  have hO := objOK_of h
  have hf := hO.f
  have hd := hO.d
  have dat : ∀ (k i : Nat) (acc : List ByteArray), i + k = o.2.2.2.1.length → acc.length ≤ 300 + i → ∃ A : List ByteArray, impl_AddedNames.l1111010 acc o.2.2.2.1 (o.2.2.2.1.length : Int) (i : Int) = some (A, 0) ∧ A.length = acc.length + k := by
    intro k
    induction k with
    | zero =>
      intro i acc hi ha
      have : i = o.2.2.2.1.length := by omega
      subst this
      rw [impl_AddedNames.l1111010_eq, lt_nat, decide_eq_false (Nat.lt_irrefl _), cond_false]
      exact ⟨acc, rfl, rfl⟩
    | succ k ih =>
      intro i acc hi ha
      have hi' : i < o.2.2.2.1.length := by omega
      rw [impl_AddedNames.l1111010_eq, lt_nat, inL_nat, decide_eq_true hi', w64_succ i _ hi' (by omega), room_le (by simp; omega) (by simp; omega)]
      simp only [cond_true]
      obtain ⟨A, e1, e2⟩ := ih (i + 1) (acc ++ [(rd (τ := TDat) o.2.2.2.1 (i : Int)).1]) (by omega) (by simp; omega)
      exact ⟨A, e1, by rw [e2]; simp; omega⟩
  have fun_ : ∀ (k i : Nat) (acc : List ByteArray), i + k = o.2.2.1.length → acc.length ≤ i → ∃ A : List ByteArray, impl_AddedNames.l111010 o acc o.2.2.1 (o.2.2.1.length : Int) (i : Int) = some (A, 0) ∧ A.length = acc.length + newC o i k + o.2.2.2.1.length := by
    intro k
    induction k with
    | zero =>
      intro i acc hi ha
      have : i = o.2.2.1.length := by omega
      subst this
      rw [impl_AddedNames.l111010_eq, lt_nat, decide_eq_false (Nat.lt_irrefl _), cond_false]
      obtain ⟨A, e1, e2⟩ := dat o.2.2.2.1.length 0 acc (by omega) (by omega)
      exact ⟨A, e1, by rw [e2]; simp [newC]⟩
    | succ k ih =>
      intro i acc hi ha
      have hi' : i < o.2.2.1.length := by omega
      rw [impl_AddedNames.l111010_eq, lt_nat, inL_nat, decide_eq_true hi', w64_succ i _ hi' (by omega)]
      simp only [cond_true]
      unfold newC
      cases (rd (τ := TFun) o.2.2.1 (i : Int)).2.1 with
      | true =>
        simp only [Bool.not_true, cond_false, cond_true]
        obtain ⟨A, e1, e2⟩ := ih (i + 1) acc (by omega) (by omega)
        exact ⟨A, e1, by rw [e2]; omega⟩
      | false =>
        simp only [Bool.not_false, cond_true, cond_false]
        rw [room_le (by simp; omega) (by simp; omega), cond_true]
        obtain ⟨A, e1, e2⟩ := ih (i + 1) (acc ++ [(rd (τ := TFun) o.2.2.1 (i : Int)).1]) (by omega) (by simp; omega)
        exact ⟨A, e1, by rw [e2]; simp; omega⟩
  rw [impl_AddedNames_eq, (object_val o hr).1, h]
  obtain ⟨A, e1, e2⟩ := fun_ o.2.2.1.length 0 [] (by omega) (by simp)
  exact ⟨A, e1, by rw [e2]; simp⟩
theorem replaced_i (o : Obj) (hr : RelsR o) (h : objV o = true) : ∃ A : List ByteArray, impl_ReplacedNames o = some (A, 0) ∧ A.length + newC o 0 o.2.2.1.length = o.2.2.1.length := by
  have hO := objOK_of h
  have hf := hO.f
  have fun_ : ∀ (k i : Nat) (acc : List ByteArray), i + k = o.2.2.1.length → acc.length ≤ i → ∃ A : List ByteArray, impl_ReplacedNames.l111010 acc o.2.2.1 (o.2.2.1.length : Int) (i : Int) = some (A, 0) ∧ A.length + newC o i k = acc.length + k := by
    intro k
    induction k with
    | zero =>
      intro i acc hi ha
      have : i = o.2.2.1.length := by omega
      subst this
      rw [impl_ReplacedNames.l111010_eq, lt_nat, decide_eq_false (Nat.lt_irrefl _), cond_false]
      exact ⟨acc, rfl, rfl⟩
    | succ k ih =>
      intro i acc hi ha
      have hi' : i < o.2.2.1.length := by omega
      rw [impl_ReplacedNames.l111010_eq, lt_nat, inL_nat, decide_eq_true hi', w64_succ i _ hi' (by omega)]
      simp only [cond_true]
      unfold newC
      cases (rd (τ := TFun) o.2.2.1 (i : Int)).2.1 with
      | true =>
        simp only [cond_true]
        rw [room_le (by simp; omega) (by simp; omega), cond_true]
        obtain ⟨A, e1, e2⟩ := ih (i + 1) (acc ++ [(rd (τ := TFun) o.2.2.1 (i : Int)).1]) (by omega) (by simp; omega)
        exact ⟨A, e1, by simp at e2; omega⟩
      | false =>
        simp only [cond_false]
        obtain ⟨A, e1, e2⟩ := ih (i + 1) acc (by omega) (by omega)
        exact ⟨A, e1, by omega⟩
  rw [impl_ReplacedNames_eq, (object_val o hr).1, h]
  obtain ⟨A, e1, e2⟩ := fun_ o.2.2.1.length 0 [] (by omega) (by simp)
  exact ⟨A, e1, by simpa using e2⟩
theorem unit_i (o : Obj) (hr : RelsR o) (h : objV o = true) (u : Int) : impl_UnitSize o u = some (if 0 ≤ u ∧ u < (o.2.2.1.length : Int) + (o.2.2.2.1.length : Int) then (unitV o u, 0) else (0, 4)) := by
  have hO := objOK_of h
  have hf := hO.f
  have hd := hO.d
  have hl := units_len o
  rw [impl_UnitSize_eq, (object_val o hr).1, h, units_val o hO.toObjSz]
  simp only [Option.bind_some, Bool.not_true, cond_false]
  rw [w64 (n := ((unitsV o).length : Int) - 1) (by omega) (by omega), within_val]
  simp only [Option.bind_some]
  by_cases hu : 0 ≤ u ∧ u < (o.2.2.1.length : Int) + (o.2.2.2.1.length : Int)
  · rw [if_pos hu, decide_eq_true hu.1, decide_eq_true (show u ≤ ((unitsV o).length : Int) - 1 by omega), inL_true hu.1 (by omega)]
    obtain ⟨k, rfl⟩ : ∃ k : Nat, u = (k : Int) := ⟨u.toNat, by omega⟩
    rw [units_rd o hO.toUnitSz k (by omega)]; rfl
  · rw [if_neg hu]
    have : (decide (0 ≤ u) && decide (u ≤ ((unitsV o).length : Int) - 1)) = false := by
      cases hq : (decide (0 ≤ u) && decide (u ≤ ((unitsV o).length : Int) - 1)) with
      | false => rfl
      | true => simp only [Bool.and_eq_true, decide_eq_true_eq] at hq; omega
    rw [this]; rfl
theorem object_end (o : Obj) (hr : RelsR o) (h : objV o = true) : laws_FnObject.l1111111010 o (o.2.2.2.2.1.length : Int) = some true := by
  have hO := objOK_of h
  have hz := hO.toObjSz
  have hrl := hO.r
  obtain ⟨hn, hw⟩ := wide_lint h
  obtain ⟨v, s1, s2⟩ := obj_same o o hz
  have hv : v = true := s2.2 rfl
  subst hv
  have hwr := wide_rels hr hn
  have hlw := (lintO_val (wideO o) hwr).1
  have hov := (object_val (wideO o) hwr).1
  have hobad : objV (wideO o) = false := by
    unfold objV
    rw [hw]
    split <;> rfl
  rw [laws_FnObject.l1111111010_eq, lt_nat, decide_eq_false (Nat.lt_irrefl _), cond_false, w64 (n := (o.2.2.1.length : Int) + (o.2.2.2.1.length : Int)) (by omega) (by omega), unit_i o hr h, if_neg (by omega)]
  simp only [Option.bind_some]
  rw [room_le (n := 0 + o.2.2.2.2.1.length) (by omega) (by omega), room_le (by simp; omega) (by simp; omega)]
  simp only [cond_true]
  have hlw' : impl_LintObject (o.1, o.2.1, o.2.2.1, o.2.2.2.1, (o.2.2.2.2.1 ++ [((o.2.2.1.length : Int) + (o.2.2.2.1.length : Int), 0, 7, (⟨#[109, 97, 105, 110]⟩ : ByteArray), 0)]), o.2.2.2.2.2) = some (lintO (wideO o)) := hlw
  have hsame : impl_SameObject o o = some true := by rw [impl_SameObject_eq, (object_val o hr).1, h]; simp only [Option.bind_some, cond_true]; rw [s1]; rfl
  have hsame2 : impl_SameObject o (o.1, o.2.1, o.2.2.1, o.2.2.2.1, (o.2.2.2.2.1 ++ [((o.2.2.1.length : Int) + (o.2.2.2.1.length : Int), 0, 7, (⟨#[109, 97, 105, 110]⟩ : ByteArray), 0)]), o.2.2.2.2.2) = some false := by
    rw [impl_SameObject_eq, (object_val o hr).1, h]
    simp only [Option.bind_some, cond_true]
    have hov' : impl_ObjectOK (o.1, o.2.1, o.2.2.1, o.2.2.2.1, (o.2.2.2.2.1 ++ [((o.2.2.1.length : Int) + (o.2.2.2.1.length : Int), 0, 7, (⟨#[109, 97, 105, 110]⟩ : ByteArray), 0)]), o.2.2.2.2.2) = some (objV (wideO o)) := hov
    rw [hov', hobad]; rfl
  rw [hlw', hw, hsame, hsame2]
  simp only [Option.bind_some, joinB, List.length_append, List.length_cons, List.length_nil]
  by_cases hm : o.2.2.2.2.1.length + 1 > 32
  · rw [if_pos hm, decide_eq_true (show ((o.2.2.2.2.1.length + (0 + 1) : Nat) : Int) > 32 by omega)]
    have e : ∀ b : Bool, (bif b then some true else bif decide ((6 : Int) = 6) then some true else some false) = some true := fun b => by cases b <;> rfl
    simp only [decide_true, cond_true, Bool.not_false]
    exact e _
  · rw [if_neg hm, decide_eq_false (show ¬ ((o.2.2.2.2.1.length + (0 + 1) : Nat) : Int) > 32 by omega)]
    simp only [decide_true, cond_true, cond_false, Bool.not_false]
theorem unit_s (o : Obj) (hr : RelsR o) (h : objV o = true) (u : Int) (hu : -9223372036854775808 ≤ u ∧ u ≤ 9223372036854775807) : spec_UnitSize o u = some (if unitV o u < 0 then (0, 4) else (unitV o u, 0)) := by
  have hO := objOK_of h
  rw [spec_UnitSize_eq, (object_val o hr).2, h, spec_unit o hO.toUnitSz u hu]
  simp only [Option.bind_some, Bool.not_true, cond_false]
  by_cases hn : unitV o u < 0
  · rw [if_pos hn, decide_eq_true hn]; rfl
  · rw [if_neg hn, decide_eq_false hn]; rfl
theorem object_loop (o : Obj) (hr : RelsR o) (h : objV o = true) : ∀ (k i : Nat), i + k = o.2.2.2.2.1.length → laws_FnObject.l1111111010 o (i : Int) = some true := by
  have hO := objOK_of h
  have hrl := hO.r
  have hf := hO.f
  have hd := hO.d
  intro k
  induction k with
  | zero =>
    intro i hi
    have : i = o.2.2.2.2.1.length := by omega
    subst this
    exact object_end o hr h
  | succ k ih =>
    intro i hi
    have hi' : i < o.2.2.2.2.1.length := by omega
    have hat := (relC_zero (hO.rel i hi')).at_
    have hI := hr i hi'
    rw [laws_FnObject.l1111111010_eq, lt_nat, inL_nat, decide_eq_true hi', w64_succ i _ hi' (by omega)]
    obtain ⟨r, hre⟩ : ∃ r : Rel, rd (τ := TRel) o.2.2.2.2.1 (i : Int) = r := ⟨_, rfl⟩
    rw [hre] at hat hI ⊢
    unfold relAt at hat
    rw [Bool.and_eq_true] at hat
    obtain ⟨q1, q2⟩ := hat
    have q1 := inR_iff.1 q1
    have q2 := inR_iff.1 q2
    rw [unit_i o hr h, unit_s o hr h r.1 hI, if_pos (show 0 ≤ r.1 ∧ r.1 < (o.2.2.1.length : Int) + (o.2.2.2.1.length : Int) by omega), if_neg (show ¬ unitV o r.1 < 0 by omega)]
    simp only [cond_true, Option.bind_some, decide_true, Bool.not_true, cond_false]
    rw [decide_eq_false (show ¬ r.2.1 ≥ unitV o r.1 by omega), cond_false]
    exact ih (i + 1) (by omega)
/-- FnObject, of draws that give a valid object. -/
theorem object_law_of (a b : List Int) (o : Obj) (e : spec_ObjectDrawn a = some o) (hr : RelsR o) (h : objV o = true) : laws_FnObject a b = some true := by
  have hO := objOK_of h
  have hf := hO.f
  have hd := hO.d
  rw [laws_FnObject_eq]
  simp only [joinB]
  have go : ((spec_ObjectDrawn a).bind fun r3 => (impl_LintObject r3).bind fun r4 => (impl_AddedNames r3).bind fun r5 => (impl_ReplacedNames r3).bind fun r6 => bif (!decide (r4.2 = 0)) then some false else ((impl_ObjectOK r3).bind fun r7 => bif (!r7) then some false else (bif (!decide (r5.2 = 0)) then some false else (bif (!decide (r6.2 = 0)) then some false else (bif (!decide ((IntKind.wrap .i64 ((r5.1.length : Int) + (r6.1.length : Int))) = (IntKind.wrap .i64 ((r3.2.2.1.length : Int) + (r3.2.2.2.1.length : Int))))) then some false else laws_FnObject.l1111111010 r3 0))))) = some true := by
    obtain ⟨A, a1, a2⟩ := added_i o hr h
    obtain ⟨R, b1, b2⟩ := replaced_i o hr h
    have hl : (lintO o).2 = 0 := by unfold objV at h; exact of_decide_eq_true h
    rw [e]
    simp only [Option.bind_some]
    rw [(lintO_val o hr).1, a1, b1, (object_val o hr).1, h]
    simp only [Option.bind_some]
    rw [hl, show ((A.length : Int) + (R.length : Int)) = ((o.2.2.1.length : Int) + (o.2.2.2.1.length : Int)) by omega]
    simp only [decide_true, Bool.not_true, cond_false]
    exact object_loop o hr h o.2.2.2.2.1.length 0 (by omega)
  by_cases h1 : (a.length : Int) > 1048576
  · rw [decide_eq_true h1]; rfl
  · rw [decide_eq_false h1]
    by_cases h2 : (b.length : Int) > 1048576
    · rw [decide_eq_true h2]; rfl
    · rw [decide_eq_false h2]
      simp only [cond_false]
      exact go
theorem less_two (a b c d : Int) : ∃ v : Bool, spec_l00Less [a, b] [c, d] = some v := by
  rw [spec_l00Less_eq, spec_l00Less.l1010_eq]
  simp only [joinB, List.length_cons, List.length_nil]
  rw [show decide ((0 : Int) < ((0 + 1 + 1 : Nat) : Int)) = true from rfl, show inL 0 (0 + 1 + 1) = true from rfl]
  simp only [cond_true]
  cases !decide ((rd (τ := .int .i64) [a, b] 0 : Int) = rd (τ := .int .i64) [c, d] 0) with
  | true => exact ⟨_, rfl⟩
  | false =>
    simp only [cond_false]
    rw [show IntKind.wrap .i64 ((0 : Int) + 1) = 1 from rfl, spec_l00Less.l1010_eq]
    simp only [joinB, List.length_cons, List.length_nil]
    rw [show decide ((1 : Int) < ((0 + 1 + 1 : Nat) : Int)) = true from rfl, show inL 1 (0 + 1 + 1) = true from rfl]
    simp only [cond_true]
    cases !decide ((rd (τ := .int .i64) [a, b] 1 : Int) = rd (τ := .int .i64) [c, d] 1) with
    | true => exact ⟨_, rfl⟩
    | false =>
      simp only [cond_false]
      rw [show IntKind.wrap .i64 ((1 : Int) + 1) = 2 from rfl, spec_l00Less.l1010_eq]
      exact ⟨_, rfl⟩
theorem order_in (l : List Rel) (hl : l.length ≤ 1000) (i : Nat) (hi : i < l.length) (out : List Rel) (ho : out.length ≤ 40) : ∀ (d k : Nat), k + d = out.length → ∃ out' : List Rel, spec_l08Order.l110100100100 l out (i : Int) (k : Int) = spec_l08Order.l11010 l out' ((i + 1 : Nat) : Int) ∧ out'.length = out.length + 1 ∧ ∀ x ∈ out', x ∈ out ∨ x ∈ l := by
  have hins : ∀ k : Nat, k ≤ out.length → ((out.take k ++ [rd (τ := TRel) l (i : Int)]) ++ (out.take out.length).drop k).length = out.length + 1 ∧ ∀ x ∈ ((out.take k ++ [rd (τ := TRel) l (i : Int)]) ++ (out.take out.length).drop k), x ∈ out ∨ x ∈ l := by
    intro k hk
    refine ⟨by simp; omega, fun x hx => ?_⟩
    simp only [List.mem_append, List.mem_singleton] at hx
    rcases hx with (hx | hx) | hx
    · exact .inl (List.mem_of_mem_take hx)
    · exact .inr (hx ▸ rd_mem_list (τ := TRel) l i hi)
    · exact .inl (List.mem_of_mem_take (List.mem_of_mem_drop hx))
  have r1 : ∀ k : Nat, k ≤ out.length → roomB (0 + ((out.take out.length).drop k).length) 48 = true := fun k hk => room_le (by simp; omega) (by simp; omega)
  have r2 : ∀ k : Nat, k ≤ out.length → roomB ((out.take k).length + [rd (τ := TRel) l (i : Int)].length) 48 = true := fun k hk => room_le (by simp; omega) (by simp; omega)
  have r3 : ∀ k : Nat, k ≤ out.length → roomB ((out.take k ++ [rd (τ := TRel) l (i : Int)]).length + ((out.take out.length).drop k).length) 48 = true := fun k hk => room_le (by simp; omega) (by simp; omega)
  intro d
  induction d with
  | zero =>
    intro k hk
    have hk : k = out.length := by omega
    subst hk
    refine ⟨_, ?_, hins out.length (Nat.le_refl _)⟩
    rw [spec_l08Order.l110100100100_eq, lt_nat, decide_eq_false (Nat.lt_irrefl _)]
    simp only [cond_false, Int.toNat_natCast, inL_nat, decide_eq_true hi, decide_eq_true (show (0 : Int) ≤ (out.length : Int) by omega), decide_eq_true (Int.le_refl (out.length : Int)), Bool.and_self, cond_true, r1 _ (Nat.le_refl _), r2 _ (Nat.le_refl _), r3 _ (Nat.le_refl _)]
    rw [w64_succ i _ hi (by omega)]
  | succ d ih =>
    intro k hk
    have hk' : k < out.length := by omega
    obtain ⟨v, hv⟩ := less_two (rd (τ := TRel) out (k : Int)).1 (rd (τ := TRel) out (k : Int)).2.1 (rd (τ := TRel) l (i : Int)).1 (rd (τ := TRel) l (i : Int)).2.1
    rw [spec_l08Order.l110100100100_eq, lt_nat, decide_eq_true hk']
    simp only [cond_true, inL_nat, decide_eq_true hk', decide_eq_true hi]
    rw [hv]
    simp only [Option.bind_some]
    cases v with
    | true =>
      rw [cond_true, w64_succ k _ hk' (by omega)]
      exact ih (k + 1) (by omega)
    | false =>
      refine ⟨_, ?_, hins k (by omega)⟩
      simp only [cond_false, Int.toNat_natCast, decide_eq_true (show (0 : Int) ≤ (k : Int) by omega), decide_eq_true (show (k : Int) ≤ (out.length : Int) by omega), decide_eq_true (Int.le_refl (out.length : Int)), Bool.and_self, cond_true, r1 k (by omega), r2 k (by omega), r3 k (by omega)]
      rw [w64_succ i _ hi (by omega)]
theorem order_ok (l : List Rel) (hl : l.length ≤ 1000) : ∃ r : List Rel, spec_l08Order l = some r ∧ r.length ≤ 32 ∧ ∀ x ∈ r, x ∈ l := by
  have key : ∀ (k i : Nat) (out : List Rel), i + k = l.length → out.length = i → i ≤ 32 → (∀ x ∈ out, x ∈ l) → ∃ r : List Rel, spec_l08Order.l11010 l out (i : Int) = some r ∧ r.length ≤ 32 ∧ ∀ x ∈ r, x ∈ l := by
    intro k
    induction k with
    | zero =>
      intro i out hi ho h32 hm
      have : i = l.length := by omega
      subst this
      rw [spec_l08Order.l11010_eq, lt_nat, decide_eq_false (Nat.lt_irrefl _), cond_false]
      exact ⟨out, rfl, by omega, hm⟩
    | succ k ih =>
      intro i out hi ho h32 hm
      have hi' : i < l.length := by omega
      rw [spec_l08Order.l11010_eq, lt_nat, decide_eq_true hi', cond_true]
      by_cases h : (i : Int) < 32
      · rw [decide_eq_true h, cond_true]
        obtain ⟨out', e1, e2, e3⟩ := order_in l hl i hi' out (by omega) out.length 0 (by omega)
        have e1' : spec_l08Order.l110100100100 l out (i : Int) 0 = spec_l08Order.l11010 l out' ((i + 1 : Nat) : Int) := e1
        rw [e1']
        exact ih (i + 1) out' (by omega) (by omega) (by omega) fun x hx => (e3 x hx).elim (hm x) id
      · rw [decide_eq_false h, cond_false]
        exact ⟨out, rfl, by omega, hm⟩
  rw [spec_l08Order_eq]
  exact key l.length 0 [] (by omega) rfl (by omega) (by simp)
/-- Relocations whose units are numbers of the machine. -/
def RelsI (l : List Rel) : Prop := ∀ x ∈ l, I64 x.1
theorem relsR_of {o : Obj} (h : RelsI o.2.2.2.2.1) : RelsR o := fun k hk => h _ (rd_mem_list (τ := TRel) _ k hk)
theorem shads_ok {K : Nat} {s : Src} (h : SrcOK (K + 9) s) (o : Obj) (l : List Rel) (hl : RelsI l) (hs : o.2.2.2.2.2.length ≤ 100) :
    ∃ (o' : Obj) (t : Src), ((spec_l00Src_chance s 2).bind fun r26 => bif r26.1 then ((spec_l00Src_next r26.2 3).bind fun r27 => (spec_l00Src_chance r27.2 2).bind fun r28 => bif (roomB ((o.2.2.2.2.2.length) + ([(r27.1, r28.1)].length)) 16) then some ((o.1, o.2.1, o.2.2.1, o.2.2.2.1, l, (o.2.2.2.2.2 ++ [(r27.1, r28.1)])), r28.2) else none) else some ((o.1, o.2.1, o.2.2.1, o.2.2.2.1, l, o.2.2.2.2.2), r26.2)) = some (o', t) ∧ RelsR o' ∧ SrcOK K t := by
  obtain ⟨v, t, e, ht⟩ := chance_ok (K := K + 6) h 2
  rw [e]
  simp only [Option.bind_some]
  cases v with
  | false => exact ⟨_, t, rfl, relsR_of hl, ht.mono (by omega)⟩
  | true =>
    obtain ⟨n, t1, e1, _, _, _, ht1⟩ := next_ok (K := K + 3) ht 3
    obtain ⟨b, t2, e2, ht2⟩ := chance_ok (K := K) ht1 2
    rw [e1]
    simp only [cond_true, Option.bind_some]
    rw [e2]
    simp only [Option.bind_some]
    rw [room_le (by simp; omega) (by simp; omega), cond_true]
    exact ⟨_, t2, rfl, relsR_of hl, ht2⟩
theorem object_tail {K : Nat} {s : Src} (h : SrcOK (K + 18) s) (z o : Obj) (names places : List ByteArray) (hn : 1 ≤ names.length) (hf : o.2.2.1.length ≤ 100) (hr : o.2.2.2.2.1.length ≤ 900) (hl : RelsI o.2.2.2.2.1) (hs : o.2.2.2.2.2.length ≤ 100) :
    ∃ (o' : Obj) (t : Src), spec_l00Src_object.l11111111010 s z o names places (o.2.2.1.length : Int) = some (o', t) ∧ RelsR o' ∧ SrcOK K t := by
  rw [spec_l00Src_object.l11111111010_eq, decide_eq_false (Int.lt_irrefl _), cond_false]
  have no : ∀ s : Src, SrcOK (K + 9) s → ∃ (o' : Obj) (t : Src), ((spec_l08Order o.2.2.2.2.1).bind fun r25 => (spec_l00Src_chance s 2).bind fun r26 => bif r26.1 then ((spec_l00Src_next r26.2 3).bind fun r27 => (spec_l00Src_chance r27.2 2).bind fun r28 => bif (roomB ((o.2.2.2.2.2.length) + ([(r27.1, r28.1)].length)) 16) then some ((o.1, o.2.1, o.2.2.1, o.2.2.2.1, r25, (o.2.2.2.2.2 ++ [(r27.1, r28.1)])), r28.2) else none) else some ((o.1, o.2.1, o.2.2.1, o.2.2.2.1, r25, o.2.2.2.2.2), r26.2)) = some (o', t) ∧ RelsR o' ∧ SrcOK K t := by
    intro s h
    obtain ⟨r, e, _, hm⟩ := order_ok o.2.2.2.2.1 (by omega)
    rw [e]
    simp only [Option.bind_some]
    exact shads_ok h o r (fun x hx => hl x (hm x hx)) hs
  have yes : ∀ s : Src, SrcOK (K + 15) s → ∃ (o' : Obj) (t : Src), ((spec_l00Src_pick s names).bind fun r19 => (spec_l00Src_next r19.2 9).bind fun r20 => bif (roomB ((o.2.2.2.2.1.length) + ([((o.2.2.1.length : Int), (0 : Int), (9 : Int), r19.1, (IntKind.wrap .i64 (r20.1 - 4)))].length)) 48) then ((spec_l08Order (o.2.2.2.2.1 ++ [((o.2.2.1.length : Int), 0, 9, r19.1, (IntKind.wrap .i64 (r20.1 - 4)))])).bind fun r21 => (spec_l00Src_chance r20.2 2).bind fun r22 => bif r22.1 then ((spec_l00Src_next r22.2 3).bind fun r23 => (spec_l00Src_chance r23.2 2).bind fun r24 => bif (roomB ((o.2.2.2.2.2.length) + ([(r23.1, r24.1)].length)) 16) then some ((o.1, o.2.1, o.2.2.1, o.2.2.2.1, r21, (o.2.2.2.2.2 ++ [(r23.1, r24.1)])), r24.2) else none) else some ((o.1, o.2.1, o.2.2.1, o.2.2.2.1, r21, o.2.2.2.2.2), r22.2)) else none) = some (o', t) ∧ RelsR o' ∧ SrcOK K t := by
    intro s h
    obtain ⟨x, t, e, _, ht⟩ := pick_ok (K := K + 12) h names hn
    obtain ⟨n, t1, e1, _, _, _, ht1⟩ := next_ok (K := K + 9) ht 9
    rw [e]
    simp only [Option.bind_some]
    rw [e1]
    simp only [Option.bind_some]
    rw [room_le (by simp; omega) (by simp; omega), cond_true]
    obtain ⟨r, e2, _, hm⟩ := order_ok (o.2.2.2.2.1 ++ [((o.2.2.1.length : Int), 0, 9, x, (IntKind.wrap .i64 (n - 4)))]) (by simp; omega)
    rw [e2]
    simp only [Option.bind_some]
    exact shads_ok ht1 o r (fun y hy => by
      rcases List.mem_append.1 (hm y hy) with q | q
      · exact hl y q
      · rw [List.mem_singleton] at q; subst q; constructor <;> simp only <;> omega) hs
  simp only [joinB]
  by_cases hd : (o.2.2.2.1.length : Int) > 0
  · rw [decide_eq_true hd, cond_true]
    obtain ⟨v, t, e, ht⟩ := chance_ok (K := K + 15) h 3
    rw [e]
    simp only [Option.bind_some]
    cases v with
    | true => exact yes t ht
    | false => exact no t (ht.mono (by omega))
  · rw [decide_eq_false hd, cond_false]
    exact no s (h.mono (by omega))
theorem datas_ok {K : Nat} (fs ds : List ByteArray) (z : Obj) : ∀ (k : Nat) (s : Src) (o : Obj), k ≤ 2 → SrcOK (K + 40 * k) s → o.2.2.2.1.length + k ≤ 10 →
    ∃ (o' : Obj) (t : Src), spec_l00Src_object.l11010 s fs ds z o (k : Int) = ((spec_l00Src_next t 3).bind fun r3 => spec_l00Src_object.l1111010 r3.2 fs ds z o' [] (IntKind.wrap .i64 (1 + r3.1))) ∧ SrcOK K t ∧ o'.2.2.1 = o.2.2.1 ∧ o'.2.2.2.2 = o.2.2.2.2 ∧ o'.2.2.2.1.length = o.2.2.2.1.length + k := by
  intro k
  induction k with
  | zero =>
    intro s o hk h hl
    rw [spec_l00Src_object.l11010_eq, decide_eq_false (show ¬ ((0 : Nat) : Int) > 0 by omega), cond_false]
    exact ⟨o, s, rfl, h.mono (by omega), rfl, rfl, rfl⟩
  | succ k ih =>
    intro s o hk h hl
    obtain ⟨n, t, e, n0, n1, _, ht⟩ := next_ok (K := K + 40 * k + 37) (h.mono (by omega)) 3
    have n1 := n1 (by decide)
    obtain ⟨m, rfl⟩ : ∃ m : Nat, n = (m : Int) := ⟨n.toNat, by omega⟩
    obtain ⟨x, t1, e1, _, ht1⟩ := some_ok (K := K + 40 * k) (8 * (1 + m)) (by omega) (ht.mono (by omega))
    rw [spec_l00Src_object.l11010_eq, decide_eq_true (show ((k + 1 : Nat) : Int) > 0 by omega), cond_true]
    rw [show inL ((k + 1 : Nat) : Int) ([(⟨#[101, 120, 116, 114, 97]⟩ : ByteArray), (⟨#[102, 108, 97, 103, 115]⟩ : ByteArray), (⟨#[109, 111, 114, 101]⟩ : ByteArray)].length) = true from inL_true (by omega) (by simp; omega), cond_true, e]
    simp only [Option.bind_some]
    rw [w64 (n := 1 + (m : Int)) (by omega) (by omega), w64 (n := 8 * (1 + (m : Int))) (by omega) (by omega), show 8 * (1 + (m : Int)) = ((8 * (1 + m) : Nat) : Int) by omega, e1]
    simp only [Option.bind_some]
    rw [room_le (by simp; omega) (by simp; omega), cond_true, w64 (n := ((k + 1 : Nat) : Int) - 1) (by omega) (by omega), show ((k + 1 : Nat) : Int) - 1 = (k : Int) by omega]
    obtain ⟨o', t', e2, h2, h3, h4, h5⟩ := ih t1 (o.1, o.2.1, o.2.2.1, o.2.2.2.1 ++ [((rd (τ := .str) [(⟨#[101, 120, 116, 114, 97]⟩ : ByteArray), (⟨#[102, 108, 97, 103, 115]⟩ : ByteArray), (⟨#[109, 111, 114, 101]⟩ : ByteArray)] ((k + 1 : Nat) : Int)), x)], o.2.2.2.2) (by omega) ht1 (by simp; omega)
    exact ⟨o', t', e2, h2, h3, h4, by rw [h5]; simp; omega⟩
theorem has_ok1 (l : List ByteArray) (x : ByteArray) (hl : l.length ≤ 1000000) : ∀ (m k : Nat), k + m = l.length → ∃ b : Bool, spec_l00Has.l1010 l x (k : Int) = some b := by
  intro m
  induction m with
  | zero =>
    intro k hk
    rw [spec_l00Has.l1010_eq, decide_eq_false (show ¬ (k : Int) < (l.length : Int) by omega), cond_false]
    exact ⟨_, rfl⟩
  | succ m ih =>
    intro k hk
    rw [spec_l00Has.l1010_eq, decide_eq_true (show (k : Int) < (l.length : Int) by omega), cond_true, inL_true (by omega) (by omega), cond_true]
    cases strEq (rd (τ := .str) l (k : Int)) x with
    | true => exact ⟨_, rfl⟩
    | false =>
      rw [cond_false, w64 (n := (k : Int) + 1) (by omega) (by omega), show (k : Int) + 1 = ((k + 1 : Nat) : Int) by omega]
      exact ih (k + 1) (by omega)
theorem has_ok (l : List ByteArray) (x : ByteArray) (hl : l.length ≤ 1000000) : ∃ b : Bool, spec_l00Has l x = some b := by
  rw [spec_l00Has_eq]
  exact has_ok1 l x hl l.length 0 (by omega)
theorem funs_ok {K : Nat} (fs ds : List ByteArray) (z : Obj) (hf1 : 1 ≤ fs.length) (hf : fs.length ≤ 100) (hd : ds.length ≤ 100) : ∀ (k : Nat) (s : Src) (o : Obj) (own : List ByteArray), k ≤ 10 → SrcOK (K + 9 * k) s → o.2.2.1.length + k ≤ 100 → own.length + k ≤ 100 →
    ∃ (o' : Obj) (own' : List ByteArray) (t : Src), spec_l00Src_object.l1111010 s fs ds z o own (k : Int) = spec_l00Src_object.l1111111010 t z o' (fs ++ own') ds 0 ∧ SrcOK K t ∧ o'.2.2.2 = o.2.2.2 ∧ o'.2.2.1.length ≤ o.2.2.1.length + k ∧ own'.length ≤ own.length + k := by
  intro k
  induction k with
  | zero =>
    intro s o own hk h hl ho
    rw [spec_l00Src_object.l1111010_eq, decide_eq_false (show ¬ ((0 : Nat) : Int) > 0 by omega), cond_false, room_le (by omega) (by omega), cond_true, room_le (by omega) (by omega), cond_true, room_le (by omega) (by omega), cond_true]
    exact ⟨o, own, s, rfl, h.mono (by omega), rfl, by omega, by omega⟩
  | succ k ih =>
    intro s o own hk h hl ho
    have fin : ∀ (t : Src) (x : ByteArray) (g : Bool), SrcOK (K + 9 * k) t → ∃ (o' : Obj) (own' : List ByteArray) (u : Src), ((spec_l00Has own x).bind fun r11 => bif r11 then spec_l00Src_object.l1111010 t fs ds z o own (IntKind.wrap .i64 (((k + 1 : Nat) : Int) - 1)) else (bif (roomB ((own.length) + ([x].length)) 16) then (bif (roomB ((o.2.2.1.length) + ([(x, g, (0 : Int), (⟨#[]⟩ : ByteArray))].length)) 48) then spec_l00Src_object.l1111010 t fs ds z (o.1, o.2.1, (o.2.2.1 ++ [(x, g, 0, (⟨#[]⟩ : ByteArray))]), o.2.2.2) (own ++ [x]) (IntKind.wrap .i64 (((k + 1 : Nat) : Int) - 1)) else none) else none)) = spec_l00Src_object.l1111111010 u z o' (fs ++ own') ds 0 ∧ SrcOK K u ∧ o'.2.2.2 = o.2.2.2 ∧ o'.2.2.1.length ≤ o.2.2.1.length + (k + 1) ∧ own'.length ≤ own.length + (k + 1) := by
      intro t x g ht
      obtain ⟨b, e⟩ := has_ok own x (by omega)
      rw [e]
      simp only [Option.bind_some]
      rw [w64 (n := ((k + 1 : Nat) : Int) - 1) (by omega) (by omega), show ((k + 1 : Nat) : Int) - 1 = (k : Int) by omega]
      cases b with
      | true =>
        obtain ⟨o', own', u, e1, h1, h2, h3, h4⟩ := ih t o own (by omega) ht (by omega) (by omega)
        exact ⟨o', own', u, e1, h1, h2, by omega, by omega⟩
      | false =>
        rw [cond_false, room_le (by simp; omega) (by simp; omega), cond_true, room_le (by simp; omega) (by simp; omega), cond_true]
        obtain ⟨o', own', u, e1, h1, h2, h3, h4⟩ := ih t (o.1, o.2.1, (o.2.2.1 ++ [(x, g, 0, (⟨#[]⟩ : ByteArray))]), o.2.2.2) (own ++ [x]) (by omega) ht (by simp; omega) (by simp; omega)
        exact ⟨o', own', u, e1, h1, h2, by simp at h3; omega, by simp at h4; omega⟩
    obtain ⟨x, t, e, _, ht⟩ := pick_ok (K := K + 9 * k + 6) (h.mono (by omega)) fs hf1
    obtain ⟨v, t1, e1, ht1⟩ := chance_ok (K := K + 9 * k + 3) ht 3
    rw [spec_l00Src_object.l1111010_eq, decide_eq_true (show ((k + 1 : Nat) : Int) > 0 by omega), cond_true, e]
    simp only [Option.bind_some]
    rw [e1]
    simp only [Option.bind_some]
    cases v with
    | true =>
      obtain ⟨y, t2, e2, _, ht2⟩ := pick_ok (K := K + 9 * k) ht1 [(⟨#[104, 101, 108, 112]⟩ : ByteArray), (⟨#[97, 105, 100]⟩ : ByteArray), (⟨#[115, 105, 100, 101]⟩ : ByteArray), (⟨#[108, 105, 102, 116]⟩ : ByteArray)] (by decide)
      rw [cond_true, e2]
      simp only [Option.bind_some]
      exact fin t2 y false ht2
    | false =>
      rw [cond_false]
      exact fin t1 x true (ht1.mono (by omega))
theorem places_ok (z o : Obj) (s : Src) (names : List ByteArray) (hd : o.2.2.2.1.length ≤ 100) : ∀ (m i : Nat) (places : List ByteArray), i + m = o.2.2.2.1.length → places.length + m ≤ 1000 →
    ∃ places' : List ByteArray, spec_l00Src_object.l1111111010 s z o names places (i : Int) = spec_l00Src_object.l11111111010 s z o names places' 0 ∧ places'.length ≤ 1000 := by
  intro m
  induction m with
  | zero =>
    intro i places hi hp
    rw [spec_l00Src_object.l1111111010_eq, decide_eq_false (show ¬ (i : Int) < (o.2.2.2.1.length : Int) by omega), cond_false]
    exact ⟨places, rfl, by omega⟩
  | succ m ih =>
    intro i places hi hp
    rw [spec_l00Src_object.l1111111010_eq, decide_eq_true (show (i : Int) < (o.2.2.2.1.length : Int) by omega), cond_true, inL_true (by omega) (by omega), cond_true, room_le (by simp; omega) (by simp; omega), cond_true, w64 (n := (i : Int) + 1) (by omega) (by omega), show (i : Int) + 1 = ((i + 1 : Nat) : Int) by omega]
    exact ih (i + 1) _ (by omega) (by simp; omega)
/-- The places a drawn function may call: one million for each name. -/
def callsL (n : Nat) : List Int := (List.range n).map fun (k : Nat) => 1000000 * ((k : Int) + 1)
theorem callsL_len (n : Nat) : (callsL n).length = n := by simp [callsL]
theorem callsL_succ (n : Nat) : callsL (n + 1) = callsL n ++ [1000000 * ((n : Int) + 1)] := by
  simp [callsL, List.range_succ]
theorem callsL_mem {n : Nat} {c : Int} (h : c ∈ callsL n) : ∃ k : Nat, k < n ∧ c = 1000000 * ((k : Int) + 1) := by
  obtain ⟨k, hk, rfl⟩ := List.mem_map.1 h
  exact ⟨k, List.mem_range.1 hk, rfl⟩
theorem calls_ok (z o : Obj) (s : Src) (names places : List ByteArray) (u : Int) (hn : names.length ≤ 200) : ∀ (m i : Nat), i + m = names.length →
    spec_l00Src_object.l1111111101001001010 s z o names places u (callsL i) (i : Int) = spec_l00Src_object.l1111111101001001010 s z o names places u (callsL names.length) (names.length : Int) := by
  intro m
  induction m with
  | zero =>
    intro i hi
    rw [show names.length = i by omega]
  | succ m ih =>
    intro i hi
    rw [spec_l00Src_object.l1111111101001001010_eq s z o names places u (callsL i), decide_eq_true (show (i : Int) < (names.length : Int) by omega), cond_true, room_le (by rw [callsL_len]; simp; omega) (by rw [callsL_len]; simp; omega), cond_true, w64 (n := (i : Int) + 1) (by omega) (by omega), w64 (n := 1000000 * ((i : Int) + 1)) (by omega) (by omega), ← callsL_succ, show (i : Int) + 1 = ((i + 1 : Nat) : Int) by omega]
    exact ih (i + 1) (by omega)
/-- From i on each call goes to a place of callsL. -/
def CallsAt (n : Nat) (l : List Ins) (i : Nat) : Prop := ∀ k : Nat, i ≤ k → ∀ x, l[k]? = some x → x.1 = 3 → x.2.1 = 1 → ∃ c ∈ callsL n, x.2.2.2.2 = c - 4 * (k : Int)
theorem EncR.zero {x : Ins} (h : EncR x) : EncR (x.1, x.2.1, x.2.2.1, x.2.2.2.1, 0) := ⟨h.1, by obtain ⟨_, q, _⟩ := h; exact ⟨q.d, q.a, q.b, by constructor <;> simp only <;> omega⟩, fun _ => Int.zero_emod _⟩
theorem rel_loop (z : Obj) (s : Src) (names places : List ByteArray) (hn : names.length ≤ 200) (u : Nat) (f : Int) : ∀ (m i : Nat) (o : Obj) (l : List Ins), i + m = l.length → l.length ≤ 100 → (∀ x ∈ l, EncR x) → CallsAt names.length l i → u < o.2.2.1.length → o.2.2.1.length ≤ 100 → RelsI o.2.2.2.2.1 → o.2.2.2.2.1.length + m ≤ 100000 →
    ∃ o' : Obj, spec_l00Src_object.l11111111010010011111010 s z o names places (u : Int) f l (i : Int) = spec_l00Src_object.l11111111010 s z o' names places ((u + 1 : Nat) : Int) ∧ o'.2.2.1.length = o.2.2.1.length ∧ o'.2.2.2.1 = o.2.2.2.1 ∧ RelsI o'.2.2.2.2.1 ∧ o'.2.2.2.2.1.length ≤ o.2.2.2.2.1.length + m ∧ o'.2.2.2.2.2 = o.2.2.2.2.2 := by
  intro m
  induction m with
  | zero =>
    intro i o l hi hl hr hc hu hf hR hm
    rw [spec_l00Src_object.l11111111010010011111010_eq, decide_eq_false (show ¬ (i : Int) < (l.length : Int) by omega), cond_false, inL_true (by omega) (by omega), cond_true]
    simp only [letB]
    rw [spec_words l (by omega) hr]
    simp only [Option.bind_some]
    rw [inL_true (by omega) (by rw [List.length_set]; omega), cond_true, w64 (n := (u : Int) + 1) (by omega) (by omega), show (u : Int) + 1 = ((u + 1 : Nat) : Int) by omega]
    exact ⟨_, rfl, by simp, rfl, hR, by simp, rfl⟩
  | succ m ih =>
    intro i o l hi hl hr hc hu hf hR hm
    have hin : inL (i : Int) l.length = true := inL_true (by omega) (by omega)
    rw [spec_l00Src_object.l11111111010010011111010_eq, decide_eq_true (show (i : Int) < (l.length : Int) by omega), cond_true]
    simp only [joinB, letB, hin, cond_true]
    obtain ⟨x, hx, hrd⟩ := rd_get (xs := l) (i := i) (by omega)
    have next : ∀ (o : Obj) (l' : List Ins), l'.length = l.length → (∀ x ∈ l', EncR x) → CallsAt names.length l' (i + 1) → u < o.2.2.1.length → o.2.2.1.length ≤ 100 → RelsI o.2.2.2.2.1 → o.2.2.2.2.1.length + m ≤ 100000 →
        ∃ o' : Obj, spec_l00Src_object.l11111111010010011111010 s z o names places (u : Int) f l' (IntKind.wrap .i64 ((i : Int) + 1)) = spec_l00Src_object.l11111111010 s z o' names places ((u + 1 : Nat) : Int) ∧ o'.2.2.1.length = o.2.2.1.length ∧ o'.2.2.2.1 = o.2.2.2.1 ∧ RelsI o'.2.2.2.2.1 ∧ o'.2.2.2.2.1.length ≤ o.2.2.2.2.1.length + m ∧ o'.2.2.2.2.2 = o.2.2.2.2.2 := by
      intro o l' e1 e2 e3 e4 e5 e6 e7
      rw [w64 (n := (i : Int) + 1) (by omega) (by omega), show (i : Int) + 1 = ((i + 1 : Nat) : Int) by omega]
      exact ih (i + 1) o l' (by omega) (by omega) e2 e3 e4 e5 e6 e7
    have same : ∃ o' : Obj, spec_l00Src_object.l11111111010010011111010 s z o names places (u : Int) f l (IntKind.wrap .i64 ((i : Int) + 1)) = spec_l00Src_object.l11111111010 s z o' names places ((u + 1 : Nat) : Int) ∧ o'.2.2.1.length = o.2.2.1.length ∧ o'.2.2.2.1 = o.2.2.2.1 ∧ RelsI o'.2.2.2.2.1 ∧ o'.2.2.2.2.1.length ≤ o.2.2.2.2.1.length + (m + 1) ∧ o'.2.2.2.2.2 = o.2.2.2.2.2 := by
      obtain ⟨o', a1, a2, a3, a4, a5, a6⟩ := next o l rfl hr (fun k hk => hc k (by omega)) hu hf hR (by omega)
      exact ⟨o', a1, a2, a3, a4, by omega, a6⟩
    rw [hrd]
    by_cases h3 : x.1 = 3
    · rw [decide_eq_true h3, cond_true]
      by_cases h1 : x.2.1 = 1
      · rw [decide_eq_true h1, cond_true]
        obtain ⟨c, hcm, he⟩ := hc i (Nat.le_refl _) x hx h3 h1
        obtain ⟨k, hk, rfl⟩ := callsL_mem hcm
        have e1 : IntKind.wrap .i64 (4 * (i : Int)) = 4 * (i : Int) := w64 (by omega) (by omega)
        have e2 : IntKind.wrap .i64 (x.2.2.2.2 + 4 * (i : Int)) = 1000000 * ((k : Int) + 1) := by rw [he, show 1000000 * ((k : Int) + 1) - 4 * (i : Int) + 4 * (i : Int) = 1000000 * ((k : Int) + 1) by omega]; exact w64 (by omega) (by omega)
        have e3 : (1000000 * ((k : Int) + 1)).tdiv 1000000 = (k : Int) + 1 := by rw [Int.tdiv_eq_ediv_of_nonneg (by omega)]; omega
        have e4 : IntKind.wrap .i64 ((k : Int) + 1) = (k : Int) + 1 := w64 (by omega) (by omega)
        have e5 : IntKind.wrap .i64 ((k : Int) + 1 - 1) = (k : Int) := by rw [show (k : Int) + 1 - 1 = (k : Int) by omega]; exact w64 (by omega) (by omega)
        rw [e1, e2, e3, e4, e5, show inL (k : Int) names.length = true from inL_true (by omega) (by omega), cond_true, room_le (by simp; omega) (by simp; omega), cond_true]
        obtain ⟨o', a1, a2, a3, a4, a5, a6⟩ := next (o.1, o.2.1, o.2.2.1, o.2.2.2.1, (o.2.2.2.2.1 ++ [((u : Int), (i : Int), 7, (rd (τ := .str) names (k : Int)), 0)]), o.2.2.2.2.2) (l.set i (x.1, x.2.1, x.2.2.1, x.2.2.2.1, 0)) (by simp) (fun y hy => by
          rcases List.mem_or_eq_of_mem_set hy with q | q
          · exact hr y q
          · subst q; exact (hr x (List.mem_of_getElem? hx)).zero) (fun k hk y hy => hc k (by omega) y (by rw [← hy, List.getElem?_set_ne (by omega)])) hu hf (fun y hy => by
          rcases List.mem_append.1 hy with q | q
          · exact hR y q
          · rw [List.mem_singleton] at q; subst q; constructor <;> simp only <;> omega) (by simp; omega)
        rw [Int.toNat_natCast]
        exact ⟨o', a1, a2, a3, a4, by simp at a5; omega, a6⟩
      · rw [decide_eq_false h1, cond_false]
        exact same
    · rw [decide_eq_false h3, cond_false]
      exact same
theorem pro_enc {f : Int} (hf : FrmP f) : ∀ x ∈ proL f, x.1 ≠ 3 ∧ EncR x := by
  have hfr := hf.range
  intro x hx
  simp only [proL, List.mem_cons, List.not_mem_nil, or_false] at hx
  rcases hx with rfl | rfl
  · exact ⟨by simp only; omega, EncR.right (r22 (by decide) (by decide) (by omega))⟩
  · exact ⟨by simp only; omega, EncR.right (r21 (by decide) (by decide) (by omega))⟩
theorem epi_enc {f : Int} (hf : FrmP f) : ∀ x ∈ epiL f, x.1 ≠ 3 ∧ EncR x := by
  have hfr := hf.range
  intro x hx
  simp only [epiL, List.mem_cons, List.not_mem_nil, or_false] at hx
  rcases hx with rfl | rfl | rfl
  · exact ⟨by simp only; omega, EncR.right (r14 (by decide) (by decide) (by omega))⟩
  · exact ⟨by simp only; omega, EncR.right (r22 (by decide) (by decide) (by omega))⟩
  · exact ⟨by decide, EncR.right (by decide +kernel)⟩
/-- The instructions of a drawn function, whatever its end. -/
theorem drawn_calls {f : Int} {n : Nat} (hn : n ≤ 200) (hf : FrmP f) {b t : List Ins} (h : Dpcs f (fun i m => ∃ c ∈ callsL n, m = c - 0 - 4 * i) (· ∈ ([] : List Int)) 2 b) (hb : b.length ≤ 51) (ht : ∀ x ∈ t, x.1 ≠ 3 ∧ EncR x) :
    CallsAt n (proL f ++ b ++ t) 0 ∧ ∀ x ∈ proL f ++ b ++ t, EncR x := by
  have hD : ∀ d, d ∈ ([] : List Int) → DatP d := fun d hd => nomatch hd
  have mid : ∀ (j : Nat) (x : Ins), b[j]? = some x → (x.1 = 3 → ∃ c ∈ callsL n, x.2.2.2.2 = c - 4 * ((j + 2 : Nat) : Int)) ∧ EncR x := by
    intro j x hx
    have hj : j < b.length := (List.getElem?_eq_some_iff.1 hx).1
    rcases h.ins hD hf j x hx with ⟨m, rfl, c, hc, hm⟩ | h
    · obtain ⟨k, hk, rfl⟩ := callsL_mem hc
      exact ⟨fun _ => ⟨_, hc, by simp only; omega⟩, enc_of (by decide) (by decide) (by decide) (by decide) (by omega) (by decide)⟩
    · exact ⟨fun e => absurd e h.2.1, EncR.right h.1⟩
  constructor
  · intro k _ x hx h3 h1
    by_cases p : k < 2
    · rw [List.append_assoc, List.getElem?_append_left (by simp [proL]; omega)] at hx
      exact absurd h3 (pro_enc hf x (List.mem_of_getElem? hx)).1
    · by_cases q : k < 2 + b.length
      · rw [List.getElem?_append_left (by simp [proL]; omega), List.getElem?_append_right (by simp [proL]; omega)] at hx
        obtain ⟨c, hc, he⟩ := (mid _ x hx).1 h3
        refine ⟨c, hc, ?_⟩
        rw [he]
        simp only [proL, List.length_cons, List.length_nil]
        omega
      · rw [List.getElem?_append_right (by simp [proL]; omega)] at hx
        exact absurd h3 (ht x (List.mem_of_getElem? hx)).1
  · intro x hx
    rcases List.mem_append.1 hx with hx | hx
    · rcases List.mem_append.1 hx with hx | hx
      · exact (pro_enc hf x hx).2
      · obtain ⟨j, hj⟩ := List.getElem?_of_mem hx
        exact (mid j x hj).2
    · exact (ht x hx).2
theorem fun_ok {K : Nat} {s : Src} (h : SrcOK (K + 200) s) (z : Obj) (names places : List ByteArray) (hn : names.length ≤ 200) (u : Nat) (o : Obj) (hu : u < o.2.2.1.length) (hf : o.2.2.1.length ≤ 100) (hR : RelsI o.2.2.2.2.1) (hm : o.2.2.2.2.1.length ≤ 90000) :
    ∃ (o' : Obj) (t : Src), spec_l00Src_object.l1111111101001001010 s z o names places (u : Int) [] 0 = spec_l00Src_object.l11111111010 t z o' names places ((u + 1 : Nat) : Int) ∧ SrcOK K t ∧ o'.2.2.1.length = o.2.2.1.length ∧ o'.2.2.2.1 = o.2.2.2.1 ∧ RelsI o'.2.2.2.2.1 ∧ o'.2.2.2.2.1.length ≤ o.2.2.2.2.1.length + 100 ∧ o'.2.2.2.2.2 = o.2.2.2.2.2 := by
  have e0 := calls_ok z o s names places (u : Int) hn names.length 0 (by omega)
  rw [show callsL 0 = [] from rfl] at e0
  rw [show ((0 : Nat) : Int) = 0 from rfl] at e0
  rw [e0, spec_l00Src_object.l1111111101001001010_eq, decide_eq_false (Int.lt_irrefl _), cond_false]
  obtain ⟨f, s1, e1, hfr, h1⟩ := frm_ok (K := K + 197) h
  obtain ⟨v, s2, e2, v0, v1, _, h2⟩ := next_ok (K := K + 194) h1 5
  have v1 := v1 (by decide)
  obtain ⟨m, rfl⟩ : ∃ m : Nat, v = (m : Int) := ⟨v.toNat, by omega⟩
  obtain ⟨b, s3, e3, hb, hb1, _, hb2, h3⟩ := function_ok2 (K := K + 60) (1 + m) (h2.mono (by omega)) 0 f (callsL names.length) [] hfr (by decide) (fun c hc => by obtain ⟨k, hk, rfl⟩ := callsL_mem hc; constructor <;> omega) (fun d hd => nomatch hd) (by rw [callsL_len]; omega) (by simp) (by omega)
  rw [e1]
  simp only [Option.bind_some]
  rw [e2]
  simp only [Option.bind_some]
  rw [w64 (n := 1 + (m : Int)) (by omega) (by omega), show 1 + (m : Int) = ((1 + m : Nat) : Int) by omega, e3]
  simp only [Option.bind_some]
  have no : ∀ r : Src, SrcOK K r → ∃ (o' : Obj) (t : Src), spec_l00Src_object.l11111111010010011111010 r z o names places (u : Int) f (proL f ++ b ++ epiL f) 0 = spec_l00Src_object.l11111111010 t z o' names places ((u + 1 : Nat) : Int) ∧ SrcOK K t ∧ o'.2.2.1.length = o.2.2.1.length ∧ o'.2.2.2.1 = o.2.2.2.1 ∧ RelsI o'.2.2.2.2.1 ∧ o'.2.2.2.2.1.length ≤ o.2.2.2.2.1.length + 100 ∧ o'.2.2.2.2.2 = o.2.2.2.2.2 := by
    intro t ht
    obtain ⟨ca, en⟩ := drawn_calls hn hfr hb hb1 (epi_enc hfr)
    have hl : (proL f ++ b ++ epiL f).length = b.length + 5 := by simp [proL, epiL]
    obtain ⟨o', a1, a2, a3, a4, a5, a6⟩ := rel_loop z t names places hn u f (b.length + 5) 0 o _ (by omega) (by omega) en ca hu hf hR (by omega)
    exact ⟨o', t, a1, ht, a2, a3, a4, by omega, a6⟩
  simp only [joinB]
  have hw : IntKind.wrap .i64 (((proL f ++ b ++ epiL f).length : Int) - 3) = ((b.length + 2 : Nat) : Int) := by
    rw [show (((proL f ++ b ++ epiL f).length : Int) - 3) = ((b.length + 2 : Nat) : Int) by simp [proL, epiL]; omega]
    exact w64 (by omega) (by omega)
  have htake : (proL f ++ b ++ epiL f).take (Int.toNat ((b.length + 2 : Nat) : Int)) = proL f ++ b := by
    rw [Int.toNat_natCast, List.take_left' (by simp [proL])]
  by_cases hd : (places.length : Int) > 0
  · rw [decide_eq_true hd, cond_true]
    obtain ⟨w, s4, e4, h4⟩ := chance_ok (K := K + 57) h3 2
    rw [e4]
    simp only [Option.bind_some]
    cases w with
    | false =>
      rw [cond_false]
      exact no s4 (h4.mono (by omega))
    | true =>
      rw [cond_true, epi_val hfr]
      simp only [Option.bind_some]
      rw [hw, htake]
      have g1 : (decide ((0 : Int) ≤ ((b.length + 2 : Nat) : Int)) && decide (((b.length + 2 : Nat) : Int) ≤ ((proL f ++ b ++ epiL f).length : Int))) = true := by
        rw [decide_eq_true (by omega), decide_eq_true (by simp [proL, epiL]; omega)]; rfl
      rw [g1, cond_true, show inL 0 (epiL f).length = true from rfl, show inL 1 (epiL f).length = true from rfl, show inL 2 (epiL f).length = true from rfl]
      simp only [cond_true]
      rw [show rd (τ := TIns) (epiL f) 0 = (14, 1, 2, 0, f - 8) from rfl, show rd (τ := TIns) (epiL f) 1 = (22, 2, 2, 0, f) from rfl, show rd (τ := TIns) (epiL f) 2 = (4, 0, 1, 0, 0) from rfl]
      rw [room_le (by simp [proL]; omega) (by simp [proL]; omega), cond_true]
      obtain ⟨x, s5, e5, _, h5⟩ := pick_ok (K := K + 54) (h4.mono (by omega)) places (by omega)
      obtain ⟨w, s6, e6, h6⟩ := chance_ok (K := K + 51) h5 2
      rw [e5]
      simp only [Option.bind_some]
      rw [e6]
      simp only [Option.bind_some]
      have hlen : (proL f ++ b ++ [((1 : Int), (14 : Int), (0 : Int), (0 : Int), (0 : Int)), (14, 10, 14, 0, 0), (22, 10, 10, 0, 3), (21, 0, 14, 10, 0), (22, 17, 0, 0, 3), (63, 0, 0, 0, 0), (14, 1, 2, 0, f - 8), (22, 2, 2, 0, f), (4, 0, 1, 0, 0)]).length = b.length + 11 := by simp [proL]
      rw [hlen]
      have w9 : IntKind.wrap .i64 (((b.length + 11 : Nat) : Int) - 9) = ((b.length + 2 : Nat) : Int) := by
        rw [show (((b.length + 11 : Nat) : Int) - 9) = ((b.length + 2 : Nat) : Int) by omega]; exact w64 (by omega) (by omega)
      rw [w9, inL_true (i := ((b.length + 2 : Nat) : Int)) (n := b.length + 11) (by omega) (by omega)]
      simp only [cond_true, spec_l03Bit_eq]
      cases w <;> simp only [cond_true, cond_false, Option.bind_some, Bool.not_true, Bool.not_false]
      · erw [show inL 0 [(1 : Int), 4].length = true from rfl]
        simp only [cond_true]
        rw [room_le (by simp; omega) (by simp; omega), cond_true, room_le (by simp; omega) (by simp; omega), cond_true]
        obtain ⟨ca, en⟩ := drawn_calls hn hfr hb hb1 (t := [((1 : Int), (14 : Int), (0 : Int), (0 : Int), (0 : Int)), (14, 10, 14, 0, 0), (22, 10, 10, 0, 3), (21, 0, 14, 10, 0), (22, 17, 0, 0, 3), (63, 0, 0, 0, 0), (14, 1, 2, 0, f - 8), (22, 2, 2, 0, f), (4, 0, 1, 0, 0)]) (by
          intro y hy
          rcases List.mem_append.1 (show y ∈ [((1 : Int), (14 : Int), (0 : Int), (0 : Int), (0 : Int)), (14, 10, 14, 0, 0), (22, 10, 10, 0, 3), (21, 0, 14, 10, 0), (22, 17, 0, 0, 3), (63, 0, 0, 0, 0)] ++ epiL f from hy) with q | q
          · simp only [List.mem_cons, List.not_mem_nil, or_false] at q
            rcases q with rfl | rfl | rfl | rfl | rfl | rfl <;> exact ⟨by decide, EncR.right (by decide +kernel)⟩
          · exact epi_enc hfr y q)
        obtain ⟨o', a1, a2, a3, a4, a5, a6⟩ := rel_loop z s6 names places hn u f (b.length + 11) 0 (o.1, o.2.1, o.2.2.1, o.2.2.2.1, (o.2.2.2.2.1 ++ [((u : Int), ((b.length + 2 : Nat) : Int), (rd (τ := (.int .i64)) [1, 4] 0), x, (0 : Int)), ((u : Int), (IntKind.wrap .i64 (((b.length + 2 : Nat) : Int) + 1)), (rd (τ := (.int .i64)) [2, 5] 0), x, (0 : Int))]) ++ [((u : Int), (IntKind.wrap .i64 (((b.length + 2 : Nat) : Int) + 3)), (3 : Int), x, (0 : Int))], o.2.2.2.2.2) _ (by omega) (by omega) en ca hu hf (fun y hy => by
          rcases List.mem_append.1 hy with q | q
          · rcases List.mem_append.1 q with q | q
            · exact hR y q
            · simp only [List.mem_cons, List.not_mem_nil, or_false] at q
              rcases q with rfl | rfl <;> constructor <;> simp only <;> omega
          · rw [List.mem_singleton] at q; subst q; constructor <;> simp only <;> omega) (by simp; omega)
        exact ⟨o', s6, a1, h6.mono (by omega), a2, a3, a4, by simp at a5; omega, a6⟩
      · have k1 : rd (τ := TIns) (proL f ++ b ++ [((1 : Int), (14 : Int), (0 : Int), (0 : Int), (0 : Int)), (14, 10, 14, 0, 0), (22, 10, 10, 0, 3), (21, 0, 14, 10, 0), (22, 17, 0, 0, 3), (63, 0, 0, 0, 0), (14, 1, 2, 0, f - 8), (22, 2, 2, 0, f), (4, 0, 1, 0, 0)]) ((b.length + 2 : Nat) : Int) = (1, 14, 0, 0, 0) := rd_some (τ := TIns) _ _ _ (by rw [List.getElem?_append_right (by simp [proL])]; simp [proL, show b.length + 2 - (b.length + 1 + 1) = 0 by omega])
        have k2 : (proL f ++ b ++ [((1 : Int), (14 : Int), (0 : Int), (0 : Int), (0 : Int)), (14, 10, 14, 0, 0), (22, 10, 10, 0, 3), (21, 0, 14, 10, 0), (22, 17, 0, 0, 3), (63, 0, 0, 0, 0), (14, 1, 2, 0, f - 8), (22, 2, 2, 0, f), (4, 0, 1, 0, 0)]).set (b.length + 2) (2, 14, 0, 0, 0) = proL f ++ b ++ [((2 : Int), (14 : Int), (0 : Int), (0 : Int), (0 : Int)), (14, 10, 14, 0, 0), (22, 10, 10, 0, 3), (21, 0, 14, 10, 0), (22, 17, 0, 0, 3), (63, 0, 0, 0, 0), (14, 1, 2, 0, f - 8), (22, 2, 2, 0, f), (4, 0, 1, 0, 0)] := by
          rw [List.set_append_right _ _ (by simp [proL])]; simp [proL, show b.length + 2 - (b.length + 1 + 1) = 0 by omega]
        have k3 : (proL f ++ b ++ [((2 : Int), (14 : Int), (0 : Int), (0 : Int), (0 : Int)), (14, 10, 14, 0, 0), (22, 10, 10, 0, 3), (21, 0, 14, 10, 0), (22, 17, 0, 0, 3), (63, 0, 0, 0, 0), (14, 1, 2, 0, f - 8), (22, 2, 2, 0, f), (4, 0, 1, 0, 0)]).set (b.length + 5) (22, 10, 10, 0, 1) = proL f ++ b ++ [((2 : Int), (14 : Int), (0 : Int), (0 : Int), (0 : Int)), (14, 10, 14, 0, 0), (22, 10, 10, 0, 3), (22, 10, 10, 0, 1), (22, 17, 0, 0, 3), (63, 0, 0, 0, 0), (14, 1, 2, 0, f - 8), (22, 2, 2, 0, f), (4, 0, 1, 0, 0)] := by
          rw [List.set_append_right _ _ (by simp [proL])]; simp [proL, show b.length + 5 - (b.length + 1 + 1) = 3 by omega]
        have w5 : IntKind.wrap .i64 (((b.length + 2 : Nat) : Int) + 3) = ((b.length + 5 : Nat) : Int) := by
          rw [show (((b.length + 2 : Nat) : Int) + 3) = ((b.length + 5 : Nat) : Int) by omega]; exact w64 (by omega) (by omega)
        simp only [letB]
        rw [k1, Int.toNat_natCast, k2]
        erw [show inL 1 [(1 : Int), 4].length = true from rfl]
        simp only [cond_true]
        rw [room_le (by simp; omega) (by simp; omega), cond_true, w5, inL_true (i := ((b.length + 5 : Nat) : Int)) (by omega) (by simp [proL]; omega), cond_true, Int.toNat_natCast, k3]
        obtain ⟨ca, en⟩ := drawn_calls hn hfr hb hb1 (t := [((2 : Int), (14 : Int), (0 : Int), (0 : Int), (0 : Int)), (14, 10, 14, 0, 0), (22, 10, 10, 0, 3), (22, 10, 10, 0, 1), (22, 17, 0, 0, 3), (63, 0, 0, 0, 0), (14, 1, 2, 0, f - 8), (22, 2, 2, 0, f), (4, 0, 1, 0, 0)]) (by
          intro y hy
          rcases List.mem_append.1 (show y ∈ [((2 : Int), (14 : Int), (0 : Int), (0 : Int), (0 : Int)), (14, 10, 14, 0, 0), (22, 10, 10, 0, 3), (22, 10, 10, 0, 1), (22, 17, 0, 0, 3), (63, 0, 0, 0, 0)] ++ epiL f from hy) with q | q
          · simp only [List.mem_cons, List.not_mem_nil, or_false] at q
            rcases q with rfl | rfl | rfl | rfl | rfl | rfl <;> exact ⟨by decide, EncR.right (by decide +kernel)⟩
          · exact epi_enc hfr y q)
        obtain ⟨o', a1, a2, a3, a4, a5, a6⟩ := rel_loop z s6 names places hn u f (b.length + 11) 0 (o.1, o.2.1, o.2.2.1, o.2.2.2.1, (o.2.2.2.2.1 ++ [((u : Int), ((b.length + 2 : Nat) : Int), (rd (τ := (.int .i64)) [1, 4] 1), x, (0 : Int)), ((u : Int), (IntKind.wrap .i64 (((b.length + 2 : Nat) : Int) + 1)), (rd (τ := (.int .i64)) [2, 5] 1), x, (0 : Int))]), o.2.2.2.2.2) _ (by simp [proL]) (by simp [proL]; omega) en ca hu hf (fun y hy => by
          rcases List.mem_append.1 hy with q | q
          · exact hR y q
          · simp only [List.mem_cons, List.not_mem_nil, or_false] at q
            rcases q with rfl | rfl <;> constructor <;> simp only <;> omega) (by simp; omega)
        exact ⟨o', s6, a1, h6.mono (by omega), a2, a3, a4, by simp at a5; omega, a6⟩
  · rw [decide_eq_false hd, cond_false, cond_false]
    exact no s3 (h3.mono (by omega))
theorem units_ok {K : Nat} (z : Obj) (names places : List ByteArray) (hn1 : 1 ≤ names.length) (hn : names.length ≤ 200) : ∀ (m u : Nat) (s : Src) (o : Obj), u + m = o.2.2.1.length → o.2.2.1.length ≤ 100 → SrcOK (K + 18 + 200 * m) s → RelsI o.2.2.2.2.1 → o.2.2.2.2.1.length + 100 * m ≤ 900 → o.2.2.2.2.2.length ≤ 100 →
    ∃ (o' : Obj) (t : Src), spec_l00Src_object.l11111111010 s z o names places (u : Int) = some (o', t) ∧ RelsR o' ∧ SrcOK K t := by
  intro m
  induction m with
  | zero =>
    intro u s o hu hf h hR hr hs
    rw [show u = o.2.2.1.length by omega]
    exact object_tail (h.mono (by omega)) z o names places hn1 hf (by omega) hR hs
  | succ m ih =>
    intro u s o hu hf h hR hr hs
    rw [spec_l00Src_object.l11111111010_eq, decide_eq_true (show (u : Int) < (o.2.2.1.length : Int) by omega), cond_true]
    obtain ⟨o', t, e, ht, a2, a3, a4, a5, a6⟩ := fun_ok (K := K + 18 + 200 * m) (h.mono (by omega)) z names places hn u o (by omega) hf hR (by omega)
    rw [e]
    exact ih (u + 1) t o' (by omega) (by omega) ht a4 (by omega) (by rw [a6]; exact hs)
theorem object_ok {K : Nat} {s : Src} (h : SrcOK (K + 1000) s) (a : Int) (fs ds : List ByteArray) (hf1 : 1 ≤ fs.length) (hf : fs.length ≤ 100) (hd : ds.length ≤ 100) :
    ∃ (o : Obj) (t : Src), spec_l00Src_object s a fs ds = some (o, t) ∧ RelsR o ∧ SrcOK K t := by
  obtain ⟨x, s1, e1, _, h1⟩ := pick_ok (K := K + 997) h [(⟨#[102, 105, 120]⟩ : ByteArray), (⟨#[104, 111, 116]⟩ : ByteArray), (⟨#[99, 118, 101]⟩ : ByteArray), (⟨#[109, 101, 110, 100]⟩ : ByteArray), (⟨#[111, 110, 101]⟩ : ByteArray), (⟨#[116, 119, 111]⟩ : ByteArray), (⟨#[117, 112]⟩ : ByteArray)] (by decide)
  obtain ⟨v, s2, e2, v0, v1, _, h2⟩ := next_ok (K := K + 994) h1 3
  have v1 := v1 (by decide)
  obtain ⟨k, rfl⟩ : ∃ k : Nat, v = (k : Int) := ⟨v.toNat, by omega⟩
  rw [spec_l00Src_object_eq, e1]
  simp only [Option.bind_some]
  rw [e2]
  simp only [Option.bind_some]
  obtain ⟨o1, s3, e3, h3, b1, b2, b3⟩ := datas_ok (K := K + 900) fs ds ((⟨#[]⟩ : ByteArray), 0, [], [], [], []) k s2 (x, a, [], [], [], []) (by omega) (h2.mono (by omega)) (by simp; omega)
  rw [e3]
  obtain ⟨w, s4, e4, w0, w1, _, h4⟩ := next_ok (K := K + 897) h3 3
  have w1 := w1 (by decide)
  obtain ⟨j, rfl⟩ : ∃ j : Nat, w = (j : Int) := ⟨w.toNat, by omega⟩
  rw [e4]
  simp only [Option.bind_some]
  rw [w64 (n := 1 + (j : Int)) (by omega) (by omega), show 1 + (j : Int) = ((1 + j : Nat) : Int) by omega]
  have q1 : o1.2.2.1.length = 0 := by rw [b1]; rfl
  have q3 : o1.2.2.2.1.length ≤ 2 := by rw [b3]; simp; omega
  obtain ⟨o2, own, s5, e5, h5, c1, c2, c3⟩ := funs_ok (K := K + 860) fs ds ((⟨#[]⟩ : ByteArray), 0, [], [], [], []) hf1 hf hd (1 + j) s4 o1 [] (by omega) (h4.mono (by omega)) (by omega) (by simp; omega)
  simp only [List.length_nil] at c3
  rw [e5]
  have q2 : o2.2.2.2.1.length ≤ 2 := by rw [c1]; exact q3
  have q4 : o2.2.2.2.2 = ([], []) := by rw [c1, b2]
  obtain ⟨pl, e6, _⟩ := places_ok ((⟨#[]⟩ : ByteArray), 0, [], [], [], []) o2 s5 (fs ++ own) (by omega) o2.2.2.2.1.length 0 ds (by omega) (by omega)
  rw [show ((0 : Nat) : Int) = 0 from rfl] at e6
  rw [e6]
  exact units_ok (K := K) _ (fs ++ own) pl (by simp; omega) (by simp; omega) o2.2.2.1.length 0 s5 o2 (by omega) (by omega) (h5.mono (by omega)) (by rw [q4]; exact fun y hy => nomatch hy) (by rw [q4]; simp; omega) (by rw [q4]; simp)
theorem freeObject_ok {K : Nat} {s : Src} (h : SrcOK (K + 1003) s) : ∃ (o : Obj) (t : Src), spec_l00Src_freeObject s = some (o, t) ∧ RelsR o ∧ SrcOK K t := by
  obtain ⟨v, s1, e1, _, _, _, h1⟩ := next_ok (K := K + 1000) h 3
  obtain ⟨o, t, e2, hr, ht⟩ := object_ok h1 v [(⟨#[109, 97, 105, 110]⟩ : ByteArray), (⟨#[119, 111, 114, 107]⟩ : ByteArray), (⟨#[108, 101, 97, 102]⟩ : ByteArray)] [(⟨#[99, 111, 117, 110, 116]⟩ : ByteArray), (⟨#[108, 105, 115, 116]⟩ : ByteArray)] (by decide) (by decide) (by decide)
  rw [spec_l00Src_freeObject_eq, e1]
  simp only [Option.bind_some]
  rw [e2]
  exact ⟨o, t, rfl, hr, ht⟩
def HotOK : Prop := ∃ o : Obj, spec_l18Hot = some o ∧ spec_ObjectOK o = some true ∧ RelsR o
theorem drawnObj_loop (H : HotOK) (z : Obj) : ∀ (k : Nat) (i : Int) (s : Src), 0 ≤ i → i + k = 9 → SrcOK (1003 * k) s → ∃ o, spec_ObjectDrawn.l11010 z s i = some o ∧ RelsR o ∧ objV o = true := by
  intro k
  induction k with
  | zero =>
    intro i s h0 hi hs
    obtain ⟨o, e, h, hr⟩ := H
    rw [spec_ObjectDrawn.l11010_eq, decide_eq_false (show ¬ i < 9 by omega), e]
    rw [(object_val o hr).2] at h
    exact ⟨o, rfl, hr, Option.some.inj h⟩
  | succ k ih =>
    intro i s h0 hi hs
    obtain ⟨o, t, e, hr, ht⟩ := freeObject_ok (K := 1003 * k) (s := s) (hs.mono (by omega))
    rw [spec_ObjectDrawn.l11010_eq, decide_eq_true (show i < 9 by omega), e]
    simp only [Option.bind_some, cond_true]
    rw [(object_val o hr).2]
    simp only [Option.bind_some]
    cases hv : objV o with
    | true => exact ⟨o, rfl, hr, hv⟩
    | false =>
      simp only [cond_false]
      rw [w64 (n := i + 1) (by omega) (by omega)]
      exact ih (i + 1) t (by omega) (by omega) ht
theorem drawnObj_ok (H : HotOK) (a : List Int) (ha : BytP a) (hn : a.length ≤ 1048576) : ∃ o, spec_ObjectDrawn a = some o ∧ RelsR o ∧ objV o = true := by
  obtain ⟨s, e, hs⟩ := source_ok a ha hn
  rw [spec_ObjectDrawn_eq, e]
  simp only [Option.bind_some, optC]
  exact drawnObj_loop H _ 9 0 s (by decide) (by decide) (hs.mono (by decide))
theorem object_law (H : HotOK) (a b : List Int) (ha : BytP a) (hb : BytP b) : laws_FnObject a b = some true := by
  by_cases h1 : (a.length : Int) > 1048576
  · rw [laws_FnObject_eq]
    simp only [joinB]
    rw [decide_eq_true h1]; rfl
  · obtain ⟨o, e, hr, hv⟩ := drawnObj_ok H a ha (by omega)
    exact object_law_of a b o e hr hv
theorem put4 (v : Int) : impl_putLittle v 4 = some (bytesOf (leB v 4)) := put_little v 4 (by decide)
theorem pname (n : ByteArray) (h : n.size ≤ 4096) : impl_putName n = some (nmB n) := by
  rw [impl_putName_eq, put1]
  simp only [Option.bind_some]
  rw [szc (by rw [bytesOf_size, leB_length]; omega)]; rfl
theorem itruth (b : Bool) : impl_truth b = some (bitI b) := by rw [impl_truth_eq]; cases b <;> rfl
theorem itx_funs {o : Obj} (h : ObjQ o) : ∀ (k i : Nat) (x : ByteArray), i + k = o.2.2.1.length → x.size ≤ 100 + 280 * i → impl_objectText.l11010 o x o.2.2.1 (o.2.2.1.length : Int) (i : Int) = impl_objectText.l11010 o (x ++ catB funE (o.2.2.1.drop i)) o.2.2.1 (o.2.2.1.length : Int) (o.2.2.1.length : Int) := by
  intro k
  have hl := h.f
  induction k with
  | zero =>
    intro i x hi hx
    have : i = o.2.2.1.length := by omega
    subst this
    rw [List.drop_length, catB, ByteArray.append_empty]
  | succ k ih =>
    intro i x hk hx
    have hi : i < o.2.2.1.length := by omega
    have hq := h.fs _ (List.getElem_mem hi)
    have hz := funE_size hq
    rw [impl_objectText.l11010_eq o x o.2.2.1 (o.2.2.1.length : Int) (i : Int), lt_nat, decide_eq_true hi, inL_nat, decide_eq_true hi, rd_nat (τ := TFun) o.2.2.1 i hi, w64_succ i _ hi (by omega), List.drop_eq_getElem_cons hi, catB]
    generalize o.2.2.1[i] = f at hq hz
    have h1 := hq.n; have h2 := hq.c
    have hd : ((f.2.2.2.size : Int).tdiv 4) = (f.2.2.2.size : Int) / 4 := Int.tdiv_eq_ediv_of_nonneg (by omega)
    rw [pname _ (by omega), itruth, hd, w64 (n := (f.2.2.2.size : Int) / 4) (by omega) (by omega)]
    simp only [cond_true, put1, Option.bind_some]
    have e : ∀ y : ByteArray, y = funE f → (bif decide (x.size + y.size ≤ 9223372036854775807) then impl_objectText.l11010 o (x ++ y) o.2.2.1 (o.2.2.1.length : Int) ((i + 1 : Nat) : Int) else none) = impl_objectText.l11010 o (x ++ (funE f ++ catB funE (o.2.2.1.drop (i + 1)))) o.2.2.1 (o.2.2.1.length : Int) (o.2.2.1.length : Int) := by
      intro y hy
      subst hy
      rw [szc (by omega), cond_true, ← ByteArray.append_assoc]
      exact ih (i + 1) _ (by omega) (by rw [ByteArray.size_append]; omega)
    rw [szc, szc, szc, szc]
    · exact e _ rfl
    all_goals simp only [ByteArray.size_append, nmB_size, bytesOf_size, leB_length]; omega
theorem itx_dats {o : Obj} (h : ObjQ o) : ∀ (k i : Nat) (x : ByteArray), i + k = o.2.2.2.1.length → x.size ≤ 1300 + 86 * i → impl_objectText.l1111010 o x o.2.2.2.1 (o.2.2.2.1.length : Int) (i : Int) = impl_objectText.l1111010 o (x ++ catB datE (o.2.2.2.1.drop i)) o.2.2.2.1 (o.2.2.2.1.length : Int) (o.2.2.2.1.length : Int) := by
  intro k
  have hl := h.d
  induction k with
  | zero =>
    intro i x hi hx
    have : i = o.2.2.2.1.length := by omega
    subst this
    rw [List.drop_length, catB, ByteArray.append_empty]
  | succ k ih =>
    intro i x hk hx
    have hi : i < o.2.2.2.1.length := by omega
    have hq := h.ds _ (List.getElem_mem hi)
    have hz := datE_size hq
    rw [impl_objectText.l1111010_eq o x o.2.2.2.1 (o.2.2.2.1.length : Int) (i : Int), lt_nat, decide_eq_true hi, inL_nat, decide_eq_true hi, rd_nat (τ := TDat) o.2.2.2.1 i hi, w64_succ i _ hi (by omega), List.drop_eq_getElem_cons hi, catB]
    generalize o.2.2.2.1[i] = d at hq hz
    rw [pname _ (by omega), pname _ (by omega)]
    simp only [cond_true, Option.bind_some]
    rw [szc (by simp only [nmB_size]; omega), szc (by unfold datE at hz; omega)]
    simp only [cond_true]
    have q := ih (i + 1) (x ++ datE d) (by omega) (by rw [ByteArray.size_append]; omega)
    rw [ByteArray.append_assoc] at q
    exact q
theorem itx_rels {o : Obj} (h : ObjQ o) : ∀ (k i : Nat) (x : ByteArray), i + k = o.2.2.2.2.1.length → x.size ≤ 1700 + 28 * i → impl_objectText.l111111010 o x o.2.2.2.2.1 (o.2.2.2.2.1.length : Int) (i : Int) = impl_objectText.l111111010 o (x ++ catB relE (o.2.2.2.2.1.drop i)) o.2.2.2.2.1 (o.2.2.2.2.1.length : Int) (o.2.2.2.2.1.length : Int) := by
  intro k
  have hl := h.r
  induction k with
  | zero =>
    intro i x hi hx
    have : i = o.2.2.2.2.1.length := by omega
    subst this
    rw [List.drop_length, catB, ByteArray.append_empty]
  | succ k ih =>
    intro i x hk hx
    have hi : i < o.2.2.2.2.1.length := by omega
    have hq := h.rs _ (List.getElem_mem hi)
    have hz := relE_size hq
    rw [impl_objectText.l111111010_eq o x o.2.2.2.2.1 (o.2.2.2.2.1.length : Int) (i : Int), lt_nat, decide_eq_true hi, inL_nat, decide_eq_true hi, rd_nat (τ := TRel) o.2.2.2.2.1 i hi, w64_succ i _ hi (by omega), List.drop_eq_getElem_cons hi, catB]
    generalize o.2.2.2.2.1[i] = r at hq hz
    have h1 := hq.n
    rw [pname _ (by omega)]
    simp only [cond_true, put1, put4, Option.bind_some]
    have e : ∀ y : ByteArray, y = relE r → (bif decide (x.size + y.size ≤ 9223372036854775807) then impl_objectText.l111111010 o (x ++ y) o.2.2.2.2.1 (o.2.2.2.2.1.length : Int) ((i + 1 : Nat) : Int) else none) = impl_objectText.l111111010 o (x ++ (relE r ++ catB relE (o.2.2.2.2.1.drop (i + 1)))) o.2.2.2.2.1 (o.2.2.2.2.1.length : Int) (o.2.2.2.2.1.length : Int) := by
      intro y hy
      subst hy
      rw [szc (by omega), cond_true, ← ByteArray.append_assoc]
      exact ih (i + 1) _ (by omega) (by rw [ByteArray.size_append]; omega)
    rw [szc, szc, szc, szc]
    · exact e _ rfl
    all_goals simp only [ByteArray.size_append, nmB_size, bytesOf_size, leB_length]; omega
theorem itx_dcls {o : Obj} (h : ObjQ o) : ∀ (k i : Nat) (x : ByteArray), i + k = o.2.2.2.2.2.length → x.size ≤ 2700 + 2 * i → impl_objectText.l11111111010 x o.2.2.2.2.2 (o.2.2.2.2.2.length : Int) (i : Int) = impl_objectText.l11111111010 (x ++ catB dclE (o.2.2.2.2.2.drop i)) o.2.2.2.2.2 (o.2.2.2.2.2.length : Int) (o.2.2.2.2.2.length : Int) := by
  intro k
  have hl := h.s
  induction k with
  | zero =>
    intro i x hi hx
    have : i = o.2.2.2.2.2.length := by omega
    subst this
    rw [List.drop_length, catB, ByteArray.append_empty]
  | succ k ih =>
    intro i x hk hx
    have hi : i < o.2.2.2.2.2.length := by omega
    rw [impl_objectText.l11111111010_eq x o.2.2.2.2.2 (o.2.2.2.2.2.length : Int) (i : Int), lt_nat, decide_eq_true hi, inL_nat, decide_eq_true hi, rd_nat (τ := TDcl) o.2.2.2.2.2 i hi, w64_succ i _ hi (by omega), List.drop_eq_getElem_cons hi, catB]
    generalize o.2.2.2.2.2[i] = d
    have hz := dclE_size d
    rw [itruth]
    simp only [cond_true, put1, Option.bind_some]
    rw [szc (by simp only [bytesOf_size, leB_length]; omega), szc (by unfold dclE oneB at hz; omega)]
    simp only [cond_true]
    have q := ih (i + 1) (x ++ dclE d) (by omega) (by rw [ByteArray.size_append]; omega)
    rw [ByteArray.append_assoc] at q
    exact q
theorem text_iobj {o : Obj} (h : ObjQ o) : impl_objectText o = impl_withSum (objB o) := by
  have l1 := h.n; have l2 := h.f; have l3 := h.d; have l4 := h.r; have l5 := h.s
  have z1 := catB_size (E := funE) o.2.2.1 fun f hf => funE_size (h.fs f hf)
  have z2 := catB_size (E := datE) o.2.2.2.1 fun f hf => datE_size (h.ds f hf)
  have z3 := catB_size (E := relE) o.2.2.2.2.1 fun f hf => relE_size (h.rs f hf)
  have z4 := catB_size (E := dclE) o.2.2.2.2.2 fun f _ => dclE_size f
  have e4 : (⟨#[80, 79, 66, 49]⟩ : ByteArray).size = 4 := rfl
  have e4' : hdO.size = 4 := rfl
  have hB : (objB o).size ≤ 4000 := by unfold objB; simp only [ByteArray.size_append, nmB_size, oneB_size]; omega
  rw [impl_objectText_eq, pname _ (by omega)]
  simp only [put1, Option.bind_some]
  rw [szc (by simp only [nmB_size]; omega), szc (by simp only [ByteArray.size_append, nmB_size, bytesOf_size, leB_length]; omega), szc (by simp only [ByteArray.size_append, nmB_size, bytesOf_size, leB_length]; omega)]
  simp only [cond_true]
  rw [show (0 : Int) = ((0 : Nat) : Int) from rfl, itx_funs h o.2.2.1.length 0 _ (by omega) (by simp only [ByteArray.size_append, nmB_size, bytesOf_size, leB_length]; omega), impl_objectText.l11010_eq, lt_nat, decide_eq_false (Nat.lt_irrefl _), List.drop_zero]
  simp only [cond_false, put1, Option.bind_some]
  rw [szc (by simp only [ByteArray.size_append, nmB_size, bytesOf_size, leB_length]; omega), cond_true,
    show (0 : Int) = ((0 : Nat) : Int) from rfl, itx_dats h o.2.2.2.1.length 0 _ (by omega) (by simp only [ByteArray.size_append, nmB_size, bytesOf_size, leB_length]; omega), impl_objectText.l1111010_eq, lt_nat, decide_eq_false (Nat.lt_irrefl _), List.drop_zero]
  simp only [cond_false, put1, Option.bind_some]
  rw [szc (by simp only [ByteArray.size_append, nmB_size, bytesOf_size, leB_length]; omega), cond_true,
    show (0 : Int) = ((0 : Nat) : Int) from rfl, itx_rels h o.2.2.2.2.1.length 0 _ (by omega) (by simp only [ByteArray.size_append, nmB_size, bytesOf_size, leB_length]; omega), impl_objectText.l111111010_eq, lt_nat, decide_eq_false (Nat.lt_irrefl _), List.drop_zero]
  simp only [cond_false, put1, Option.bind_some]
  rw [szc (by simp only [ByteArray.size_append, nmB_size, bytesOf_size, leB_length]; omega), cond_true,
    show (0 : Int) = ((0 : Nat) : Int) from rfl, itx_dcls h o.2.2.2.2.2.length 0 _ (by omega) (by simp only [ByteArray.size_append, nmB_size, bytesOf_size, leB_length]; omega), impl_objectText.l11111111010_eq, lt_nat, decide_eq_false (Nat.lt_irrefl _), List.drop_zero]
  simp only [cond_false]
  show (impl_withSum (objB o)).bind (fun r => some r) = _
  cases impl_withSum (objB o) <;> rfl
theorem leB_mod : ∀ (n : Nat) (v : Int), leB v n = leB (v % 256 ^ n) n := by
  intro n
  induction n with
  | zero => intro v; rfl
  | succ n ih =>
    intro v
    have hp : (256 : Int) ^ (n + 1) = 256 * 256 ^ n := by rw [Int.pow_succ, Int.mul_comm]
    have e1 : v % 256 ^ (n + 1) % 256 = v % 256 := by rw [hp]; exact Int.emod_emod_of_dvd v ⟨256 ^ n, rfl⟩
    have e2 : v % 256 ^ (n + 1) / 256 % 256 ^ n = v / 256 % 256 ^ n := by
      obtain ⟨q, hq⟩ : ∃ q, v % 256 ^ (n + 1) = v - 256 ^ (n + 1) * q := ⟨v / 256 ^ (n + 1), by rw [Int.emod_def]⟩
      rw [hq, hp, Int.mul_assoc, show v - 256 * (256 ^ n * q) = v + 256 * (-(256 ^ n * q)) by omega, Int.add_mul_ediv_left _ _ (by decide), ← Int.mul_neg, Int.add_mul_emod_self_left]
    rw [leB, leB, e1, ih (v / 256), ih (v % 256 ^ (n + 1) / 256), e2]
theorem tk_num4s (v : Int) (rest : ByteArray) : impl_taker_number (bytesOf (leB v 4) ++ rest, false) 4 = some (v % 4294967296, rest, false) := by
  have e : (256 : Int) ^ 4 = 4294967296 := by decide
  have := tk_num (v % 4294967296) 4 rest (by decide) (by omega) (by omega)
  rw [leB_mod 4 v, e]; exact this
theorem signV_back (v : Int) (h : -2147483648 ≤ v ∧ v ≤ 2147483647) : signV (v % 4294967296) 32 = v := by
  obtain ⟨q, hq⟩ := signV_mod (v % 4294967296) 32
  have hr := signV_range (v % 4294967296) 32 (by decide)
  have e1 : (2 : Int) ^ 32 = 4294967296 := by decide
  have e2 : (2 : Int) ^ (32 - 1) = 2147483648 := by decide
  rw [e1] at hq; rw [e2] at hr; omega
theorem tk_one (v : Int) (rest : ByteArray) (h : 0 ≤ v ∧ v < 256) : impl_taker_number (oneB v ++ rest, false) 1 = some (v, rest, false) := tk_num1 v rest h.1 h.2
theorem tk_nm (s rest : ByteArray) (h1 : s.size < 256) : impl_taker_text (nmB s ++ rest, false) 1 = some (s, rest, false) := by
  unfold nmB; rw [ByteArray.append_assoc]; exact tk_text1 s rest h1
theorem tk_bit (b : Bool) (rest : ByteArray) : impl_ReadObject_1 (oneB (bitI b) ++ rest, false) false = some (b, (rest, false), false) := by
  rw [impl_ReadObject_1_eq, tk_one _ _ (bitI_range b)]
  cases b <;> rfl
theorem rb_funs (z : Obj) (n : ByteArray) (d : Int) : ∀ (l acc : List Fun) (R : ByteArray), (∀ f ∈ l, FunQ f) → acc.length + l.length ≤ 4 →
    impl_ReadObject.l1111111010 z (catB funE l ++ R, false) false (n, d, acc, [], [], []) (l.length : Int) = impl_ReadObject.l1111111010 z (R, false) false (n, d, acc ++ l, [], [], []) 0
  | [], acc, R, _, _ => by simp only [catB, List.length_nil, List.append_nil, ByteArray.empty_append]; rfl
  | f :: l, acc, R, h, hl => by
    have hq := h f (List.mem_cons_self ..)
    have h1 := hq.n; have h2 := hq.c
    simp only [List.length_cons] at hl
    rw [impl_ReadObject.l1111111010_eq z (catB funE (f :: l) ++ R, false)]
    simp only [catB, funE, joinB, ByteArray.append_assoc]
    rw [decide_eq_true (show (((f :: l).length : Nat) : Int) > 0 by simp only [List.length_cons]; omega)]
    simp only [cond_true, Bool.not_false]
    rw [tk_nm _ _ (by omega)]
    simp only [Option.bind_some]
    rw [tk_bit]
    simp only [Option.bind_some]
    rw [tk_one _ _ hq.fr]
    simp only [Option.bind_some]
    rw [tk_one _ _ ⟨by omega, by omega⟩]
    simp only [Option.bind_some]
    rw [w64 (n := 4 * ((f.2.2.2.size : Int) / 4)) (by omega) (by omega), tk_bytes _ _ _ (show 4 * ((f.2.2.2.size : Int) / 4) = (f.2.2.2.size : Int) by omega)]
    simp only [Option.bind_some]
    rw [room_le (by simp; omega) (by simp; omega), cond_true, w64 (n := (((f :: l).length : Nat) : Int) - 1) (by simp only [List.length_cons]; omega) (by simp only [List.length_cons]; omega), show (((f :: l).length : Nat) : Int) - 1 = (l.length : Int) by simp only [List.length_cons]; omega]
    have := rb_funs z n d l (acc ++ [f]) R (fun x hx => h x (List.mem_cons_of_mem _ hx)) (by simp; omega)
    rw [List.append_assoc, List.singleton_append] at this
    exact this
theorem rb_dats (z : Obj) (n : ByteArray) (d : Int) (fs : List Fun) : ∀ (l acc : List Dat) (R : ByteArray), (∀ f ∈ l, f.1.size ≤ 20 ∧ f.2.size ≤ 64) → acc.length + l.length ≤ 4 →
    impl_ReadObject.l11111111010 z (catB datE l ++ R, false) false (n, d, fs, acc, [], []) (l.length : Int) = impl_ReadObject.l11111111010 z (R, false) false (n, d, fs, acc ++ l, [], []) 0
  | [], acc, R, _, _ => by simp only [catB, List.length_nil, List.append_nil, ByteArray.empty_append]; rfl
  | f :: l, acc, R, h, hl => by
    have hq := h f (List.mem_cons_self ..)
    simp only [List.length_cons] at hl
    rw [impl_ReadObject.l11111111010_eq z (catB datE (f :: l) ++ R, false)]
    simp only [catB, datE, joinB, ByteArray.append_assoc]
    rw [decide_eq_true (show (((f :: l).length : Nat) : Int) > 0 by simp only [List.length_cons]; omega)]
    simp only [cond_true, Bool.not_false]
    rw [tk_nm _ _ (by omega)]
    simp only [Option.bind_some]
    rw [tk_nm _ _ (by omega)]
    simp only [Option.bind_some]
    rw [room_le (by simp; omega) (by simp; omega), cond_true, w64 (n := (((f :: l).length : Nat) : Int) - 1) (by simp only [List.length_cons]; omega) (by simp only [List.length_cons]; omega), show (((f :: l).length : Nat) : Int) - 1 = (l.length : Int) by simp only [List.length_cons]; omega]
    have := rb_dats z n d fs l (acc ++ [f]) R (fun x hx => h x (List.mem_cons_of_mem _ hx)) (by simp; omega)
    rw [List.append_assoc, List.singleton_append] at this
    exact this
theorem rb_rels (z : Obj) (n : ByteArray) (d : Int) (fs : List Fun) (ds : List Dat) : ∀ (l acc : List Rel) (R : ByteArray), (∀ f ∈ l, RelQ f) → acc.length + l.length ≤ 32 →
    impl_ReadObject.l111111111010 z (catB relE l ++ R, false) false (n, d, fs, ds, acc, []) (l.length : Int) = impl_ReadObject.l111111111010 z (R, false) false (n, d, fs, ds, acc ++ l, []) 0
  | [], acc, R, _, _ => by simp only [catB, List.length_nil, List.append_nil, ByteArray.empty_append]; rfl
  | f :: l, acc, R, h, hl => by
    have hq := h f (List.mem_cons_self ..)
    have h1 := hq.n; have h2 := hq.d
    simp only [List.length_cons] at hl
    rw [impl_ReadObject.l111111111010_eq z (catB relE (f :: l) ++ R, false)]
    simp only [catB, relE, joinB, ByteArray.append_assoc]
    rw [decide_eq_true (show (((f :: l).length : Nat) : Int) > 0 by simp only [List.length_cons]; omega)]
    simp only [cond_true, Bool.not_false]
    rw [tk_one _ _ hq.u]
    simp only [Option.bind_some]
    rw [tk_one _ _ hq.a]
    simp only [Option.bind_some]
    rw [tk_one _ _ hq.k]
    simp only [Option.bind_some]
    rw [tk_nm _ _ (by omega)]
    simp only [Option.bind_some]
    rw [tk_num4s]
    simp only [Option.bind_some]
    rw [signOf_val _ 32 (by decide) (by decide), show Int.toNat 32 = 32 from rfl, signV_back _ h2]
    simp only [Option.bind_some]
    rw [room_le (by simp; omega) (by simp; omega), cond_true, w64 (n := (((f :: l).length : Nat) : Int) - 1) (by simp only [List.length_cons]; omega) (by simp only [List.length_cons]; omega), show (((f :: l).length : Nat) : Int) - 1 = (l.length : Int) by simp only [List.length_cons]; omega]
    have := rb_rels z n d fs ds l (acc ++ [f]) R (fun x hx => h x (List.mem_cons_of_mem _ hx)) (by simp; omega)
    rw [List.append_assoc, List.singleton_append] at this
    exact this
theorem rb_dcls (z : Obj) (n : ByteArray) (d : Int) (fs : List Fun) (ds : List Dat) (rs : List Rel) : ∀ (l acc : List (Int × Bool)) (R : ByteArray), (∀ f ∈ l, 0 ≤ f.1 ∧ f.1 < 256) → acc.length + l.length ≤ 4 →
    impl_ReadObject.l1111111111010 z (catB dclE l ++ R, false) false (n, d, fs, ds, rs, acc) (l.length : Int) = impl_ReadObject.l1111111111010 z (R, false) false (n, d, fs, ds, rs, acc ++ l) 0
  | [], acc, R, _, _ => by simp only [catB, List.length_nil, List.append_nil, ByteArray.empty_append]; rfl
  | f :: l, acc, R, h, hl => by
    have hq := h f (List.mem_cons_self ..)
    simp only [List.length_cons] at hl
    rw [impl_ReadObject.l1111111111010_eq z (catB dclE (f :: l) ++ R, false)]
    simp only [catB, dclE, joinB, ByteArray.append_assoc]
    rw [decide_eq_true (show (((f :: l).length : Nat) : Int) > 0 by simp only [List.length_cons]; omega)]
    simp only [cond_true, Bool.not_false]
    rw [tk_one _ _ hq]
    simp only [Option.bind_some]
    rw [tk_bit]
    simp only [Option.bind_some]
    rw [room_le (by simp; omega) (by simp; omega), cond_true, w64 (n := (((f :: l).length : Nat) : Int) - 1) (by simp only [List.length_cons]; omega) (by simp only [List.length_cons]; omega), show (((f :: l).length : Nat) : Int) - 1 = (l.length : Int) by simp only [List.length_cons]; omega]
    have := rb_dcls z n d fs ds rs l (acc ++ [f]) R (fun x hx => h x (List.mem_cons_of_mem _ hx)) (by simp; omega)
    rw [List.append_assoc, List.singleton_append] at this
    exact this
/-- What is taken of an object's bytes with more behind them. -/
theorem rb_obj {o : Obj} (h : ObjQ o) (z : Obj) (R : ByteArray) (hdr : ByteArray) :
    ∃ B, objB o = hdO ++ B ∧ ((impl_taker_text (B ++ R, false) 1).bind fun r4 => (impl_taker_number r4.2 1).bind fun r5 => (impl_taker_number r5.2 1).bind fun r6 => impl_ReadObject.l1111111010 z r6.2 false (r4.1, r5.1, [], [], [], []) r6.1) = impl_ReadObject.l1111111111010 z (R, false) false o 0 := by
  have l1 := h.n; have l2 := h.f; have l3 := h.d; have l4 := h.r; have l5 := h.s
  refine ⟨nmB o.1 ++ (oneB o.2.1 ++ (oneB o.2.2.1.length ++ (catB funE o.2.2.1 ++ (oneB o.2.2.2.1.length ++ (catB datE o.2.2.2.1 ++ (oneB o.2.2.2.2.1.length ++ (catB relE o.2.2.2.2.1 ++ (oneB o.2.2.2.2.2.length ++ catB dclE o.2.2.2.2.2)))))))), ?_, ?_⟩
  · unfold objB; simp only [ByteArray.append_assoc]
  · simp only [ByteArray.append_assoc]
    rw [tk_nm _ _ (by omega)]
    simp only [Option.bind_some]
    rw [tk_one _ _ h.dep]
    simp only [Option.bind_some]
    rw [tk_one _ _ ⟨by omega, by omega⟩]
    simp only [Option.bind_some]
    rw [rb_funs z o.1 o.2.1 o.2.2.1 [] _ h.fs (by simpa using l2), impl_ReadObject.l1111111010_eq]
    simp only [joinB, List.nil_append]
    rw [decide_eq_false (show ¬ (0 : Int) > 0 by decide)]
    simp only [cond_false]
    rw [tk_one _ _ ⟨by omega, by omega⟩]
    simp only [Option.bind_some]
    rw [rb_dats z o.1 o.2.1 o.2.2.1 o.2.2.2.1 [] _ h.ds (by simpa using l3), impl_ReadObject.l11111111010_eq]
    simp only [joinB, List.nil_append]
    rw [decide_eq_false (show ¬ (0 : Int) > 0 by decide)]
    simp only [cond_false]
    rw [tk_one _ _ ⟨by omega, by omega⟩]
    simp only [Option.bind_some]
    rw [rb_rels z o.1 o.2.1 o.2.2.1 o.2.2.2.1 o.2.2.2.2.1 [] _ h.rs (by simpa using l4), impl_ReadObject.l111111111010_eq]
    simp only [joinB, List.nil_append]
    rw [decide_eq_false (show ¬ (0 : Int) > 0 by decide)]
    simp only [cond_false]
    rw [tk_one _ _ ⟨by omega, by omega⟩]
    simp only [Option.bind_some]
    exact rb_dcls z o.1 o.2.1 o.2.2.1 o.2.2.2.1 o.2.2.2.2.1 o.2.2.2.2.2 [] _ h.ss (by simpa using l5)
end Go.Proofs.Ytloggcnmmcjleaa.S
