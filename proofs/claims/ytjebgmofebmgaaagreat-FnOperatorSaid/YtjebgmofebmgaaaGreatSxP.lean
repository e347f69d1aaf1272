/- Pure sides: what the functions come to (numbers and lists alone). -/
import Derived.Test.YtjebgmofebmgaaaGreatSxI
import Derived.IntWalk
import Derived.Lib.AtoiAllCases
import Derived.Lib.IndexBytes
import Derived.Lib.IndexLaws
import Derived.Lib.SplitLaws
namespace Go.Proofs.YtjebgmofebmgaaaGreat.S
open Go.Ps
set_option linter.unusedVariables false
set_option maxRecDepth 100000
theorem w64 {n : Int} (h : -9223372036854775808 ≤ n) (h' : n ≤ 9223372036854775807) : IntKind.wrap .i64 n = n := IntWalk.i64_in n ⟨h, h'⟩
theorem bt_range (t : ByteArray) (i : Int) : 0 ≤ bt t i ∧ bt t i ≤ 255 := by
  unfold bt
  have := (t.data.getD i.toNat 0).toNat_lt
  omega
theorem wu64 {n : Int} (h : 0 ≤ n) (h' : n ≤ 18446744073709551615) : IntKind.wrap .u64 n = n := by
  have : IntKind.wrap .u64 n = n % 18446744073709551616 := by simp [IntKind.wrap, IntKind.bits, IntKind.signed]
  rw [this]; omega
theorem some_letter (n : Int) : ∃ v, impl_isLetter n = some v := by
  rw [impl_isLetter_eq]
  cases decide (n ≥ 97) <;> cases decide (n ≤ 122) <;> cases decide (n ≥ 65) <;> cases decide (n ≤ 90) <;> exact ⟨_, rfl⟩
theorem some_digit (n : Int) : ∃ v, impl_isDigit n = some v := by
  rw [impl_isDigit_eq]; cases decide (n ≥ 48) <;> exact ⟨_, rfl⟩
theorem some_name_loop (t : ByteArray) (ht : t.size ≤ 20) : ∀ (k : Nat) (i : Int), 0 ≤ i → t.size ≤ i.toNat + k → ∃ v, impl_NameOK.l11010 t i = some v := by
  intro k
  induction k with
  | zero =>
    intro i h0 hk
    have : decide (i < (t.size : Int)) = false := by simp; omega
    rw [impl_NameOK.l11010_eq, this]; exact ⟨_, rfl⟩
  | succ k ih =>
    intro i h0 hk
    rw [impl_NameOK.l11010_eq]
    by_cases hi : i < (t.size : Int)
    · have e : inL i t.size = true := by simp [inL]; omega
      obtain ⟨v1, h1⟩ := some_letter (bt t i)
      obtain ⟨v2, h2⟩ := some_digit (bt t i)
      obtain ⟨v3, h3⟩ := ih (i + 1) (by omega) (by omega)
      rw [w64 (n := i + 1) (by omega) (by omega), e, h1, h2, h3]
      simp only [decide_eq_true hi, cond_true, Option.bind_some]
      cases v1 <;> cases v2 <;> exact ⟨_, rfl⟩
    · rw [show decide (i < (t.size : Int)) = false by simp; omega]; exact ⟨_, rfl⟩
theorem some_name (t : ByteArray) : ∃ v, impl_NameOK t = some v := by
  rw [impl_NameOK_eq, impl_within_eq]
  by_cases h1 : (1 : Int) ≤ (t.size : Int)
  · by_cases h2 : (t.size : Int) ≤ 20
    · obtain ⟨v1, e1⟩ := some_letter (bt t 0)
      obtain ⟨v2, e2⟩ := some_name_loop t (by omega) t.size 1 (by omega) (by omega)
      have e : inL 0 t.size = true := by simp [inL]; omega
      simp only [decide_eq_true h1, decide_eq_true h2, cond_true, Option.bind_some, Bool.not_true, cond_false, e, e1, e2]
      cases v1 <;> exact ⟨_, rfl⟩
    · simp only [decide_eq_true h1, cond_true, Option.bind_some, decide_eq_false h2, Bool.not_false]; exact ⟨_, rfl⟩
  · simp only [decide_eq_false h1, cond_false, Option.bind_some, Bool.not_false, cond_true]; exact ⟨_, rfl⟩
theorem cond_ite {α : Type} (c : Bool) (a b : α) : cond c a b = if c = true then a else b := by cases c <;> rfl
theorem wrap64_mod (n : Int) : ∃ q : Int, IntKind.wrap .i64 n = n - 18446744073709551616 * q := by
  rw [IntKind.wrap_i64]; exact ⟨(n + 9223372036854775808) / 18446744073709551616, by omega⟩
theorem bv64 (x : Int) : ((BitVec.ofInt IntKind.i64.bits x).toNat : Int) = x % 18446744073709551616 := by
  rw [BitVec.toNat_ofInt]
  have hb : ((2 ^ IntKind.i64.bits : Nat) : Int) = 18446744073709551616 := rfl
  rw [hb]; omega
theorem mod_pow_mod (x : Int) (c : Nat) (hc : c ≤ 62) : x % 18446744073709551616 % 2 ^ c = x % 2 ^ c := by
  apply Int.emod_emod_of_dvd
  exact ⟨2 ^ (64 - c), by rw [← Int.pow_add, show c + (64 - c) = 64 by omega]; rfl⟩
theorem pow_le62 (c : Nat) (hc : c ≤ 62) : (1 : Int) ≤ 2 ^ c ∧ (2 : Int) ^ c ≤ 4611686018427387904 := by
  have h1 : 2 ^ c ≤ 2 ^ 62 := Nat.pow_le_pow_right (by decide) hc
  have h2 : 1 ≤ 2 ^ c := Nat.one_le_two_pow
  have e : ((2 ^ c : Nat) : Int) = (2 : Int) ^ c := by simp
  omega
theorem and_mask (x : Int) (c : Nat) (hc : c ≤ 62) : andI .i64 x (2 ^ c - 1) = x % 2 ^ c := by
  have hp := pow_le62 c hc
  have e : ((2 ^ c : Nat) : Int) = (2 : Int) ^ c := by simp
  unfold andI
  have h1 : (BitVec.ofInt IntKind.i64.bits x &&& BitVec.ofInt IntKind.i64.bits ((2 : Int) ^ c - 1)).toNat = (BitVec.ofInt IntKind.i64.bits x).toNat % 2 ^ c := by
    rw [BitVec.toNat_and]
    have : (BitVec.ofInt IntKind.i64.bits ((2 : Int) ^ c - 1)).toNat = 2 ^ c - 1 := by
      have := bv64 ((2 : Int) ^ c - 1); omega
    rw [this, Nat.and_two_pow_sub_one_eq_mod]
  rw [h1]
  have h2 : (((BitVec.ofInt IntKind.i64.bits x).toNat % 2 ^ c : Nat) : Int) = x % 2 ^ c := by
    rw [Int.natCast_emod, bv64, e, mod_pow_mod x c hc]
  rw [h2]
  have h3 : 0 ≤ x % 2 ^ c := Int.emod_nonneg _ (by omega)
  have h4 : x % 2 ^ c < 2 ^ c := Int.emod_lt_of_pos _ (by omega)
  exact w64 (by omega) (by omega)
theorem shr_div {x : Int} {k : Int} (h : 0 ≤ k) (h' : k ≤ 64) : shrI .i64 x k = x / 2 ^ k.toNat := by
  unfold shrI
  have hb : IntKind.i64.bits = 64 := rfl
  rw [show min k.toNat IntKind.i64.bits = k.toNat by omega, Int.fdiv_eq_ediv_of_nonneg]
  have := pow_le62
  exact Int.le_of_lt (Int.pow_pos (by decide))
theorem shr_div_u {x : Int} {k : Int} (h : 0 ≤ k) (h' : k ≤ 64) : shrI .u64 x k = x / 2 ^ k.toNat := by
  unfold shrI
  have hb : IntKind.u64.bits = 64 := rfl
  rw [show min k.toNat IntKind.u64.bits = k.toNat by omega, Int.fdiv_eq_ediv_of_nonneg]
  exact Int.le_of_lt (Int.pow_pos (by decide))
theorem shl_mul {x : Int} {k : Int} (h : 0 ≤ k) (h' : k ≤ 64) : shlI .i64 x k = IntKind.wrap .i64 (x * 2 ^ k.toNat) := by
  unfold shlI
  have hb : IntKind.i64.bits = 64 := rfl
  rw [show min k.toNat IntKind.i64.bits = k.toNat by omega]
theorem bitsOf_val (v low count : Int) (h : 0 ≤ low) (h' : low ≤ 64) (hc : 0 ≤ count) (hc' : count ≤ 62) : impl_bitsOf v low count = some (v / 2 ^ low.toNat % 2 ^ count.toNat) := by
  rw [impl_bitsOf_eq]
  have hp := pow_le62 count.toNat (by omega)
  rw [show decide (low < 0) = false by simp; omega, show decide (count < 0) = false by simp; omega, shl_mul hc (by omega), shr_div h h', Int.one_mul, w64 (n := 2 ^ count.toNat) (by omega) (by omega), w64 (n := 2 ^ count.toNat - 1) (by omega) (by omega), and_mask _ _ (by omega)]
  rfl
/-- A number is laid into a place that is empty. -/
theorem nat_or_field (x y k c : Nat) (hy : y < 2 ^ c) (h : x / 2 ^ k % 2 ^ c = 0) : x ||| y * 2 ^ k = x + y * 2 ^ k := by
  have hk : 0 < 2 ^ k := Nat.two_pow_pos k
  have hkc : 0 < 2 ^ (k + c) := Nat.two_pow_pos _
  have e1 : x % 2 ^ (k + c) < 2 ^ k := by
    rw [Nat.pow_add]
    have : x % (2 ^ k * 2 ^ c) = x % 2 ^ k + 2 ^ k * (x / 2 ^ k % 2 ^ c) := Nat.mod_mul
    rw [this, h]
    have := Nat.mod_lt x hk
    omega
  have e2 : y * 2 ^ k + x % 2 ^ (k + c) < 2 ^ (k + c) := by
    have : (y + 1) * 2 ^ k ≤ 2 ^ c * 2 ^ k := Nat.mul_le_mul_right _ (by omega)
    rw [Nat.pow_add, Nat.mul_comm (2 ^ k) (2 ^ c)]
    rw [Nat.pow_add, Nat.mul_comm (2 ^ k) (2 ^ c)] at e1
    rw [Nat.add_mul] at this
    omega
  have hx : x = (x / 2 ^ (k + c)) <<< (k + c) ||| x % 2 ^ (k + c) := by
    rw [← Nat.shiftLeft_add_eq_or_of_lt (Nat.mod_lt x hkc), Nat.shiftLeft_eq]
    have := Nat.div_add_mod x (2 ^ (k + c))
    rw [Nat.mul_comm] at this; exact this.symm
  have h3 : x % 2 ^ (k + c) ||| y * 2 ^ k = y * 2 ^ k + x % 2 ^ (k + c) := by
    rw [Nat.or_comm, ← Nat.shiftLeft_eq y k, ← Nat.shiftLeft_add_eq_or_of_lt e1, Nat.shiftLeft_eq]
  calc
    x ||| y * 2 ^ k = (x / 2 ^ (k + c)) <<< (k + c) ||| (x % 2 ^ (k + c) ||| y * 2 ^ k) := by
        conv => lhs; rw [hx]
        rw [Nat.or_assoc]
    _ = (x / 2 ^ (k + c)) <<< (k + c) + (y * 2 ^ k + x % 2 ^ (k + c)) := by rw [h3, Nat.shiftLeft_add_eq_or_of_lt e2]
    _ = x + y * 2 ^ k := by
        rw [Nat.shiftLeft_eq]
        have := Nat.div_add_mod x (2 ^ (k + c))
        rw [Nat.mul_comm] at this; omega
theorem or_field {x y P Q : Int} (k c : Nat) (hP : P = 2 ^ k) (hQ : Q = 2 ^ c) (hkc : k + c ≤ 62) (hx : 0 ≤ x) (hx' : x < 4611686018427387904) (hy : 0 ≤ y) (hy' : y < Q) (h : x / P % Q = 0) : orI .i64 x (y * P) = x + y * P := by
  subst hP hQ
  obtain ⟨a, rfl⟩ := Int.eq_ofNat_of_zero_le hx
  obtain ⟨b, rfl⟩ := Int.eq_ofNat_of_zero_le hy
  have hp := pow_le62 k (by omega)
  have ek : ((2 ^ k : Nat) : Int) = (2 : Int) ^ k := by simp
  have ec : ((2 ^ c : Nat) : Int) = (2 : Int) ^ c := by simp
  have hb : b < 2 ^ c := by omega
  have hlt : b * 2 ^ k < 4611686018427387904 := by
    have h1 : b * 2 ^ k < 2 ^ c * 2 ^ k := Nat.mul_lt_mul_of_pos_right hb (Nat.two_pow_pos k)
    rw [← Nat.pow_add] at h1
    have h2 : 2 ^ (c + k) ≤ 2 ^ 62 := Nat.pow_le_pow_right (by decide) (by omega)
    omega
  have h0 : a / 2 ^ k % 2 ^ c = 0 := by
    have : ((a / 2 ^ k % 2 ^ c : Nat) : Int) = (a : Int) / 2 ^ k % 2 ^ c := by
      rw [Int.natCast_emod, Int.natCast_ediv, ek, ec]
    omega
  have em : ((b * 2 ^ k : Nat) : Int) = (b : Int) * 2 ^ k := by rw [Int.natCast_mul, ek]
  unfold orI
  rw [BitVec.toNat_or]
  have f1 : (BitVec.ofInt IntKind.i64.bits (a : Int)).toNat = a := by have := bv64 (a : Int); omega
  have f2 : (BitVec.ofInt IntKind.i64.bits ((b : Int) * 2 ^ k)).toNat = b * 2 ^ k := by have := bv64 ((b : Int) * 2 ^ k); omega
  rw [f1, f2, nat_or_field a b k c hb h0, Int.natCast_add, em]
  exact w64 (by omega) (by omega)
theorem bit_val (v i : Int) (hv : -9223372036854775808 ≤ v) (hv' : v ≤ 9223372036854775807) (h : 0 ≤ i) (h' : i ≤ 63) : spec_l01Bit v i = some (v / 2 ^ i.toNat % 2) := by
  rw [spec_l01Bit_eq, wu64 (n := i) (by omega) (by omega), show decide (i < 0) = false by simp; omega, shr_div_u h (by omega)]
  have hu : IntKind.wrap .u64 v = v % 18446744073709551616 := by simp [IntKind.wrap, IntKind.bits, IntKind.signed]
  have h0 : 0 ≤ v % 18446744073709551616 := by omega
  have hp : (0 : Int) < 2 ^ i.toNat := Int.pow_pos (by decide)
  have hd : 0 ≤ v % 18446744073709551616 / 2 ^ i.toNat := Int.ediv_nonneg h0 (by omega)
  rw [hu, Int.tmod_eq_emod_of_nonneg hd]
  have e : v % 18446744073709551616 / 2 ^ i.toNat % 2 = v / 2 ^ i.toNat % 2 := by
    have hpe : (18446744073709551616 : Int) = 2 ^ i.toNat * (2 ^ (63 - i.toNat) * 2) := by
      rw [← Int.pow_succ, ← Int.pow_add, show i.toNat + (63 - i.toNat + 1) = 64 by omega]; rfl
    have h1 : v % 18446744073709551616 = v - 2 ^ i.toNat * (2 ^ (63 - i.toNat) * 2 * (v / 18446744073709551616)) := by
      rw [Int.emod_def, ← Int.mul_assoc, ← hpe]
    rw [h1, Int.sub_eq_add_neg, ← Int.mul_neg, Int.add_mul_ediv_left _ _ (by omega)]
    rw [Int.mul_comm (2 ^ (63 - i.toNat)) 2, Int.mul_assoc, ← Int.mul_neg, Int.add_mul_emod_self_left]
  rw [e]
  have : v / 2 ^ i.toNat % 2 = 0 ∨ v / 2 ^ i.toNat % 2 = 1 := by omega
  rcases this with h | h <;> rw [h] <;> rfl
theorem bit_low (a z : Int) (n i : Nat) (h : i < n) : (a + 2 ^ n * z) / 2 ^ i % 2 = a / 2 ^ i % 2 := by
  have e : (2 : Int) ^ n = 2 ^ i * (2 * 2 ^ (n - i - 1)) := by
    rw [← Int.mul_assoc, ← Int.pow_succ, ← Int.pow_add, show i + 1 + (n - i - 1) = n by omega]
  have hp : (0 : Int) < 2 ^ i := Int.pow_pos (by decide)
  rw [e, Int.mul_assoc, Int.add_mul_ediv_left _ _ (by omega), Int.mul_assoc, Int.add_mul_emod_self_left]
theorem bit_step (t : Int) (i : Nat) : 2 * (t / 2 ^ (i + 1)) + t / 2 ^ i % 2 = t / 2 ^ i := by
  have hp : (0 : Int) ≤ 2 ^ i := Int.le_of_lt (Int.pow_pos (by decide))
  rw [Int.pow_succ, ← Int.ediv_ediv_of_nonneg hp]; omega
def putV (w low count v : Int) : Int := w % 2 ^ low.toNat + 2 ^ low.toNat * (v % 2 ^ count.toNat + 2 ^ count.toNat * (w / 2 ^ (low.toNat + count.toNat)))
theorem putV_bit (w low count v : Int) (h : 0 ≤ low) (hc : 0 ≤ count) (i : Nat) : putV w low count v / 2 ^ i % 2 = if low ≤ i ∧ (i : Int) < low + count then v / 2 ^ (i - low.toNat) % 2 else w / 2 ^ i % 2 := by
  obtain ⟨l, rfl⟩ := Int.eq_ofNat_of_zero_le h
  obtain ⟨c, rfl⟩ := Int.eq_ofNat_of_zero_le hc
  have hl : (0 : Int) < 2 ^ l := Int.pow_pos (by decide)
  have hcc : (0 : Int) < 2 ^ c := Int.pow_pos (by decide)
  simp only [putV, Int.toNat_natCast]
  by_cases h1 : i < l
  · rw [bit_low _ _ _ _ h1, if_neg (by omega)]
    conv => rhs; rw [← Int.emod_add_mul_ediv w (2 ^ l)]
    rw [bit_low _ _ _ _ h1]
  · have e : (2 : Int) ^ i = 2 ^ l * 2 ^ (i - l) := by rw [← Int.pow_add, show l + (i - l) = i by omega]
    rw [e, ← Int.ediv_ediv_of_nonneg (by omega : (0 : Int) ≤ 2 ^ l), Int.add_mul_ediv_left _ _ (by omega), Int.ediv_eq_zero_of_lt (Int.emod_nonneg _ (by omega)) (Int.emod_lt_of_pos _ hl), Int.zero_add]
    by_cases h2 : i < l + c
    · rw [if_pos (by omega), bit_low _ _ _ _ (show i - l < c by omega)]
      conv => rhs; rw [← Int.emod_add_mul_ediv v (2 ^ c)]
      rw [bit_low _ _ _ _ (show i - l < c by omega)]
    · have e2 : (2 : Int) ^ (i - l) = 2 ^ c * 2 ^ (i - l - c) := by rw [← Int.pow_add, show c + (i - l - c) = i - l by omega]
      rw [if_neg (by omega), e2, ← Int.ediv_ediv_of_nonneg (by omega : (0 : Int) ≤ 2 ^ c), Int.add_mul_ediv_left _ _ (by omega), Int.ediv_eq_zero_of_lt (Int.emod_nonneg _ (by omega)) (Int.emod_lt_of_pos _ hcc), Int.zero_add, Int.pow_add, ← Int.ediv_ediv_of_nonneg (by omega : (0 : Int) ≤ 2 ^ l), Int.ediv_ediv_of_nonneg (by omega : (0 : Int) ≤ 2 ^ c), ← e2, Int.ediv_ediv_of_nonneg (by omega : (0 : Int) ≤ 2 ^ l)]
theorem putV_range (w low count v : Int) (h : 0 ≤ low) (hc : 0 ≤ count) (hlc : low + count ≤ 32) (hw : 0 ≤ w) (hw' : w < 4294967296) : 0 ≤ putV w low count v ∧ putV w low count v < 4294967296 := by
  obtain ⟨l, rfl⟩ := Int.eq_ofNat_of_zero_le h
  obtain ⟨c, rfl⟩ := Int.eq_ofNat_of_zero_le hc
  have hl : (0 : Int) < 2 ^ l := Int.pow_pos (by decide)
  have hcc : (0 : Int) < 2 ^ c := Int.pow_pos (by decide)
  simp only [putV, Int.toNat_natCast]
  have a1 := Int.emod_nonneg w (show (2 : Int) ^ l ≠ 0 by omega)
  have a2 := Int.emod_lt_of_pos w hl
  have b1 := Int.emod_nonneg v (show (2 : Int) ^ c ≠ 0 by omega)
  have b2 := Int.emod_lt_of_pos v hcc
  have hlcp : (0 : Int) < 2 ^ (l + c) := Int.pow_pos (by decide)
  have c1 : 0 ≤ w / 2 ^ (l + c) := Int.ediv_nonneg hw (by omega)
  have c2 : w / 2 ^ (l + c) + 1 ≤ 2 ^ (32 - l - c) := by
    have : w / 2 ^ (l + c) < 2 ^ (32 - l - c) := by
      apply Int.ediv_lt_of_lt_mul hlcp
      rw [← Int.pow_add, show 32 - l - c + (l + c) = 32 by omega]; exact hw'
    omega
  generalize w / 2 ^ (l + c) = z at *
  generalize w % 2 ^ l = x at *
  generalize v % 2 ^ c = y at *
  have d1 : 0 ≤ 2 ^ c * z := Int.mul_nonneg (by omega) c1
  have d2 : 2 ^ c * z + 2 ^ c ≤ 2 ^ c * 2 ^ (32 - l - c) := by
    have := Int.mul_le_mul_of_nonneg_left c2 (show (0 : Int) ≤ 2 ^ c by omega)
    rw [Int.mul_add, Int.mul_one] at this; exact this
  rw [← Int.pow_add, show c + (32 - l - c) = 32 - l by omega] at d2
  have d3 : 0 ≤ 2 ^ l * (y + 2 ^ c * z) := Int.mul_nonneg (by omega) (by omega)
  have d4 : 2 ^ l * (y + 2 ^ c * z) + 2 ^ l ≤ 2 ^ l * 2 ^ (32 - l) := by
    have := Int.mul_le_mul_of_nonneg_left (show y + 2 ^ c * z + 1 ≤ 2 ^ (32 - l) by omega) (show (0 : Int) ≤ 2 ^ l by omega)
    rw [Int.mul_add (2 ^ l) _ 1, Int.mul_one] at this; exact this
  rw [← Int.pow_add, show l + (32 - l) = 32 by omega, show (2 : Int) ^ 32 = 4294967296 by rfl] at d4
  omega
theorem put_loop (w low count v : Int) (h : 0 ≤ low) (hc : 0 ≤ count) (hlc : low + count ≤ 32) (hw : 0 ≤ w) (hw' : w < 4294967296) (hv : -9223372036854775808 ≤ v) (hv' : v ≤ 9223372036854775807) :
    ∀ (k : Nat), k ≤ 32 → spec_l01Put.l11010 w low count v (putV w low count v / 2 ^ k) ((k : Int) - 1) = some (putV w low count v) := by
  have hr := putV_range w low count v h hc hlc hw hw'
  intro k
  induction k with
  | zero =>
    intro _
    rw [spec_l01Put.l11010_eq, show decide (((0 : Nat) : Int) - 1 ≥ 0) = false by rfl]
    simp only [cond_false, Int.pow_zero, Int.ediv_one]
  | succ k ih =>
    intro hk
    have ih := ih (by omega)
    have hb := putV_bit w low count v h hc k
    have hst := bit_step (putV w low count v) k
    generalize ht : putV w low count v = T at *
    have hp : (0 : Int) < 2 ^ (k + 1) := Int.pow_pos (by decide)
    have q0 : 0 ≤ T / 2 ^ (k + 1) := Int.ediv_nonneg hr.1 (by omega)
    have q1 : T / 2 ^ (k + 1) ≤ T := Int.ediv_le_self _ hr.1
    have hs : (((k + 1 : Nat) : Int) - 1) = (k : Int) := by omega
    rw [hs, spec_l01Put.l11010_eq, show decide ((k : Int) ≥ 0) = true by simp, bit_val w k (by omega) (by omega) (by omega) (by omega), w64 (n := low + count) (by omega) (by omega), w64 (n := 2 * (T / 2 ^ (k + 1))) (by omega) (by omega), w64 (n := (k : Int) - 1) (by omega) (by omega)]
    simp only [cond_true, Option.bind_some, Int.toNat_natCast]
    by_cases h1 : low ≤ (k : Int)
    · by_cases h2 : (k : Int) < low + count
      · rw [show decide ((k : Int) ≥ low) = true by simp; omega, show decide ((k : Int) < low + count) = true by simp; omega, w64 (n := (k : Int) - low) (by omega) (by omega), bit_val v _ hv hv' (by omega) (by omega)]
        rw [if_pos ⟨h1, h2⟩] at hb
        simp only [cond_true, Option.bind_some]
        rw [show ((k : Int) - low).toNat = k - low.toNat by omega, ← hb, w64 (by omega) (by omega), hst, ih]
      · rw [show decide ((k : Int) ≥ low) = true by simp; omega, show decide ((k : Int) < low + count) = false by simp; omega]
        rw [if_neg (by omega)] at hb
        simp only [cond_true, cond_false]
        rw [← hb, w64 (by omega) (by omega), hst, ih]
    · rw [show decide ((k : Int) ≥ low) = false by simp; omega]
      rw [if_neg (by omega)] at hb
      simp only [cond_false]
      rw [← hb, w64 (by omega) (by omega), hst, ih]
theorem put_val (w low count v : Int) (h : 0 ≤ low) (hc : 0 ≤ count) (hlc : low + count ≤ 32) (hw : 0 ≤ w) (hw' : w < 4294967296) (hv : -9223372036854775808 ≤ v) (hv' : v ≤ 9223372036854775807) :
    spec_l01Put w low count v = some (putV w low count v) := by
  have hr := putV_range w low count v h hc hlc hw hw'
  have := put_loop w low count v h hc hlc hw hw' hv hv' 32 (by omega)
  rw [spec_l01Put_eq]
  rw [Int.ediv_eq_zero_of_lt hr.1 (by rw [show (2 : Int) ^ 32 = 4294967296 by rfl]; exact hr.2)] at this
  exact this
/-- A number's lowest bits with a sign. -/
def signV (v : Int) (c : Nat) : Int := if v % 2 ^ c < 2 ^ (c - 1) then v % 2 ^ c else v % 2 ^ c - 2 ^ c
theorem pow_half (c : Nat) (h : 1 ≤ c) : (2 : Int) ^ c = 2 * 2 ^ (c - 1) := by
  obtain ⟨d, rfl⟩ := Nat.exists_eq_add_of_le h
  rw [Nat.add_comm, Int.pow_succ, Int.mul_comm]; rfl
theorem signV_mod (v : Int) (c : Nat) : ∃ q, signV v c = v + 2 ^ c * q := by
  unfold signV
  rw [Int.emod_def]
  split
  · exact ⟨-(v / 2 ^ c), by rw [Int.mul_neg]; omega⟩
  · exact ⟨-(v / 2 ^ c) - 1, by rw [Int.mul_sub, Int.mul_neg]; omega⟩
theorem signV_range (v : Int) (c : Nat) (h : 1 ≤ c) : -2 ^ (c - 1) ≤ signV v c ∧ signV v c < 2 ^ (c - 1) := by
  have hp := pow_half c h
  have hp1 : (0 : Int) < 2 ^ (c - 1) := Int.pow_pos (by decide)
  have a1 := Int.emod_nonneg v (show (2 : Int) ^ c ≠ 0 by omega)
  have a2 := Int.emod_lt_of_pos v (show (0 : Int) < 2 ^ c by omega)
  unfold signV
  split <;> omega
theorem wrap_unique {n s : Int} (q : Int) (h : n = s + 18446744073709551616 * q) (h1 : -9223372036854775808 ≤ s) (h2 : s ≤ 9223372036854775807) : IntKind.wrap .i64 n = s := by
  rw [IntKind.wrap_i64]; omega
theorem signOf_val (v count : Int) (h : 1 ≤ count) (h' : count ≤ 64) : impl_signOf v count = some (signV v count.toNat) := by
  rw [impl_signOf_eq, w64 (n := 64 - count) (by omega) (by omega), show decide (64 - count < 0) = false by simp; omega, shl_mul (by omega) (by omega), shr_div (by omega) (by omega)]
  simp only [cond_false]
  congr 1
  obtain ⟨c, rfl⟩ := Int.eq_ofNat_of_zero_le (show 0 ≤ count by omega)
  rw [show ((64 : Int) - (c : Int)).toNat = 64 - c by omega, Int.toNat_natCast]
  have hp1 : (0 : Int) < 2 ^ (c - 1) := Int.pow_pos (by decide)
  have hk : (0 : Int) < 2 ^ (64 - c) := Int.pow_pos (by decide)
  obtain ⟨q, hq⟩ := signV_mod v c
  have hr := signV_range v c (by omega)
  have e64 : (2 : Int) ^ c * 2 ^ (64 - c) = 18446744073709551616 := by rw [← Int.pow_add, show c + (64 - c) = 64 by omega]; rfl
  have e63 : (2 : Int) ^ (c - 1) * 2 ^ (64 - c) = 9223372036854775808 := by rw [← Int.pow_add, show c - 1 + (64 - c) = 63 by omega]; rfl
  have hv : v * 2 ^ (64 - c) = signV v c * 2 ^ (64 - c) + 18446744073709551616 * (-q) := by
    rw [hq, ← e64, Int.add_mul, Int.mul_neg, Int.mul_assoc, Int.mul_comm q, ← Int.mul_assoc]; omega
  have l1 : -9223372036854775808 ≤ signV v c * 2 ^ (64 - c) := by
    have := Int.mul_le_mul_of_nonneg_right hr.1 (show (0 : Int) ≤ 2 ^ (64 - c) by omega)
    rw [Int.neg_mul, e63] at this; exact this
  have l2 : signV v c * 2 ^ (64 - c) ≤ 9223372036854775807 := by
    have := Int.mul_lt_mul_of_pos_right hr.2 hk
    rw [e63] at this; omega
  rw [wrap_unique (-q) hv l1 l2, Int.mul_ediv_cancel _ (by omega)]
def shpL : List (Int × Int × Int × Int) := [(0, 0, 0, 0), (1, 55, 0, 0), (1, 23, 0, 0), (2, 111, 0, 0), (3, 103, 0, 0), (4, 99, 0, 0), (4, 99, 1, 0), (4, 99, 4, 0), (4, 99, 5, 0), (4, 99, 6, 0), (4, 99, 7, 0), (3, 3, 0, 0), (3, 3, 1, 0), (3, 3, 2, 0), (3, 3, 3, 0), (3, 3, 4, 0), (3, 3, 5, 0), (3, 3, 6, 0), (5, 35, 0, 0), (5, 35, 1, 0), (5, 35, 2, 0), (5, 35, 3, 0), (3, 19, 0, 0), (3, 19, 2, 0), (3, 19, 3, 0), (3, 19, 4, 0), (3, 19, 6, 0), (3, 19, 7, 0), (6, 19, 1, 0), (6, 19, 5, 0), (6, 19, 5, 32), (8, 51, 0, 0), (8, 51, 0, 32), (8, 51, 1, 0), (8, 51, 2, 0), (8, 51, 3, 0), (8, 51, 4, 0), (8, 51, 5, 0), (8, 51, 5, 32), (8, 51, 6, 0), (8, 51, 7, 0), (3, 27, 0, 0), (7, 27, 1, 0), (7, 27, 5, 0), (7, 27, 5, 32), (8, 59, 0, 0), (8, 59, 0, 32), (8, 59, 1, 0), (8, 59, 5, 0), (8, 59, 5, 32), (8, 51, 0, 1), (8, 51, 1, 1), (8, 51, 2, 1), (8, 51, 3, 1), (8, 51, 4, 1), (8, 51, 5, 1), (8, 51, 6, 1), (8, 51, 7, 1), (8, 59, 0, 1), (8, 59, 4, 1), (8, 59, 5, 1), (8, 59, 6, 1), (8, 59, 7, 1), (9, 115, 0, 0), (9, 115, 0, 1)]
def shp (n : Int) : Int × Int × Int × Int := shpL.getD n.toNat (0, 0, 0, 0)
theorem fin65 {n : Int} (h : 0 ≤ n) (h' : n ≤ 64) : ∃ k : Fin 65, n = (k.val : Int) := ⟨⟨n.toNat, by omega⟩, by simp; omega⟩
theorem impl_shape (n : Int) (h : 0 ≤ n) (h' : n ≤ 64) : impl_shapeOf n = some (shp n) := by
  rw [impl_shapeOf_eq, impl_ops_eq]
  simp only [Option.bind_some]
  obtain ⟨k, rfl⟩ := fin65 h h'
  clear h h'; revert k
  decide +kernel
theorem spec_shape (n : Int) (h : 0 ≤ n) (h' : n ≤ 64) : spec_l02Shape n = some (shp n) := by
  rw [spec_l02Shape_eq]
  obtain ⟨k, rfl⟩ := fin65 h h'
  clear h h'; revert k
  decide +kernel
/-- What shapes are: the form, the code, both others. -/
def ShpOK (s : Int × Int × Int × Int) : Bool := decide (1 ≤ s.1) && decide (s.1 ≤ 9) && decide (0 ≤ s.2.1) && decide (s.2.1 < 128) && decide (0 ≤ s.2.2.1) && decide (s.2.2.1 < 8) && decide (0 ≤ s.2.2.2) && decide (s.2.2.2 < 64) && (!decide (s.1 = 6) || decide (s.2.2.2 % 2 = 0)) && (!decide (s.1 = 9) || (decide (s.2.2.2 < 2) && decide (s.2.2.1 = 0)))
theorem shp_ok (n : Int) (h : 1 ≤ n) (h' : n ≤ 64) : ShpOK (shp n) = true := by
  obtain ⟨k, rfl⟩ := fin65 (show 0 ≤ n by omega) h'
  clear h'; revert k
  decide +kernel
theorem or_7_1 {x y : Int} (hx : 0 ≤ x) (hx' : x < 4611686018427387904) (hy : 0 ≤ y) (hy' : y < 2) (h : x / 128 % 2 = 0) : orI .i64 x (y * 128) = x + y * 128 := or_field 7 1 rfl rfl (by decide) hx hx' hy hy' h
theorem or_7_5 {x y : Int} (hx : 0 ≤ x) (hx' : x < 4611686018427387904) (hy : 0 ≤ y) (hy' : y < 32) (h : x / 128 % 32 = 0) : orI .i64 x (y * 128) = x + y * 128 := or_field 7 5 rfl rfl (by decide) hx hx' hy hy' h
theorem or_8_4 {x y : Int} (hx : 0 ≤ x) (hx' : x < 4611686018427387904) (hy : 0 ≤ y) (hy' : y < 16) (h : x / 256 % 16 = 0) : orI .i64 x (y * 256) = x + y * 256 := or_field 8 4 rfl rfl (by decide) hx hx' hy hy' h
theorem or_12_3 {x y : Int} (hx : 0 ≤ x) (hx' : x < 4611686018427387904) (hy : 0 ≤ y) (hy' : y < 8) (h : x / 4096 % 8 = 0) : orI .i64 x (y * 4096) = x + y * 4096 := or_field 12 3 rfl rfl (by decide) hx hx' hy hy' h
theorem or_12_8 {x y : Int} (hx : 0 ≤ x) (hx' : x < 4611686018427387904) (hy : 0 ≤ y) (hy' : y < 256) (h : x / 4096 % 256 = 0) : orI .i64 x (y * 4096) = x + y * 4096 := or_field 12 8 rfl rfl (by decide) hx hx' hy hy' h
theorem or_12_20 {x y : Int} (hx : 0 ≤ x) (hx' : x < 4611686018427387904) (hy : 0 ≤ y) (hy' : y < 1048576) (h : x / 4096 % 1048576 = 0) : orI .i64 x (y * 4096) = x + y * 4096 := or_field 12 20 rfl rfl (by decide) hx hx' hy hy' h
theorem or_20_1 {x y : Int} (hx : 0 ≤ x) (hx' : x < 4611686018427387904) (hy : 0 ≤ y) (hy' : y < 2) (h : x / 1048576 % 2 = 0) : orI .i64 x (y * 1048576) = x + y * 1048576 := or_field 20 1 rfl rfl (by decide) hx hx' hy hy' h
theorem or_20_5 {x y : Int} (hx : 0 ≤ x) (hx' : x < 4611686018427387904) (hy : 0 ≤ y) (hy' : y < 32) (h : x / 1048576 % 32 = 0) : orI .i64 x (y * 1048576) = x + y * 1048576 := or_field 20 5 rfl rfl (by decide) hx hx' hy hy' h
theorem or_20_6 {x y : Int} (hx : 0 ≤ x) (hx' : x < 4611686018427387904) (hy : 0 ≤ y) (hy' : y < 64) (h : x / 1048576 % 64 = 0) : orI .i64 x (y * 1048576) = x + y * 1048576 := or_field 20 6 rfl rfl (by decide) hx hx' hy hy' h
theorem or_20_12 {x y : Int} (hx : 0 ≤ x) (hx' : x < 4611686018427387904) (hy : 0 ≤ y) (hy' : y < 4096) (h : x / 1048576 % 4096 = 0) : orI .i64 x (y * 1048576) = x + y * 1048576 := or_field 20 12 rfl rfl (by decide) hx hx' hy hy' h
theorem or_21_10 {x y : Int} (hx : 0 ≤ x) (hx' : x < 4611686018427387904) (hy : 0 ≤ y) (hy' : y < 1024) (h : x / 2097152 % 1024 = 0) : orI .i64 x (y * 2097152) = x + y * 2097152 := or_field 21 10 rfl rfl (by decide) hx hx' hy hy' h
theorem or_25_6 {x y : Int} (hx : 0 ≤ x) (hx' : x < 4611686018427387904) (hy : 0 ≤ y) (hy' : y < 64) (h : x / 33554432 % 64 = 0) : orI .i64 x (y * 33554432) = x + y * 33554432 := or_field 25 6 rfl rfl (by decide) hx hx' hy hy' h
theorem or_25_7 {x y : Int} (hx : 0 ≤ x) (hx' : x < 4611686018427387904) (hy : 0 ≤ y) (hy' : y < 128) (h : x / 33554432 % 128 = 0) : orI .i64 x (y * 33554432) = x + y * 33554432 := or_field 25 7 rfl rfl (by decide) hx hx' hy hy' h
theorem or_26_6 {x y : Int} (hx : 0 ≤ x) (hx' : x < 4611686018427387904) (hy : 0 ≤ y) (hy' : y < 64) (h : x / 67108864 % 64 = 0) : orI .i64 x (y * 67108864) = x + y * 67108864 := or_field 26 6 rfl rfl (by decide) hx hx' hy hy' h
theorem or_31_1 {x y : Int} (hx : 0 ≤ x) (hx' : x < 4611686018427387904) (hy : 0 ≤ y) (hy' : y < 2) (h : x / 2147483648 % 2 = 0) : orI .i64 x (y * 2147483648) = x + y * 2147483648 := or_field 31 1 rfl rfl (by decide) hx hx' hy hy' h
theorem or_1_4 {x y : Int} (hx : 0 ≤ x) (hx' : x < 4611686018427387904) (hy : 0 ≤ y) (hy' : y < 16) (h : x / 2 % 16 = 0) : orI .i64 x (y * 2) = x + y * 2 := or_field 1 4 rfl rfl (by decide) hx hx' hy hy' h
theorem or_1_10 {x y : Int} (hx : 0 ≤ x) (hx' : x < 4611686018427387904) (hy : 0 ≤ y) (hy' : y < 1024) (h : x / 2 % 1024 = 0) : orI .i64 x (y * 2) = x + y * 2 := or_field 1 10 rfl rfl (by decide) hx hx' hy hy' h
theorem or_5_6 {x y : Int} (hx : 0 ≤ x) (hx' : x < 4611686018427387904) (hy : 0 ≤ y) (hy' : y < 64) (h : x / 32 % 64 = 0) : orI .i64 x (y * 32) = x + y * 32 := or_field 5 6 rfl rfl (by decide) hx hx' hy hy' h
theorem or_5_7 {x y : Int} (hx : 0 ≤ x) (hx' : x < 4611686018427387904) (hy : 0 ≤ y) (hy' : y < 128) (h : x / 32 % 128 = 0) : orI .i64 x (y * 32) = x + y * 32 := or_field 5 7 rfl rfl (by decide) hx hx' hy hy' h
theorem or_11_1 {x y : Int} (hx : 0 ≤ x) (hx' : x < 4611686018427387904) (hy : 0 ≤ y) (hy' : y < 2) (h : x / 2048 % 2 = 0) : orI .i64 x (y * 2048) = x + y * 2048 := or_field 11 1 rfl rfl (by decide) hx hx' hy hy' h
theorem or_12_1 {x y : Int} (hx : 0 ≤ x) (hx' : x < 4611686018427387904) (hy : 0 ≤ y) (hy' : y < 2) (h : x / 4096 % 2 = 0) : orI .i64 x (y * 4096) = x + y * 4096 := or_field 12 1 rfl rfl (by decide) hx hx' hy hy' h
theorem or_rs {w a b : Int} (hw : 0 ≤ w) (hw' : w < 4611686018427387904) (ha : 0 ≤ a) (ha' : a < 32) (hb : 0 ≤ b) (hb' : b < 8) (h : w / 4096 % 256 = 0) : orI .i64 w (a * 32768 + b * 4096) = w + (a * 32768 + b * 4096) := by
  have := or_field (x := w) (y := a * 8 + b) (P := 4096) (Q := 256) 12 8 rfl rfl (by decide) hw hw' (by omega) (by omega) h
  rw [show a * 32768 + b * 4096 = (a * 8 + b) * 4096 by omega]; exact this
/-- The word of an instruction. -/
def encV (s : Int × Int × Int × Int) (x : Int × Int × Int × Int × Int) : Int :=
  if s.1 = 1 then s.2.1 + x.2.1 * 128 + x.2.2.2.2 / 4096 % 1048576 * 4096
  else if s.1 = 2 then s.2.1 + x.2.1 * 128 + x.2.2.2.2 / 4096 % 256 * 4096 + x.2.2.2.2 / 2048 % 2 * 1048576 + x.2.2.2.2 / 2 % 1024 * 2097152 + x.2.2.2.2 / 1048576 % 2 * 2147483648
  else if s.1 = 3 then s.2.1 + x.2.1 * 128 + s.2.2.1 * 4096 + x.2.2.1 * 32768 + x.2.2.2.2 % 4096 * 1048576
  else if s.1 = 4 then s.2.1 + x.2.2.2.2 / 2048 % 2 * 128 + x.2.2.2.2 / 2 % 16 * 256 + s.2.2.1 * 4096 + x.2.2.1 * 32768 + x.2.2.2.1 * 1048576 + x.2.2.2.2 / 32 % 64 * 33554432 + x.2.2.2.2 / 4096 % 2 * 2147483648
  else if s.1 = 5 then s.2.1 + x.2.2.2.2 % 32 * 128 + s.2.2.1 * 4096 + x.2.2.1 * 32768 + x.2.2.2.1 * 1048576 + x.2.2.2.2 / 32 % 128 * 33554432
  else if s.1 = 6 then s.2.1 + x.2.1 * 128 + s.2.2.1 * 4096 + x.2.2.1 * 32768 + x.2.2.2.2 % 64 * 1048576 + s.2.2.2 / 2 * 67108864
  else if s.1 = 7 then s.2.1 + x.2.1 * 128 + s.2.2.1 * 4096 + x.2.2.1 * 32768 + x.2.2.2.2 % 32 * 1048576 + s.2.2.2 * 33554432
  else if s.1 = 8 then s.2.1 + x.2.1 * 128 + s.2.2.1 * 4096 + x.2.2.1 * 32768 + x.2.2.2.1 * 1048576 + s.2.2.2 * 33554432
  else s.2.1 + s.2.2.2 * 1048576
structure RegsOK (x : Int × Int × Int × Int × Int) : Prop where
  d : 0 ≤ x.2.1 ∧ x.2.1 ≤ 31
  a : 0 ≤ x.2.2.1 ∧ x.2.2.1 ≤ 31
  b : 0 ≤ x.2.2.2.1 ∧ x.2.2.2.1 ≤ 31
  i : -9223372036854775808 ≤ x.2.2.2.2 ∧ x.2.2.2.2 ≤ 9223372036854775807
theorem shp_facts {f c f3 f7 : Int} (h : ShpOK (f, c, f3, f7) = true) : (1 ≤ f ∧ f ≤ 9) ∧ (0 ≤ c ∧ c < 128) ∧ (0 ≤ f3 ∧ f3 < 8) ∧ (0 ≤ f7 ∧ f7 < 64) ∧ (f = 6 → f7 % 2 = 0) ∧ (f = 9 → f7 < 2 ∧ f3 = 0) := by
  simp only [ShpOK, Bool.and_eq_true, Bool.or_eq_true, Bool.not_eq_true', decide_eq_true_eq, decide_eq_false_iff_not] at h
  omega
theorem forms {f : Int} (h : 1 ≤ f ∧ f ≤ 9) : f = 1 ∨ f = 2 ∨ f = 3 ∨ f = 4 ∨ f = 5 ∨ f = 6 ∨ f = 7 ∨ f = 8 ∨ f = 9 := by omega
theorem inL_nat (j n : Nat) : inL (j : Int) n = decide (j < n) := by
  unfold inL; rw [show decide (0 ≤ (j : Int)) = true by simp, Bool.true_and]; congr 1; simp
theorem rd_nat {τ : Ty} (xs : List τ.den) (j : Nat) (h : j < xs.length) : rd (τ := τ) xs (j : Int) = xs[j] := by
  unfold rd; rw [Int.toNat_natCast, List.getD_eq_getElem?_getD, List.getElem?_eq_getElem h]; rfl
theorem w64_succ (j n : Nat) (h : j < n) (h' : n ≤ 9223372036854775807) : IntKind.wrap .i64 ((j : Int) + 1) = ((j + 1 : Nat) : Int) := by
  rw [w64 (by omega) (by omega)]; omega
theorem lt_nat (j n : Nat) : decide ((j : Int) < (n : Int)) = decide (j < n) := by congr 1; simp
def putP (imm : Int) (w : Int) (p : Int × Int × Int) : Int := orI .i64 w (shlI .i64 (imm / 2 ^ p.1.toNat % 2 ^ p.2.1.toNat) p.2.2)
def PiecesOK (ps : List (Int × Int × Int)) : Prop := ps.length ≤ 4 ∧ ∀ p ∈ ps, 0 ≤ p.1 ∧ p.1 ≤ 62 ∧ 0 ≤ p.2.1 ∧ p.2.1 ≤ 62 ∧ 0 ≤ p.2.2 ∧ p.2.2 ≤ 62
theorem enc_loop (x : Int × Int × Int × Int × Int) (s : Int × Int × Int × Int) (ps : List (Int × Int × Int)) (hp : PiecesOK ps) :
    ∀ (k j : Nat) (w : Int), j + k = ps.length → impl_encode.l111010 x s w ps (ps.length : Int) (j : Int) = impl_encode.l111010 x s ((ps.drop j).foldl (putP x.2.2.2.2) w) ps (ps.length : Int) (ps.length : Int) := by
  intro k
  induction k with
  | zero => intro j w h; have : j = ps.length := by omega
            subst this; simp
  | succ k ih =>
    intro j w h
    have hj : j < ps.length := by omega
    obtain ⟨p1, p2, p3, p4, p5, p6⟩ := hp.2 ps[j] (List.getElem_mem hj)
    have e := rd_nat (τ := .pair (.int .i64) (.pair (.int .i64) (.int .i64))) ps j hj
    rw [impl_encode.l111010_eq, lt_nat, inL_nat, e, w64_succ j ps.length hj (by have := hp.1; omega)]
    simp only [decide_eq_true hj, cond_true]
    rw [bitsOf_val _ _ _ (by omega) (by omega) (by omega) (by omega)]
    simp only [Option.bind_some]
    rw [show decide (ps[j].2.2 < 0) = false by simp; omega]
    simp only [cond_false]
    rw [ih (j + 1) _ (by omega), List.drop_eq_getElem_cons hj, List.foldl_cons]
    rfl
def piecesV (f : Int) : List (Int × Int × Int) :=
  if f = 1 then [(12, 20, 12)] else if f = 2 then [(12, 8, 12), (11, 1, 20), (1, 10, 21), (20, 1, 31)] else if f = 3 then [(0, 12, 20)] else if f = 4 then [(11, 1, 7), (1, 4, 8), (5, 6, 25), (12, 1, 31)]
  else if f = 5 then [(0, 5, 7), (5, 7, 25)] else if f = 6 then [(0, 6, 20)] else if f = 7 then [(0, 5, 20)] else []
theorem pieces_val {f : Int} (h : 1 ≤ f ∧ f ≤ 9) : impl_pieces f = some (piecesV f) ∧ PiecesOK (piecesV f) := by
  rw [impl_pieces_eq]
  rcases forms h with rfl | rfl | rfl | rfl | rfl | rfl | rfl | rfl | rfl <;> exact ⟨rfl, by unfold PiecesOK; decide⟩
theorem shl_val {y : Int} (k : Nat) (P : Int) (hP : P = 2 ^ k) (hk : k ≤ 62) (h0 : 0 ≤ y) (h : y * P ≤ 9223372036854775807) : shlI .i64 y (k : Int) = y * P := by
  rw [shl_mul (by omega) (by omega), Int.toNat_natCast, ← hP]
  have : 0 ≤ y * P := Int.mul_nonneg h0 (by rw [hP]; exact Int.le_of_lt (Int.pow_pos (by decide)))
  exact w64 (by omega) (by omega)
theorem shl_7 {y : Int} (h0 : 0 ≤ y) (h : y ≤ 2147483647) : shlI .i64 y 7 = y * 128 := shl_val 7 128 rfl (by decide) h0 (by omega)
theorem shl_8 {y : Int} (h0 : 0 ≤ y) (h : y ≤ 2147483647) : shlI .i64 y 8 = y * 256 := shl_val 8 256 rfl (by decide) h0 (by omega)
theorem shl_12 {y : Int} (h0 : 0 ≤ y) (h : y ≤ 2147483647) : shlI .i64 y 12 = y * 4096 := shl_val 12 4096 rfl (by decide) h0 (by omega)
theorem shl_15 {y : Int} (h0 : 0 ≤ y) (h : y ≤ 2147483647) : shlI .i64 y 15 = y * 32768 := shl_val 15 32768 rfl (by decide) h0 (by omega)
theorem shl_20 {y : Int} (h0 : 0 ≤ y) (h : y ≤ 2147483647) : shlI .i64 y 20 = y * 1048576 := shl_val 20 1048576 rfl (by decide) h0 (by omega)
theorem shl_21 {y : Int} (h0 : 0 ≤ y) (h : y ≤ 2147483647) : shlI .i64 y 21 = y * 2097152 := shl_val 21 2097152 rfl (by decide) h0 (by omega)
theorem shl_25 {y : Int} (h0 : 0 ≤ y) (h : y ≤ 2147483647) : shlI .i64 y 25 = y * 33554432 := shl_val 25 33554432 rfl (by decide) h0 (by omega)
theorem shl_26 {y : Int} (h0 : 0 ≤ y) (h : y ≤ 2147483647) : shlI .i64 y 26 = y * 67108864 := shl_val 26 67108864 rfl (by decide) h0 (by omega)
theorem shl_31 {y : Int} (h0 : 0 ≤ y) (h : y ≤ 2147483647) : shlI .i64 y 31 = y * 2147483648 := shl_val 31 2147483648 rfl (by decide) h0 (by omega)
theorem shr_one {x : Int} : shrI .i64 x 1 = x / 2 := by rw [shr_div (by decide) (by decide)]; rfl
def fieldsV (f : Int) : Bool × Bool × Bool :=
  if f = 1 ∨ f = 2 then (true, false, false) else if f = 3 ∨ f = 6 ∨ f = 7 then (true, true, false) else if f = 4 ∨ f = 5 then (false, true, true) else if f = 8 then (true, true, true) else (false, false, false)
theorem fields_val {f : Int} (h : 1 ≤ f ∧ f ≤ 9) : impl_fields f = some (fieldsV f) := by
  rw [impl_fields_eq]
  rcases forms h with rfl | rfl | rfl | rfl | rfl | rfl | rfl | rfl | rfl <;> rfl
theorem impl_encode_val (x : Int × Int × Int × Int × Int) (h : 1 ≤ x.1) (h' : x.1 ≤ 64) (hr : RegsOK x) : impl_encode x = some (encV (shp x.1) x) := by
  rw [impl_encode_eq, impl_shape _ (by omega) h']
  have hs := shp_ok x.1 h h'
  generalize shp x.1 = s at *
  obtain ⟨n, rd', rs1, rs2, imm⟩ := x
  obtain ⟨f, c, f3, f7⟩ := s
  obtain ⟨⟨d1, d2⟩, ⟨a1, a2⟩, ⟨b1, b2⟩, ⟨i1, i2⟩⟩ := hr
  obtain ⟨s1, ⟨s2, s2'⟩, ⟨s3, s3'⟩, ⟨s4, s4'⟩, s5, s6⟩ := shp_facts hs
  clear hs
  dsimp only at *
  obtain ⟨hp, hpo⟩ := pieces_val s1
  have hf := fields_val s1
  simp only [Option.bind_some, hp]
  rw [show (0 : Int) = ((0 : Nat) : Int) by rfl, enc_loop _ _ _ hpo (piecesV f).length 0 _ (by omega), impl_encode.l111010_eq, lt_nat]
  simp only [Nat.lt_irrefl, decide_false, cond_false, hf, List.drop_zero, Option.bind_some, joinB]
  clear hp hpo hf
  rcases forms s1 with rfl | rfl | rfl | rfl | rfl | rfl | rfl | rfl | rfl
  · simp [piecesV, fieldsV, putP, encV]
    have hb0 : 0 ≤ imm / 4096 % 1048576 ∧ imm / 4096 % 1048576 < 1048576 := by omega
    generalize imm / 4096 % 1048576 = y0 at *
    simp (disch := omega) only [shl_12, shl_7, or_12_20, or_7_5]
    try omega
  · simp [piecesV, fieldsV, putP, encV]
    have hb0 : 0 ≤ imm / 4096 % 256 ∧ imm / 4096 % 256 < 256 := by omega
    generalize imm / 4096 % 256 = y0 at *
    have hb1 : 0 ≤ imm / 2048 % 2 ∧ imm / 2048 % 2 < 2 := by omega
    generalize imm / 2048 % 2 = y1 at *
    have hb2 : 0 ≤ imm / 2 % 1024 ∧ imm / 2 % 1024 < 1024 := by omega
    generalize imm / 2 % 1024 = y2 at *
    have hb3 : 0 ≤ imm / 1048576 % 2 ∧ imm / 1048576 % 2 < 2 := by omega
    generalize imm / 1048576 % 2 = y3 at *
    simp (disch := omega) only [shl_12, shl_20, shl_21, shl_31, shl_7, or_12_8, or_20_1, or_21_10, or_31_1, or_7_5]
    try omega
  · simp [piecesV, fieldsV, putP, encV]
    have hb0 : 0 ≤ imm % 4096 ∧ imm % 4096 < 4096 := by omega
    generalize imm % 4096 = y0 at *
    simp (disch := omega) only [shl_20, shl_7, shl_15, shl_12, or_20_12, or_7_5, or_12_3, or_rs]
    try omega
  · simp [piecesV, fieldsV, putP, encV]
    have hb0 : 0 ≤ imm / 2048 % 2 ∧ imm / 2048 % 2 < 2 := by omega
    generalize imm / 2048 % 2 = y0 at *
    have hb1 : 0 ≤ imm / 2 % 16 ∧ imm / 2 % 16 < 16 := by omega
    generalize imm / 2 % 16 = y1 at *
    have hb2 : 0 ≤ imm / 32 % 64 ∧ imm / 32 % 64 < 64 := by omega
    generalize imm / 32 % 64 = y2 at *
    have hb3 : 0 ≤ imm / 4096 % 2 ∧ imm / 4096 % 2 < 2 := by omega
    generalize imm / 4096 % 2 = y3 at *
    simp (disch := omega) only [shl_7, shl_8, shl_25, shl_31, shl_15, shl_12, shl_20, or_7_1, or_8_4, or_25_6, or_31_1, or_12_3, or_rs, or_20_5]
    try omega
  · simp [piecesV, fieldsV, putP, encV]
    have hb0 : 0 ≤ imm % 32 ∧ imm % 32 < 32 := by omega
    generalize imm % 32 = y0 at *
    have hb1 : 0 ≤ imm / 32 % 128 ∧ imm / 32 % 128 < 128 := by omega
    generalize imm / 32 % 128 = y1 at *
    simp (disch := omega) only [shl_7, shl_25, shl_15, shl_12, shl_20, or_7_5, or_25_7, or_12_3, or_rs, or_20_5]
    try omega
  · simp [piecesV, fieldsV, putP, encV, shr_one]
    have hb0 : 0 ≤ imm % 64 ∧ imm % 64 < 64 := by omega
    generalize imm % 64 = y0 at *
    have hs : 0 ≤ f7 / 2 ∧ f7 / 2 < 64 := by omega
    generalize f7 / 2 = z at *
    simp (disch := omega) only [shl_20, shl_7, shl_15, shl_12, shl_26, or_20_6, or_7_5, or_12_3, or_rs, or_26_6]
    try omega
  · simp [piecesV, fieldsV, putP, encV]
    have hb0 : 0 ≤ imm % 32 ∧ imm % 32 < 32 := by omega
    generalize imm % 32 = y0 at *
    simp (disch := omega) only [shl_20, shl_7, shl_15, shl_12, shl_25, or_20_5, or_7_5, or_12_3, or_rs, or_25_7]
    try omega
  · simp [piecesV, fieldsV, encV]
    simp (disch := omega) only [shl_7, shl_15, shl_12, shl_20, shl_25, or_7_5, or_12_3, or_rs, or_20_5, or_25_7]
    try omega
  · simp [piecesV, fieldsV, encV]
    simp (disch := omega) only [shl_20, or_20_1]
    try omega
theorem bits_ext {a b : Int} (ha : 0 ≤ a ∧ a < 4294967296) (hb : 0 ≤ b ∧ b < 4294967296) (h : ∀ i : Nat, i < 32 → a / 2 ^ i % 2 = b / 2 ^ i % 2) : a = b := by
  have : ∀ k : Nat, k ≤ 32 → a / 2 ^ (32 - k) = b / 2 ^ (32 - k) := by
    intro k
    induction k with
    | zero => intro _; rw [show (2 : Int) ^ (32 - 0) = 4294967296 by rfl]; omega
    | succ k ih =>
      intro hk
      have ih := ih (by omega)
      have h1 := h (32 - (k + 1)) (by omega)
      have e : 32 - k = 32 - (k + 1) + 1 := by omega
      rw [e] at ih
      have ea := bit_step a (32 - (k + 1))
      have eb := bit_step b (32 - (k + 1))
      omega
  have := this 32 (by omega)
  simpa using this
theorem putV_more (w low v : Int) (c : Nat) (h : 0 ≤ low) (hlc : low + c + 1 ≤ 32) (hw : 0 ≤ w) (hw' : w < 4294967296) : putV (putV w low c v) (low + c) 1 (v / 2 ^ c % 2) = putV w low ((c + 1 : Nat) : Int) v := by
  have r1 := putV_range w low c v h (by omega) (by omega) hw hw'
  apply bits_ext (putV_range _ _ _ _ (by omega) (by omega) (by omega) r1.1 r1.2) (putV_range _ _ _ _ h (by omega) (by omega) hw hw')
  intro i hi
  rw [putV_bit _ _ _ _ (by omega) (by omega), putV_bit _ _ _ _ h (by omega), putV_bit _ _ _ _ h (by omega)]
  by_cases h1 : low + c ≤ (i : Int) ∧ (i : Int) < low + c + 1
  · rw [if_pos h1, if_pos (by omega), show i - (low + (c : Int)).toNat = 0 by omega, show i - low.toNat = c by omega, Int.pow_zero, Int.ediv_one]; omega
  · rw [if_neg h1]
    by_cases h2 : low ≤ (i : Int) ∧ (i : Int) < low + c
    · rw [if_pos h2, if_pos (by omega)]
    · rw [if_neg h2, if_neg (by omega)]
theorem putV_zero (w low v : Int) (h : 0 ≤ low) (hl : low ≤ 31) (hw : 0 ≤ w) (hw' : w < 4294967296) : putV w low 0 v = w := by
  apply bits_ext (putV_range _ _ _ _ h (by omega) (by omega) hw hw') ⟨hw, hw'⟩
  intro i hi
  rw [putV_bit _ _ _ _ h (by omega), if_neg (by omega)]
theorem putV_empty {w v : Int} (k c : Nat) (P Q : Int) (hP : P = 2 ^ k) (hQ : Q = 2 ^ c) (h : w / P % Q = 0) : putV w (k : Int) (c : Int) v = w + v % Q * P := by
  subst hP hQ
  simp only [putV, Int.toNat_natCast]
  have hk : (0 : Int) < 2 ^ k := Int.pow_pos (by decide)
  have hc : (0 : Int) < 2 ^ c := Int.pow_pos (by decide)
  have e1 := Int.emod_add_mul_ediv w (2 ^ k)
  have e2 := Int.emod_add_mul_ediv (w / 2 ^ k) (2 ^ c)
  rw [h, Int.zero_add, Int.ediv_ediv_of_nonneg (by omega), ← Int.pow_add] at e2
  rw [e2, Int.mul_add]
  rw [Int.mul_comm (v % 2 ^ c)]
  omega
theorem jump_step (x : Int × Int × Int × Int × Int) (hx : -9223372036854775808 ≤ x.2.2.2.2) (hx' : x.2.2.2.2 ≤ 9223372036854775807) (w : Int) (hw : 0 ≤ w) (hw' : w < 4294967296) (i : Nat) (h : 1 ≤ i) (h' : i ≤ 20) :
    spec_l02Encode.l1110101110110 x w (i : Int) = spec_l02Encode.l1110101110110 x (putV w (if i = 20 then 31 else if 11 < i then i else if 10 < i then 9 + i else 20 + i : Nat) 1 (x.2.2.2.2 / 2 ^ i % 2)) ((i + 1 : Nat) : Int) := by
  rw [spec_l02Encode.l1110101110110_eq, show decide ((i : Int) < 21) = true by simp; omega, bit_val _ _ hx hx' (by omega) (by omega), w64 (n := 9 + (i : Int)) (by omega) (by omega), w64 (n := 20 + (i : Int)) (by omega) (by omega), w64 (n := (i : Int) + 1) (by omega) (by omega)]
  simp only [joinB, cond_true, Int.toNat_natCast, Option.bind_some]
  have e0 : ((i + 1 : Nat) : Int) = (i : Int) + 1 := by omega
  rw [e0]
  by_cases h1 : i = 20
  · subst h1; rw [show decide (((20 : Nat) : Int) = 20) = true by rfl, put_val _ _ _ _ (by omega) (by omega) (by omega) hw hw' (by omega) (by omega)]; rfl
  · by_cases h2 : 11 < i
    · rw [show decide ((i : Int) = 20) = false by simp; omega, show decide ((i : Int) > 11) = true by simp; omega, show decide ((i : Int) > 10) = true by simp; omega, if_neg h1, if_pos h2]
      simp only [cond_true, cond_false]
      rw [put_val _ _ _ _ (by omega) (by omega) (by omega) hw hw' (by omega) (by omega)]; rfl
    · by_cases h3 : 10 < i
      · rw [show decide ((i : Int) = 20) = false by simp; omega, show decide ((i : Int) > 11) = false by simp; omega, show decide ((i : Int) > 10) = true by simp; omega, if_neg h1, if_neg h2, if_pos h3]
        simp only [cond_true, cond_false]
        rw [put_val _ _ _ _ (by omega) (by omega) (by omega) hw hw' (by omega) (by omega), show ((9 + i : Nat) : Int) = 9 + (i : Int) by omega]; rfl
      · rw [show decide ((i : Int) = 20) = false by simp; omega, show decide ((i : Int) > 11) = false by simp; omega, show decide ((i : Int) > 10) = false by simp; omega, if_neg h1, if_neg h2, if_neg h3]
        simp only [cond_false]
        rw [put_val _ _ _ _ (by omega) (by omega) (by omega) hw hw' (by omega) (by omega), show ((20 + i : Nat) : Int) = 20 + (i : Int) by omega]; rfl
theorem bits_run (L : Int → Nat → Option Int) (v : Int) (pl : Nat → Nat) (lo hi : Nat) (step : ∀ (w : Int) (i : Nat), 0 ≤ w → w < 4294967296 → lo ≤ i → i < hi → L w i = L (putV w (pl i : Nat) 1 (v / 2 ^ i % 2)) (i + 1))
    (a p : Nat) (ha : lo ≤ a) (w : Int) (hw : 0 ≤ w) (hw' : w < 4294967296) (n : Nat) (hn : a + n ≤ hi) (hp1 : p ≤ 31) (hpn : p + n ≤ 32) (hp : ∀ c : Nat, c < n → pl (a + c) = p + c) :
    ∀ c : Nat, c ≤ n → L w a = L (putV w (p : Int) (c : Int) (v / 2 ^ a)) (a + c) := by
  intro c
  induction c with
  | zero => intro _; rw [show ((0 : Nat) : Int) = 0 by rfl, putV_zero _ _ _ (by omega) (by omega) hw hw', Nat.add_zero]
  | succ c ih =>
    intro hc
    have r := putV_range w p c (v / 2 ^ a) (by omega) (by omega) (by omega) hw hw'
    rw [ih (by omega), step _ (a + c) r.1 r.2 (by omega) (by omega), hp c (by omega)]
    have e : v / 2 ^ (a + c) = v / 2 ^ a / 2 ^ c := by rw [Int.pow_add, Int.ediv_ediv_of_nonneg (Int.le_of_lt (Int.pow_pos (by decide)))]
    rw [e, show ((p + c : Nat) : Int) = (p : Int) + (c : Int) by omega, putV_more _ _ _ _ (by omega) (by omega) hw hw']
    rfl
def jumpPl (i : Nat) : Nat := if i = 20 then 31 else if 11 < i then i else if 10 < i then 9 + i else 20 + i
def branchPl (i : Nat) : Nat := if i = 12 then 31 else if i = 11 then 7 else if 4 < i then 20 + i else 7 + i
theorem jump_run (x : Int × Int × Int × Int × Int) (hx : -9223372036854775808 ≤ x.2.2.2.2) (hx' : x.2.2.2.2 ≤ 9223372036854775807) (w : Int) (hw : 0 ≤ w) (hw' : w < 4294967296) :
    spec_l02Encode.l1110101110110 x w 1 = some (putV (putV (putV (putV w 21 10 (x.2.2.2.2 / 2)) 20 1 (x.2.2.2.2 / 2048)) 12 8 (x.2.2.2.2 / 4096)) 31 1 (x.2.2.2.2 / 1048576)) := by
  have st := bits_run (fun w i => spec_l02Encode.l1110101110110 x w (i : Int)) x.2.2.2.2 jumpPl 1 21 (fun w i h1 h2 h3 h4 => jump_step x hx hx' w h1 h2 i h3 (by omega))
  have r1 := putV_range w 21 10 (x.2.2.2.2 / 2) (by decide) (by decide) (by decide) hw hw'
  have r2 := putV_range _ 20 1 (x.2.2.2.2 / 2048) (by decide) (by decide) (by decide) r1.1 r1.2
  have r3 := putV_range _ 12 8 (x.2.2.2.2 / 4096) (by decide) (by decide) (by decide) r2.1 r2.2
  refine (st 1 21 (by decide) w hw hw' 10 (by decide) (by decide) (by decide) (by decide) 10 (by decide)).trans ?_
  refine (st 11 20 (by decide) _ r1.1 r1.2 1 (by decide) (by decide) (by decide) (by decide) 1 (by decide)).trans ?_
  refine (st 12 12 (by decide) _ r2.1 r2.2 8 (by decide) (by decide) (by decide) (by decide) 8 (by decide)).trans ?_
  refine (st 20 31 (by decide) _ r3.1 r3.2 1 (by decide) (by decide) (by decide) (by decide) 1 (by decide)).trans ?_
  exact spec_l02Encode.l1110101110110_eq _ _ _
theorem branch_step (x : Int × Int × Int × Int × Int) (hx : -9223372036854775808 ≤ x.2.2.2.2) (hx' : x.2.2.2.2 ≤ 9223372036854775807) (w : Int) (hw : 0 ≤ w) (hw' : w < 4294967296) (i : Nat) (h : 1 ≤ i) (h' : i ≤ 12) :
    spec_l02Encode.l1110101111111011110 x w (i : Int) = spec_l02Encode.l1110101111111011110 x (putV w (branchPl i : Nat) 1 (x.2.2.2.2 / 2 ^ i % 2)) ((i + 1 : Nat) : Int) := by
  rw [spec_l02Encode.l1110101111111011110_eq, show decide ((i : Int) < 13) = true by simp; omega, bit_val _ _ hx hx' (by omega) (by omega), w64 (n := 7 + (i : Int)) (by omega) (by omega), w64 (n := 20 + (i : Int)) (by omega) (by omega), w64 (n := (i : Int) + 1) (by omega) (by omega)]
  simp only [joinB, cond_true, Int.toNat_natCast, Option.bind_some, branchPl]
  have e0 : ((i + 1 : Nat) : Int) = (i : Int) + 1 := by omega
  rw [e0]
  by_cases h1 : i = 12
  · subst h1; rw [show decide (((12 : Nat) : Int) = 12) = true by rfl, put_val _ _ _ _ (by omega) (by omega) (by omega) hw hw' (by omega) (by omega)]; rfl
  · by_cases h2 : i = 11
    · subst h2
      rw [show decide (((11 : Nat) : Int) = 12) = false by rfl, show decide (((11 : Nat) : Int) > 4) = true by rfl, show decide (((11 : Nat) : Int) = 11) = true by rfl]
      simp only [cond_true, cond_false]
      rw [put_val _ _ _ _ (by omega) (by omega) (by omega) hw hw' (by omega) (by omega)]; rfl
    · by_cases h3 : 4 < i
      · rw [show decide ((i : Int) = 12) = false by simp; omega, show decide ((i : Int) = 11) = false by simp; omega, show decide ((i : Int) > 4) = true by simp; omega, if_neg h1, if_neg h2, if_pos h3]
        simp only [cond_true, cond_false]
        rw [put_val _ _ _ _ (by omega) (by omega) (by omega) hw hw' (by omega) (by omega), show ((20 + i : Nat) : Int) = 20 + (i : Int) by omega]; rfl
      · rw [show decide ((i : Int) = 12) = false by simp; omega, show decide ((i : Int) = 11) = false by simp; omega, show decide ((i : Int) > 4) = false by simp; omega, if_neg h1, if_neg h2, if_neg h3]
        simp only [cond_false]
        rw [put_val _ _ _ _ (by omega) (by omega) (by omega) hw hw' (by omega) (by omega), show ((7 + i : Nat) : Int) = 7 + (i : Int) by omega]; rfl
theorem branch_run (x : Int × Int × Int × Int × Int) (hx : -9223372036854775808 ≤ x.2.2.2.2) (hx' : x.2.2.2.2 ≤ 9223372036854775807) (w : Int) (hw : 0 ≤ w) (hw' : w < 4294967296) :
    spec_l02Encode.l1110101111111011110 x w 1 = some (putV (putV (putV (putV w 8 4 (x.2.2.2.2 / 2)) 25 6 (x.2.2.2.2 / 32)) 7 1 (x.2.2.2.2 / 2048)) 31 1 (x.2.2.2.2 / 4096)) := by
  have st := bits_run (fun w i => spec_l02Encode.l1110101111111011110 x w (i : Int)) x.2.2.2.2 branchPl 1 13 (fun w i h1 h2 h3 h4 => branch_step x hx hx' w h1 h2 i h3 (by omega))
  have r1 := putV_range w 8 4 (x.2.2.2.2 / 2) (by decide) (by decide) (by decide) hw hw'
  have r2 := putV_range _ 25 6 (x.2.2.2.2 / 32) (by decide) (by decide) (by decide) r1.1 r1.2
  have r3 := putV_range _ 7 1 (x.2.2.2.2 / 2048) (by decide) (by decide) (by decide) r2.1 r2.2
  refine (st 1 8 (by decide) w hw hw' 4 (by decide) (by decide) (by decide) (by decide) 4 (by decide)).trans ?_
  refine (st 5 25 (by decide) _ r1.1 r1.2 6 (by decide) (by decide) (by decide) (by decide) 6 (by decide)).trans ?_
  refine (st 11 7 (by decide) _ r2.1 r2.2 1 (by decide) (by decide) (by decide) (by decide) 1 (by decide)).trans ?_
  refine (st 12 31 (by decide) _ r3.1 r3.2 1 (by decide) (by decide) (by decide) (by decide) 1 (by decide)).trans ?_
  exact spec_l02Encode.l1110101111111011110_eq _ _ _
theorem store_step (x : Int × Int × Int × Int × Int) (hx : -9223372036854775808 ≤ x.2.2.2.2) (hx' : x.2.2.2.2 ≤ 9223372036854775807) (w : Int) (hw : 0 ≤ w) (hw' : w < 4294967296) (i : Nat) (h : 5 ≤ i) (h' : i ≤ 11) :
    spec_l02Encode.l1110101111111110111110 x w (i : Int) = spec_l02Encode.l1110101111111110111110 x (putV w (20 + i : Nat) 1 (x.2.2.2.2 / 2 ^ i % 2)) ((i + 1 : Nat) : Int) := by
  rw [spec_l02Encode.l1110101111111110111110_eq, show decide ((i : Int) < 12) = true by simp; omega, bit_val _ _ hx hx' (by omega) (by omega), w64 (n := 20 + (i : Int)) (by omega) (by omega), w64 (n := (i : Int) + 1) (by omega) (by omega)]
  simp only [cond_true, Int.toNat_natCast, Option.bind_some]
  rw [put_val _ _ _ _ (by omega) (by omega) (by omega) hw hw' (by omega) (by omega), show ((20 + i : Nat) : Int) = 20 + (i : Int) by omega]; rfl
theorem store_run (x : Int × Int × Int × Int × Int) (hx : -9223372036854775808 ≤ x.2.2.2.2) (hx' : x.2.2.2.2 ≤ 9223372036854775807) (w : Int) (hw : 0 ≤ w) (hw' : w < 4294967296) :
    spec_l02Encode.l1110101111111110111110 x w 5 = some (putV w 25 7 (x.2.2.2.2 / 32)) := by
  have st := bits_run (fun w i => spec_l02Encode.l1110101111111110111110 x w (i : Int)) x.2.2.2.2 (fun i => 20 + i) 5 12 (fun w i h1 h2 h3 h4 => store_step x hx hx' w h1 h2 i h3 (by omega))
  refine (st 5 25 (by decide) w hw hw' 7 (by decide) (by decide) (by decide) (by decide) 7 (by decide)).trans ?_
  exact spec_l02Encode.l1110101111111110111110_eq _ _ _
theorem put_7_5 {w v : Int} (hw : 0 ≤ w) (hw' : w < 4294967296) (h : w / 128 % 32 = 0) (hv : -9223372036854775808 ≤ v) (hv' : v ≤ 9223372036854775807) : spec_l01Put w 7 5 v = some (w + v % 32 * 128) :=
  (put_val w 7 5 v (by decide) (by decide) (by decide) hw hw' hv hv').trans (congrArg some (putV_empty 7 5 128 32 rfl rfl h))
theorem put_12_20 {w v : Int} (hw : 0 ≤ w) (hw' : w < 4294967296) (h : w / 4096 % 1048576 = 0) (hv : -9223372036854775808 ≤ v) (hv' : v ≤ 9223372036854775807) : spec_l01Put w 12 20 v = some (w + v % 1048576 * 4096) :=
  (put_val w 12 20 v (by decide) (by decide) (by decide) hw hw' hv hv').trans (congrArg some (putV_empty 12 20 4096 1048576 rfl rfl h))
theorem put_12_3 {w v : Int} (hw : 0 ≤ w) (hw' : w < 4294967296) (h : w / 4096 % 8 = 0) (hv : -9223372036854775808 ≤ v) (hv' : v ≤ 9223372036854775807) : spec_l01Put w 12 3 v = some (w + v % 8 * 4096) :=
  (put_val w 12 3 v (by decide) (by decide) (by decide) hw hw' hv hv').trans (congrArg some (putV_empty 12 3 4096 8 rfl rfl h))
theorem put_15_5 {w v : Int} (hw : 0 ≤ w) (hw' : w < 4294967296) (h : w / 32768 % 32 = 0) (hv : -9223372036854775808 ≤ v) (hv' : v ≤ 9223372036854775807) : spec_l01Put w 15 5 v = some (w + v % 32 * 32768) :=
  (put_val w 15 5 v (by decide) (by decide) (by decide) hw hw' hv hv').trans (congrArg some (putV_empty 15 5 32768 32 rfl rfl h))
theorem put_20_12 {w v : Int} (hw : 0 ≤ w) (hw' : w < 4294967296) (h : w / 1048576 % 4096 = 0) (hv : -9223372036854775808 ≤ v) (hv' : v ≤ 9223372036854775807) : spec_l01Put w 20 12 v = some (w + v % 4096 * 1048576) :=
  (put_val w 20 12 v (by decide) (by decide) (by decide) hw hw' hv hv').trans (congrArg some (putV_empty 20 12 1048576 4096 rfl rfl h))
theorem put_20_5 {w v : Int} (hw : 0 ≤ w) (hw' : w < 4294967296) (h : w / 1048576 % 32 = 0) (hv : -9223372036854775808 ≤ v) (hv' : v ≤ 9223372036854775807) : spec_l01Put w 20 5 v = some (w + v % 32 * 1048576) :=
  (put_val w 20 5 v (by decide) (by decide) (by decide) hw hw' hv hv').trans (congrArg some (putV_empty 20 5 1048576 32 rfl rfl h))
theorem put_20_6 {w v : Int} (hw : 0 ≤ w) (hw' : w < 4294967296) (h : w / 1048576 % 64 = 0) (hv : -9223372036854775808 ≤ v) (hv' : v ≤ 9223372036854775807) : spec_l01Put w 20 6 v = some (w + v % 64 * 1048576) :=
  (put_val w 20 6 v (by decide) (by decide) (by decide) hw hw' hv hv').trans (congrArg some (putV_empty 20 6 1048576 64 rfl rfl h))
theorem put_25_7 {w v : Int} (hw : 0 ≤ w) (hw' : w < 4294967296) (h : w / 33554432 % 128 = 0) (hv : -9223372036854775808 ≤ v) (hv' : v ≤ 9223372036854775807) : spec_l01Put w 25 7 v = some (w + v % 128 * 33554432) :=
  (put_val w 25 7 v (by decide) (by decide) (by decide) hw hw' hv hv').trans (congrArg some (putV_empty 25 7 33554432 128 rfl rfl h))
theorem putV_21_10 {w v : Int} (h : w / 2097152 % 1024 = 0) : putV w 21 10 v = w + v % 1024 * 2097152 := putV_empty 21 10 2097152 1024 rfl rfl h
theorem putV_20_1 {w v : Int} (h : w / 1048576 % 2 = 0) : putV w 20 1 v = w + v % 2 * 1048576 := putV_empty 20 1 1048576 2 rfl rfl h
theorem putV_12_8 {w v : Int} (h : w / 4096 % 256 = 0) : putV w 12 8 v = w + v % 256 * 4096 := putV_empty 12 8 4096 256 rfl rfl h
theorem putV_31_1 {w v : Int} (h : w / 2147483648 % 2 = 0) : putV w 31 1 v = w + v % 2 * 2147483648 := putV_empty 31 1 2147483648 2 rfl rfl h
theorem putV_8_4 {w v : Int} (h : w / 256 % 16 = 0) : putV w 8 4 v = w + v % 16 * 256 := putV_empty 8 4 256 16 rfl rfl h
theorem putV_25_6 {w v : Int} (h : w / 33554432 % 64 = 0) : putV w 25 6 v = w + v % 64 * 33554432 := putV_empty 25 6 33554432 64 rfl rfl h
theorem putV_7_1 {w v : Int} (h : w / 128 % 2 = 0) : putV w 7 1 v = w + v % 2 * 128 := putV_empty 7 1 128 2 rfl rfl h
theorem putV_25_7 {w v : Int} (h : w / 33554432 % 128 = 0) : putV w 25 7 v = w + v % 128 * 33554432 := putV_empty 25 7 33554432 128 rfl rfl h
theorem spec_encode_val (x : Int × Int × Int × Int × Int) (h : 1 ≤ x.1) (h' : x.1 ≤ 64) (hr : RegsOK x) (hu : (shp x.1).1 = 1 → x.2.2.2.2 % 4096 = 0) : spec_l02Encode x = some (encV (shp x.1) x) := by
  rw [spec_l02Encode_eq, spec_shape _ (by omega) h']
  have hs := shp_ok x.1 h h'
  generalize shp x.1 = s at *
  obtain ⟨n, rd', rs1, rs2, imm⟩ := x
  obtain ⟨f, c, f3, f7⟩ := s
  obtain ⟨⟨d1, d2⟩, ⟨a1, a2⟩, ⟨b1, b2⟩, ⟨i1, i2⟩⟩ := hr
  obtain ⟨s1, ⟨s2, s2'⟩, ⟨s3, s3'⟩, ⟨s4, s4'⟩, s5, s6⟩ := shp_facts hs
  clear hs
  dsimp only at *
  simp only [Option.bind_some, joinB]
  rcases forms s1 with rfl | rfl | rfl | rfl | rfl | rfl | rfl | rfl | rfl
  · have hu := hu rfl
    have ht : imm.tdiv 4096 = imm / 4096 := by
      rw [Int.tdiv_eq_ediv_of_dvd]; exact Int.dvd_of_emod_eq_zero hu
    simp only [cond_ite, ↓reduceIte, decide_true, ht]
    rw [w64 (n := imm / 4096) (by omega) (by omega), put_7_5 (by omega) (by omega) (by omega) (by omega) (by omega)]
    simp only [Option.bind_some]
    rw [put_12_20 (by omega) (by omega) (by omega) (by omega) (by omega)]
    simp [encV]; omega
  · simp (disch := omega) [put_7_5, jump_run, encV]
    rw [putV_21_10 (by omega)]
    have hb0 : 0 ≤ imm / 2 % 1024 ∧ imm / 2 % 1024 < 1024 := by omega
    generalize imm / 2 % 1024 = y0 at *
    rw [putV_20_1 (by omega)]
    have hb1 : 0 ≤ imm / 2048 % 2 ∧ imm / 2048 % 2 < 2 := by omega
    generalize imm / 2048 % 2 = y1 at *
    rw [putV_12_8 (by omega)]
    have hb2 : 0 ≤ imm / 4096 % 256 ∧ imm / 4096 % 256 < 256 := by omega
    generalize imm / 4096 % 256 = y2 at *
    rw [putV_31_1 (by omega)]
    have hb3 : 0 ≤ imm / 1048576 % 2 ∧ imm / 1048576 % 2 < 2 := by omega
    generalize imm / 1048576 % 2 = y3 at *
    omega
  · simp (disch := omega) [put_7_5, put_12_3, put_15_5, put_20_12, encV]
    omega
  · simp (disch := omega) [put_12_3, put_15_5, put_20_5, branch_run, encV]
    rw [putV_8_4 (by omega)]
    have hb0 : 0 ≤ imm / 2 % 16 ∧ imm / 2 % 16 < 16 := by omega
    generalize imm / 2 % 16 = y0 at *
    rw [putV_25_6 (by omega)]
    have hb1 : 0 ≤ imm / 32 % 64 ∧ imm / 32 % 64 < 64 := by omega
    generalize imm / 32 % 64 = y1 at *
    rw [putV_7_1 (by omega)]
    have hb2 : 0 ≤ imm / 2048 % 2 ∧ imm / 2048 % 2 < 2 := by omega
    generalize imm / 2048 % 2 = y2 at *
    rw [putV_31_1 (by omega)]
    have hb3 : 0 ≤ imm / 4096 % 2 ∧ imm / 4096 % 2 < 2 := by omega
    generalize imm / 4096 % 2 = y3 at *
    omega
  · simp (disch := omega) [put_7_5, put_12_3, put_15_5, put_20_5, store_run, encV]
    have hb0 : 0 ≤ imm % 32 ∧ imm % 32 < 32 := by omega
    generalize imm % 32 = y0 at *
    rw [putV_25_7 (by omega)]
    have hb1 : 0 ≤ imm / 32 % 128 ∧ imm / 32 % 128 < 128 := by omega
    generalize imm / 32 % 128 = y1 at *
    omega
  · have hf := s5 rfl
    simp (disch := omega) [put_7_5, put_12_3, put_15_5, put_25_7, put_20_6, encV]
    omega
  · simp (disch := omega) [put_7_5, put_12_3, put_15_5, put_25_7, put_20_5, encV]
    omega
  · simp (disch := omega) [put_7_5, put_12_3, put_15_5, put_25_7, put_20_5, encV]
    omega
  · simp (disch := omega) [put_20_12, encV]
    omega
/-- The number of an instruction's word, without its sign. -/
def immU (f w : Int) : Int :=
  if f = 1 then w / 4096 % 1048576 * 4096
  else if f = 2 then w / 4096 % 256 * 4096 + w / 1048576 % 2 * 2048 + w / 2097152 % 1024 * 2 + w / 2147483648 % 2 * 1048576
  else if f = 3 then w / 1048576 % 4096
  else if f = 4 then w / 128 % 2 * 2048 + w / 256 % 16 * 2 + w / 33554432 % 64 * 32 + w / 2147483648 % 2 * 4096
  else if f = 5 then w / 128 % 32 + w / 33554432 % 128 * 32
  else if f = 6 then w / 1048576 % 64
  else if f = 7 then w / 1048576 % 32
  else 0
def bitsV (f : Int) : Nat := if f = 1 then 32 else if f = 2 then 21 else if f = 3 ∨ f = 5 then 12 else if f = 4 then 13 else 0
def immS (f w : Int) : Int := if 0 < bitsV f then signV (immU f w) (bitsV f) else immU f w
def decV (n f w : Int) : Int × Int × Int × Int × Int :=
  (n, (if (fieldsV f).1 then w / 128 % 32 else 0), (if (fieldsV f).2.1 then w / 32768 % 32 else 0), (if (fieldsV f).2.2 then w / 1048576 % 32 else 0), immS f w)
theorem immBits_val {f : Int} (h : 1 ≤ f ∧ f ≤ 9) : impl_immBits f = some ((bitsV f : Nat) : Int) := by
  rw [impl_immBits_eq]
  rcases forms h with rfl | rfl | rfl | rfl | rfl | rfl | rfl | rfl | rfl <;> rfl
theorem immS_range {f w : Int} (hf : 1 ≤ f ∧ f ≤ 9) (h : 0 ≤ w) (h' : w < 4294967296) : -2147483648 ≤ immS f w ∧ immS f w ≤ 2147483647 := by
  rcases forms hf with rfl | rfl | rfl | rfl | rfl | rfl | rfl | rfl | rfl <;> simp [immS, bitsV, immU, signV] <;> omega
theorem dec_regs {n f w : Int} (hf : 1 ≤ f ∧ f ≤ 9) (h : 0 ≤ w) (h' : w < 4294967296) : RegsOK (decV n f w) := by
  have hi := immS_range hf h h'
  refine ⟨?_, ?_, ?_, ?_⟩
  · simp only [decV]; split <;> omega
  · simp only [decV]; split <;> omega
  · simp only [decV]; split <;> omega
  · simp only [decV]; omega
def takeP (w : Int) (i : Int) (p : Int × Int × Int) : Int := orI .i64 i (shlI .i64 (w / 2 ^ p.2.2.toNat % 2 ^ p.2.1.toNat) p.1)
theorem dec_loop (w : Int) (z : Int × Int × Int × Int × Int) (s : Int × Int × Int × Int) (os : List (ByteArray × Int × Int × Int × Int)) (ln n : Int) (op rd' r1 r2 : Int) (ps : List (Int × Int × Int)) (hp : PiecesOK ps) :
    ∀ (k j : Nat) (i : Int), j + k = ps.length → impl_decode.l1010011001111010 w z s (op, rd', r1, r2, i) os ln n ps (ps.length : Int) (j : Int) = impl_decode.l1010011001111010 w z s (op, rd', r1, r2, (ps.drop j).foldl (takeP w) i) os ln n ps (ps.length : Int) (ps.length : Int) := by
  intro k
  induction k with
  | zero => intro j i h; have : j = ps.length := by omega
            subst this; simp
  | succ k ih =>
    intro j i h
    have hj : j < ps.length := by omega
    obtain ⟨p1, p2, p3, p4, p5, p6⟩ := hp.2 ps[j] (List.getElem_mem hj)
    have e := rd_nat (τ := .pair (.int .i64) (.pair (.int .i64) (.int .i64))) ps j hj
    rw [impl_decode.l1010011001111010_eq, lt_nat, inL_nat, e, w64_succ j ps.length hj (by have := hp.1; omega)]
    simp only [decide_eq_true hj, cond_true]
    rw [bitsOf_val _ _ _ (by omega) (by omega) (by omega) (by omega)]
    simp only [Option.bind_some]
    rw [show decide (ps[j].1 < 0) = false by simp; omega]
    simp only [cond_false]
    rw [ih (j + 1) _ (by omega), List.drop_eq_getElem_cons hj, List.foldl_cons]
    rfl
theorem shl_11 {y : Int} (h0 : 0 ≤ y) (h : y ≤ 2147483647) : shlI .i64 y 11 = y * 2048 := shl_val 11 2048 rfl (by decide) h0 (by omega)
theorem shl_1 {y : Int} (h0 : 0 ≤ y) (h : y ≤ 2147483647) : shlI .i64 y 1 = y * 2 := shl_val 1 2 rfl (by decide) h0 (by omega)
theorem shl_5 {y : Int} (h0 : 0 ≤ y) (h : y ≤ 2147483647) : shlI .i64 y 5 = y * 32 := shl_val 5 32 rfl (by decide) h0 (by omega)
theorem shl_0 {y : Int} (h0 : 0 ≤ y) (h : y ≤ 2147483647) : shlI .i64 y 0 = y := by
  rw [shl_mul (by decide) (by decide)]; simp; exact w64 (by omega) (by omega)
theorem or_zero {y : Int} (h0 : 0 ≤ y) (h : y ≤ 2147483647) : orI .i64 0 y = y := by
  have := or_field (x := 0) (y := y) (P := 1) (Q := 2147483648) 0 31 rfl rfl (by decide) (by decide) (by decide) h0 (by omega) (by omega)
  simpa using this
theorem take_pieces {f w : Int} (hf : 1 ≤ f ∧ f ≤ 9) (h : 0 ≤ w) (h' : w < 4294967296) : (piecesV f).foldl (takeP w) 0 = immU f w := by
  rcases forms hf with rfl | rfl | rfl | rfl | rfl | rfl | rfl | rfl | rfl
  · simp [piecesV, takeP, immU]
    have hb0 : 0 ≤ w / 4096 % 1048576 ∧ w / 4096 % 1048576 < 1048576 := by omega
    generalize w / 4096 % 1048576 = y0 at *
    simp (disch := omega) only [shl_12, or_12_20]
    omega
  · simp [piecesV, takeP, immU]
    have hb0 : 0 ≤ w / 4096 % 256 ∧ w / 4096 % 256 < 256 := by omega
    generalize w / 4096 % 256 = y0 at *
    have hb1 : 0 ≤ w / 1048576 % 2 ∧ w / 1048576 % 2 < 2 := by omega
    generalize w / 1048576 % 2 = y1 at *
    have hb2 : 0 ≤ w / 2097152 % 1024 ∧ w / 2097152 % 1024 < 1024 := by omega
    generalize w / 2097152 % 1024 = y2 at *
    have hb3 : 0 ≤ w / 2147483648 % 2 ∧ w / 2147483648 % 2 < 2 := by omega
    generalize w / 2147483648 % 2 = y3 at *
    simp (disch := omega) only [shl_12, shl_11, shl_1, shl_20, or_12_8, or_11_1, or_1_10, or_20_1]
    omega
  · simp [piecesV, takeP, immU]
    have hb0 : 0 ≤ w / 1048576 % 4096 ∧ w / 1048576 % 4096 < 4096 := by omega
    generalize w / 1048576 % 4096 = y0 at *
    simp (disch := omega) only [shl_0, or_zero]
  · simp [piecesV, takeP, immU]
    have hb0 : 0 ≤ w / 128 % 2 ∧ w / 128 % 2 < 2 := by omega
    generalize w / 128 % 2 = y0 at *
    have hb1 : 0 ≤ w / 256 % 16 ∧ w / 256 % 16 < 16 := by omega
    generalize w / 256 % 16 = y1 at *
    have hb2 : 0 ≤ w / 33554432 % 64 ∧ w / 33554432 % 64 < 64 := by omega
    generalize w / 33554432 % 64 = y2 at *
    have hb3 : 0 ≤ w / 2147483648 % 2 ∧ w / 2147483648 % 2 < 2 := by omega
    generalize w / 2147483648 % 2 = y3 at *
    simp (disch := omega) only [shl_11, shl_1, shl_5, shl_12, or_11_1, or_1_4, or_5_6, or_12_1]
    omega
  · simp [piecesV, takeP, immU]
    have hb0 : 0 ≤ w / 128 % 32 ∧ w / 128 % 32 < 32 := by omega
    generalize w / 128 % 32 = y0 at *
    have hb1 : 0 ≤ w / 33554432 % 128 ∧ w / 33554432 % 128 < 128 := by omega
    generalize w / 33554432 % 128 = y1 at *
    simp (disch := omega) only [shl_0, shl_5, or_zero, or_5_7]
  · simp [piecesV, takeP, immU]
    have hb0 : 0 ≤ w / 1048576 % 64 ∧ w / 1048576 % 64 < 64 := by omega
    generalize w / 1048576 % 64 = y0 at *
    simp (disch := omega) only [shl_0, or_zero]
  · simp [piecesV, takeP, immU]
    have hb0 : 0 ≤ w / 1048576 % 32 ∧ w / 1048576 % 32 < 32 := by omega
    generalize w / 1048576 % 32 = y0 at *
    simp (disch := omega) only [shl_0, or_zero]
  · rfl
  · rfl
theorem dec_imm {f w : Int} (hf : 1 ≤ f ∧ f ≤ 9) : (if 0 < bitsV f then impl_signOf (immU f w) ((bitsV f : Nat) : Int) else some (immU f w)) = some (immS f w) := by
  unfold immS
  rcases forms hf with rfl | rfl | rfl | rfl | rfl | rfl | rfl | rfl | rfl <;> simp [bitsV] <;> rw [signOf_val _ _ (by decide) (by decide)] <;> rfl
theorem ops_rd (n : Int) (h : 0 ≤ n) (h' : n ≤ 64) : ∃ os : List (ByteArray × Int × Int × Int × Int), impl_ops = some os ∧ os.length = 65 ∧ ∀ m : Nat, m ≤ 64 → ((rd (τ := (.pair .str (.pair (.int .i64) (.pair (.int .i64) (.pair (.int .i64) (.int .i64)))))) os m).2) = shp m := by
  refine ⟨_, impl_ops_eq, rfl, fun m hm => ?_⟩
  obtain ⟨k, rfl⟩ : ∃ k : Fin 65, m = k.val := ⟨⟨m, by omega⟩, rfl⟩
  clear hm; revert k
  decide +kernel
theorem impl_dec_step (w : Int) (h : 0 ≤ w) (h' : w < 4294967296) (z : Int × Int × Int × Int × Int) (os : List (ByteArray × Int × Int × Int × Int)) (ho : os.length = 65) (hs : ∀ m : Nat, m ≤ 64 → ((rd (τ := (.pair .str (.pair (.int .i64) (.pair (.int .i64) (.pair (.int .i64) (.int .i64)))))) os m).2) = shp m) (n : Nat) (h1 : 1 ≤ n) (hn : n ≤ 64) :
    impl_decode.l1010 w z os 65 n = if (shp n).2.1 = w % 128 ∧ encV (shp n) (decV n (shp n).1 w) = w then some (decV n (shp n).1 w, true) else impl_decode.l1010 w z os 65 ((n + 1 : Nat) : Int) := by
  have hsf := shp_ok n (by omega) (by omega)
  rw [impl_decode.l1010_eq, show decide ((n : Int) < 65) = true by simp; omega, ho, show inL (n : Int) 65 = true by rw [inL_nat]; simp; omega, hs n hn, show decide ((n : Int) = 0) = false by simp; omega, bitsOf_val w 0 7 (by decide) (by decide) (by decide) (by decide), w64 (n := (n : Int) + 1) (by omega) (by omega)]
  have e0 : ((n + 1 : Nat) : Int) = (n : Int) + 1 := by omega
  rw [e0]
  simp only [cond_true, cond_false, joinB, Option.bind_some]
  rw [show w / 2 ^ (0 : Int).toNat % 2 ^ (7 : Int).toNat = w % 128 by simp]
  by_cases hc : (shp n).2.1 = w % 128
  · have henc : ∀ x : Int × Int × Int × Int × Int, x.1 = (n : Int) → RegsOK x → impl_encode x = some (encV (shp n) x) := fun x hx hr => by rw [← hx]; exact impl_encode_val x (by omega) (by omega) hr
    generalize hS : shp n = s at *
    obtain ⟨f, c, f3, f7⟩ := s
    obtain ⟨s1, ⟨s2, s2'⟩, ⟨s3, s3'⟩, ⟨s4, s4'⟩, s5, s6⟩ := shp_facts hsf
    obtain ⟨hp, hpo⟩ := pieces_val s1
    dsimp only at *
    rw [decide_eq_true hc, hp]
    simp only [eq_true hc, true_and, Bool.not_true, cond_false, Option.bind_some]
    clear hc
    rw [show (0 : Int) = ((0 : Nat) : Int) by rfl, dec_loop _ _ _ _ _ _ _ _ _ _ _ hpo (piecesV f).length 0 _ (by omega), List.drop_zero, show (((0 : Nat) : Int)) = 0 by rfl, take_pieces s1 h h', impl_decode.l1010011001111010_eq, lt_nat]
    simp only [Nat.lt_irrefl, decide_false, cond_false, immBits_val s1, fields_val s1, Option.bind_some, joinB]
    have hi := dec_imm (w := w) s1
    have he := henc (decV n f w) rfl (dec_regs s1 h h')
    have b1 : impl_bitsOf w 7 5 = some (w / 128 % 32) := bitsOf_val w 7 5 (by decide) (by decide) (by decide) (by decide)
    have b2 : impl_bitsOf w 15 5 = some (w / 32768 % 32) := bitsOf_val w 15 5 (by decide) (by decide) (by decide) (by decide)
    have b3 : impl_bitsOf w 20 5 = some (w / 1048576 % 32) := bitsOf_val w 20 5 (by decide) (by decide) (by decide) (by decide)
    rw [w64 (n := (n : Int) + 1) (by omega) (by omega)]
    clear henc hS hs ho hp hpo s5 s6 hsf
    unfold decV at he ⊢
    generalize impl_decode.l1010 w z os 65 (↑n + 1) = nx
    generalize immU f w = iu at *
    generalize immS f w = im at *
    simp only [b1, b2, b3, Option.bind_some]
    rcases forms s1 with rfl | rfl | rfl | rfl | rfl | rfl | rfl | rfl | rfl <;> simp [bitsV, fieldsV] at hi he ⊢ <;> first | (rw [hi, Option.bind_some, he]; simp [cond_ite]) | (rw [hi, he]; simp [cond_ite])
  · rw [if_neg (fun hh => hc hh.1), show decide ((shp n).2.1 = w % 128) = false by simpa using hc]
    rfl
theorem within_val (n a b : Int) : impl_within n a b = some (decide (a ≤ n) && decide (n ≤ b)) := by
  rw [impl_within_eq]
  by_cases h : a ≤ n <;> simp [h]
/-- An instruction's number fits its form. -/
def immR (f i : Int) : Bool :=
  if f = 1 then decide (-2147483648 ≤ i) && decide (i ≤ 2147479552) && decide (i % 4096 = 0)
  else if f = 2 then decide (-1048576 ≤ i) && decide (i ≤ 1048574) && decide (i % 2 = 0)
  else if f = 3 ∨ f = 5 then decide (-2048 ≤ i) && decide (i ≤ 2047)
  else if f = 4 then decide (-4096 ≤ i) && decide (i ≤ 4094) && decide (i % 2 = 0)
  else if f = 6 then decide (0 ≤ i) && decide (i ≤ 63)
  else if f = 7 then decide (0 ≤ i) && decide (i ≤ 31)
  else decide (i = 0)
def rightV (x : Int × Int × Int × Int × Int) : Bool :=
  decide (1 ≤ x.1) && decide (x.1 ≤ 64) && decide (0 ≤ x.2.1) && decide (x.2.1 ≤ 31) && decide (0 ≤ x.2.2.1) && decide (x.2.2.1 ≤ 31) && decide (0 ≤ x.2.2.2.1) && decide (x.2.2.2.1 ≤ 31)
    && ((fieldsV (shp x.1).1).1 || decide (x.2.1 = 0)) && ((fieldsV (shp x.1).1).2.1 || decide (x.2.2.1 = 0)) && ((fieldsV (shp x.1).1).2.2 || decide (x.2.2.2.1 = 0)) && immR (shp x.1).1 x.2.2.2.2
theorem shp_form {n : Int} (h : 1 ≤ n) (h' : n ≤ 64) : 1 ≤ (shp n).1 ∧ (shp n).1 ≤ 9 := by
  have := shp_ok n h h'
  generalize shp n = s at *
  exact (shp_facts this).1
abbrev TIns : Ty := .pair (.int .i64) (.pair (.int .i64) (.pair (.int .i64) (.pair (.int .i64) (.int .i64))))
abbrev Ins : Type := Int × Int × Int × Int × Int
theorem strEq_iff (a b : ByteArray) : (strEq a b = true) = (a = b) := by
  unfold strEq
  rw [beq_iff_eq]
  refine propext ⟨fun h => ?_, fun h => by rw [h]⟩
  have e : ∀ x : ByteArray, x.toList = x.data.toList := by
    intro x
    have : ∀ (n i : Nat) (r : List UInt8), n = x.size - i → ByteArray.toList.loop x i r = r.reverse ++ x.data.toList.drop i := by
      intro n
      induction n with
      | zero => intro i r hn
                rw [ByteArray.toList.loop, if_neg (by omega), List.drop_eq_nil_of_le (by have : x.size = x.data.size := rfl; simp; omega), List.append_nil]
      | succ n ih =>
        intro i r hn
        have hi : i < x.data.toList.length := by have : x.size = x.data.size := rfl; simp; omega
        rw [ByteArray.toList.loop, if_pos (by omega), ih (i + 1) _ (by omega), List.drop_eq_getElem_cons hi]
        have : x.get! i = x.data.toList[i] := by
          have h2 : i < x.data.size := by simpa using hi
          rw [ByteArray.get!, getElem!_pos x.data i h2]; simp
        rw [this]; simp
    have := this (x.size - 0) 0 [] rfl
    rw [ByteArray.toList, this]; simp
  rw [e, e] at h
  have : a.data = b.data := Array.toList_inj.mp h
  cases a; cases b; simp_all
theorem strEq_dec (a b : ByteArray) : strEq a b = decide (a = b) := by
  have := strEq_iff a b
  by_cases h : a = b
  · rw [decide_eq_true h, this.mpr h]
  · rw [decide_eq_false h]
    cases e : strEq a b
    · rfl
    · exact absurd (this.mp e) h
theorem eqD_ins (a b : Ins) : eqD TIns a b = decide (a = b) := by
  obtain ⟨a1, a2, a3, a4, a5⟩ := a
  obtain ⟨b1, b2, b3, b4, b5⟩ := b
  simp [eqD]
/-- The number that bytes are, the lowest first. -/
def leN (t : ByteArray) (a : Nat) : Nat → Nat
  | 0 => 0
  | n + 1 => (t.data.getD a 0).toNat + 256 * leN t (a + 1) n
theorem or_byte (V b : Int) (hV : 0 ≤ V) (hb : 0 ≤ b) (hb' : b ≤ 255) : orI .i64 (shlI .i64 (IntKind.wrap .i64 V) 8) b = IntKind.wrap .i64 (256 * V + b) := by
  have h1 : shlI .i64 (IntKind.wrap .i64 V) 8 = IntKind.wrap .i64 (V * 256) := by
    rw [shl_mul (by decide) (by decide)]
    obtain ⟨q, hq⟩ := wrap64_mod V
    have e8 : (2 : Int) ^ (8 : Int).toNat = 256 := by decide
    rw [hq, e8, IntKind.wrap_i64, IntKind.wrap_i64]; omega
  rw [h1]
  obtain ⟨y, rfl⟩ := Int.eq_ofNat_of_zero_le hb
  unfold orI
  rw [BitVec.toNat_or]
  have f1 := bv64 (IntKind.wrap .i64 (V * 256))
  have f2 : (BitVec.ofInt IntKind.i64.bits (y : Int)).toNat = y := by have := bv64 (y : Int); omega
  have f3 : IntKind.wrap .i64 (V * 256) % 18446744073709551616 = V * 256 % 18446744073709551616 := by
    rw [IntKind.wrap_i64]; omega
  rw [f3] at f1
  rw [f2]
  generalize (BitVec.ofInt IntKind.i64.bits (IntKind.wrap .i64 (V * 256))).toNat = x at *
  have h0 := nat_or_field x y 0 8 (by omega) (by omega)
  simp only [Nat.pow_zero, Nat.mul_one] at h0
  rw [h0, IntKind.wrap_i64, IntKind.wrap_i64]
  omega
theorem wrap_u64 (n : Int) : IntKind.wrap .u64 n = n % 18446744073709551616 := by simp [IntKind.wrap, IntKind.bits, IntKind.signed]
theorem bt_nat (t : ByteArray) (i : Nat) : bt t (i : Int) = ((t.data.getD i 0).toNat : Int) := by unfold bt; rw [Int.toNat_natCast]
theorem impl_take_loop (t : ByteArray) (hz : t.size ≤ 9223372036854775807) : ∀ (k : Nat), k ≤ t.size → impl_takeLittle.l11010 t (IntKind.wrap .i64 (leN t k (t.size - k))) ((k : Int) - 1) = some (IntKind.wrap .i64 (leN t 0 t.size)) := by
  intro k
  induction k with
  | zero =>
    intro _
    rw [impl_takeLittle.l11010_eq]; rfl
  | succ k ih =>
    intro hk
    have hs : (((k + 1 : Nat) : Int) - 1) = (k : Int) := by omega
    have hb := bt_range t (k : Int)
    rw [hs, impl_takeLittle.l11010_eq, show decide ((k : Int) ≥ 0) = true by simp, inL_nat, decide_eq_true (show k < t.size by omega), w64 (n := bt t (k : Int)) (by omega) (by omega), or_byte _ _ (by omega) hb.1 hb.2, w64 (n := (k : Int) - 1) (by omega) (by omega)]
    simp only [cond_true]
    have e : leN t k (t.size - k) = (t.data.getD k 0).toNat + 256 * leN t (k + 1) (t.size - (k + 1)) := by
      rw [show t.size - k = (t.size - (k + 1)) + 1 by omega, leN]
    have ih := ih (by omega)
    rw [e] at ih
    rw [bt_nat, show (256 : Int) * (leN t (k + 1) (t.size - (k + 1)) : Nat) + ((t.data.getD k 0).toNat : Nat) = (((t.data.getD k 0).toNat + 256 * leN t (k + 1) (t.size - (k + 1)) : Nat) : Int) by omega]
    exact ih
theorem impl_take_val (t : ByteArray) (hz : t.size ≤ 9223372036854775807) : impl_takeLittle t = some (IntKind.wrap .i64 (leN t 0 t.size)) := by
  have := impl_take_loop t hz t.size (by omega)
  rw [Nat.sub_self, show IntKind.wrap .i64 (leN t t.size 0 : Nat) = 0 by rfl] at this
  rw [impl_takeLittle_eq, w64 (n := (t.size : Int) - 1) (by omega) (by omega)]
  exact this
/-- What is an instruction. -/
def InsR (x : Ins) : Prop := 1 ≤ x.1 ∧ x.1 ≤ 64 ∧ RegsOK x ∧ rightV x = true
theorem room_le {n b : Nat} (h : n * b ≤ 140737488355328) (h' : n ≤ 140737488355328) : roomB n b = true := by
  simp only [roomB, Bool.and_eq_true, decide_eq_true_eq]; omega
theorem ite_iff {α : Type} {c d : Prop} [Decidable c] [Decidable d] {a b b' : α} (h : c ↔ d) (hb : b = b') : (if c then a else b) = (if d then a else b') := by
  subst hb
  by_cases hc : c
  · rw [if_pos hc, if_pos (h.mp hc)]
  · rw [if_neg hc, if_neg (fun hd => hc (h.mpr hd))]
theorem epi_s (f : Int) (h : 16 ≤ f ∧ f ≤ 128) : spec_l06Epilogue f = some [(14, 1, 2, 0, f - 8), (22, 2, 2, 0, f), (4, 0, 1, 0, 0)] := by
  rw [spec_l06Epilogue_eq, w64 (n := f - 8) (by omega) (by omega)]
theorem epi_eq (f : Int) (h : 16 ≤ f ∧ f ≤ 128) : impl_epilogue f = some [(14, 1, 2, 0, f - 8), (22, 2, 2, 0, f), (4, 0, 1, 0, 0)] ∧ spec_l06Epilogue f = some [(14, 1, 2, 0, f - 8), (22, 2, 2, 0, f), (4, 0, 1, 0, 0)] := by
  rw [impl_epilogue_eq, spec_l06Epilogue_eq, w64 (n := f - 8) (by omega) (by omega)]; exact ⟨rfl, rfl⟩
/-- An epilogue begins there. -/
def endsI (l : List Ins) (f k : Int) : Bool :=
  decide (2 ≤ k) && decide (k + 2 < (l.length : Int)) && decide (rd (τ := TIns) l k = ((14, 1, 2, 0, f - 8) : Ins)) && decide (rd (τ := TIns) l (k + 1) = ((22, 2, 2, 0, f) : Ins)) && decide (rd (τ := TIns) l (k + 2) = ((4, 0, 1, 0, 0) : Ins))
theorem inL_iff (i : Int) (n : Nat) : (inL i n = true) = (0 ≤ i ∧ i < (n : Int)) := by simp [inL]
theorem inL_true {i : Int} {n : Nat} (h : 0 ≤ i) (h' : i < (n : Int)) : inL i n = true := by rw [inL_iff]; exact ⟨h, h'⟩
theorem ends_ex (l : List Ins) (f k : Int) : (endsI l f k = true → endsI l f (k - 1) = false) ∧ (endsI l f k = true → endsI l f (k - 2) = false) ∧ (endsI l f (k - 1) = true → endsI l f (k - 2) = false) := by
  have e1 : k - 1 + 1 = k := by omega
  have e2 : k - 2 + 2 = k := by omega
  have e3 : k - 2 + 1 = k - 1 := by omega
  have e4 : k - 1 + 2 = k + 1 := by omega
  unfold endsI
  rw [e1, e2, e3, e4]
  simp only [Bool.and_eq_true, decide_eq_true_eq]
  refine ⟨?_, ?_, ?_⟩
  · rintro ⟨⟨⟨_, h⟩, _⟩, _⟩
    rw [h]; simp
  · rintro ⟨⟨⟨_, h⟩, _⟩, _⟩
    rw [h]; simp
  · rintro ⟨⟨⟨_, h⟩, h2⟩, _⟩
    rw [h2]; simp
/-- The numbers in an epilogue, as far as begun. -/
def endV (l : List Ins) (f : Int) (n j : Int) : Int :=
  if j < n ∧ endsI l f j = true then 1 else if j - 1 < n ∧ endsI l f (j - 1) = true then 2 else if j - 2 < n ∧ endsI l f (j - 2) = true then 3 else 0
def EndsAre (l : List Ins) (f : Int) (n : Int) (E : List Int) : Prop := E.length = l.length ∧ ∀ j : Nat, j < l.length → E[j]? = some (endV l f n (j : Int))
theorem equal_loop (a b : List Ins) (hl : a.length = b.length) (hz : a.length ≤ 1048576) : ∀ (k j : Nat), j + k = a.length → slices_Equal_impl_Instr.l11010 a b (a.length : Int) (j : Int) = some (decide (a.drop j = b.drop j)) := by
  intro k
  induction k with
  | zero =>
    intro j hj
    rw [slices_Equal_impl_Instr.l11010_eq, lt_nat, show decide (j < a.length) = false by simp; omega, List.drop_eq_nil_of_le (by omega), List.drop_eq_nil_of_le (by omega)]; rfl
  | succ k ih =>
    intro j hj
    have h1 : j < a.length := by omega
    have h2 : j < b.length := by omega
    rw [slices_Equal_impl_Instr.l11010_eq, lt_nat, inL_nat, inL_nat, decide_eq_true h1, decide_eq_true h2, w64_succ j a.length h1 (by omega), ih (j + 1) (by omega)]
    simp only [cond_true]
    rw [rd_nat (τ := TIns) a j h1, rd_nat (τ := TIns) b j h2, eqD_ins, List.drop_eq_getElem_cons h1, List.drop_eq_getElem_cons h2]
    simp only [List.cons.injEq]
    by_cases h : a[j] = b[j] <;> simp [h]
theorem equal_val (a b : List Ins) (hz : a.length ≤ 1048576) : slices_Equal_impl_Instr a b = some (decide (a = b)) := by
  rw [slices_Equal_impl_Instr_eq]
  by_cases h : a.length = b.length
  · rw [show decide ((a.length : Int) = (b.length : Int)) = true by simp [h]]
    have := equal_loop a b h hz a.length 0 (by omega)
    rw [show ((0 : Nat) : Int) = 0 by rfl] at this
    simp only [Bool.not_true, cond_false, this, List.drop_zero]
  · rw [show decide ((a.length : Int) = (b.length : Int)) = false by simp; omega]
    simp only [Bool.not_false, cond_true]
    rw [decide_eq_false]; rintro rfl; exact h rfl
theorem three_eq (l : List Ins) (k : Nat) (hk : k + 3 ≤ l.length) (a b c : Ins) : decide ((l.take (k + 3)).drop k = [a, b, c]) = (decide (rd (τ := TIns) l k = a) && decide (rd (τ := TIns) l ((k : Int) + 1) = b) && decide (rd (τ := TIns) l ((k : Int) + 2) = c)) := by
  rw [show (k : Int) + 1 = ((k + 1 : Nat) : Int) by omega, show (k : Int) + 2 = ((k + 2 : Nat) : Int) by omega, rd_nat (τ := TIns) l k (by omega), rd_nat (τ := TIns) l (k + 1) (by omega), rd_nat (τ := TIns) l (k + 2) (by omega)]
  rw [List.drop_take, show k + 3 - k = 3 by omega, List.drop_eq_getElem_cons (show k < l.length by omega), List.drop_eq_getElem_cons (show k + 1 < l.length by omega), List.drop_eq_getElem_cons (show k + 1 + 1 < l.length by omega)]
  simp [List.take]
  rw [Bool.and_assoc]
theorem lint_ends (at_ : Int) (calls : List Int) (l : List Ins) (f : Int) (hf : 16 ≤ f ∧ f ≤ 128) (hl : l.length ≤ 1048576) (h2 : 2 ≤ l.length) :
    ∀ (k i : Nat) (E : List Int), 2 ≤ i → i + k + 2 = l.length → EndsAre l f i E → ∃ E', EndsAre l f l.length E' ∧ impl_lint.l11111111010 f l (l, f, at_, calls, E) i = impl_lint.l111111111010 l (l, f, at_, calls, E') 2 := by
  intro k
  induction k with
  | zero =>
    intro i E h2i hk hE
    refine ⟨E, ⟨hE.1, fun j hj => ?_⟩, ?_⟩
    · rw [hE.2 j hj]
      congr 1
      have out : ∀ m : Int, (i : Int) ≤ m → endsI l f m = false := by
        intro m hm
        unfold endsI
        rw [show decide (m + 2 < (l.length : Int)) = false by simp; omega]; simp
      have r : ∀ m : Int, m < (l.length : Int) → ((m < (i : Int) ∧ endsI l f m = true) ↔ (m < (l.length : Int) ∧ endsI l f m = true)) := by
        intro m hm
        constructor
        · rintro ⟨_, h⟩; exact ⟨hm, h⟩
        · rintro ⟨_, h⟩
          refine ⟨?_, h⟩
          by_cases hmi : m < (i : Int)
          · exact hmi
          · rw [out m (by omega)] at h; cases h
      unfold endV
      exact ite_iff (r j (by omega)) (ite_iff (r (j - 1) (by omega)) (ite_iff (r (j - 2) (by omega)) rfl))
    · rw [impl_lint.l11111111010_eq, w64 (n := (i : Int) + 3) (by omega) (by omega), show decide ((i : Int) + 3 ≤ (l.length : Int)) = false by simp; omega]
      rfl
  | succ k ih =>
    intro i E h2i hk hE
    have hstep : ∀ E' : List Int, E'.length = l.length → (∀ j : Nat, j < l.length → E'[j]? = some (endV l f ((i : Int) + 1) j)) → ∃ E'', EndsAre l f l.length E'' ∧ impl_lint.l11111111010 f l (l, f, at_, calls, E') (((i + 1 : Nat)) : Int) = impl_lint.l111111111010 l (l, f, at_, calls, E'') 2 := by
      intro E' h1 h2'
      exact ih (i + 1) E' (by omega) (by omega) ⟨h1, fun j hj => by rw [h2' j hj]; rfl⟩
    have hEl := hE.1
    rw [impl_lint.l11111111010_eq, w64 (n := (i : Int) + 3) (by omega) (by omega), w64 (n := (i : Int) + 1) (by omega) (by omega), w64 (n := (i : Int) + 2) (by omega) (by omega), (epi_eq f hf).1, show decide ((i : Int) + 3 ≤ (l.length : Int)) = true by simp; omega, show decide ((0 : Int) ≤ (i : Int)) = true by simp, show decide ((i : Int) ≤ (i : Int) + 3) = true by simp; omega, show ((i : Int) + 3).toNat = i + 3 by omega, Int.toNat_natCast, show ((i : Int) + 1).toNat = i + 1 by omega, show ((i : Int) + 2).toNat = i + 2 by omega]
    simp only [cond_true, Bool.and_self, Option.bind_some]
    rw [equal_val _ _ (by simp; omega), three_eq l i (by omega)]
    have hB : endsI l f i = (decide (rd (τ := TIns) l i = ((14, 1, 2, 0, f - 8) : Ins)) && decide (rd (τ := TIns) l ((i : Int) + 1) = ((22, 2, 2, 0, f) : Ins)) && decide (rd (τ := TIns) l ((i : Int) + 2) = ((4, 0, 1, 0, 0) : Ins))) := by
      unfold endsI
      rw [show decide (2 ≤ (i : Int)) = true by simp; omega, show decide ((i : Int) + 2 < (l.length : Int)) = true by simp; omega]; simp
    rw [← hB]
    simp only [Option.bind_some]
    cases hb : endsI l f i with
    | true =>
      simp only [cond_true, letB]
      rw [inL_true (by omega) (by rw [hEl]; omega), inL_true (by omega) (by rw [List.length_set, hEl]; omega), inL_true (by omega) (by rw [List.length_set, List.length_set, hEl]; omega)]
      simp only [cond_true]
      rw [show (i : Int) + 1 = ((i + 1 : Nat) : Int) by omega]
      refine hstep _ (by simp [hEl]) (fun j hj => ?_)
      have hj' := hE.2 j hj
      rw [List.getElem?_set, List.getElem?_set, List.getElem?_set]
      simp only [List.length_set, hEl]
      unfold endV
      by_cases c2 : i + 2 = j
      · rw [if_pos c2, if_pos (by omega), if_neg (by omega), if_neg (by omega), if_pos ⟨by omega, by rw [show (j : Int) - 2 = (i : Int) by omega]; exact hb⟩]
      · rw [if_neg c2]
        by_cases c1 : i + 1 = j
        · rw [if_pos c1, if_pos (by omega), if_neg (by omega), if_pos ⟨by omega, by rw [show (j : Int) - 1 = (i : Int) by omega]; exact hb⟩]
        · rw [if_neg c1]
          by_cases c0 : i = j
          · rw [if_pos c0, if_pos (by omega), if_pos ⟨by omega, by rw [show (j : Int) = (i : Int) by omega]; exact hb⟩]
          · rw [if_neg c0, hj']
            unfold endV
            congr 1
            have r : ∀ m : Int, m ≠ (i : Int) → ((m < (i : Int) ∧ endsI l f m = true) ↔ (m < (i : Int) + 1 ∧ endsI l f m = true)) := by
              intro m hm
              constructor
              · rintro ⟨_, h⟩; exact ⟨by omega, h⟩
              · rintro ⟨_, h⟩; exact ⟨by omega, h⟩
            exact ite_iff (r j (by omega)) (ite_iff (r (j - 1) (by omega)) (ite_iff (r (j - 2) (by omega)) rfl))
    | false =>
      simp only [cond_false]
      rw [show (i : Int) + 1 = ((i + 1 : Nat) : Int) by omega]
      refine hstep _ hEl (fun j hj => ?_)
      rw [hE.2 j hj]
      unfold endV
      congr 1
      have r : ∀ m : Int, ((m < (i : Int) ∧ endsI l f m = true) ↔ (m < (i : Int) + 1 ∧ endsI l f m = true)) := by
        intro m
        constructor
        · rintro ⟨_, h⟩; exact ⟨by omega, h⟩
        · rintro ⟨_, h⟩
          refine ⟨?_, h⟩
          by_cases hmi : m = (i : Int)
          · rw [hmi, hb] at h; cases h
          · omega
      exact ite_iff (r j) (ite_iff (r (j - 1)) (ite_iff (r (j - 2)) rfl))
theorem branch_val (n : Int) : impl_isBranch n = some (decide (5 ≤ n) && decide (n ≤ 10)) := by rw [impl_isBranch_eq, within_val]; rfl
theorem load_val (n : Int) : impl_isLoad n = some (decide (11 ≤ n) && decide (n ≤ 17)) := by rw [impl_isLoad_eq, within_val]; rfl
theorem store_val (n : Int) : impl_isStore n = some (decide (18 ≤ n) && decide (n ≤ 21)) := by rw [impl_isStore_eq, within_val]; rfl
/-- How many bytes a load or store moves, and whether with a sign. -/
def widV (n : Int) : Int × Bool :=
  if n = 11 then (1, true) else if n = 12 then (2, true) else if n = 13 then (4, true) else if n = 14 then (8, true) else if n = 15 then (1, false) else if n = 16 then (2, false) else if n = 17 then (4, false)
  else if n = 18 then (1, false) else if n = 19 then (2, false) else if n = 20 then (4, false) else if n = 21 then (8, false) else (0, false)
theorem impl_wid (n : Int) (h : 11 ≤ n) (h' : n ≤ 21) : impl_widthOf n = some (widV n) := by
  rw [impl_widthOf_eq, store_val]
  have : n = 11 ∨ n = 12 ∨ n = 13 ∨ n = 14 ∨ n = 15 ∨ n = 16 ∨ n = 17 ∨ n = 18 ∨ n = 19 ∨ n = 20 ∨ n = 21 := by omega
  rcases this with rfl | rfl | rfl | rfl | rfl | rfl | rfl | rfl | rfl | rfl | rfl <;> decide +kernel
theorem wid_pos (n : Int) (h : 11 ≤ n) (h' : n ≤ 21) : 1 ≤ (widV n).1 ∧ (widV n).1 ≤ 8 := by
  have : n = 11 ∨ n = 12 ∨ n = 13 ∨ n = 14 ∨ n = 15 ∨ n = 16 ∨ n = 17 ∨ n = 18 ∨ n = 19 ∨ n = 20 ∨ n = 21 := by omega
  rcases this with rfl | rfl | rfl | rfl | rfl | rfl | rfl | rfl | rfl | rfl | rfl <;> decide
theorem ends_rd {l : List Ins} {f : Int} {E : List Int} (hE : EndsAre l f l.length E) (i : Int) (h : 0 ≤ i) (h' : i < (l.length : Int)) : rd (τ := .int .i64) E i = endV l f l.length i := by
  obtain ⟨j, rfl⟩ := Int.eq_ofNat_of_zero_le h
  have := hE.2 j (by omega)
  unfold rd
  rw [Int.toNat_natCast, List.getD_eq_getElem?_getD, this]; rfl
theorem endV_full (l : List Ins) (f i : Int) (h : i < (l.length : Int)) : endV l f l.length i = if endsI l f i = true then 1 else if endsI l f (i - 1) = true then 2 else if endsI l f (i - 2) = true then 3 else 0 := by
  unfold endV
  exact ite_iff ⟨fun h => h.2, fun hh => ⟨h, hh⟩⟩ (ite_iff ⟨fun h => h.2, fun hh => ⟨by omega, hh⟩⟩ (ite_iff ⟨fun h => h.2, fun hh => ⟨by omega, hh⟩⟩ rfl))
theorem ends_bits {l : List Ins} {f : Int} {E : List Int} (hE : EndsAre l f l.length E) (i : Int) (h : 0 ≤ i) (h' : i < (l.length : Int)) :
    decide (rd (τ := .int .i64) E i = 1) = endsI l f i ∧ decide (rd (τ := .int .i64) E i = 2) = endsI l f (i - 1) ∧ decide (rd (τ := .int .i64) E i = 3) = endsI l f (i - 2) ∧ decide (rd (τ := .int .i64) E i < 2) = (!endsI l f (i - 1) && !endsI l f (i - 2)) := by
  have hx := ends_ex l f i
  rw [ends_rd hE i h h', endV_full l f i h']
  cases h0 : endsI l f i <;> cases h1 : endsI l f (i - 1) <;> cases h2 : endsI l f (i - 2) <;> simp_all
theorem wrap_four (n : Int) (h : -9223372036854775808 ≤ n) (h' : n ≤ 9223372036854775807) : IntKind.wrap .i64 (n.tdiv 4) = n.tdiv 4 := by
  have : -9223372036854775808 ≤ n.tdiv 4 ∧ n.tdiv 4 ≤ 9223372036854775807 := by
    rcases Int.le_total 0 n with h0 | h0
    · rw [Int.tdiv_eq_ediv_of_nonneg h0]; omega
    · have : n.tdiv 4 = -((-n).tdiv 4) := by rw [Int.neg_tdiv, Int.neg_neg]
      rw [this, Int.tdiv_eq_ediv_of_nonneg (by omega)]; omega
  exact w64 this.1 this.2
theorem tdiv4 (n : Int) (h : n.tmod 4 = 0) : n.tdiv 4 = n / 4 := by
  rw [Int.tdiv_eq_ediv_of_dvd]; exact Int.dvd_iff_tmod_eq_zero.mpr h
theorem InsR.imm {x : Ins} (h : InsR x) : -2147483648 ≤ x.2.2.2.2 ∧ x.2.2.2.2 ≤ 2147483647 := by
  have hrv := h.2.2.2
  have hsf := shp_form h.1 h.2.1
  unfold rightV at hrv
  simp only [Bool.and_eq_true] at hrv
  have hrv := hrv.2
  generalize (shp x.1).1 = ff at *
  unfold immR at hrv
  rcases forms hsf with rfl | rfl | rfl | rfl | rfl | rfl | rfl | rfl | rfl <;> simp at hrv <;> omega
def frameV (f : Int) : Bool := bif decide (16 ≤ f) && decide (f ≤ 128) then decide (f.tmod 16 = 0) else false
theorem frame_i (f : Int) : impl_FrameOK f = some (frameV f) := by
  rw [impl_FrameOK_eq, within_val]
  simp only [Option.bind_some, frameV]
  cases (decide (16 ≤ f) && decide (f ≤ 128)) <;> rfl
def codeAtV (a : Int) : Bool := bif decide (0 ≤ a) && decide (a ≤ 1048575) then decide (a.tmod 4 = 0) else false
theorem codeAt_val (a : Int) : impl_isCodeAt a = some (codeAtV a) := by
  rw [impl_isCodeAt_eq, within_val]
  simp only [Option.bind_some, codeAtV]
  cases (decide (0 ≤ a) && decide (a ≤ 1048575)) <;> rfl
theorem codeAtV_range {a : Int} (h : codeAtV a = true) : 0 ≤ a ∧ a ≤ 1048575 := by
  unfold codeAtV at h
  cases hb : (decide (0 ≤ a) && decide (a ≤ 1048575)) with
  | true => simpa using hb
  | false => rw [hb] at h; cases h
def codeSizeV (n : Nat) : Bool := bif decide ((n : Int).tmod 4 = 0) then decide ((n : Int) ≤ 256) else false
def funcSizeV (n : Nat) : Bool := bif codeSizeV n then decide ((n : Int) ≥ 20) else false
abbrev TSym : Ty := .pair .str (.pair (.int .i64) (.pair (.int .i64) (.pair (.int .i64) (.int .i64))))
abbrev Sym : Type := ByteArray × Int × Int × Int × Int
abbrev Img : Type := ByteArray × ByteArray × List Sym
noncomputable def nameV (t : ByteArray) : Bool := (impl_NameOK t).getD false
theorem name_i (t : ByteArray) : impl_NameOK t = some (nameV t) := by
  obtain ⟨v, h1⟩ := some_name t
  unfold nameV
  rw [h1]; rfl
def dupV (l : List Sym) (name : ByteArray) : Bool := l.any fun y => decide (y.1 = name)
theorem dupV_pos {y : Sym} {l : List Sym} {n : ByteArray} (h : y.1 = n) : dupV (y :: l) n = true := by simp [dupV, h]
theorem dupV_neg {y : Sym} {l : List Sym} {n : ByteArray} (h : ¬ y.1 = n) : dupV (y :: l) n = dupV l n := by simp [dupV, h]
theorem impl_dup (e : Int × Int) (im : Img) (s : Sym) (l : List Sym) (hl : l.length ≤ 16) : ∀ (k j : Nat), j + k = l.length → impl_Image_lintSymbol.l111010 e im s l (l.length : Int) (j : Int) = if dupV (l.drop j) s.1 = true then some (24, e) else impl_Image_lintSymbol.l111010 e im s l (l.length : Int) (l.length : Int) := by
  intro k
  induction k with
  | zero => intro j h; have : j = l.length := by omega
            subst this; simp [dupV]
  | succ k ih =>
    intro j h
    have hj : j < l.length := by omega
    rw [impl_Image_lintSymbol.l111010_eq, lt_nat, inL_nat, decide_eq_true hj, w64_succ j l.length hj (by omega), ih (j + 1) (by omega), rd_nat (τ := TSym) l j hj, strEq_dec, List.drop_eq_getElem_cons hj]
    by_cases hn : l[j].1 = s.1
    · rw [dupV_pos hn, decide_eq_true hn]; rfl
    · rw [dupV_neg hn, decide_eq_false hn]; rfl
/-- What the check of a symbol comes to. -/
noncomputable def lintS (im : Img) (i : Nat) (s : Sym) (e : Int × Int) : Int × Int × Int :=
  if nameV s.1 = false then (3, e)
  else if dupV (im.2.2.take i) s.1 = true then (24, e)
  else if s.2.1 = 1 then
    if s.2.2.1 = e.1 ∧ 1 ≤ s.2.2.2.1 ∧ s.2.2.2.1 ≤ (im.1.size : Int) - e.1 then (0, s.2.2.1 + s.2.2.2.1, e.2) else (4, e)
  else if s.2.1 = 2 then
    if e.2 ≤ s.2.2.1 ∧ s.2.2.1 ≤ (im.2.1.size : Int) ∧ s.2.2.1 % 8 = 0 ∧ s.2.2.2.1 % 8 = 0 ∧ 1 ≤ s.2.2.2.1 ∧ s.2.2.2.1 ≤ (im.2.1.size : Int) - s.2.2.1 then
      if s.2.2.2.2 = 0 then (0, e.1, s.2.2.1 + s.2.2.2.1) else (17, e.1, s.2.2.1 + s.2.2.2.1)
    else (4, e)
  else (26, e)
structure EndsR (im : Img) (e : Int × Int) : Prop where
  c : 0 ≤ e.1 ∧ e.1 ≤ (im.1.size : Int)
  d : 0 ≤ e.2 ∧ e.2 ≤ (im.2.1.size : Int)
structure ImgSz (im : Img) : Prop where
  n : im.2.2.length ≤ 16
  c : im.1.size ≤ 1024
  d : im.2.1.size ≤ 256
theorem tmod8 {n : Int} : decide (n.tmod 8 = 0) = decide (n % 8 = 0) := by
  congr 1; exact propext ⟨fun h => by rw [← Int.dvd_iff_tmod_eq_zero] at h; omega, fun h => by rw [← Int.dvd_iff_tmod_eq_zero]; omega⟩
theorem impl_lintS (im : Img) (hz : ImgSz im) (i : Nat) (hi : i < im.2.2.length) (e : Int × Int) (he : EndsR im e) : impl_Image_lintSymbol im i e = some (lintS im i im.2.2[i] e) := by
  obtain ⟨hn, hc, hd⟩ := hz
  rw [impl_Image_lintSymbol_eq, inL_nat, decide_eq_true hi, rd_nat (τ := TSym) im.2.2 i hi, name_i _, Int.toNat_natCast, show (Int.toNat 0) = 0 by rfl, List.drop_zero, show decide ((0 : Int) ≤ (i : Int)) = true by simp, show decide ((i : Int) ≤ (im.2.2.length : Int)) = true by simp; omega]
  simp only [cond_true, Bool.and_self, Nat.le_refl, decide_true, Option.bind_some]
  have hlt : (im.2.2.take i).length = i := by simp; omega
  have hd' := impl_dup e im im.2.2[i] (im.2.2.take i) (by omega) i 0 (by omega)
  rw [hlt, show ((0 : Nat) : Int) = 0 by rfl, List.drop_zero] at hd'
  rw [hlt, hd', impl_Image_lintSymbol.l111010_eq, show decide ((i : Int) < (i : Int)) = false by simp]
  obtain ⟨s, hs⟩ : ∃ s : Sym, im.2.2[i] = s := ⟨_, rfl⟩
  rw [hs]
  obtain ⟨nm, kd, at_, sz, fr⟩ := s
  obtain ⟨ec, ed⟩ := e
  obtain ⟨⟨hc1, hc2⟩, ⟨hd1, hd2⟩⟩ := he
  dsimp only at *
  unfold lintS
  dsimp only
  simp only [cond_false, within_val, Option.bind_some, joinB]
  cases nameV nm with
  | false => rfl
  | true =>
    simp only [Bool.not_true, cond_false, Bool.true_eq_false, ↓reduceIte]
    by_cases hdup : dupV (im.2.2.take i) nm = true
    · rw [if_pos hdup, if_pos hdup]
    · rw [if_neg hdup, if_neg hdup]
      by_cases k1 : kd = 1
      · rw [decide_eq_true k1, if_pos k1]
        simp only [cond_true]
        by_cases h1 : at_ = ec
        · subst h1
          rw [w64 (n := (im.1.size : Int) - at_) (by omega) (by omega)]
          simp only [decide_true, Bool.not_true, cond_false]
          by_cases h2 : 1 ≤ sz ∧ sz ≤ (im.1.size : Int) - at_
          · rw [if_pos ⟨trivial, h2⟩, decide_eq_true h2.1, decide_eq_true h2.2, w64 (n := at_ + sz) (by omega) (by omega)]; rfl
          · rw [if_neg (fun hh => h2 hh.2), show (decide (1 ≤ sz) && decide (sz ≤ (im.1.size : Int) - at_)) = false by simpa using h2]; rfl
        · rw [decide_eq_false h1, if_neg (fun hh => h1 hh.1)]; rfl
      · rw [decide_eq_false k1, if_neg k1]
        simp only [cond_false]
        by_cases k2 : kd = 2
        · rw [decide_eq_true k2, if_pos k2, tmod8, tmod8]
          simp only [cond_true]
          by_cases h1 : ed ≤ at_ ∧ at_ ≤ (im.2.1.size : Int)
          · rw [w64 (n := (im.2.1.size : Int) - at_) (by omega) (by omega), decide_eq_true h1.1, decide_eq_true h1.2]
            simp only [Bool.and_self, Bool.not_true, cond_false]
            by_cases h2 : at_ % 8 = 0
            · by_cases h3 : sz % 8 = 0
              · by_cases h4 : 1 ≤ sz ∧ sz ≤ (im.2.1.size : Int) - at_
                · rw [if_pos ⟨h1.1, h1.2, h2, h3, h4⟩, decide_eq_true h2, decide_eq_true h3, decide_eq_true h4.1, decide_eq_true h4.2, w64 (n := at_ + sz) (by omega) (by omega)]
                  by_cases h5 : fr = 0
                  · rw [decide_eq_true h5, if_pos h5]; rfl
                  · rw [decide_eq_false h5, if_neg h5]; rfl
                · rw [if_neg (fun hh => h4 hh.2.2.2.2), decide_eq_true h2, decide_eq_true h3, show (decide (1 ≤ sz) && decide (sz ≤ (im.2.1.size : Int) - at_)) = false by simpa using h4]; rfl
              · rw [if_neg (fun hh => h3 hh.2.2.2.1), decide_eq_true h2, decide_eq_false h3]; rfl
            · rw [if_neg (fun hh => h2 hh.2.2.1), decide_eq_false h2]; rfl
          · rw [if_neg (fun hh => h1 ⟨hh.1, hh.2.1⟩), show (decide (ed ≤ at_) && decide (at_ ≤ (im.2.1.size : Int))) = false by simpa using h1]; rfl
        · rw [decide_eq_false k2, if_neg k2]; rfl
/-- The symbols in turn: where code and data have ended ahead of each. -/
def ChainTo (im : Img) (n : Nat) (E : Nat → Int × Int) : Prop := E 0 = (0, 0) ∧ (∀ i, i ≤ n → EndsR im (E i)) ∧ ∀ (i : Nat) (h : i < im.2.2.length), i < n → lintS im i im.2.2[i] (E i) = (0, E (i + 1))
/-- A symbol that fits its image. -/
structure SymOK (im : Img) (s : Sym) : Prop where
  name : nameV s.1 = true
  kind : s.2.1 = 1 ∨ s.2.1 = 2
  at0 : 0 ≤ s.2.2.1
  size : 1 ≤ s.2.2.2.1
  func : s.2.1 = 1 → s.2.2.1 + s.2.2.2.1 ≤ (im.1.size : Int)
  data : s.2.1 = 2 → s.2.2.1 + s.2.2.2.1 ≤ (im.2.1.size : Int) ∧ s.2.2.1 % 8 = 0 ∧ s.2.2.2.1 % 8 = 0 ∧ s.2.2.2.2 = 0
theorem lintS_ok {im : Img} {i : Nat} {s : Sym} {e : Int × Int} (he : EndsR im e) (h : (lintS im i s e).1 = 0) : SymOK im s ∧ dupV (im.2.2.take i) s.1 = false := by
  obtain ⟨nm, kd, at_, sz, fr⟩ := s
  obtain ⟨ec, ed⟩ := e
  obtain ⟨⟨c1, c2⟩, ⟨d1, d2⟩⟩ := he
  dsimp only at *
  unfold lintS at h
  dsimp only at *
  split at h <;> (try (cases h; done))
  split at h <;> (try (cases h; done))
  rename_i n1 n2
  refine ⟨?_, by simpa using n2⟩
  have n1 : nameV nm = true := by simpa using n1
  split at h
  · rename_i k1
    split at h <;> (try (cases h; done))
    rename_i hh
    exact ⟨n1, Or.inl k1, by dsimp only; omega, by dsimp only; omega, fun _ => by dsimp only; omega, fun h => by dsimp only at h; omega⟩
  · rename_i k1
    split at h
    · rename_i k2
      split at h <;> (try (cases h; done))
      rename_i hh
      split at h <;> (try (cases h; done))
      rename_i h3
      exact ⟨n1, Or.inr k2, by dsimp only; omega, by dsimp only; omega, fun h => absurd h k1, fun _ => by dsimp only; omega⟩
    · cases h
theorem chain_sym {im : Img} {E : Nat → Int × Int} (h : ChainTo im im.2.2.length E) (i : Nat) (hi : i < im.2.2.length) : SymOK im im.2.2[i] ∧ dupV (im.2.2.take i) im.2.2[i].1 = false :=
  lintS_ok (h.2.1 i (by omega)) (by rw [h.2.2 i hi hi])
/-- What holds of a function in which nothing is found. -/
def FunG (s : Sym) : Prop := s.2.1 = 1 → codeAtV (4096 + s.2.2.1) = true ∧ frameV s.2.2.2.2 = true ∧ funcSizeV s.2.2.2.1.toNat = true
/-- What holds of an image in which nothing is found. -/
structure ImgOK0 (im : Img) : Prop where
  sz : ImgSz im
  chain : ∃ E, ChainTo im im.2.2.length E ∧ (E im.2.2.length).1 = (im.1.size : Int)
  pos : 1 ≤ im.2.2.length
  first : (rd (τ := TSym) im.2.2 0).2.1 = 1
  funs : ∀ j (hj : j < im.2.2.length), FunG im.2.2[j]
/-- The lowest bytes of a number, the lowest first. -/
def leB (v : Int) : Nat → List Int
  | 0 => []
  | n + 1 => v % 256 :: leB (v / 256) n
theorem leB_length (n : Nat) : ∀ v, (leB v n).length = n := by
  induction n with
  | zero => intro v; rfl
  | succ n ih => intro v; simp [leB, ih]
theorem wrap_u8 (n : Int) : IntKind.wrap .u8 n = n % 256 := by simp [IntKind.wrap, IntKind.bits, IntKind.signed]
theorem bytesOf_size (xs : List Int) : (bytesOf xs).size = xs.length := by simp [bytesOf, ByteArray.size]
theorem bytesOf_getD (xs : List Int) (i : Nat) (h : ∀ x ∈ xs, 0 ≤ x ∧ x ≤ 255) (hi : i < xs.length) : (((bytesOf xs).data.getD i 0).toNat : Int) = xs[i] := by
  have hx := h _ (List.getElem_mem hi)
  unfold bytesOf
  simp [Array.getD, hi]
  omega
theorem leB_range (n : Nat) : ∀ v : Int, ∀ x ∈ leB v n, 0 ≤ x ∧ x ≤ 255 := by
  induction n with
  | zero => intro v x hx; cases hx
  | succ n ih =>
    intro v x hx
    rw [leB] at hx
    rcases List.mem_cons.mp hx with h | h
    · omega
    · exact ih _ x h
theorem leN_leB (n : Nat) : ∀ (v : Int) (pre : List Int), 0 ≤ v → (∀ x ∈ pre, 0 ≤ x ∧ x ≤ 255) → ((leN (bytesOf (pre ++ leB v n)) pre.length n : Nat) : Int) = v % 256 ^ n := by
  induction n with
  | zero => intro v pre _ _; simp [leN, Int.emod_one]
  | succ n ih =>
    intro v pre hv hp
    have h1 := ih (v / 256) (pre ++ [v % 256]) (by omega) (by
      intro x hx
      rcases List.mem_append.mp hx with h | h
      · exact hp x h
      · rw [List.mem_singleton.mp h]; omega)
    rw [List.append_assoc, List.singleton_append, List.length_append, List.length_singleton] at h1
    rw [leB, leN]
    have hr : ∀ x ∈ pre ++ v % 256 :: leB (v / 256) n, 0 ≤ x ∧ x ≤ 255 := by
      intro x hx
      rcases List.mem_append.mp hx with h | h
      · exact hp x h
      · rcases List.mem_cons.mp h with h | h
        · rw [h]; omega
        · exact leB_range n _ x h
    have h2 := bytesOf_getD (pre ++ v % 256 :: leB (v / 256) n) pre.length hr (by simp)
    rw [Int.natCast_add, Int.natCast_mul, h1, h2]
    simp
    rw [Int.pow_succ, Int.mul_comm (256 ^ n) 256]
    have hp0 : (0 : Int) ≤ 256 := by decide
    rw [Int.emod_def v (256 * 256 ^ n), Int.emod_def (v / 256) (256 ^ n), ← Int.ediv_ediv_of_nonneg hp0, Int.mul_sub, Int.mul_assoc]
    omega
theorem rd_some {τ : Ty} (xs : List τ.den) (i : Nat) (v : τ.den) (h : xs[i]? = some v) : rd (τ := τ) xs (i : Int) = v := by
  unfold rd; rw [Int.toNat_natCast, List.getD_eq_getElem?_getD, h]; rfl
def allB (p : Nat → Bool) : Nat → Nat → Bool
  | _, 0 => true
  | i, k + 1 => bif p i then allB p (i + 1) k else false
theorem allB_iff (p : Nat → Bool) : ∀ k i, allB p i k = true ↔ ∀ j, i ≤ j → j < i + k → p j = true
  | 0, i => by simp [allB]; omega
  | k + 1, i => by
    rw [allB, cond_ite]
    by_cases h : p i = true
    · rw [if_pos h, allB_iff p k (i + 1)]
      refine ⟨fun H j h1 h2 => ?_, fun H j h1 h2 => H j (by omega) (by omega)⟩
      by_cases e : j = i
      · rw [e]; exact h
      · exact H j (by omega) (by omega)
    · rw [if_neg h]
      refine ⟨fun H => (by cases H), fun H => absurd (H i (Nat.le_refl _) (by omega)) h⟩
theorem loop_all (L : Int → Option Bool) (p : Nat → Bool) (n : Nat) (hend : L (n : Int) = some true) (hstep : ∀ i : Nat, i < n → L (i : Int) = bif p i then L ((i + 1 : Nat) : Int) else some false) :
    ∀ k i : Nat, i + k = n → L (i : Int) = some (allB p i k) := by
  intro k
  induction k with
  | zero => intro i h; have : i = n := by omega
            subst this; exact hend
  | succ k ih =>
    intro i h
    rw [hstep i (by omega), ih (i + 1) (by omega), allB]
    cases p i <;> rfl
theorem loop_all0 {L : Int → Option Bool} (p : Nat → Bool) (n : Nat) (hend : L (n : Int) = some true) (hstep : ∀ i : Nat, i < n → L (i : Int) = bif p i then L ((i + 1 : Nat) : Int) else some false) : L 0 = some (allB p 0 n) :=
  loop_all L p n hend hstep n 0 (by omega)
def findB (p : Nat → Bool) : Nat → Nat → Int
  | _, 0 => -1
  | i, k + 1 => bif p i then (i : Int) else findB p (i + 1) k
theorem loop_find (L : Int → Option Int) (p : Nat → Bool) (n : Nat) (hend : L (n : Int) = some (-1)) (hstep : ∀ i : Nat, i < n → L (i : Int) = bif p i then some (i : Int) else L ((i + 1 : Nat) : Int)) :
    ∀ k i : Nat, i + k = n → L (i : Int) = some (findB p i k) := by
  intro k
  induction k with
  | zero => intro i h; have : i = n := by omega
            subst this; exact hend
  | succ k ih =>
    intro i h
    rw [hstep i (by omega), ih (i + 1) (by omega), findB]
    cases p i <;> rfl
theorem loop_find0 {L : Int → Option Int} (p : Nat → Bool) (n : Nat) (hend : L (n : Int) = some (-1)) (hstep : ∀ i : Nat, i < n → L (i : Int) = bif p i then some (i : Int) else L ((i + 1 : Nat) : Int)) : L 0 = some (findB p 0 n) :=
  loop_find L p n hend hstep n 0 (by omega)
theorem findB_spec (p : Nat → Bool) : ∀ k i, (findB p i k = -1 ∧ ∀ j, i ≤ j → j < i + k → p j = false) ∨ ∃ j : Nat, findB p i k = (j : Int) ∧ i ≤ j ∧ j < i + k ∧ p j = true ∧ ∀ q, i ≤ q → q < j → p q = false
  | 0, i => .inl ⟨rfl, fun j h1 h2 => by omega⟩
  | k + 1, i => by
    rw [findB]
    cases h : p i with
    | true => exact .inr ⟨i, rfl, Nat.le_refl _, by omega, h, fun q h1 h2 => by omega⟩
    | false =>
      rw [cond_false]
      rcases findB_spec p k (i + 1) with ⟨h1, h2⟩ | ⟨j, h1, h2, h3, h4, h5⟩
      · refine .inl ⟨h1, fun j h3 h4 => ?_⟩
        by_cases e : j = i
        · rw [e]; exact h
        · exact h2 j (by omega) (by omega)
      · refine .inr ⟨j, h1, by omega, by omega, h4, fun q h6 h7 => ?_⟩
        by_cases e : q = i
        · rw [e]; exact h
        · exact h5 q (by omega) (by omega)
theorem w64_pred (i : Nat) (h : 0 < i) (h' : i ≤ 1048576) : IntKind.wrap .i64 ((i : Int) - 1) = ((i - 1 : Nat) : Int) := by
  rw [w64 (by omega) (by omega)]; omega
theorem lt_not_ge (a b : Int) : decide (a < b) = !decide (a ≥ b) := by
  rw [← decide_not]; congr 1; apply propext; omega
abbrev TPage : Ty := .pair (.int .i64) (.pair (.int .i64) .str)
abbrev Page : Type := Int × Int × ByteArray
def inR (n a b : Int) : Bool := decide (a ≤ n) && decide (n ≤ b)
theorem in_i (n a b : Int) : impl_within n a b = some (inR n a b) := within_val n a b
theorem inR_iff {n a b : Int} : inR n a b = true ↔ a ≤ n ∧ n ≤ b := by simp [inR]
def baseV (b : Int) : Bool := bif inR b 0 1048575 then decide (b.tmod 128 = 0) else false
theorem base_i (b : Int) : impl_isBase b = some (baseV b) := by
  rw [impl_isBase_eq, in_i]
  unfold baseV
  simp only [Option.bind_some]
  cases inR b 0 1048575 <;> rfl
theorem perm_i (p : Int) : impl_isPerm p = some (inR p 0 15) := by rw [impl_isPerm_eq, in_i]; rfl
def memP (m : List Page) (i : Nat) : Bool :=
  bif baseV (rd (τ := TPage) m i).1 then bif inR (rd (τ := TPage) m i).2.1 0 15 then bif decide (((rd (τ := TPage) m i).2.2.size : Int) = 128) then
    (decide (i = 0) || decide ((rd (τ := TPage) m ((i - 1 : Nat) : Int)).1 < (rd (τ := TPage) m i).1)) else false else false else false
def memV (m : List Page) : Bool := decide (m.length ≤ 64) && allB (memP m) 0 m.length
theorem memory_i (m : List Page) : impl_MemoryOK m = some (memV m) := by
  rw [impl_MemoryOK_eq]
  unfold memV
  rcases Nat.lt_or_ge 64 m.length with h | h
  · rw [show decide ((m.length : Int) > 64) = true by simp; omega, decide_eq_false (by omega)]; rfl
  rw [show decide ((m.length : Int) > 64) = false by simp; omega, decide_eq_true h, cond_false, Bool.true_and]
  refine loop_all0 (L := impl_MemoryOK.l11010 m m (m.length : Int)) (memP m) m.length ?_ fun i hi => ?_
  · rw [impl_MemoryOK.l11010_eq, lt_nat]; simp
  · rw [impl_MemoryOK.l11010_eq, lt_nat, inL_nat, decide_eq_true hi, w64_succ i m.length hi (by omega), base_i, perm_i]
    unfold memP
    simp only [cond_true, Option.bind_some]
    by_cases h0 : i = 0
    · rw [show decide ((i : Int) > 0) = false by simp [h0], decide_eq_true h0]
      cases baseV (rd (τ := TPage) m i).1 <;> cases inR (rd (τ := TPage) m i).2.1 0 15 <;> cases decide (((rd (τ := TPage) m i).2.2.size : Int) = 128) <;> rfl
    · rw [show decide ((i : Int) > 0) = true by simp; omega, decide_eq_false h0, w64_pred i (by omega) (by omega), inL_nat, decide_eq_true (show i - 1 < m.length by omega)]
      rw [show decide ((rd (τ := TPage) m ((i - 1 : Nat) : Int)).1 < (rd (τ := TPage) m i).1) = !decide ((rd (τ := TPage) m ((i - 1 : Nat) : Int)).1 ≥ (rd (τ := TPage) m i).1) from lt_not_ge _ _]
      cases baseV (rd (τ := TPage) m i).1 <;> cases inR (rd (τ := TPage) m i).2.1 0 15 <;> cases decide (((rd (τ := TPage) m i).2.2.size : Int) = 128) <;> cases decide ((rd (τ := TPage) m ((i - 1 : Nat) : Int)).1 ≥ (rd (τ := TPage) m i).1) <;> rfl
abbrev TEnt : Ty := .pair .str (.pair (.int .i64) (.pair (.int .i64) (.pair (.int .i64) (.pair (.int .i64) (.int .i64)))))
abbrev Ent : Type := ByteArray × Int × Int × Int × Int × Int
/-- The first entry with a name, or -1. -/
def entV (l : List Ent) (name : ByteArray) : Int := findB (fun i => decide ((rd (τ := TEnt) l (i : Int)).1 = name)) 0 l.length
def kindV (k f : Int) : Bool := bif decide (k = 1) then (bif frameV f then true else bif decide (k = 2) then decide (f = 0) else false) else bif decide (k = 2) then decide (f = 0) else false
noncomputable def entOKV (e : Ent) : Bool :=
  bif nameV e.1 then bif codeAtV e.2.2.1 then bif inR e.2.2.2.1 1 1024 then bif inR e.2.2.2.2.2 0 6 then kindV e.2.1 e.2.2.2.2.1 else false else false else false else false
noncomputable def tabP (l : List Ent) (i : Nat) : Bool := bif entOKV (rd (τ := TEnt) l i) then decide (entV (l.take i) (rd (τ := TEnt) l i).1 < 0) else false
noncomputable def tabV (l : List Ent) : Bool := decide (l.length ≤ 64) && allB (tabP l) 0 l.length
theorem take_drop0 {α : Type} (l : List α) (i : Nat) : (l.take (Int.toNat (i : Int))).drop (Int.toNat 0) = l.take i := by
  rw [Int.toNat_natCast, show (Int.toNat 0) = 0 from rfl, List.drop_zero]
theorem range_true (i n : Nat) (h : i ≤ n) : (decide (0 ≤ 0) && decide (0 ≤ (i : Int)) && decide ((i : Int) ≤ (n : Int))) = true := by simp; omega
abbrev Sh : Type := Int × Int × Int
def cmpV (a b : Int) : Int := bif decide (a < b) then -1 else bif decide (a > b) then 1 else 0
def lexV (a b : Sh) : Int := if cmpV a.1 b.1 = 0 then cmpV a.2.1 b.2.1 else cmpV a.1 b.1
theorem cmp_val (a b : Int) : cmp_Compare_int a b = some (cmpV a b) := by
  rw [cmp_Compare_int_eq, cmp_isNaN_int_eq, cmp_isNaN_int_eq]
  unfold cmpV
  simp only [Option.bind_some, decide_true, Bool.not_true, cond_false]
  cases decide (a < b) <;> cases decide (a > b) <;> rfl
theorem or2_val (x y : Int) : cmp_Or_int [x, y] = some (if x = 0 then y else x) := by
  rw [cmp_Or_int_eq, show (([x, y] : List Int).length : Int) = 2 from rfl, cmp_Or_int.l11010_eq, cmp_Or_int.l11010_eq, cmp_Or_int.l11010_eq]
  show (bif !decide (x = 0) then some x else bif !decide (y = 0) then some y else some 0) = _
  by_cases hx : x = 0
  · by_cases hy : y = 0
    · simp [hx, hy]
    · simp [hx, hy]
  · simp [hx]
abbrev THart : Ty := .pair (.arr (.int .i64) 32) (.int .i64)
abbrev TThr : Ty := .pair (.int .i64) (.pair THart (.pair (.list (.int .i64)) (.int .i64)))
abbrev Thr : Type := Int × (List Int × Int) × List Int × Int
abbrev Mac : Type := List Page × List Thr × List Ent × List Sh
def hartV (h : List Int × Int) : Bool := decide ((rd (τ := .int .i64) h.1 0) = (0 : Int))
def thrV (t : Thr) : Bool :=
  bif inR t.1 1 3 then bif hartV t.2.1 then bif decide ((t.2.2.1.length : Int) ≤ 32) then (bif decide (t.1 = 3) then inR t.2.2.2 1 31 else decide (t.2.2.2 = 0)) else false else false else false
def thrsV (l : List Thr) : Bool := inR l.length 1 4 && allB (fun i => thrV (rd (τ := TThr) l (i : Int))) 0 l.length
theorem find_all (p : Nat → Bool) (n : Nat) : decide (findB (fun i => !p i) 0 n ≥ 0) = !allB p 0 n := by
  rcases findB_spec (fun i => !p i) n 0 with ⟨h1, h2⟩ | ⟨j, h1, h2, h3, h4, h5⟩
  · rw [h1, (allB_iff p n 0).2 fun j h3 h4 => by simpa using h2 j h3 h4]; rfl
  · rw [h1]
    have : allB p 0 n = false := by
      cases h : allB p 0 n with
      | false => rfl
      | true => have := (allB_iff p n 0).1 h j h2 h3; rw [this] at h4; cases h4
    rw [this]; simp
def mapB {α : Type} (f : Nat → α) : Nat → Nat → List α
  | _, 0 => []
  | i, k + 1 => f i :: mapB f (i + 1) k
theorem mapB_length {α : Type} (f : Nat → α) : ∀ k i, (mapB f i k).length = k
  | 0, _ => rfl
  | k + 1, i => by rw [mapB, List.length_cons, mapB_length f k]
theorem loop_map {α β : Type} (L : List α → Int → Option β) (f : Nat → α) (n A : Nat) (hstep : ∀ acc (i : Nat), i < n → acc.length = A + i → L acc (i : Int) = L (acc ++ [f i]) ((i + 1 : Nat) : Int)) :
    ∀ (k i : Nat) (acc : List α), i + k = n → acc.length = A + i → L acc (i : Int) = L (acc ++ mapB f i k) (n : Int) := by
  intro k
  induction k with
  | zero => intro i acc h _; have : i = n := by omega
            subst this; rw [mapB, List.append_nil]
  | succ k ih =>
    intro i acc h ha
    rw [hstep acc i (by omega) ha, ih (i + 1) _ (by omega) (by simp; omega), mapB, List.append_assoc]; rfl
theorem loop_map0 {α β : Type} {L : List α → Int → Option β} (f : Nat → α) (n : Nat) (acc : List α) (hstep : ∀ acc' (i : Nat), i < n → acc'.length = acc.length + i → L acc' (i : Int) = L (acc' ++ [f i]) ((i + 1 : Nat) : Int)) : L acc 0 = L (acc ++ mapB f 0 n) (n : Int) :=
  loop_map L f n acc.length hstep n 0 acc (by omega) (by omega)
abbrev Fun : Type := ByteArray × Bool × Int × ByteArray
abbrev Dat : Type := ByteArray × ByteArray
abbrev Rel : Type := Int × Int × Int × ByteArray × Int
abbrev Dcl : Type := Int × Bool
abbrev Obj : Type := ByteArray × Int × List Fun × List Dat × List Rel × List Dcl
theorem mapB_mem {α : Type} (f : Nat → α) (x : α) : ∀ k i, x ∈ mapB f i k ↔ ∃ j, i ≤ j ∧ j < i + k ∧ f j = x
  | 0, i => by simp [mapB]; omega
  | k + 1, i => by
    rw [mapB, List.mem_cons, mapB_mem f x k (i + 1)]
    constructor
    · rintro (h | ⟨j, h1, h2, h3⟩)
      · exact ⟨i, Nat.le_refl _, by omega, h.symm⟩
      · exact ⟨j, by omega, by omega, h3⟩
    · rintro ⟨j, h1, h2, h3⟩
      by_cases e : j = i
      · subst e; exact .inl h3.symm
      · exact .inr ⟨j, by omega, by omega, h3⟩
theorem mapB_get {α : Type} (f : Nat → α) : ∀ k i j (h : j < (mapB f i k).length), (mapB f i k)[j] = f (i + j)
  | 0, _, _, h => by simp [mapB] at h
  | k + 1, i, 0, _ => by simp [mapB]
  | k + 1, i, j + 1, h => by
    have := mapB_get f k (i + 1) j (by rw [mapB_length] at h ⊢; omega)
    simp only [mapB, List.getElem_cons_succ]
    rw [this]; congr 1; omega
abbrev Lnk : Type := List Int × List ByteArray × List Int × List ByteArray
theorem byte_of (v : Int) (i : Nat) (hi : i < 8) : (v % 18446744073709551616) / 2 ^ (8 * i) % 256 = v / 2 ^ (8 * i) % 256 := by
  match i, hi with
  | 0, _ => omega
  | 1, _ => omega
  | 2, _ => omega
  | 3, _ => omega
  | 4, _ => omega
  | 5, _ => omega
  | 6, _ => omega
  | 7, _ => omega
theorem room1 (n : Nat) (h : n ≤ 4096) : roomB n 1 = true := by simp [roomB]; omega
theorem spec_little_loop (v : Int) (n : Nat) (hn : n ≤ 8) : ∀ (k i : Nat) (xs : List Int), i + k = n → xs.length = i → spec_l01Little.l11010 v (n : Int) xs (i : Int) = some (bytesOf (xs ++ leB (v / 2 ^ (8 * i)) k)) := by
  intro k
  induction k with
  | zero =>
    intro i xs h hx
    have : i = n := by omega
    subst this
    rw [spec_l01Little.l11010_eq, lt_nat, decide_eq_false (Nat.lt_irrefl _), cond_false, leB, List.append_nil]
  | succ k ih =>
    intro i xs h hx
    rw [spec_l01Little.l11010_eq, lt_nat, decide_eq_true (show i < n by omega), w64 (n := 8 * (i : Int)) (by omega) (by omega), wu64 (n := 8 * (i : Int)) (by omega) (by omega), decide_eq_false (show ¬ 8 * (i : Int) < 0 by omega), w64_succ i n (by omega) (by omega), wrap_u64, shr_div_u (by omega) (by omega), wrap_u8, room1 _ (by simp; omega), ih (i + 1) _ (by omega) (by simp; omega), leB, List.append_assoc]
    have e1 : (8 * (i : Int)).toNat = 8 * i := by omega
    rw [e1, byte_of v i (by omega)]
    have e2 : v / 2 ^ (8 * i) / 256 = v / 2 ^ (8 * (i + 1)) := by
      rw [Int.ediv_ediv_of_nonneg (Int.pow_nonneg (by decide))]
      congr 1
      rw [show 8 * (i + 1) = 8 * i + 8 by omega, Int.pow_add]; rfl
    rw [e2]; rfl
theorem spec_little (v : Int) (n : Nat) (hn : n ≤ 8) : spec_l01Little v (n : Int) = some (bytesOf (leB v n)) := by
  rw [spec_l01Little_eq]
  have := spec_little_loop v n hn n 0 [] (by omega) rfl
  simpa using this
def filtB {α : Type} (p : Nat → Bool) (f : Nat → α) : Nat → Nat → List α
  | _, 0 => []
  | i, k + 1 => bif p i then f i :: filtB p f (i + 1) k else filtB p f (i + 1) k
theorem loop_filt {α β : Type} (L : List α → Int → Option β) (p : Nat → Bool) (f : Nat → α) (n A : Nat) (hstep : ∀ acc (i : Nat), i < n → acc.length ≤ A + i → L acc (i : Int) = bif p i then L (acc ++ [f i]) ((i + 1 : Nat) : Int) else L acc ((i + 1 : Nat) : Int)) :
    ∀ (k i : Nat) (acc : List α), i + k = n → acc.length ≤ A + i → L acc (i : Int) = L (acc ++ filtB p f i k) (n : Int) := by
  intro k
  induction k with
  | zero => intro i acc h _; have : i = n := by omega
            subst this; rw [filtB, List.append_nil]
  | succ k ih =>
    intro i acc h ha
    rw [hstep acc i (by omega) ha, filtB]
    cases p i with
    | false => rw [cond_false, cond_false, ih (i + 1) _ (by omega) (by omega)]
    | true => rw [cond_true, cond_true, ih (i + 1) _ (by omega) (by simp; omega), List.append_assoc]; rfl
theorem loop_filt0 {α β : Type} {L : List α → Int → Option β} (p : Nat → Bool) (f : Nat → α) (n : Nat) (acc : List α) (hstep : ∀ acc' (i : Nat), i < n → acc'.length ≤ acc.length + i → L acc' (i : Int) = bif p i then L (acc' ++ [f i]) ((i + 1 : Nat) : Int) else L acc' ((i + 1 : Nat) : Int)) : L acc 0 = L (acc ++ filtB p f 0 n) (n : Int) :=
  loop_filt L p f n acc.length hstep n 0 acc (by omega) (by omega)
theorem right_facts {x : Ins} (h : rightV x = true) : (1 ≤ x.1 ∧ x.1 ≤ 64) ∧ RegsOK x ∧ ((fieldsV (shp x.1).1).1 = false → x.2.1 = 0) ∧ ((fieldsV (shp x.1).1).2.1 = false → x.2.2.1 = 0) ∧ ((fieldsV (shp x.1).1).2.2 = false → x.2.2.2.1 = 0) ∧ immR (shp x.1).1 x.2.2.2.2 = true := by
  simp only [rightV, Bool.and_eq_true, Bool.or_eq_true, decide_eq_true_eq] at h
  obtain ⟨⟨⟨⟨⟨⟨⟨⟨⟨⟨⟨h1, h2⟩, h3⟩, h4⟩, h5⟩, h6⟩, h7⟩, h8⟩, a⟩, b⟩, c⟩, d⟩ := h
  have hf := shp_form (n := x.1) h1 h2
  refine ⟨⟨h1, h2⟩, ⟨⟨h3, h4⟩, ⟨h5, h6⟩, ⟨h7, h8⟩, ?_⟩, fun e => ?_, fun e => ?_, fun e => ?_, d⟩
  · generalize (shp x.1).1 = f at d hf
    rcases forms hf with rfl | rfl | rfl | rfl | rfl | rfl | rfl | rfl | rfl <;> simp [immR] at d <;> omega
  · simpa [e] using a
  · simpa [e] using b
  · simpa [e] using c
theorem sp2 (i : Int) (h : i % 2 = 0) : i = 2 * (i / 2 % 1024 + 1024 * (i / 2048 % 2 + 2 * (i / 4096 % 256 + 256 * (i / 1048576 % 2 + 2 * (i / 2097152))))) := by
  have a1 : i / 2048 = i / 2 / 1024 := by omega
  have a2 : i / 4096 = i / 2048 / 2 := by omega
  have a3 : i / 1048576 = i / 4096 / 256 := by omega
  have a4 : i / 2097152 = i / 1048576 / 2 := by omega
  have b0 : i = 2 * (i / 2) := by omega
  have b1 := Int.emod_add_mul_ediv (i / 2) 1024
  have b2 := Int.emod_add_mul_ediv (i / 2048) 2
  have b3 := Int.emod_add_mul_ediv (i / 4096) 256
  have b4 := Int.emod_add_mul_ediv (i / 1048576) 2
  rw [← a1] at b1; rw [← a2] at b2; rw [← a3] at b3; rw [← a4] at b4
  rw [b4, b3, b2, b1]; exact b0
theorem sp4 (i : Int) (h : i % 2 = 0) : i = 2 * (i / 2 % 16 + 16 * (i / 32 % 64 + 64 * (i / 2048 % 2 + 2 * (i / 4096 % 2 + 2 * (i / 8192))))) := by
  have a1 : i / 32 = i / 2 / 16 := by omega
  have a2 : i / 2048 = i / 32 / 64 := by omega
  have a3 : i / 4096 = i / 2048 / 2 := by omega
  have a4 : i / 8192 = i / 4096 / 2 := by omega
  have b0 : i = 2 * (i / 2) := by omega
  have b1 := Int.emod_add_mul_ediv (i / 2) 16
  have b2 := Int.emod_add_mul_ediv (i / 32) 64
  have b3 := Int.emod_add_mul_ediv (i / 2048) 2
  have b4 := Int.emod_add_mul_ediv (i / 4096) 2
  rw [← a1] at b1; rw [← a2] at b2; rw [← a3] at b3; rw [← a4] at b4
  rw [b4, b3, b2, b1]; exact b0
theorem sp5 (i : Int) : i = i % 32 + 32 * (i / 32 % 128 + 128 * (i / 4096)) := by
  have a1 : i / 4096 = i / 32 / 128 := by omega
  have b0 := Int.emod_add_mul_ediv i 32
  have b1 := Int.emod_add_mul_ediv (i / 32) 128
  rw [← a1] at b1
  rw [b1, b0]
theorem m2 (a : Int) : 0 ≤ a % 2 ∧ a % 2 < 2 := by omega
theorem m16 (a : Int) : 0 ≤ a % 16 ∧ a % 16 < 16 := by omega
theorem m32 (a : Int) : 0 ≤ a % 32 ∧ a % 32 < 32 := by omega
theorem m64 (a : Int) : 0 ≤ a % 64 ∧ a % 64 < 64 := by omega
theorem m128 (a : Int) : 0 ≤ a % 128 ∧ a % 128 < 128 := by omega
theorem m256 (a : Int) : 0 ≤ a % 256 ∧ a % 256 < 256 := by omega
theorem m1024 (a : Int) : 0 ≤ a % 1024 ∧ a % 1024 < 1024 := by omega
theorem un2 {c d y0 y1 y2 y3 : Int} (hc : 0 ≤ c ∧ c < 128) (hd : 0 ≤ d ∧ d ≤ 31) (q0 : 0 ≤ y0 ∧ y0 < 256) (q1 : 0 ≤ y1 ∧ y1 < 2) (q2 : 0 ≤ y2 ∧ y2 < 1024) (q3 : 0 ≤ y3 ∧ y3 < 2) :
    (c + d * 128 + y0 * 4096 + y1 * 1048576 + y2 * 2097152 + y3 * 2147483648) / 128 % 32 = d ∧ (c + d * 128 + y0 * 4096 + y1 * 1048576 + y2 * 2097152 + y3 * 2147483648) / 4096 % 256 = y0 ∧ (c + d * 128 + y0 * 4096 + y1 * 1048576 + y2 * 2097152 + y3 * 2147483648) / 1048576 % 2 = y1 ∧ (c + d * 128 + y0 * 4096 + y1 * 1048576 + y2 * 2097152 + y3 * 2147483648) / 2097152 % 1024 = y2 ∧ (c + d * 128 + y0 * 4096 + y1 * 1048576 + y2 * 2097152 + y3 * 2147483648) / 2147483648 % 2 = y3 := by
  refine ⟨?_, ?_, ?_, ?_, ?_⟩ <;> omega
theorem un4 {c y0 y1 f3 a b y2 y3 : Int} (hc : 0 ≤ c ∧ c < 128) (hf : 0 ≤ f3 ∧ f3 < 8) (ha : 0 ≤ a ∧ a ≤ 31) (hb : 0 ≤ b ∧ b ≤ 31) (q0 : 0 ≤ y0 ∧ y0 < 2) (q1 : 0 ≤ y1 ∧ y1 < 16) (q2 : 0 ≤ y2 ∧ y2 < 64) (q3 : 0 ≤ y3 ∧ y3 < 2) :
    (c + y0 * 128 + y1 * 256 + f3 * 4096 + a * 32768 + b * 1048576 + y2 * 33554432 + y3 * 2147483648) / 128 % 2 = y0 ∧ (c + y0 * 128 + y1 * 256 + f3 * 4096 + a * 32768 + b * 1048576 + y2 * 33554432 + y3 * 2147483648) / 256 % 16 = y1 ∧ (c + y0 * 128 + y1 * 256 + f3 * 4096 + a * 32768 + b * 1048576 + y2 * 33554432 + y3 * 2147483648) / 32768 % 32 = a ∧ (c + y0 * 128 + y1 * 256 + f3 * 4096 + a * 32768 + b * 1048576 + y2 * 33554432 + y3 * 2147483648) / 1048576 % 32 = b ∧ (c + y0 * 128 + y1 * 256 + f3 * 4096 + a * 32768 + b * 1048576 + y2 * 33554432 + y3 * 2147483648) / 33554432 % 64 = y2 ∧ (c + y0 * 128 + y1 * 256 + f3 * 4096 + a * 32768 + b * 1048576 + y2 * 33554432 + y3 * 2147483648) / 2147483648 % 2 = y3 := by
  refine ⟨?_, ?_, ?_, ?_, ?_, ?_⟩ <;> omega
theorem un5 {c y0 f3 a b y1 : Int} (hc : 0 ≤ c ∧ c < 128) (hf : 0 ≤ f3 ∧ f3 < 8) (ha : 0 ≤ a ∧ a ≤ 31) (hb : 0 ≤ b ∧ b ≤ 31) (q0 : 0 ≤ y0 ∧ y0 < 32) (q1 : 0 ≤ y1 ∧ y1 < 128) :
    (c + y0 * 128 + f3 * 4096 + a * 32768 + b * 1048576 + y1 * 33554432) / 128 % 32 = y0 ∧ (c + y0 * 128 + f3 * 4096 + a * 32768 + b * 1048576 + y1 * 33554432) / 32768 % 32 = a ∧ (c + y0 * 128 + f3 * 4096 + a * 32768 + b * 1048576 + y1 * 33554432) / 1048576 % 32 = b ∧ (c + y0 * 128 + f3 * 4096 + a * 32768 + b * 1048576 + y1 * 33554432) / 33554432 % 128 = y1 := by
  refine ⟨?_, ?_, ?_, ?_⟩ <;> omega
theorem dec_enc_x {f c f3 f7 n d a b i : Int} (hs : ShpOK (f, c, f3, f7) = true) (hr : RegsOK (n, d, a, b, i)) (hd : (fieldsV f).1 = false → d = 0) (ha : (fieldsV f).2.1 = false → a = 0) (hb : (fieldsV f).2.2 = false → b = 0) (hi : immR f i = true) : decV n f (encV (f, c, f3, f7) (n, d, a, b, i)) = (n, d, a, b, i) := by
  obtain ⟨h1, h2, h3, h4, h5, h6⟩ := shp_facts hs
  obtain ⟨⟨d0, d1⟩, ⟨a0, a1⟩, ⟨b0, b1⟩, _⟩ := hr
  simp only at d0 d1 a0 a1 b0 b1
  clear hs
  rcases forms h1 with rfl | rfl | rfl | rfl | rfl | rfl | rfl | rfl | rfl <;> simp [immR] at hi <;> simp [fieldsV] at hd ha hb <;> simp [decV, fieldsV, encV, immS, bitsV, immU, signV]
  · omega
  · have e := sp2 i (by omega)
    have q1 := m1024 (i / 2); have q2 := m2 (i / 2048); have q3 := m256 (i / 4096); have q4 := m2 (i / 1048576)
    generalize i / 2 % 1024 = y2 at *; generalize i / 2048 % 2 = y1 at *; generalize i / 4096 % 256 = y0 at *; generalize i / 1048576 % 2 = y3 at *
    obtain ⟨w1, w2, w3, w4, w5⟩ := un2 h2 ⟨d0, d1⟩ q3 q2 q1 q4
    rw [w1, w2, w3, w4, w5]; omega
  · omega
  · have e := sp4 i (by omega)
    have q1 := m16 (i / 2); have q2 := m64 (i / 32); have q3 := m2 (i / 2048); have q4 := m2 (i / 4096)
    generalize i / 2 % 16 = y1 at *; generalize i / 32 % 64 = y2 at *; generalize i / 2048 % 2 = y0 at *; generalize i / 4096 % 2 = y3 at *
    obtain ⟨w1, w2, w3, w4, w5, w6⟩ := un4 h2 h3 ⟨a0, a1⟩ ⟨b0, b1⟩ q3 q1 q2 q4
    rw [w1, w2, w3, w4, w5, w6]; omega
  · have e := sp5 i
    have q1 := m32 i; have q2 := m128 (i / 32)
    generalize i % 32 = y0 at *; generalize i / 32 % 128 = y1 at *
    obtain ⟨w1, w3, w4, w5⟩ := un5 h2 h3 ⟨a0, a1⟩ ⟨b0, b1⟩ q1 q2
    rw [w1, w3, w4, w5]; omega
  all_goals omega
theorem enc_range {f c f3 f7 n d a b i : Int} (hs : ShpOK (f, c, f3, f7) = true) (hr : RegsOK (n, d, a, b, i)) : 0 ≤ encV (f, c, f3, f7) (n, d, a, b, i) ∧ encV (f, c, f3, f7) (n, d, a, b, i) < 4294967296 ∧ encV (f, c, f3, f7) (n, d, a, b, i) % 128 = c ∧ (3 ≤ f → f ≤ 8 → encV (f, c, f3, f7) (n, d, a, b, i) / 4096 % 8 = f3)
    ∧ (f = 6 → encV (f, c, f3, f7) (n, d, a, b, i) / 67108864 = f7 / 2) ∧ (f = 7 ∨ f = 8 → encV (f, c, f3, f7) (n, d, a, b, i) / 33554432 = f7) ∧ (f = 9 → encV (f, c, f3, f7) (n, d, a, b, i) / 1048576 = f7) := by
  obtain ⟨h1, h2, h3, h4, h5, h6⟩ := shp_facts hs
  obtain ⟨⟨d0, d1⟩, ⟨a0, a1⟩, ⟨b0, b1⟩, _⟩ := hr
  simp only at d0 d1 a0 a1 b0 b1
  have q1 := m1024 (i / 2); have q2 := m2 (i / 2048); have q3 := m256 (i / 4096); have q4 := m2 (i / 1048576)
  have q5 := m16 (i / 2); have q6 := m64 (i / 32); have q7 := m2 (i / 4096); have q8 := m32 i; have q9 := m128 (i / 32)
  clear hs
  rcases forms h1 with rfl | rfl | rfl | rfl | rfl | rfl | rfl | rfl | rfl <;> simp [encV]
  · omega
  · generalize i / 2 % 1024 = y2 at *; generalize i / 2048 % 2 = y1 at *; generalize i / 4096 % 256 = y0 at *; generalize i / 1048576 % 2 = y3 at *
    clear q5 q6 q7 q8 q9; omega
  · omega
  · generalize i / 2 % 16 = y1 at *; generalize i / 32 % 64 = y2 at *; generalize i / 2048 % 2 = y0 at *; generalize i / 4096 % 2 = y3 at *
    clear q1 q3 q4 q8 q9; omega
  · generalize i % 32 = y0 at *; generalize i / 32 % 128 = y1 at *
    clear q1 q2 q3 q4 q5 q6 q7; omega
  all_goals omega
/-- Two operations have different words. -/
def apartOp (m n : Fin 65) : Bool :=
  let s := shp (m.val : Int); let t := shp (n.val : Int)
  decide (m.val = 0) || decide (n.val = 0) || decide (m = n) || !decide (s.2.1 = t.2.1) || (decide (3 ≤ s.1) && decide (s.1 ≤ 8) && decide (3 ≤ t.1) && decide (t.1 ≤ 8) && !decide (s.2.2.1 = t.2.2.1)) || (decide (s.1 = t.1) && decide (6 ≤ s.1) && !decide (s.2.2.2 = t.2.2.2))
theorem apart_op : ∀ m n : Fin 65, apartOp m n = true := by decide +kernel
theorem op_unique {x y : Ins} (hx : RegsOK x) (hy : RegsOK y) (h1 : 1 ≤ x.1 ∧ x.1 ≤ 64) (h2 : 1 ≤ y.1 ∧ y.1 ≤ 64) (e : encV (shp x.1) x = encV (shp y.1) y) : x.1 = y.1 := by
  obtain ⟨n, d, a, b, i⟩ := x
  obtain ⟨m, d', a', b', i'⟩ := y
  simp only at h1 h2 e ⊢
  have o1 := shp_ok n h1.1 h1.2
  have o2 := shp_ok m h2.1 h2.2
  have f1 := shp_facts (f := (shp n).1) (c := (shp n).2.1) (f3 := (shp n).2.2.1) (f7 := (shp n).2.2.2) o1
  have f2 := shp_facts (f := (shp m).1) (c := (shp m).2.1) (f3 := (shp m).2.2.1) (f7 := (shp m).2.2.2) o2
  have r1 : _ ∧ _ := enc_range (f := (shp n).1) (c := (shp n).2.1) (f3 := (shp n).2.2.1) (f7 := (shp n).2.2.2) o1 hx
  have r2 : _ ∧ _ := enc_range (f := (shp m).1) (c := (shp m).2.1) (f3 := (shp m).2.2.1) (f7 := (shp m).2.2.2) o2 hy
  change 0 ≤ encV (shp n) (n, d, a, b, i) ∧ encV (shp n) (n, d, a, b, i) < 4294967296 ∧ encV (shp n) (n, d, a, b, i) % 128 = _ ∧ (_ → _ → encV (shp n) (n, d, a, b, i) / 4096 % 8 = _) ∧ (_ → encV (shp n) (n, d, a, b, i) / 67108864 = _) ∧ (_ → encV (shp n) (n, d, a, b, i) / 33554432 = _) ∧ (_ → encV (shp n) (n, d, a, b, i) / 1048576 = _) at r1
  change 0 ≤ encV (shp m) (m, d', a', b', i') ∧ encV (shp m) (m, d', a', b', i') < 4294967296 ∧ encV (shp m) (m, d', a', b', i') % 128 = _ ∧ (_ → _ → encV (shp m) (m, d', a', b', i') / 4096 % 8 = _) ∧ (_ → encV (shp m) (m, d', a', b', i') / 67108864 = _) ∧ (_ → encV (shp m) (m, d', a', b', i') / 33554432 = _) ∧ (_ → encV (shp m) (m, d', a', b', i') / 1048576 = _) at r2
  rw [e] at r1
  obtain ⟨k, hk⟩ := fin65 (n := n) (by omega) (by omega)
  obtain ⟨l, hl⟩ := fin65 (n := m) (by omega) (by omega)
  have ha := apart_op k l
  unfold apartOp at ha
  rw [← hk, ← hl] at ha
  by_cases hkl : k = l
  · omega
  exfalso
  generalize encV (shp m) (m, d', a', b', i') = w at *
  have k0 : k.val ≠ 0 := by omega
  have l0 : l.val ≠ 0 := by omega
  simp only [Bool.or_eq_true, Bool.and_eq_true, Bool.not_eq_true', decide_eq_true_eq, decide_eq_false_iff_not, k0, l0, hkl, false_or] at ha
  clear e hk hl o1 o2
  generalize shp n = s at *
  generalize shp m = t at *
  obtain ⟨sf, sc, s3, s7⟩ := s
  obtain ⟨tf, tc, t3, t7⟩ := t
  simp only at *
  obtain ⟨_, _, u1, u2, u3, u4, u5⟩ := r1
  obtain ⟨_, _, v1, v2, v3, v4, v5⟩ := r2
  obtain ⟨f1a, _, _, _, f1b, _⟩ := f1
  obtain ⟨f2a, _, _, _, f2b, _⟩ := f2
  rcases ha with (ha | ⟨⟨⟨⟨ha, hb⟩, hc⟩, hd⟩, he⟩) | ⟨⟨ha, hb⟩, hc⟩
  · exact ha (u1.symm.trans v1)
  · exact he ((u2 ha hb).symm.trans (v2 hc hd))
  · subst ha
    have : sf = 6 ∨ sf = 7 ∨ sf = 8 ∨ sf = 9 := by omega
    rcases this with h | h | h | h
    · have := (u3 h).symm.trans (v3 h); have := f1b h; have := f2b h; omega
    · exact hc ((u4 (.inl h)).symm.trans (v4 (.inl h)))
    · exact hc ((u4 (.inr h)).symm.trans (v4 (.inr h)))
    · exact hc ((u5 h).symm.trans (v5 h))
theorem decode_i (x : Ins) (h : rightV x = true) : impl_decode (encV (shp x.1) x) = some (x, true) := by
  obtain ⟨h1, hr, hd, ha, hb, hi⟩ := right_facts h
  have ho := shp_ok x.1 h1.1 h1.2
  have er := enc_range (f := (shp x.1).1) (c := (shp x.1).2.1) (f3 := (shp x.1).2.2.1) (f7 := (shp x.1).2.2.2) (n := x.1) (d := x.2.1) (a := x.2.2.1) (b := x.2.2.2.1) (i := x.2.2.2.2) ho hr
  have ee : encV ((shp x.1).1, (shp x.1).2.1, (shp x.1).2.2.1, (shp x.1).2.2.2) (x.1, x.2.1, x.2.2.1, x.2.2.2.1, x.2.2.2.2) = encV (shp x.1) x := rfl
  rw [ee] at er
  have hdec : decV x.1 (shp x.1).1 (encV (shp x.1) x) = x := dec_enc_x (f := (shp x.1).1) (c := (shp x.1).2.1) (f3 := (shp x.1).2.2.1) (f7 := (shp x.1).2.2.2) (n := x.1) (d := x.2.1) (a := x.2.2.1) (b := x.2.2.2.1) (i := x.2.2.2.2) ho hr hd ha hb hi
  obtain ⟨os, ho', hl, hs⟩ := ops_rd 0 (by decide) (by decide)
  rw [impl_decode_eq, ho']
  simp only [Option.bind_some, hl]
  have hz : impl_decode.l1010 (encV (shp x.1) x) (0, 0, 0, 0, 0) os 65 0 = impl_decode.l1010 (encV (shp x.1) x) (0, 0, 0, 0, 0) os 65 1 := by
    rw [impl_decode.l1010_eq, hl]; rfl
  have key : ∀ (k n : Nat), (n : Int) + k = x.1 → 1 ≤ n → impl_decode.l1010 (encV (shp x.1) x) (0, 0, 0, 0, 0) os 65 (n : Int) = some (x, true) := by
    intro k
    induction k with
    | zero =>
      intro n hn hn1
      have hnx : (n : Int) = x.1 := by omega
      rw [impl_dec_step _ er.1 er.2.1 _ os hl hs n hn1 (by omega), hnx, hdec, if_pos ⟨er.2.2.1.symm, rfl⟩]
    | succ k ih =>
      intro n hn hn1
      rw [impl_dec_step _ er.1 er.2.1 _ os hl hs n hn1 (by omega), if_neg, ih (n + 1) (by omega) (by omega)]
      rintro ⟨_, hc⟩
      have := op_unique (x := decV (n : Int) (shp n).1 (encV (shp x.1) x)) (y := x) (dec_regs (shp_form (n := n) (by omega) (by omega)) er.1 er.2.1) hr (by simp only [decV]; omega) h1 hc
      simp only [decV] at this
      omega
  rw [show (((65 : Nat)) : Int) = 65 by rfl, hz]
  exact key (x.1 - 1).toNat 1 (by omega) (by omega)
def updF (F : Int → Int) (a : Int) (t : ByteArray) (x : Int) : Int := if a ≤ x ∧ x < a + (t.size : Int) then bt t (x - a) else F x
def FR (F : Int → Int) : Prop := ∀ x, 0 ≤ F x ∧ F x ≤ 255
theorem updF_range {F : Int → Int} (h : FR F) (a : Int) (t : ByteArray) : FR (updF F a t) := by
  intro x
  unfold updF
  split
  · exact bt_range _ _
  · exact h x
def pg (F : Int → Int) (b : Int) : ByteArray := bytesOf (mapB (fun i => F (b + (i : Int))) 0 128)
def pageF (F : Int → Int) (q : Int × Int) : Page := (q.1, q.2, pg F q.1)
def memF (F : Int → Int) (L : List (Int × Int)) : List Page := L.map (pageF F)
theorem pg_size (F : Int → Int) (b : Int) : (pg F b).size = 128 := by unfold pg; rw [bytesOf_size, mapB_length]
theorem mapB_all {α : Type} (f : Nat → α) (P : α → Prop) (k i : Nat) (h : ∀ j, P (f j)) : ∀ x ∈ mapB f i k, P x := by
  intro x hx
  obtain ⟨j, _, _, rfl⟩ := (mapB_mem f x k i).1 hx
  exact h j
theorem intsOf_bytesOf (xs : List Int) (h : ∀ x ∈ xs, 0 ≤ x ∧ x ≤ 255) : intsOf (bytesOf xs) = xs := by
  unfold intsOf bytesOf
  simp only [List.map_map]
  rw [List.map_congr_left (g := id) fun x hx => ?_, List.map_id]
  have := h x hx
  simp only [Function.comp, id]
  rw [UInt8.toNat_ofNat']
  omega
theorem mapB_set {α : Type} (f : Nat → α) (n i : Nat) (x : α) : (mapB f 0 n).set i x = mapB (fun j => if j = i then x else f j) 0 n := by
  apply List.ext_getElem
  · rw [List.length_set, mapB_length, mapB_length]
  · intro j h1 h2
    rw [List.getElem_set, mapB_get, mapB_get, Nat.zero_add]
    by_cases h : j = i
    · rw [if_pos h.symm, if_pos h]
    · rw [if_neg (fun e => h e.symm), if_neg h]
theorem mapB_congr {α : Type} {f g : Nat → α} : ∀ (k i : Nat), (∀ j, i ≤ j → j < i + k → f j = g j) → mapB f i k = mapB g i k
  | 0, _, _ => rfl
  | k + 1, i, h => by rw [mapB, mapB, h i (Nat.le_refl _) (by omega), mapB_congr k (i + 1) fun j h1 h2 => h j (by omega) (by omega)]
/-- The first i bytes of a page are written. -/
def rowV (F : Int → Int) (a : Int) (t : ByteArray) (b : Int) (i : Nat) : List Int := mapB (fun j => if j < i then updF F a t (b + (j : Int)) else F (b + (j : Int))) 0 128
structure BasesR (L : List (Int × Int)) : Prop where
  len : L.length ≤ 64
  base : ∀ q ∈ L, 0 ≤ q.1 ∧ q.1 ≤ 1048575
def AddrR (a : Int) (t : ByteArray) : Prop := -1099511627776 ≤ a ∧ a ≤ 1099511627776 ∧ t.size ≤ 1048576
theorem impl_put_row {F : Int → Int} (hF : FR F) (a : Int) (t : ByteArray) (hA : AddrR a t) (x6 m : List Page) (k : Nat) (p : Page) (hp : 0 ≤ p.1 ∧ p.1 ≤ 1048575) (x17 x18 : Int) (hk : k < m.length) : ∀ (d i : Nat), i + d = 128 →
    impl_Memory_put.l110100110011010 a t x6 m (k : Int) p (rowV F a t p.1 i) x17 x18 128 (i : Int) = impl_Memory_put.l11010 a t x6 (m.set k ((rd (τ := TPage) m (k : Int)).1, (rd (τ := TPage) m (k : Int)).2.1, bytesOf (rowV F a t p.1 128))) x17 (IntKind.wrap .i64 (x18 + 1)) := by
  obtain ⟨a1, a2, a3⟩ := hA
  intro d
  induction d with
  | zero =>
    intro i h
    have : i = 128 := by omega
    subst this
    rw [impl_Memory_put.l110100110011010_eq, show decide (((128 : Nat) : Int) < 128) = false by decide, cond_false, inL_nat, decide_eq_true hk, Int.toNat_natCast]; rfl
  | succ d ih =>
    intro i h
    have hi : i < 128 := by omega
    have hs : rowV F a t p.1 (i + 1) = if a ≤ p.1 + (i : Int) ∧ p.1 + (i : Int) < a + (t.size : Int) then (rowV F a t p.1 i).set i (bt t (p.1 + (i : Int) - a)) else rowV F a t p.1 i := by
      unfold rowV
      split
      · rename_i hc
        rw [mapB_set]
        apply mapB_congr
        intro j _ _
        by_cases hj : j = i
        · subst hj
          rw [if_pos (by omega), if_pos rfl]
          unfold updF
          rw [if_pos hc]
        · rw [if_neg hj]
          by_cases hj2 : j < i
          · rw [if_pos (by omega), if_pos hj2]
          · rw [if_neg (by omega), if_neg hj2]
      · rename_i hc
        apply mapB_congr
        intro j _ _
        by_cases hj : j = i
        · subst hj
          rw [if_pos (by omega), if_neg (by omega)]
          unfold updF
          rw [if_neg hc]
        · by_cases hj2 : j < i
          · rw [if_pos (by omega), if_pos hj2]
          · rw [if_neg (by omega), if_neg hj2]
    have hl : (rowV F a t p.1 i).length = 128 := by unfold rowV; rw [mapB_length]
    have ih' := ih (i + 1) (by omega)
    rw [hs] at ih'
    rw [impl_Memory_put.l110100110011010_eq, decide_eq_true (show (i : Int) < 128 by omega), w64 (n := p.1 + (i : Int)) (by omega) (by omega), w64 (n := p.1 + (i : Int) - a) (by omega) (by omega), w64 (n := (t.size : Int) - 1) (by omega) (by omega), w64 (n := (i : Int) + 1) (by omega) (by omega), show (i : Int) + 1 = ((i + 1 : Nat) : Int) by omega, in_i]
    simp only [cond_true, Option.bind_some]
    by_cases hc : a ≤ p.1 + (i : Int) ∧ p.1 + (i : Int) < a + (t.size : Int)
    · rw [inR_iff.2 (show 0 ≤ p.1 + (i : Int) - a ∧ p.1 + (i : Int) - a ≤ (t.size : Int) - 1 by omega), inL_true (i := p.1 + (i : Int) - a) (n := t.size) (by omega) (by omega), inL_nat, hl, decide_eq_true hi]
      rw [if_pos hc] at ih'
      simp only [cond_true, letB, Int.toNat_natCast]
      exact ih'
    · rw [show inR (p.1 + (i : Int) - a) 0 ((t.size : Int) - 1) = false by cases h5 : inR (p.1 + (i : Int) - a) 0 ((t.size : Int) - 1); rfl; rw [inR_iff] at h5; omega]
      rw [if_neg hc] at ih'
      simp only [cond_false]
      exact ih'
theorem impl_put_loop {F : Int → Int} (hF : FR F) (a : Int) (t : ByteArray) (hA : AddrR a t) (L : List (Int × Int)) (hL : BasesR L) (x6 : List Page) : ∀ (d k : Nat), k + d = L.length →
    impl_Memory_put.l11010 a t x6 (memF (updF F a t) (L.take k) ++ memF F (L.drop k)) (L.length : Int) (k : Int) = some (memF (updF F a t) L) := by
  have hn := hL.len
  intro d
  induction d with
  | zero =>
    intro k h
    have : k = L.length := by omega
    subst this
    rw [impl_Memory_put.l11010_eq, lt_nat, decide_eq_false (Nat.lt_irrefl _), cond_false, List.take_length, List.drop_length]
    simp [memF]
  | succ d ih =>
    intro k h
    have hk : k < L.length := by omega
    have hml : (memF (updF F a t) (L.take k) ++ memF F (L.drop k)).length = L.length := by simp [memF]; omega
    have hrd : rd (τ := TPage) (memF (updF F a t) (L.take k) ++ memF F (L.drop k)) (k : Int) = pageF F L[k] := by
      rw [rd_nat (τ := TPage) _ k (by rw [hml]; exact hk), List.getElem_append_right (by simp [memF]; omega)]
      simp [memF, List.getElem_drop]
      congr 2
      omega
    have hset : (memF (updF F a t) (L.take k) ++ memF F (L.drop k)).set k (pageF (updF F a t) L[k]) = memF (updF F a t) (L.take (k + 1)) ++ memF F (L.drop (k + 1)) := by
      rw [List.set_append_right _ _ (by simp [memF]; omega)]
      have e : k - (memF (updF F a t) (L.take k)).length = 0 := by simp [memF]; omega
      rw [e]
      unfold memF
      rw [List.drop_eq_getElem_cons hk, List.map_cons, List.set_cons_zero, List.take_succ_eq_append_getElem hk, List.map_append, List.append_assoc]
      rfl
    have hq := hL.base L[k] (List.getElem_mem hk)
    rw [impl_Memory_put.l11010_eq, lt_nat, inL_nat, hml, decide_eq_true hk, hrd]
    have hint : intsOf (pg F (L[k]).1) = rowV F a t (L[k]).1 0 := by
      unfold pg
      rw [intsOf_bytesOf _ (mapB_all _ _ _ _ fun j => hF _)]
      unfold rowV
      apply mapB_congr
      intro j _ _
      rw [if_neg (by omega)]
    show (bif true then bif true then bif decide ((pg F (L[k]).1).size ≤ 9223372036854775807) then impl_Memory_put.l110100110011010 a t x6 _ (k : Int) (pageF F L[k]) (intsOf (pg F (L[k]).1)) (L.length : Int) (k : Int) ((intsOf (pg F (L[k]).1)).length : Int) 0 else none else none else _) = _
    rw [pg_size, hint, show (rowV F a t (L[k]).1 0).length = 128 by unfold rowV; rw [mapB_length]]
    have hrow := impl_put_row hF a t hA x6 (memF (updF F a t) (L.take k) ++ memF F (L.drop k)) k (pageF F L[k]) hq (L.length : Int) (k : Int) (by rw [hml]; exact hk) 128 0 (by omega)
    rw [hrd] at hrow
    have hfin : bytesOf (rowV F a t (pageF F L[k]).1 128) = pg (updF F a t) (L[k]).1 := by
      unfold rowV pg
      rw [mapB_congr (f := fun j => if j < 128 then updF F a t ((pageF F L[k]).1 + (j : Int)) else F ((pageF F L[k]).1 + (j : Int))) (g := fun j => updF F a t ((L[k]).1 + (j : Int))) 128 0 fun j _ hj => if_pos (by omega)]
    rw [hfin, w64_succ k L.length hk (by omega)] at hrow
    have hset' : (memF (updF F a t) (L.take k) ++ memF F (L.drop k)).set k ((pageF F L[k]).1, (pageF F L[k]).2.1, pg (updF F a t) (L[k]).1) = memF (updF F a t) (L.take (k + 1)) ++ memF F (L.drop (k + 1)) := hset
    rw [hset'] at hrow
    exact hrow.trans (ih (k + 1) (by omega))
theorem clone_page (m : List Page) (h : m.length ≤ 64) : slices_Clone_impl_Page m = some m := by
  rw [slices_Clone_impl_Page_eq, show roomB m.length 32 = true by simp [roomB]; omega]; rfl
theorem impl_put {F : Int → Int} (hF : FR F) (a : Int) (t : ByteArray) (hA : AddrR a t) (L : List (Int × Int)) (hL : BasesR L) : impl_Memory_put (memF F L) a t = some (memF (updF F a t) L) := by
  have hml : (memF F L).length = L.length := by simp [memF]
  have hn := hL.len
  rw [impl_Memory_put_eq, impl_Memory_own_eq, clone_page _ (by omega)]
  simp only [Option.bind_some]
  rw [hml]
  exact impl_put_loop hF a t hA L hL [] L.length 0 (by omega)
theorem bt_append (a b : ByteArray) (i : Nat) : bt (a ++ b) (i : Int) = if i < a.size then bt a (i : Int) else bt b ((i - a.size : Nat) : Int) := by
  rw [bt_nat, bt_nat, bt_nat]
  have hs : a.size = a.data.size := rfl
  rw [ByteArray.data_append, Array.getD_eq_getD_getElem?, Array.getD_eq_getD_getElem?, Array.getD_eq_getD_getElem?, Array.getElem?_append, hs]
  split <;> rfl
abbrev TI2 : Ty := .pair (.int .i64) (.int .i64)
theorem rd_mem (F : Int → Int) (L : List (Int × Int)) (i : Nat) (h : i < L.length) : rd (τ := TPage) (memF F L) (i : Int) = pageF F (rd (τ := TI2) L (i : Int)) := by
  rw [rd_nat (τ := TPage) (memF F L) i (by simp [memF]; exact h), rd_nat (τ := TI2) L i h]
  simp [memF]
theorem updF_nil (F : Int → Int) (a : Int) (t : ByteArray) (h : t.size = 0) : updF F a t = F := by
  funext x
  unfold updF
  rw [if_neg (by omega)]
def Zero (F : Int → Int) (b : Int) (n : Nat) : Prop := ∀ x, b ≤ x → x < b + (n : Int) → F x = 0
theorem pg_zero {F : Int → Int} {b : Int} (h : Zero F b 128) : pg F b = bytesOf (List.replicate 128 (0 : Int)) := by
  unfold pg
  rw [mapB_congr (g := fun _ => (0 : Int)) 128 0 fun j _ hj => h _ (by omega) (by omega)]
  rfl
theorem rep_zero : repB (⟨#[0]⟩ : ByteArray) 128 = bytesOf (List.replicate 128 (0 : Int)) := by decide +kernel
theorem impl_add {F : Int → Int} (L : List (Int × Int)) (hn : L.length < 64) (b p : Int) (hb : ∀ q ∈ L, q.1 < b) (hz : Zero F b 128) : impl_Memory_addPage (memF F L) b p = some (memF F (L ++ [(b, p)])) := by
  have hml : (memF F L).length = L.length := by simp [memF]
  rw [impl_Memory_addPage_eq]
  have loop : ∀ (d k : Nat), k + d = L.length → impl_Memory_addPage.l1100 b p (memF F L) [] (k : Int) = impl_Memory_addPage.l1100 b p (memF F L) [] (L.length : Int) := by
    intro d
    induction d with
    | zero => intro k h; have : k = L.length := by omega
              rw [this]
    | succ d ih =>
      intro k h
      have hk : k < L.length := by omega
      obtain ⟨q, hq⟩ : ∃ q : Int × Int, rd (τ := TI2) L (k : Int) = q := ⟨_, rfl⟩
      have hqb : q.1 < b := by rw [rd_nat (τ := TI2) L k hk] at hq; rw [← hq]; exact hb _ (List.getElem_mem hk)
      rw [impl_Memory_addPage.l1100_eq, hml, lt_nat, inL_nat, decide_eq_true hk, rd_mem F L k hk, hq]
      simp only [joinB, cond_true]
      rw [show decide ((pageF F q).1 < b) = true from decide_eq_true hqb, w64_succ k L.length hk (by omega), cond_true, ih (k + 1) (by omega)]
  have h0 := loop L.length 0 (by omega)
  rw [show ((0 : Nat) : Int) = 0 from rfl] at h0
  rw [h0, impl_Memory_addPage.l1100_eq, hml, lt_nat, decide_eq_false (Nat.lt_irrefl _)]
  simp only [joinB, cond_false]
  rw [clone_page _ (by omega), strings_Repeat_eq]
  simp only [Option.bind_some]
  rw [show (decide (0 ≤ (128 : Int)) && decide ((128 : Int) ≤ 9223372036854775807) && decide (ByteArray.size (⟨#[0]⟩ : ByteArray) * (128 : Int).toNat ≤ 140737488355328)) = true by decide, cond_true, rep_zero, ← pg_zero hz]
  simp only [Option.bind_some]
  rw [slices_Insert_impl_Page_eq, hml, show (decide ((L.length : Int) = (L.length : Int)) && roomB (L.length + [(b, p, pg F b)].length) 32) = true by simp [roomB]; omega]
  simp only [cond_true, Option.bind_some]
  unfold memF
  rw [List.map_append]; rfl
/-- The pages of an area. -/
def arL (b p : Int) (n : Nat) : List (Int × Int) := mapB (fun i => (b + 128 * (i : Int), p)) 0 n
theorem arL_succ (b p : Int) : ∀ n, arL b p (n + 1) = arL b p n ++ [(b + 128 * (n : Int), p)] := by
  intro n
  unfold arL
  have : ∀ (k i : Nat), mapB (fun i => (b + 128 * (i : Int), p)) i (k + 1) = mapB (fun i => (b + 128 * (i : Int), p)) i k ++ [(b + 128 * ((i + k : Nat) : Int), p)] := by
    intro k
    induction k with
    | zero => intro i; rfl
    | succ k ih => intro i; rw [mapB, ih (i + 1), mapB, show i + 1 + k = i + (k + 1) by omega]; rfl
  rw [this n 0, Nat.zero_add]
theorem arL_length (b p : Int) (n : Nat) : (arL b p n).length = n := mapB_length _ _ _
theorem arL_mem {b p : Int} {n : Nat} {q : Int × Int} (h : q ∈ arL b p n) : b ≤ q.1 ∧ q.1 + 128 ≤ b + 128 * (n : Int) := by
  obtain ⟨j, _, hj, rfl⟩ := (mapB_mem _ _ _ _).1 h
  simp only; omega
theorem area_add {F : Int → Int} (A : List Page → Int → Int → Option (List Page)) (hA : ∀ (L : List (Int × Int)) (b p : Int), L.length < 64 → (∀ q ∈ L, q.1 < b) → Zero F b 128 → A (memF F L) b p = some (memF F (L ++ [(b, p)])))
    (X : List Page → Int → Option (List Page)) (L : List (Int × Int)) (b p : Int) (n : Nat) (hn : L.length + n ≤ 64) (hb : ∀ q ∈ L, q.1 < b) (hb0 : 0 ≤ b ∧ b ≤ 1048575) (hz : Zero F b (128 * n))
    (hX : ∀ m (i : Nat), i < n → X m (128 * (i : Int)) = (A m (b + 128 * (i : Int)) p).bind fun r => X r (128 * ((i + 1 : Nat) : Int))) :
    ∀ (d k : Nat), k + d = n → X (memF F (L ++ arL b p k)) (128 * (k : Int)) = X (memF F (L ++ arL b p n)) (128 * (n : Int)) := by
  intro d
  induction d with
  | zero => intro k h; have : k = n := by omega
            rw [this]
  | succ d ih =>
    intro k h
    rw [hX _ k (by omega), hA _ _ _ (by rw [List.length_append, arL_length]; omega) (fun q hq => ?_) (fun x h1 h2 => hz x (by omega) (by omega))]
    · simp only [Option.bind_some]
      rw [List.append_assoc, ← arL_succ]
      exact ih (k + 1) (by omega)
    · rcases List.mem_append.1 hq with hq | hq
      · have := hb q hq; omega
      · have := arL_mem hq; omega
def padV (t : ByteArray) (n : Nat) : ByteArray := t ++ repB (⟨#[0]⟩ : ByteArray) ((n - t.size : Nat) : Int)
theorem repeat0 : ∀ k : Nat, (Lib.repeatL [(0 : UInt8)] k) = List.replicate k 0
  | 0 => rfl
  | k + 1 => by rw [Lib.repeatL, repeat0 k]; rfl
theorem rep0_data (k : Nat) : (repB (⟨#[0]⟩ : ByteArray) (k : Int)).data = (List.replicate k (0 : UInt8)).toArray := by
  unfold repB
  rw [Int.toNat_natCast]
  show (Lib.repeatL [(0 : UInt8)] k).toArray = _
  rw [repeat0]
theorem rep0_size (k : Nat) : (repB (⟨#[0]⟩ : ByteArray) (k : Int)).size = k := by
  show (repB (⟨#[0]⟩ : ByteArray) (k : Int)).data.size = k
  rw [rep0_data]; simp
theorem rep0_bt (k i : Nat) : bt (repB (⟨#[0]⟩ : ByteArray) (k : Int)) (i : Int) = 0 := by
  rw [bt_nat, rep0_data]
  simp only [Array.getD, List.size_toArray, List.length_replicate]
  split
  · simp
  · rfl
theorem padV_size (t : ByteArray) (n : Nat) (h : t.size ≤ n) : (padV t n).size = n := by
  unfold padV
  rw [ByteArray.size_append, rep0_size]; omega
theorem padV_bt (t : ByteArray) (n i : Nat) : bt (padV t n) (i : Int) = if i < t.size then bt t (i : Int) else 0 := by
  unfold padV
  rw [bt_append]
  split
  · rfl
  · exact rep0_bt _ _
theorem padded_val (t : ByteArray) (n : Nat) (h : t.size ≤ n) (hn : n ≤ 1048576) : impl_padded t (n : Int) = some (padV t n) := by
  have hz := padV_size t n h
  rw [impl_padded_eq, w64 (n := (n : Int) - (t.size : Int)) (by omega) (by omega), show (n : Int) - (t.size : Int) = ((n - t.size : Nat) : Int) by omega, strings_Repeat_eq]
  rw [show (decide (0 ≤ ((n - t.size : Nat) : Int)) && decide (((n - t.size : Nat) : Int) ≤ 9223372036854775807) && decide (ByteArray.size (⟨#[0]⟩ : ByteArray) * (((n - t.size : Nat) : Int)).toNat ≤ 140737488355328)) = true by
    rw [show ByteArray.size (⟨#[0]⟩ : ByteArray) = 1 from rfl]; simp; omega]
  simp only [cond_true, Option.bind_some]
  rw [rep0_size, decide_eq_true (show t.size + (n - t.size) ≤ 9223372036854775807 by omega)]; rfl
theorem updF_pad {F : Int → Int} (b : Int) (t : ByteArray) (n : Nat) (h : t.size ≤ n) (hz : Zero F b n) : updF F b (padV t n) = updF F b t := by
  funext x
  unfold updF
  rw [padV_size t n h]
  by_cases c : b ≤ x ∧ x < b + (n : Int)
  · rw [if_pos c]
    obtain ⟨i, hi⟩ : ∃ i : Nat, x - b = (i : Int) := ⟨(x - b).toNat, by omega⟩
    rw [hi, padV_bt]
    by_cases c2 : i < t.size
    · rw [if_pos c2, if_pos (by omega)]
    · rw [if_neg c2, if_neg (by omega), hz x c.1 c.2]
  · rw [if_neg c, if_neg (by omega)]
theorem impl_area {F : Int → Int} (hF : FR F) (L : List (Int × Int)) (hL : BasesR L) (b p : Int) (n : Nat) (t : ByteArray) (hn : L.length + n ≤ 64) (hb : ∀ q ∈ L, q.1 < b) (hb0 : 0 ≤ b ∧ b + 128 * (n : Int) ≤ 1048575) (hz : Zero F b (128 * n)) (ht : t.size = 128 * n) :
    impl_Memory_area (memF F L) b p t = some (memF (updF F b t) (L ++ arL b p n)) := by
  rw [impl_Memory_area_eq]
  have hL' : BasesR (L ++ arL b p n) := ⟨by rw [List.length_append, arL_length]; omega, fun q hq => by
    rcases List.mem_append.1 hq with hq | hq
    · exact hL.base q hq
    · have := arL_mem hq; omega⟩
  have h := area_add (F := F) impl_Memory_addPage (fun L b p h1 h2 h3 => impl_add L h1 b p h2 h3) (fun m i => impl_Memory_area.l1010 b p t m [] i) L b p n hn hb ⟨by omega, by omega⟩ hz (fun m i hi => by
    show impl_Memory_area.l1010 b p t m [] (128 * (i : Int)) = _
    rw [impl_Memory_area.l1010_eq, ht, decide_eq_true (show 128 * (i : Int) < ((128 * n : Nat) : Int) by omega), cond_true, w64 (n := b + 128 * (i : Int)) (by omega) (by omega), w64 (n := 128 * (i : Int) + 128) (by omega) (by omega), show 128 * (i : Int) + 128 = 128 * ((i + 1 : Nat) : Int) by omega]) n 0 (by omega)
  have h' : impl_Memory_area.l1010 b p t (memF F (L ++ arL b p 0)) [] (128 * ((0 : Nat) : Int)) = impl_Memory_area.l1010 b p t (memF F (L ++ arL b p n)) [] (128 * (n : Int)) := h
  rw [show arL b p 0 = [] from rfl, List.append_nil, show 128 * ((0 : Nat) : Int) = 0 from rfl] at h'
  rw [h', impl_Memory_area.l1010_eq, ht, decide_eq_false (show ¬ 128 * (n : Int) < ((128 * n : Nat) : Int) by omega), cond_false, impl_put hF b t ⟨by omega, by omega, by omega⟩ _ hL']; rfl
def L1 : List (Int × Int) := arL 4096 4 8
def L2 : List (Int × Int) := L1 ++ arL 8192 4 8
def L3 : List (Int × Int) := L2 ++ arL 16384 3 2
def L4 : List (Int × Int) := L3 ++ arL 20480 3 2
def L5 : List (Int × Int) := L4 ++ arL 32768 11 4
def L6 : List (Int × Int) := L5 ++ arL 33792 11 4
def L7 : List (Int × Int) := L6 ++ arL 34816 11 4
def BL : List (Int × Int) := L7 ++ arL 35840 11 4
def bOK (L : List (Int × Int)) (m : Int) : Bool := decide (L.length ≤ 64) && L.all fun q => decide (0 ≤ q.1) && decide (q.1 ≤ 1048575) && decide (q.1 < m)
theorem bOK_spec {L : List (Int × Int)} {m : Int} (h : bOK L m = true) : BasesR L ∧ ∀ q ∈ L, q.1 < m := by
  unfold bOK at h
  rw [Bool.and_eq_true, decide_eq_true_eq, List.all_eq_true] at h
  refine ⟨⟨h.1, fun q hq => ?_⟩, fun q hq => ?_⟩
  · have := h.2 q hq; simp only [Bool.and_eq_true, decide_eq_true_eq] at this; exact this.1
  · have := h.2 q hq; simp only [Bool.and_eq_true, decide_eq_true_eq] at this; exact this.2
theorem b1 : bOK L1 8192 = true := by decide
theorem b2 : bOK L2 16384 = true := by decide
theorem b3 : bOK L3 20480 = true := by decide
theorem b4 : bOK L4 32768 = true := by decide
theorem b5 : bOK L5 33792 = true := by decide
theorem b6 : bOK L6 34816 = true := by decide
theorem b7 : bOK L7 35840 = true := by decide
def zF : Int → Int := fun _ => 0
def textF (im : Img) : Int → Int := updF zF 4096 im.1
def F0 (im : Img) : Int → Int := updF (textF im) 16384 im.2.1
theorem zF_range : FR zF := fun _ => ⟨Int.le_refl 0, show (0 : Int) ≤ 255 by omega⟩
theorem textF_range (im : Img) : FR (textF im) := updF_range zF_range _ _
theorem F0_range (im : Img) : FR (F0 im) := updF_range (textF_range im) _ _
theorem textF_zero {im : Img} (h : im.1.size ≤ 1024) (b : Int) (n : Nat) (hb : 5120 ≤ b) : Zero (textF im) b n := by
  intro x h1 h2
  unfold textF updF
  rw [if_neg (by omega)]; rfl
theorem F0_zero {im : Img} (h : im.1.size ≤ 1024) (h' : im.2.1.size ≤ 256) (b : Int) (n : Nat) (hb : 16640 ≤ b) : Zero (F0 im) b n := by
  intro x h1 h2
  unfold F0 updF
  rw [if_neg (by omega)]
  exact textF_zero h b n (by omega) x h1 h2
theorem zF_zero (b : Int) (n : Nat) : Zero zF b n := fun _ _ _ => rfl
theorem pad_nil {F : Int → Int} (b : Int) (n : Nat) (hz : Zero F b n) : updF F b (padV ⟨#[]⟩ n) = F := by
  rw [updF_pad b _ n (by show (0 : Nat) ≤ n; omega) hz, updF_nil _ _ _ rfl]
theorem impl_stack (im : Img) (hc : im.1.size ≤ 1024) (hd : im.2.1.size ≤ 256) (L : List (Int × Int)) (i : Nat) (hi : i < 4) (m : Int) (hL : bOK L m = true) (hm : m = 32768 + 1024 * (i : Int)) (hn : L.length + 4 ≤ 64) :
    impl_Image_loaded.l111111010 [] (memF (F0 im) L) (i : Int) = impl_Image_loaded.l111111010 [] (memF (F0 im) (L ++ arL m 11 4)) ((i + 1 : Nat) : Int) := by
  obtain ⟨h1, h2⟩ := bOK_spec hL
  rw [impl_Image_loaded.l111111010_eq, decide_eq_true (show (i : Int) < 4 by omega), show impl_padded (⟨#[]⟩ : ByteArray) 512 = some (padV ⟨#[]⟩ 512) from padded_val _ 512 (by show (0 : Nat) ≤ 512; omega) (by omega), w64 (n := 1024 * (i : Int)) (by omega) (by omega), w64 (n := 32768 + 1024 * (i : Int)) (by omega) (by omega), w64 (n := (i : Int) + 1) (by omega) (by omega), ← hm]
  simp only [cond_true, Option.bind_some]
  rw [impl_area (F0_range im) L h1 m 11 4 (padV ⟨#[]⟩ 512) hn h2 (by omega) (F0_zero hc hd m 512 (by omega)) (padV_size _ 512 (by show (0 : Nat) ≤ 512; omega)), pad_nil m 512 (F0_zero hc hd m 512 (by omega))]
  simp only [Option.bind_some]
  rw [show (i : Int) + 1 = ((i + 1 : Nat) : Int) by omega]
theorem impl_loaded (im : Img) (hc : im.1.size ≤ 1024) (hd : im.2.1.size ≤ 256) : impl_Image_loaded im = some (memF (F0 im) BL) := by
  have e0 : (0 : Nat) ≤ 1024 := by omega
  rw [impl_Image_loaded_eq, show impl_padded im.1 1024 = some (padV im.1 1024) from padded_val _ 1024 hc (by omega), show impl_padded (⟨#[]⟩ : ByteArray) 1024 = some (padV ⟨#[]⟩ 1024) from padded_val _ 1024 (by show (0 : Nat) ≤ 1024; omega) (by omega),
    show impl_padded im.2.1 256 = some (padV im.2.1 256) from padded_val _ 256 hd (by omega), show impl_padded (⟨#[]⟩ : ByteArray) 256 = some (padV ⟨#[]⟩ 256) from padded_val _ 256 (by show (0 : Nat) ≤ 256; omega) (by omega)]
  simp only [Option.bind_some]
  have a1 := impl_area zF_range [] ⟨by simp, fun q hq => by cases hq⟩ 4096 4 8 (padV im.1 1024) (by simp) (fun q hq => by cases hq) (by omega) (zF_zero _ _) (padV_size _ 1024 hc)
  rw [updF_pad 4096 im.1 1024 hc (zF_zero _ _), List.nil_append] at a1
  rw [show impl_Memory_area [] 4096 4 (padV im.1 1024) = some (memF (textF im) L1) from a1]
  simp only [Option.bind_some]
  have a2 := impl_area (textF_range im) L1 (bOK_spec b1).1 8192 4 8 (padV ⟨#[]⟩ 1024) (by decide) (bOK_spec b1).2 (by omega) (textF_zero hc _ _ (by omega)) (padV_size _ 1024 (by show (0 : Nat) ≤ 1024; omega))
  rw [pad_nil 8192 1024 (textF_zero hc _ _ (by omega))] at a2
  rw [show impl_Memory_area (memF (textF im) L1) 8192 4 (padV ⟨#[]⟩ 1024) = some (memF (textF im) L2) from a2]
  simp only [Option.bind_some]
  have a3 := impl_area (textF_range im) L2 (bOK_spec b2).1 16384 3 2 (padV im.2.1 256) (by decide) (bOK_spec b2).2 (by omega) (textF_zero hc _ _ (by omega)) (padV_size _ 256 hd)
  rw [updF_pad 16384 im.2.1 256 hd (textF_zero hc _ _ (by omega))] at a3
  rw [show impl_Memory_area (memF (textF im) L2) 16384 3 (padV im.2.1 256) = some (memF (F0 im) L3) from a3]
  simp only [Option.bind_some]
  have a4 := impl_area (F0_range im) L3 (bOK_spec b3).1 20480 3 2 (padV ⟨#[]⟩ 256) (by decide) (bOK_spec b3).2 (by omega) (F0_zero hc hd _ _ (by omega)) (padV_size _ 256 (by show (0 : Nat) ≤ 256; omega))
  rw [pad_nil 20480 256 (F0_zero hc hd _ _ (by omega))] at a4
  rw [show impl_Memory_area (memF (F0 im) L3) 20480 3 (padV ⟨#[]⟩ 256) = some (memF (F0 im) L4) from a4]
  simp only [Option.bind_some]
  have s0 := impl_stack im hc hd L4 0 (by omega) 32768 b4 (by omega) (by decide)
  have s1 := impl_stack im hc hd L5 1 (by omega) 33792 b5 (by omega) (by decide)
  have s2 := impl_stack im hc hd L6 2 (by omega) 34816 b6 (by omega) (by decide)
  have s3 := impl_stack im hc hd L7 3 (by omega) 35840 b7 (by omega) (by decide)
  refine s0.trans (s1.trans (s2.trans (s3.trans ?_)))
  rw [impl_Image_loaded.l111111010_eq, show decide (((3 + 1 : Nat) : Int) < 4) = false by decide, cond_false]; rfl
theorem BL_len : BL.length = 36 := by decide
theorem rd_mem_list {τ : Ty} (l : List τ.den) (i : Nat) (h : i < l.length) : rd (τ := τ) l (i : Int) ∈ l := by rw [rd_nat l i h]; exact List.getElem_mem h
theorem mem_rd {τ : Ty} {l : List τ.den} {x : τ.den} (h : x ∈ l) : ∃ i : Nat, i < l.length ∧ rd (τ := τ) l (i : Int) = x := by
  obtain ⟨i, hi, e⟩ := List.mem_iff_getElem.1 h
  exact ⟨i, hi, by rw [rd_nat l i hi]; exact e⟩
theorem entV_neg {t : List Ent} {n : ByteArray} : entV t n < 0 ↔ ∀ e ∈ t, e.1 ≠ n := by
  unfold entV
  rcases findB_spec (fun i => decide ((rd (τ := TEnt) t (i : Int)).1 = n)) t.length 0 with ⟨h1, h2⟩ | ⟨j, h1, h2, h3, h4, _⟩
  · refine ⟨fun _ e he hn => ?_, fun _ => by rw [h1]; decide⟩
    obtain ⟨i, hi, hr⟩ := mem_rd (τ := TEnt) he
    have := h2 i (Nat.zero_le _) (by omega)
    rw [decide_eq_false_iff_not, hr] at this
    exact this hn
  · refine ⟨fun h => by rw [h1] at h; omega, fun h => ?_⟩
    rw [decide_eq_true_eq] at h4
    exact absurd h4 (h _ (rd_mem_list (τ := TEnt) t j (by omega)))
structure TabOK (t : List Ent) : Prop where
  len : t.length ≤ 64
  ent : ∀ e ∈ t, entOKV e = true
  dis : t.Pairwise fun a b => a.1 ≠ b.1
theorem tabV_iff {t : List Ent} : tabV t = true ↔ TabOK t := by
  unfold tabV
  rw [Bool.and_eq_true, decide_eq_true_eq, allB_iff]
  have key : ∀ i : Nat, i < t.length → (tabP t i = true ↔ entOKV (rd (τ := TEnt) t (i : Int)) = true ∧ ∀ e ∈ t.take i, e.1 ≠ (rd (τ := TEnt) t (i : Int)).1) := by
    intro i hi
    unfold tabP
    rw [← entV_neg]
    cases entOKV (rd (τ := TEnt) t (i : Int)) <;> simp
  constructor
  · rintro ⟨h1, h2⟩
    refine ⟨h1, fun e he => ?_, ?_⟩
    · obtain ⟨i, hi, hr⟩ := mem_rd (τ := TEnt) he
      rw [← hr]; exact ((key i hi).1 (h2 i (Nat.zero_le _) (by omega))).1
    · rw [List.pairwise_iff_getElem]
      intro i j hi hj hij
      have := ((key j hj).1 (h2 j (Nat.zero_le _) (by omega))).2 t[i] (by rw [List.mem_take_iff_getElem]; exact ⟨i, by omega, rfl⟩)
      rw [rd_nat (τ := TEnt) t j hj] at this
      exact this
  · rintro ⟨h1, h2, h3⟩
    refine ⟨h1, fun i _ hi => (key i (by omega)).2 ⟨h2 _ (rd_mem_list (τ := TEnt) t i (by omega)), fun e he => ?_⟩⟩
    obtain ⟨j, hj, rfl⟩ := List.mem_take_iff_getElem.1 he
    rw [rd_nat (τ := TEnt) t i (by omega)]
    exact (List.pairwise_iff_getElem.1 h3) j i (by omega) (by omega) (by omega)
theorem room56 (n : Nat) (h : n ≤ 4096) : roomB n 56 = true := by simp [roomB]; omega
theorem room40 (n : Nat) (h : n ≤ 4096) : roomB n 40 = true := by simp [roomB]; omega
theorem mapB_pair {α : Type} (f : Nat → α) (R : α → α → Prop) : ∀ k i, (∀ a b, i ≤ a → a < b → b < i + k → R (f a) (f b)) → (mapB f i k).Pairwise R
  | 0, _, _ => List.Pairwise.nil
  | k + 1, i, h => by
    have ih := mapB_pair f R k (i + 1) fun a b h1 h2 h3 => h a b (by omega) h2 (by omega)
    rw [mapB]
    refine List.Pairwise.cons (fun x hx => ?_) ih
    obtain ⟨j, h1, h2, rfl⟩ := (mapB_mem f x k (i + 1)).1 hx
    exact h i j (Nat.le_refl _) (by omega) (by omega)
abbrev Pc : Type := Int × Int × Int × Int × Int
def plS (s : Sym) : Int := bif decide (s.2.1 = 1) then IntKind.wrap .i64 (4096 + s.2.2.1) else IntKind.wrap .i64 (16384 + s.2.2.1)
def entI (im : Img) (i : Nat) : Ent := ((rd (τ := TSym) im.2.2 (i : Int)).1, (rd (τ := TSym) im.2.2 (i : Int)).2.1, plS (rd (τ := TSym) im.2.2 (i : Int)), (rd (τ := TSym) im.2.2 (i : Int)).2.2.2.1, (rd (τ := TSym) im.2.2 (i : Int)).2.2.2.2, 0)
def imgT (im : Img) : List Ent := mapB (entI im) 0 im.2.2.length
def imgP (im : Img) : List Pc := filtB (fun i => decide ((rd (τ := TSym) im.2.2 (i : Int)).2.1 = 1)) (fun i => ((i : Int), 0, plS (rd (τ := TSym) im.2.2 (i : Int)), (rd (τ := TSym) im.2.2 (i : Int)).2.2.2)) 0 im.2.2.length
theorem ImgOK0.sym {im : Img} (h : ImgOK0 im) (i : Nat) (hi : i < im.2.2.length) : SymOK im (rd (τ := TSym) im.2.2 (i : Int)) ∧ FunG (rd (τ := TSym) im.2.2 (i : Int)) := by
  obtain ⟨E, hE, _⟩ := h.chain
  rw [rd_nat (τ := TSym) im.2.2 i hi]
  exact ⟨(chain_sym hE i hi).1, h.funs i hi⟩
theorem plS_fun {im : Img} {s : Sym} (hz : ImgSz im) (h : SymOK im s) (hk : s.2.1 = 1) : plS s = 4096 + s.2.2.1 := by
  have := h.func hk; have := h.at0; have := h.size; have := hz.c
  unfold plS
  rw [decide_eq_true hk, cond_true, w64 (by omega) (by omega)]
theorem plS_dat {im : Img} {s : Sym} (hz : ImgSz im) (h : SymOK im s) (hk : s.2.1 = 2) : plS s = 16384 + s.2.2.1 := by
  have := h.data hk; have := h.at0; have := h.size; have := hz.d
  unfold plS
  rw [decide_eq_false (by omega), cond_false, w64 (by omega) (by omega)]
theorem imgT_tab {im : Img} (h : ImgOK0 im) : TabOK (imgT im) := by
  have hz := h.sz
  have hn := hz.n
  have hc := hz.c
  have hd := hz.d
  refine ⟨by unfold imgT; rw [mapB_length]; omega, fun e he => ?_, ?_⟩
  · unfold imgT at he
    obtain ⟨i, _, hi, rfl⟩ := (mapB_mem _ _ _ _).1 he
    obtain ⟨hS, hG⟩ := h.sym i (by omega)
    unfold entI
    obtain ⟨s, hs⟩ : ∃ s : Sym, rd (τ := TSym) im.2.2 (i : Int) = s := ⟨_, rfl⟩
    rw [hs] at hS hG ⊢
    have h0 := hS.at0
    have h1 := hS.size
    unfold entOKV
    simp only
    rw [hS.name]
    rcases hS.kind with hk | hk
    · obtain ⟨g1, g2, g3⟩ := hG hk
      have hf := hS.func hk
      rw [plS_fun hz hS hk, g1, inR_iff.2 (show 1 ≤ s.2.2.2.1 ∧ s.2.2.2.1 ≤ 1024 by omega)]
      unfold kindV
      rw [decide_eq_true hk, g2]; rfl
    · have hf := hS.data hk
      rw [plS_dat hz hS hk, inR_iff.2 (show 1 ≤ s.2.2.2.1 ∧ s.2.2.2.1 ≤ 1024 by omega)]
      have hcode : codeAtV (16384 + s.2.2.1) = true := by
        unfold codeAtV
        rw [show (decide (0 ≤ 16384 + s.2.2.1) && decide (16384 + s.2.2.1 ≤ 1048575)) = true by simp; omega, cond_true, decide_eq_true_eq, Int.tmod_eq_emod_of_nonneg (by omega)]; omega
      rw [hcode]
      unfold kindV
      rw [decide_eq_true hk, decide_eq_true hf.2.2.2, decide_eq_false (show ¬ s.2.1 = 1 by omega)]; rfl
  · unfold imgT
    refine mapB_pair _ _ _ _ fun a b _ hab hb => ?_
    obtain ⟨E, hE, _⟩ := h.chain
    have := (chain_sym hE b (by omega)).2
    intro e
    unfold entI at e
    simp only at e
    rw [rd_nat (τ := TSym) im.2.2 a (by omega), rd_nat (τ := TSym) im.2.2 b (by omega)] at e
    unfold dupV at this
    have h2 : (im.2.2.take b).any (fun y => decide (y.1 = (im.2.2[b]'(by omega)).1)) = true := List.any_eq_true.2 ⟨im.2.2[a]'(by omega), List.mem_take_iff_getElem.2 ⟨a, by omega, rfl⟩, decide_eq_true e⟩
    rw [h2] at this
    cases this
abbrev Sv : Type := Int × Int
abbrev Pat : Type := Obj × Lnk × List Sv
def wordL (x : Ins) : List Int := leB (encV (shp x.1) x) 4
def codeL : List Ins → List Int
  | [] => []
  | x :: l => wordL x ++ codeL l
def codeOf (l : List Ins) : ByteArray := bytesOf (codeL l)
theorem wordL_length (x : Ins) : (wordL x).length = 4 := leB_length 4 _
theorem codeL_length : ∀ l : List Ins, (codeL l).length = 4 * l.length
  | [] => rfl
  | x :: l => by rw [codeL, List.length_append, wordL_length, codeL_length l, List.length_cons]; omega
theorem codeOf_size (l : List Ins) : (codeOf l).size = 4 * l.length := by rw [codeOf, bytesOf_size, codeL_length]
theorem codeL_append : ∀ a b : List Ins, codeL (a ++ b) = codeL a ++ codeL b
  | [], _ => rfl
  | x :: a, b => by rw [List.cons_append, codeL, codeL, codeL_append a b, List.append_assoc]
theorem bytesOf_append (xs ys : List Int) : bytesOf (xs ++ ys) = bytesOf xs ++ bytesOf ys := by
  apply ByteArray.ext
  rw [ByteArray.data_append]
  simp [bytesOf]
theorem codeOf_append (a b : List Ins) : codeOf (a ++ b) = codeOf a ++ codeOf b := by rw [codeOf, codeL_append, bytesOf_append]; rfl
theorem ba_extract_mid (a b c : ByteArray) : (a ++ (b ++ c)).extract a.size (a.size + b.size) = b := by
  apply ByteArray.ext
  rw [ByteArray.data_extract, ByteArray.data_append, ByteArray.data_append]
  simp only [ByteArray.size]
  rw [Array.extract_append]
  simp only [Nat.sub_self, Nat.add_sub_cancel_left, Array.extract_append]
  rw [Array.extract_eq_empty_of_le (by simp)]
  simp
theorem codeOf_extract (a b : List Ins) (x : Ins) : (codeOf (a ++ x :: b)).extract (4 * a.length) (4 * a.length + 4) = bytesOf (wordL x) := by
  have e : codeOf (a ++ x :: b) = codeOf a ++ (bytesOf (wordL x) ++ codeOf b) := by
    rw [codeOf, codeL_append, codeL, bytesOf_append, bytesOf_append]; rfl
  have h := ba_extract_mid (codeOf a) (bytesOf (wordL x)) (codeOf b)
  rw [codeOf_size, bytesOf_size, wordL_length] at h
  rw [e]; exact h
theorem right_range {x : Ins} (h : rightV x = true) : 0 ≤ encV (shp x.1) x ∧ encV (shp x.1) x < 4294967296 := by
  obtain ⟨h1, hr, _⟩ := right_facts h
  have er := enc_range (f := (shp x.1).1) (c := (shp x.1).2.1) (f3 := (shp x.1).2.2.1) (f7 := (shp x.1).2.2.2) (n := x.1) (d := x.2.1) (a := x.2.2.1) (b := x.2.2.2.1) (i := x.2.2.2.2) (shp_ok x.1 h1.1 h1.2) hr
  exact ⟨er.1, er.2.1⟩
theorem take_word (x : Ins) (h : rightV x = true) : impl_takeLittle (bytesOf (wordL x)) = some (encV (shp x.1) x) := by
  have hr := right_range h
  rw [impl_take_val _ (by rw [bytesOf_size, wordL_length]; decide), bytesOf_size, wordL_length]
  have := leN_leB 4 (encV (shp x.1) x) [] hr.1 (fun x hx => by cases hx)
  rw [List.nil_append, List.length_nil] at this
  unfold wordL
  rw [this, Int.emod_eq_of_lt hr.1 (by simpa using hr.2), w64 (by omega) (by omega)]
theorem instrs_loop (l : List Ins) (hl : l.length ≤ 1000) (hr : ∀ x ∈ l, rightV x = true) : ∀ (b a : List Ins), l = a ++ b → impl_instrsOf.l11010 (codeOf l) a ((4 * a.length : Nat) : Int) = some (l, 0, true) := by
  intro b
  induction b with
  | nil =>
    intro a e
    rw [List.append_nil] at e
    subst e
    rw [impl_instrsOf.l11010_eq, codeOf_size, lt_nat, decide_eq_false (Nat.lt_irrefl _), cond_false]
  | cons x b ih =>
    intro a e
    have hlen : l.length = a.length + (b.length + 1) := by rw [e]; simp
    have hx : rightV x = true := hr x (by rw [e]; simp)
    have w4 : IntKind.wrap .i64 (((4 * a.length : Nat) : Int) + 4) = ((4 * a.length + 4 : Nat) : Int) := by rw [w64 (by omega) (by omega)]; omega
    rw [impl_instrsOf.l11010_eq, codeOf_size, lt_nat, decide_eq_true (show 4 * a.length < 4 * l.length by omega), w4]
    simp only [cond_true, Int.toNat_natCast]
    rw [show (decide ((0 : Int) ≤ ((4 * a.length : Nat) : Int)) && decide (((4 * a.length : Nat) : Int) ≤ ((4 * a.length + 4 : Nat) : Int)) && decide (((4 * a.length + 4 : Nat) : Int) ≤ ((4 * l.length : Nat) : Int))) = true by simp; omega, cond_true]
    have hex : (codeOf l).extract (4 * a.length) (4 * a.length + 4) = bytesOf (wordL x) := by rw [e]; exact codeOf_extract a b x
    rw [hex, take_word x hx]
    simp only [Option.bind_some]
    rw [decode_i x hx]
    simp only [Option.bind_some, Bool.not_true, cond_false]
    rw [room_le (by simp; omega) (by simp; omega), cond_true]
    have := ih (a ++ [x]) (by rw [e]; simp)
    rw [List.length_append, List.length_singleton, Nat.mul_add] at this
    exact this
/-- What the reference encodes, right or not. -/
def EncR (x : Ins) : Prop := (1 ≤ x.1 ∧ x.1 ≤ 64) ∧ RegsOK x ∧ ((shp x.1).1 = 1 → x.2.2.2.2 % 4096 = 0)
theorem EncR.right {x : Ins} (h : rightV x = true) : EncR x := by
  obtain ⟨h1, hr, _, _, _, hi⟩ := right_facts h
  refine ⟨h1, hr, fun e => ?_⟩
  rw [e] at hi
  simp [immR] at hi
  exact hi.2
theorem spec_words_loop (l : List Ins) (hl : l.length ≤ 1000) (hr : ∀ x ∈ l, EncR x) : ∀ (b a : List Ins), l = a ++ b → spec_l06Words.l11010 l (codeOf a) (a.length : Int) = some (codeOf l) := by
  intro b
  induction b with
  | nil =>
    intro a e
    rw [List.append_nil] at e
    subst e
    rw [spec_l06Words.l11010_eq, lt_nat, decide_eq_false (Nat.lt_irrefl _), cond_false]
  | cons x b ih =>
    intro a e
    have hlen : l.length = a.length + (b.length + 1) := by rw [e]; simp
    obtain ⟨h1, hrg, hu⟩ := hr x (by rw [e]; simp)
    have hrd : rd (τ := TIns) l (a.length : Int) = x := by rw [rd_nat _ _ (by omega)]; simp [e]
    rw [spec_l06Words.l11010_eq, lt_nat, decide_eq_true (show a.length < l.length by omega), inL_nat, decide_eq_true (show a.length < l.length by omega), hrd, w64_succ a.length l.length (by omega) (by omega)]
    simp only [cond_true]
    rw [spec_encode_val x h1.1 h1.2 hrg hu]
    simp only [Option.bind_some]
    have hp : spec_l01Little (encV (shp x.1) x) 4 = some (bytesOf (wordL x)) := spec_little _ 4 (by decide)
    rw [hp]
    simp only [Option.bind_some]
    rw [decide_eq_true (show (codeOf a).size + (bytesOf (wordL x)).size ≤ 9223372036854775807 by rw [codeOf_size, bytesOf_size, wordL_length]; omega), cond_true]
    have h2 := ih (a ++ [x]) (by rw [e]; simp)
    have h3 : codeOf (a ++ [x]) = codeOf a ++ bytesOf (wordL x) := by rw [codeOf_append]; simp [codeOf, codeL]
    rw [List.length_append, List.length_singleton, h3] at h2
    exact h2
theorem spec_words (l : List Ins) (hl : l.length ≤ 1000) (hr : ∀ x ∈ l, EncR x) : spec_l06Words l = some (codeOf l) := by
  rw [spec_l06Words_eq]
  exact spec_words_loop l hl hr l [] rfl
abbrev Src : Type := List Int × Int × Int
/-- A source from which K bytes may still be drawn. -/
structure SrcOK (K : Nat) (s : Src) : Prop where
  b : ∀ x ∈ s.1, 0 ≤ x ∧ x ≤ 255
  n : s.1.length ≤ 1048576
  a0 : 0 ≤ s.2.1
  a1 : s.2.1 + (K : Int) ≤ 4611686018427387904
  s0 : 0 ≤ s.2.2
  s1 : s.2.2 < 2147483648
theorem SrcOK.mono {K K' : Nat} {s : Src} (h : SrcOK K s) (hk : K' ≤ K) : SrcOK K' s := ⟨h.b, h.n, h.a0, by have := h.a1; omega, h.s0, h.s1⟩
theorem byte_ok {K : Nat} {s : Src} (h : SrcOK (K + 1) s) : ∃ (v : Int) (t : Src), spec_l00Src_byte s = some (v, t) ∧ 0 ≤ v ∧ v ≤ 255 ∧ SrcOK K t := by
  obtain ⟨c, a, d⟩ := s
  obtain ⟨hb, hn, ha, ha', hs, hs'⟩ := h
  simp only at hb hn ha ha' hs hs'
  rw [spec_l00Src_byte_eq]
  simp only
  rw [w64 (n := a + 1) (by omega) (by omega), w64 (n := a + 1 - 1) (by omega) (by omega), show a + 1 - 1 = a by omega]
  by_cases hi : a + 1 ≤ (c.length : Int)
  · rw [decide_eq_true hi, inL_true ha (by omega)]
    simp only [cond_true]
    obtain ⟨k, rfl⟩ : ∃ k : Nat, a = k := ⟨a.toNat, by omega⟩
    rw [rd_nat (τ := .int .u8) c k (by omega)]
    have hc := hb (c[k]'(by omega)) (List.getElem_mem _)
    generalize (c[k]'(by omega) : Int) = x at *
    rw [w64 (n := x) (by omega) (by omega), w64 (n := d * 31) (by omega) (by omega), w64 (n := d * 31 + x) (by omega) (by omega), w64 (n := d * 31 + x + 7) (by omega) (by omega)]
    refine ⟨_, _, rfl, hc.1, hc.2, ⟨hb, hn, by simp only; omega, by simp only; omega, ?_, ?_⟩⟩
    · simp only; rw [Int.tmod_eq_emod_of_nonneg (by omega)]; omega
    · simp only; rw [Int.tmod_eq_emod_of_nonneg (by omega)]; omega
  · rw [decide_eq_false hi]
    simp only [cond_false]
    by_cases hj : a + 1 > 3000
    · rw [decide_eq_true hj]
      exact ⟨_, _, rfl, by omega, by omega, ⟨hb, hn, by simp only; omega, by simp only; omega, hs, hs'⟩⟩
    · rw [decide_eq_false hj, w64 (n := d * 1103515245) (by omega) (by omega), w64 (n := d * 1103515245 + 12345) (by omega) (by omega)]
      simp only [cond_false]
      have h0 : 0 ≤ (d * 1103515245 + 12345).tmod 2147483648 ∧ (d * 1103515245 + 12345).tmod 2147483648 < 2147483648 := by
        rw [Int.tmod_eq_emod_of_nonneg (by omega)]; omega
      generalize (d * 1103515245 + 12345).tmod 2147483648 = e at *
      have h1 : 0 ≤ e.tdiv 65536 ∧ e.tdiv 65536 < 32768 := by rw [Int.tdiv_eq_ediv_of_nonneg h0.1]; omega
      rw [w64 (n := e.tdiv 65536) (by omega) (by omega)]
      have h2 : 0 ≤ (e.tdiv 65536).tmod 256 ∧ (e.tdiv 65536).tmod 256 ≤ 255 := by rw [Int.tmod_eq_emod_of_nonneg h1.1]; omega
      exact ⟨_, _, rfl, h2.1, h2.2, ⟨hb, hn, by simp only; omega, by simp only; omega, h0.1, h0.2⟩⟩
theorem next_ok {K : Nat} {s : Src} (h : SrcOK (K + 3) s) (n : Int) : ∃ (v : Int) (t : Src), spec_l00Src_next s n = some (v, t) ∧ 0 ≤ v ∧ (1 ≤ n → v < n) ∧ (n ≤ 1 → v = 0) ∧ SrcOK K t := by
  rw [spec_l00Src_next_eq]
  by_cases h1 : n ≤ 1
  · rw [decide_eq_true h1]
    exact ⟨0, s, rfl, by omega, by omega, fun _ => rfl, h.mono (by omega)⟩
  · rw [decide_eq_false h1]
    simp only [cond_false]
    by_cases h2 : n ≤ 256
    · obtain ⟨v, t, e, v0, v1, ht⟩ := byte_ok (h.mono (show K + 1 ≤ K + 3 by omega))
      rw [decide_eq_true h2, e, decide_eq_false (show ¬ n = 0 by omega)]
      simp only [cond_true, cond_false, Option.bind_some]
      refine ⟨_, t, rfl, ?_, fun _ => ?_, fun h => absurd h h1, ht⟩ <;> rw [Int.tmod_eq_emod_of_nonneg v0]
      · exact Int.emod_nonneg _ (by omega)
      · exact Int.emod_lt_of_pos _ (by omega)
    · obtain ⟨v, t, e, v0, v1, ht⟩ := byte_ok (h.mono (show K + 2 + 1 ≤ K + 3 by omega))
      obtain ⟨v', t', e', v0', v1', ht'⟩ := byte_ok (ht.mono (show K + 1 + 1 ≤ K + 2 by omega))
      obtain ⟨v'', t'', e'', v0'', v1'', ht''⟩ := byte_ok (ht'.mono (show K + 1 ≤ K + 1 by omega))
      rw [decide_eq_false h2, e]
      simp only [cond_false, Option.bind_some]
      rw [e']
      simp only [Option.bind_some]
      rw [e'']
      simp only [Option.bind_some]
      rw [decide_eq_false (show ¬ n = 0 by omega), w64 (n := v * 65536) (by omega) (by omega), w64 (n := v' * 256) (by omega) (by omega), w64 (n := v * 65536 + v' * 256) (by omega) (by omega), w64 (n := v * 65536 + v' * 256 + v'') (by omega) (by omega)]
      simp only [cond_false]
      refine ⟨_, t'', rfl, ?_, fun _ => ?_, fun h => absurd h h1, ht''⟩ <;> rw [Int.tmod_eq_emod_of_nonneg (by omega)]
      · exact Int.emod_nonneg _ (by omega)
      · exact Int.emod_lt_of_pos _ (by omega)
theorem source_ok (a : List Int) (hb : ∀ x ∈ a, 0 ≤ x ∧ x ≤ 255) (hn : a.length ≤ 1048576) : ∃ s : Src, spec_l00Source a = some (some s) ∧ SrcOK 1000000000 s := by
  refine ⟨_, spec_l00Source_eq a, ⟨hb, hn, by simp, by simp, ?_, ?_⟩⟩ <;> simp only <;> rw [Int.tmod_eq_emod_of_nonneg (by omega)] <;> omega
/-- The registers of drawn code. -/
def RegP (a : Int) : Prop := a = 5 ∨ a = 6 ∨ a = 7 ∨ a = 10 ∨ a = 11 ∨ a = 12 ∨ a = 28
theorem reg_ok {K : Nat} {s : Src} (h : SrcOK (K + 3) s) : ∃ (a : Int) (t : Src), spec_l00Src_reg s = some (a, t) ∧ RegP a ∧ SrcOK K t := by
  obtain ⟨v, t, e, v0, v1, _, ht⟩ := next_ok h 7
  have v1 := v1 (by decide)
  rw [spec_l00Src_reg_eq, e]
  simp only [Option.bind_some]
  rw [inL_true v0 (by simp; omega)]
  refine ⟨_, t, rfl, ?_, ht⟩
  have : v = 0 ∨ v = 1 ∨ v = 2 ∨ v = 3 ∨ v = 4 ∨ v = 5 ∨ v = 6 := by omega
  rcases this with rfl | rfl | rfl | rfl | rfl | rfl | rfl <;> simp [RegP, rd]
def FrmP (f : Int) : Prop := f = 16 ∨ f = 32 ∨ f = 48 ∨ f = 64 ∨ f = 128
theorem frm_ok {K : Nat} {s : Src} (h : SrcOK (K + 3) s) : ∃ (a : Int) (t : Src), spec_l00Src_frame s = some (a, t) ∧ FrmP a ∧ SrcOK K t := by
  obtain ⟨v, t, e, v0, v1, _, ht⟩ := next_ok h 6
  have v1 := v1 (by decide)
  rw [spec_l00Src_frame_eq, e]
  simp only [Option.bind_some]
  rw [inL_true v0 (by simp; omega)]
  refine ⟨_, t, rfl, ?_, ht⟩
  have : v = 0 ∨ v = 1 ∨ v = 2 ∨ v = 3 ∨ v = 4 ∨ v = 5 := by omega
  rcases this with rfl | rfl | rfl | rfl | rfl | rfl <;> simp [FrmP, rd]
theorem FrmP.ok {f : Int} (h : FrmP f) : frameV f = true := by rcases h with rfl | rfl | rfl | rfl | rfl <;> rfl
/-- A drawn piece; C: the numbers that a call may bear; D: the addresses of data. -/
inductive Dpc (f : Int) (C D : Int → Prop) : List Ins → Prop where
  | alu (n a b c : Int) (hn : (31 ≤ n ∧ n ≤ 40) ∨ (50 ≤ n ∧ n ≤ 62)) (ha : RegP a) (hb : RegP b) (hc : RegP c) : Dpc f C D [(n, a, b, c, 0)]
  | imm (a b i : Int) (ha : RegP a) (hb : RegP b) (hi : -8 ≤ i ∧ i ≤ 31) : Dpc f C D [(22, a, b, 0, i)]
  | data (a d : Int) (ha : RegP a) (hd : D d) : Dpc f C D [(1, 13, 0, 0, d / 4096 * 4096), (14, a, 13, 0, d % 4096), (22, a, a, 0, 1), (21, 0, 13, a, d % 4096)]
  | stack (a b c i k : Int) (ha : RegP a) (hb : RegP b) (hc : RegP c) (hi : -8 ≤ i ∧ i ≤ 31) (hk : 0 ≤ k ∧ 8 * k ≤ f - 16) : Dpc f C D [(21, 0, 2, b, 8 * k), (22, a, b, 0, i), (14, c, 2, 0, 8 * k)]
  | call (i : Int) (hi : C i) : Dpc f C D [(3, 1, 0, 0, i)]
  | out : Dpc f C D [(22, 17, 0, 0, 3), (63, 0, 0, 0, 0)]
  | skip (n a b i : Int) (hn : 5 ≤ n ∧ n ≤ 10) (ha : RegP a) (hb : RegP b) (hi : -8 ≤ i ∧ i ≤ 31) : Dpc f C D [(n, 0, a, b, 8), (22, a, b, 0, i)]
  | turn (k a b i : Int) (hk : 1 ≤ k ∧ k ≤ 4) (ha : RegP a) (hb : RegP b) (hi : -8 ≤ i ∧ i ≤ 31) : Dpc f C D [(22, 9, 0, 0, k), (22, a, b, 0, i), (22, 9, 9, 0, -1), (6, 0, 9, 0, -8)]
  | sys (v x y : Int) (hv : 1 ≤ v ∧ v ≤ 12) (hx : 0 ≤ x ∧ x ≤ 4) (hy : 0 ≤ y ∧ y ≤ 3) : Dpc f C D [(22, 17, 0, 0, v), (22, 10, 0, 0, x), (22, 11, 0, 0, y), (63, 0, 0, 0, 0)]
theorem Dpc.len {f : Int} {C D : Int → Prop} {l : List Ins} (h : Dpc f C D l) : 1 ≤ l.length ∧ l.length ≤ 4 := by cases h <;> simp
def DatP (d : Int) : Prop := 0 ≤ d ∧ d ≤ 1048575 ∧ d % 8 = 0 ∧ d % 4096 ≤ 2047
def CalP (c : Int) : Prop := -1099511627776 ≤ c ∧ c ≤ 1099511627776
theorem body_ok {K : Nat} {s : Src} (h : SrcOK (K + 24) s) (i a f : Int) (calls datas : List Int) (hf : FrmP f) (hi : 0 ≤ i ∧ i ≤ 1000) (ha : 0 ≤ a ∧ a ≤ 1048575) (hc : ∀ c ∈ calls, CalP c) (hd : ∀ d ∈ datas, DatP d) (hcl : calls.length ≤ 256) (hdl : datas.length ≤ 256) :
    ∃ (l : List Ins) (t : Src), spec_l00Src_body s i a f calls datas = some (l, t) ∧ Dpc f (fun m => ∃ c ∈ calls, m = c - a - 4 * i) (· ∈ datas) l ∧ SrcOK K t := by
  obtain ⟨ra, s1, e1, r1, h1⟩ := reg_ok (h.mono (show K + 21 + 3 ≤ K + 24 by omega))
  obtain ⟨rb, s2, e2, r2, h2⟩ := reg_ok (h1.mono (show K + 18 + 3 ≤ K + 21 by omega))
  obtain ⟨rc, s3, e3, r3, h3⟩ := reg_ok (h2.mono (show K + 15 + 3 ≤ K + 18 by omega))
  obtain ⟨v4, s4, e4, p4, q4, _, h4⟩ := next_ok (h3.mono (show K + 12 + 3 ≤ K + 15 by omega)) 40
  obtain ⟨v5, s5, e5, p5, q5, _, h5⟩ := next_ok (h4.mono (show K + 9 + 3 ≤ K + 12 by omega)) 11
  have q4 := q4 (by decide); have q5 := q5 (by decide)
  have him : -8 ≤ v4 - 8 ∧ v4 - 8 ≤ 31 := by omega
  rw [spec_l00Src_body_eq, e1]; simp only [Option.bind_some]
  rw [e2]; simp only [Option.bind_some]
  rw [e3]; simp only [Option.bind_some]
  rw [e4]; simp only [Option.bind_some]
  rw [e5]; simp only [Option.bind_some, joinB]
  rw [w64 (n := v4 - 8) (by omega) (by omega), w64 (n := 4 * i) (by omega) (by omega)]
  have plain : ∃ (l : List Ins) (t : Src), some ([((22 : Int), ra, rb, (0 : Int), v4 - 8)], s5) = some (l, t) ∧ Dpc f (fun m => ∃ c ∈ calls, m = c - a - 4 * i) (· ∈ datas) l ∧ SrcOK K t := ⟨_, _, rfl, .imm _ _ _ r1 r2 him, h5.mono (by omega)⟩
  have : v5 = 0 ∨ v5 = 1 ∨ (v5 = 2 ∨ v5 = 3) ∨ v5 = 4 ∨ (v5 = 5 ∨ v5 = 6) ∨ v5 = 7 ∨ v5 = 8 ∨ v5 = 9 ∨ v5 = 10 := by omega
  rcases this with rfl | rfl | h23 | rfl | h56 | rfl | rfl | rfl | rfl
  · obtain ⟨v, t, e, p, q, _, ht⟩ := next_ok (h5.mono (show K + 6 + 3 ≤ K + 9 by omega)) 10
    have q := q (by decide)
    simp only [decide_true, cond_true, e, Option.bind_some]
    rw [w64 (n := 31 + v) (by omega) (by omega)]
    exact ⟨_, _, rfl, .alu _ _ _ _ (.inl (by omega)) r1 r2 r3, ht.mono (by omega)⟩
  · obtain ⟨v, t, e, p, q, _, ht⟩ := next_ok (h5.mono (show K + 6 + 3 ≤ K + 9 by omega)) 13
    have q := q (by decide)
    simp only [show decide ((1 : Int) = 0) = false from rfl, decide_true, cond_true, cond_false, e, Option.bind_some]
    rw [w64 (n := 50 + v) (by omega) (by omega)]
    exact ⟨_, _, rfl, .alu _ _ _ _ (.inr (by omega)) r1 r2 r3, ht.mono (by omega)⟩
  · have hdat : ∃ (l : List Ins) (t : Src), (bif decide ((datas.length : Int) > 0) then ((spec_l00Src_next s5 (datas.length : Int)).bind fun r9 => bif inL r9.1 (datas.length) then some ([((1 : Int), (13 : Int), (0 : Int), (0 : Int), (IntKind.wrap .i64 ((IntKind.wrap .i64 ((rd (τ := (.int .i64)) datas r9.1).tdiv 4096)) * 4096))), (14, ra, 13, 0, ((rd (τ := (.int .i64)) datas r9.1).tmod 4096)), (22, ra, ra, 0, 1), (21, 0, 13, ra, ((rd (τ := (.int .i64)) datas r9.1).tmod 4096))], r9.2) else none) else some ([(22, ra, rb, 0, v4 - 8)], s5)) = some (l, t) ∧ Dpc f (fun m => ∃ c ∈ calls, m = c - a - 4 * i) (· ∈ datas) l ∧ SrcOK K t := by
      by_cases hdn : (datas.length : Int) > 0
      · obtain ⟨v, t, e, p, q, _, ht⟩ := next_ok (h5.mono (show K + 6 + 3 ≤ K + 9 by omega)) (datas.length : Int)
        have q := q (by omega)
        rw [decide_eq_true hdn, e]
        simp only [cond_true, Option.bind_some]
        rw [inL_true p q]
        simp only [cond_true]
        obtain ⟨k, rfl⟩ : ∃ k : Nat, v = k := ⟨v.toNat, by omega⟩
        have hk : k < datas.length := by omega
        rw [rd_nat (τ := .int .i64) datas k hk]
        have hdk := hd _ (List.getElem_mem hk)
        have hmem : (datas[k] : Int) ∈ datas := List.getElem_mem hk
        generalize (datas[k] : Int) = d at *
        obtain ⟨d0, d1, d2, d3⟩ := hdk
        rw [Int.tdiv_eq_ediv_of_nonneg d0, Int.tmod_eq_emod_of_nonneg d0, w64 (n := d / 4096) (by omega) (by omega), w64 (n := d / 4096 * 4096) (by omega) (by omega)]
        exact ⟨_, _, rfl, .data _ _ r1 hmem, ht.mono (by omega)⟩
      · rw [decide_eq_false hdn]; exact plain
    rcases h23 with rfl | rfl <;> exact hdat
  · simp only [show decide ((4 : Int) = 0) = false from rfl, show decide ((4 : Int) = 1) = false from rfl, show decide ((4 : Int) = 2) = false from rfl, show decide ((4 : Int) = 3) = false from rfl, decide_true, cond_true, cond_false]
    by_cases hf3 : f ≥ 32
    · have ht8 : f.tdiv 8 = f / 8 := Int.tdiv_eq_ediv_of_nonneg (by omega)
      have hfr : f ≤ 128 ∧ f % 8 = 0 := by rcases hf with rfl | rfl | rfl | rfl | rfl <;> decide
      obtain ⟨v, t, e, p, q, _, ht⟩ := next_ok (h5.mono (show K + 6 + 3 ≤ K + 9 by omega)) (f / 8 - 1)
      have q := q (by omega)
      rw [decide_eq_true hf3, ht8, w64 (n := f / 8) (by omega) (by omega), w64 (n := f / 8 - 1) (by omega) (by omega), e]
      simp only [cond_true, Option.bind_some]
      rw [w64 (n := 8 * v) (by omega) (by omega)]
      exact ⟨_, _, rfl, .stack _ _ _ _ _ r1 r2 r3 him ⟨p, by omega⟩, ht.mono (by omega)⟩
    · rw [decide_eq_false hf3]; exact plain
  · have hcal : ∃ (l : List Ins) (t : Src), (bif decide ((calls.length : Int) > 0) then ((spec_l00Src_next s5 (calls.length : Int)).bind fun r12 => bif inL r12.1 (calls.length) then some ([((3 : Int), (1 : Int), (0 : Int), (0 : Int), (IntKind.wrap .i64 ((IntKind.wrap .i64 ((rd (τ := (.int .i64)) calls r12.1) - a)) - (4 * i))))], r12.2) else none) else some ([(22, ra, rb, 0, v4 - 8)], s5)) = some (l, t) ∧ Dpc f (fun m => ∃ c ∈ calls, m = c - a - 4 * i) (· ∈ datas) l ∧ SrcOK K t := by
      by_cases hcn : (calls.length : Int) > 0
      · obtain ⟨v, t, e, p, q, _, ht⟩ := next_ok (h5.mono (show K + 6 + 3 ≤ K + 9 by omega)) (calls.length : Int)
        have q := q (by omega)
        rw [decide_eq_true hcn, e]
        simp only [cond_true, Option.bind_some]
        rw [inL_true p q]
        simp only [cond_true]
        obtain ⟨k, rfl⟩ : ∃ k : Nat, v = k := ⟨v.toNat, by omega⟩
        have hk : k < calls.length := by omega
        rw [rd_nat (τ := .int .i64) calls k hk]
        have hck := hc _ (List.getElem_mem hk)
        have hmem : (calls[k] : Int) ∈ calls := List.getElem_mem hk
        generalize (calls[k] : Int) = c at *
        obtain ⟨c0, c1⟩ := hck
        rw [w64 (n := c - a) (by omega) (by omega), w64 (n := c - a - 4 * i) (by omega) (by omega)]
        exact ⟨_, _, rfl, .call _ ⟨c, hmem, rfl⟩, ht.mono (by omega)⟩
      · rw [decide_eq_false hcn]; exact plain
    rcases h56 with rfl | rfl <;> exact hcal
  · exact ⟨_, _, rfl, .out, h5.mono (by omega)⟩
  · obtain ⟨v, t, e, p, q, _, ht⟩ := next_ok (h5.mono (show K + 6 + 3 ≤ K + 9 by omega)) 6
    have q := q (by decide)
    simp only [e, Option.bind_some]
    rw [w64 (n := 5 + v) (by omega) (by omega)]
    exact ⟨_, _, rfl, .skip _ _ _ _ (by omega) r1 r2 him, ht.mono (by omega)⟩
  · obtain ⟨v, t, e, p, q, _, ht⟩ := next_ok (h5.mono (show K + 6 + 3 ≤ K + 9 by omega)) 4
    have q := q (by decide)
    simp only [e, Option.bind_some]
    rw [w64 (n := 1 + v) (by omega) (by omega)]
    exact ⟨_, _, rfl, .turn _ _ _ _ (by omega) r1 r2 him, ht.mono (by omega)⟩
  · obtain ⟨v, t, e, p, q, _, ht⟩ := next_ok (h5.mono (show K + 6 + 3 ≤ K + 9 by omega)) 12
    obtain ⟨v', t', e', p', q', _, ht'⟩ := next_ok (ht.mono (show K + 3 + 3 ≤ K + 6 by omega)) 5
    obtain ⟨v'', t'', e'', p'', q'', _, ht''⟩ := next_ok (ht'.mono (show K + 3 ≤ K + 3 by omega)) 4
    have q := q (by decide); have q' := q' (by decide); have q'' := q'' (by decide)
    simp only [e, e', e'', Option.bind_some]
    rw [w64 (n := 1 + v) (by omega) (by omega)]
    exact ⟨_, _, rfl, .sys _ _ _ (by omega) (by omega) (by omega), ht''⟩
/-- Pieces one behind another; i: the number of the first instruction. -/
inductive Dpcs (f : Int) (C : Int → Int → Prop) (D : Int → Prop) : Int → List Ins → Prop where
  | nil (i : Int) : Dpcs f C D i []
  | cons (i : Int) (l m : List Ins) (h : Dpc f (C i) D l) (k : Dpcs f C D (i + l.length) m) : Dpcs f C D i (l ++ m)
theorem Dpcs.snoc {f : Int} {C : Int → Int → Prop} {D : Int → Prop} : ∀ {i : Int} {l m : List Ins}, Dpcs f C D i l → Dpc f (C (i + l.length)) D m → Dpcs f C D i (l ++ m) := by
  intro i l m h k
  induction h with
  | nil i =>
    have := Dpcs.cons i m [] (by simpa using k) (.nil _)
    simpa using this
  | cons i l' m' h' _ ih =>
    rw [List.append_assoc]
    refine .cons i l' (m' ++ m) h' (ih ?_)
    rw [List.length_append] at k
    have : i + ((l'.length + m'.length : Nat) : Int) = i + (l'.length : Int) + (m'.length : Int) := by omega
    rw [this] at k; exact k
def proL (f : Int) : List Ins := [(22, 2, 2, 0, 0 - f), (21, 0, 2, 1, f - 8)]
def epiL (f : Int) : List Ins := [(14, 1, 2, 0, f - 8), (22, 2, 2, 0, f), (4, 0, 1, 0, 0)]
theorem FrmP.range {f : Int} (h : FrmP f) : 16 ≤ f ∧ f ≤ 128 ∧ f % 16 = 0 := by rcases h with rfl | rfl | rfl | rfl | rfl <;> decide
theorem pro_val {f : Int} (h : FrmP f) : spec_l06Prologue f = some (proL f) := by
  have := h.range
  rw [spec_l06Prologue_eq, w64 (n := 0 - f) (by omega) (by omega), w64 (n := f - 8) (by omega) (by omega)]; rfl
theorem epi_val {f : Int} (h : FrmP f) : spec_l06Epilogue f = some (epiL f) := epi_s f ⟨h.range.1, h.range.2.1⟩
theorem function_ok2 {K : Nat} {s : Src} (n : Nat) (h : SrcOK (K + 24 * n) s) (a f : Int) (calls datas : List Int) (hf : FrmP f) (ha : 0 ≤ a ∧ a ≤ 1048575) (hc : ∀ c ∈ calls, CalP c) (hd : ∀ d ∈ datas, DatP d) (hcl : calls.length ≤ 256) (hdl : datas.length ≤ 256) (hn : n ≤ 1000) :
    ∃ (b : List Ins) (t : Src), spec_l00Src_function s a f (n : Int) calls datas = some (proL f ++ b ++ epiL f, t) ∧ Dpcs f (fun i m => ∃ c ∈ calls, m = c - a - 4 * i) (· ∈ datas) 2 b ∧ b.length ≤ 51 ∧ (1 ≤ n → 1 ≤ b.length) ∧ b.length ≤ 4 * n ∧ SrcOK K t := by
  rw [spec_l00Src_function_eq, pro_val hf]
  simp only [Option.bind_some]
  have key : ∀ (k j : Nat) (s : Src) (b : List Ins), j + k = n → SrcOK (K + 24 * k) s → b.length ≤ 51 → (1 ≤ j → 1 ≤ b.length) → b.length ≤ 4 * j → Dpcs f (fun i m => ∃ c ∈ calls, m = c - a - 4 * i) (· ∈ datas) 2 b →
      ∃ (d : List Ins) (t : Src), spec_l00Src_function.l11010 s a f (n : Int) calls datas (proL f ++ b) (j : Int) = some (proL f ++ d ++ epiL f, t) ∧ Dpcs f (fun i m => ∃ c ∈ calls, m = c - a - 4 * i) (· ∈ datas) 2 d ∧ d.length ≤ 51 ∧ (1 ≤ n → 1 ≤ d.length) ∧ d.length ≤ 4 * n ∧ SrcOK K t := by
    intro k
    induction k with
    | zero =>
      intro j s b hj hs hb hb1 hb4 hp
      have hjn : j = n := by omega
      subst hjn
      rw [spec_l00Src_function.l11010_eq, joinB, lt_nat, decide_eq_false (Nat.lt_irrefl _)]
      simp only [cond_false]
      rw [epi_val hf]
      simp only [Option.bind_some]
      rw [room_le (by simp [proL, epiL]; omega) (by simp [proL, epiL]; omega), cond_true]
      exact ⟨b, s, rfl, hp, hb, hb1, hb4, hs.mono (by omega)⟩
    | succ k ih =>
      intro j s b hj hs hb hb1 hb4 hp
      rw [spec_l00Src_function.l11010_eq, joinB, lt_nat, decide_eq_true (show j < n by omega)]
      simp only [cond_true]
      by_cases hlen : ((proL f ++ b).length : Int) < 50
      · have hl2 : (proL f ++ b).length = b.length + 2 := by simp [proL]
        obtain ⟨l, s', e, hl, hs'⟩ := body_ok (hs.mono (show K + 24 * k + 24 ≤ K + 24 * (k + 1) by omega)) (((proL f ++ b).length : Nat) : Int) a f calls datas hf (by omega) ha hc hd hcl hdl
        have hll := hl.len
        rw [decide_eq_true hlen, e]
        simp only [cond_true, Option.bind_some]
        rw [room_le (by omega) (by omega), cond_true, w64_succ j n (by omega) (by omega), List.append_assoc]
        refine ih (j + 1) s' (b ++ l) (by omega) hs' (by rw [List.length_append]; omega) (fun _ => by rw [List.length_append]; omega) (by rw [List.length_append]; omega) (hp.snoc ?_)
        have e2 : (((proL f ++ b).length : Nat) : Int) = 2 + (b.length : Int) := by omega
        rw [e2] at hl
        exact hl
      · rw [decide_eq_false hlen]
        simp only [cond_false]
        rw [epi_val hf]
        simp only [Option.bind_some]
        have hl2 : (proL f ++ b).length = b.length + 2 := by simp [proL]
        rw [room_le (by simp [proL, epiL]; omega) (by simp [proL, epiL]; omega), cond_true]
        exact ⟨b, s, rfl, hp, hb, fun _ => by omega, by omega, hs.mono (by omega)⟩
  have := key n 0 s [] (by omega) h (by simp) (by omega) (by simp) (.nil _)
  rw [List.append_nil] at this
  exact this
/-- An instruction of a drawn function's body; i: its number; lo, hi: where its jumps may go. -/
def InsF (f : Int) (C : Int → Int → Prop) (lo hi i : Int) (x : Ins) : Prop :=
  (∃ m, x = (3, 1, 0, 0, m) ∧ C i m) ∨
  (rightV x = true ∧ x.1 ≠ 3 ∧ x.1 ≠ 4 ∧ x.2.1 ≠ 1 ∧ x.2.1 ≠ 2 ∧ (5 ≤ x.1 → x.1 ≤ 10 → x.2.2.2.2 % 4 = 0 ∧ lo ≤ i + x.2.2.2.2 / 4 ∧ i + x.2.2.2.2 / 4 ≤ hi) ∧ (11 ≤ x.1 → x.1 ≤ 21 → x.2.2.1 = 2 → 0 ≤ x.2.2.2.2 ∧ x.2.2.2.2 ≤ f - 8 - (widV x.1).1 ∧ x.2.2.2.2 % (widV x.1).1 = 0))
theorem InsF.mono {f : Int} {C : Int → Int → Prop} {lo hi lo' hi' i : Int} {x : Ins} (h : InsF f C lo hi i x) (h1 : lo' ≤ lo) (h2 : hi ≤ hi') : InsF f C lo' hi' i x := by
  rcases h with h | ⟨a, b, c, d, e, g, k⟩
  · exact .inl h
  · exact .inr ⟨a, b, c, d, e, fun p q => by obtain ⟨u, v, w⟩ := g p q; exact ⟨u, by omega, by omega⟩, k⟩
theorem RegP.range {a : Int} (h : RegP a) : 0 ≤ a ∧ a ≤ 31 ∧ a ≠ 1 ∧ a ≠ 2 := by rcases h with rfl | rfl | rfl | rfl | rfl | rfl | rfl <;> decide
theorem form8 {n : Int} (h : (31 ≤ n ∧ n ≤ 40) ∨ (50 ≤ n ∧ n ≤ 62)) : (shp n).1 = 8 := by
  obtain ⟨k, rfl⟩ := fin65 (n := n) (by omega) (by omega)
  revert k
  decide
theorem form4 {n : Int} (h : 5 ≤ n ∧ n ≤ 10) : (shp n).1 = 4 := by
  obtain ⟨k, rfl⟩ := fin65 (n := n) (by omega) (by omega)
  revert k
  decide
theorem right_of {n d a b i : Int} (f : Int) (hf : (shp n).1 = f) (hn : 1 ≤ n ∧ n ≤ 64) (hd : 0 ≤ d ∧ d ≤ 31) (ha : 0 ≤ a ∧ a ≤ 31) (hb : 0 ≤ b ∧ b ≤ 31) (g1 : (fieldsV f).1 = true ∨ d = 0) (g2 : (fieldsV f).2.1 = true ∨ a = 0) (g3 : (fieldsV f).2.2 = true ∨ b = 0) (hi : immR f i = true) : rightV (n, d, a, b, i) = true := by
  simp only [rightV, Bool.and_eq_true, Bool.or_eq_true, decide_eq_true_eq, hf]
  exact ⟨⟨⟨⟨⟨⟨⟨⟨⟨⟨⟨hn.1, hn.2⟩, hd.1⟩, hd.2⟩, ha.1⟩, ha.2⟩, hb.1⟩, hb.2⟩, g1⟩, g2⟩, g3⟩, hi⟩
theorem imm3 {i : Int} (h : -2048 ≤ i ∧ i ≤ 2047) : immR 3 i = true := by simp [immR]; omega
theorem imm5 {i : Int} (h : -2048 ≤ i ∧ i ≤ 2047) : immR 5 i = true := by simp [immR]; omega
theorem imm4 {i : Int} (h : -4096 ≤ i ∧ i ≤ 4094 ∧ i % 2 = 0) : immR 4 i = true := by simp [immR]; omega
theorem imm1 {i : Int} (h : -2147483648 ≤ i ∧ i ≤ 2147479552 ∧ i % 4096 = 0) : immR 1 i = true := by simp [immR]; omega
theorem r22 {a b i : Int} (ha : 0 ≤ a ∧ a ≤ 31) (hb : 0 ≤ b ∧ b ≤ 31) (h : -2048 ≤ i ∧ i ≤ 2047) : rightV (22, a, b, 0, i) = true := right_of 3 rfl (by decide) ha hb (by decide) (.inl rfl) (.inl rfl) (.inr rfl) (imm3 h)
theorem r14 {a b i : Int} (ha : 0 ≤ a ∧ a ≤ 31) (hb : 0 ≤ b ∧ b ≤ 31) (h : -2048 ≤ i ∧ i ≤ 2047) : rightV (14, a, b, 0, i) = true := right_of 3 rfl (by decide) ha hb (by decide) (.inl rfl) (.inl rfl) (.inr rfl) (imm3 h)
theorem r21 {a b i : Int} (ha : 0 ≤ a ∧ a ≤ 31) (hb : 0 ≤ b ∧ b ≤ 31) (h : -2048 ≤ i ∧ i ≤ 2047) : rightV (21, 0, a, b, i) = true := right_of 5 rfl (by decide) (by decide) ha hb (.inr rfl) (.inl rfl) (.inl rfl) (imm5 h)
theorem r1 {a i : Int} (ha : 0 ≤ a ∧ a ≤ 31) (h : -2147483648 ≤ i ∧ i ≤ 2147479552 ∧ i % 4096 = 0) : rightV (1, a, 0, 0, i) = true := right_of 1 rfl (by decide) ha (by decide) (by decide) (.inl rfl) (.inr rfl) (.inr rfl) (imm1 h)
theorem r8 {n a b c : Int} (h : (31 ≤ n ∧ n ≤ 40) ∨ (50 ≤ n ∧ n ≤ 62)) (ha : 0 ≤ a ∧ a ≤ 31) (hb : 0 ≤ b ∧ b ≤ 31) (hc : 0 ≤ c ∧ c ≤ 31) : rightV (n, a, b, c, 0) = true := right_of 8 (form8 h) (by omega) ha hb hc (.inl rfl) (.inl rfl) (.inl rfl) rfl
theorem rbr {n a b i : Int} (h : 5 ≤ n ∧ n ≤ 10) (ha : 0 ≤ a ∧ a ≤ 31) (hb : 0 ≤ b ∧ b ≤ 31) (hi : -4096 ≤ i ∧ i ≤ 4094 ∧ i % 2 = 0) : rightV (n, 0, a, b, i) = true := right_of 4 (form4 h) (by omega) (by decide) ha hb (.inr rfl) (.inl rfl) (.inl rfl) (imm4 hi)
theorem r63 : rightV (63, 0, 0, 0, 0) = true := by decide +kernel
theorem InsF.plain {f : Int} {C : Int → Int → Prop} {lo hi i n a b c m : Int} (hr : rightV (n, a, b, c, m) = true) (hn : n = 1 ∨ 22 ≤ n) (ha : a ≠ 1 ∧ a ≠ 2) : InsF f C lo hi i (n, a, b, c, m) := by
  refine .inr ⟨hr, ?_, ?_, ha.1, ha.2, fun h h' => ?_, fun h h' => ?_⟩ <;> simp only at * <;> omega
theorem InsF.mem {f : Int} {C : Int → Int → Prop} {lo hi i n a b c m : Int} (hr : rightV (n, a, b, c, m) = true) (hn : 11 ≤ n ∧ n ≤ 21) (ha : a ≠ 1 ∧ a ≠ 2) (hb : b = 2 → 0 ≤ m ∧ m ≤ f - 8 - (widV n).1 ∧ m % (widV n).1 = 0) : InsF f C lo hi i (n, a, b, c, m) := by
  refine .inr ⟨hr, ?_, ?_, ha.1, ha.2, fun h h' => ?_, fun h h' h2 => hb h2⟩ <;> simp only at * <;> omega
theorem InsF.br {f : Int} {C : Int → Int → Prop} {lo hi i n b c m : Int} (hr : rightV (n, 0, b, c, m) = true) (hn : 5 ≤ n ∧ n ≤ 10) (hm : m % 4 = 0 ∧ lo ≤ i + m / 4 ∧ i + m / 4 ≤ hi) : InsF f C lo hi i (n, 0, b, c, m) := by
  refine .inr ⟨hr, ?_, ?_, by simp, by simp, fun h h' => hm, fun h h' => ?_⟩ <;> simp only at * <;> omega
theorem Dpc.ins {f : Int} {C : Int → Int → Prop} {D : Int → Prop} (hD : ∀ d, D d → DatP d) (hf : FrmP f) {i : Int} {l : List Ins} (h : Dpc f (C i) D l) : ∀ (j : Nat) (x : Ins), l[j]? = some x → InsF f C i (i + l.length) (i + j) x := by
  have hfr := hf.range
  cases h with
  | alu n a b c hn ha hb hc =>
    have := ha.range; have := hb.range; have := hc.range
    intro j x e
    match j, e with
    | 0, e => cases e; exact .plain (r8 hn (by omega) (by omega) (by omega)) (by omega) (by omega)
  | imm a b m ha hb hi =>
    have := ha.range; have := hb.range
    intro j x e
    match j, e with
    | 0, e => cases e; exact .plain (r22 (by omega) (by omega) (by omega)) (by omega) (by omega)
  | data a d ha hd =>
    have := ha.range
    obtain ⟨d0, d1, d2, d3⟩ := hD d hd
    intro j x e
    match j, e with
    | 0, e => cases e; exact .plain (r1 (by omega) (by omega)) (by omega) (by omega)
    | 1, e => cases e; exact .mem (r14 (by omega) (by omega) (by omega)) (by omega) (by omega) (by omega)
    | 2, e => cases e; exact .plain (r22 (by omega) (by omega) (by omega)) (by omega) (by omega)
    | 3, e => cases e; exact .mem (r21 (by omega) (by omega) (by omega)) (by omega) (by omega) (by omega)
  | stack a b c m k ha hb hc hi hk =>
    have := ha.range; have := hb.range; have := hc.range
    intro j x e
    match j, e with
    | 0, e => cases e; exact .mem (r21 (by omega) (by omega) (by omega)) (by omega) (by omega) (fun _ => by simp [widV]; omega)
    | 1, e => cases e; exact .plain (r22 (by omega) (by omega) (by omega)) (by omega) (by omega)
    | 2, e => cases e; exact .mem (r14 (by omega) (by omega) (by omega)) (by omega) (by omega) (fun _ => by simp [widV]; omega)
  | call m hm =>
    intro j x e
    match j, e with
    | 0, e => cases e; exact .inl ⟨m, rfl, by simpa using hm⟩
  | out =>
    intro j x e
    match j, e with
    | 0, e => cases e; exact .plain (r22 (by omega) (by omega) (by omega)) (by omega) (by omega)
    | 1, e => cases e; exact .plain r63 (by omega) (by omega)
  | skip n a b m hn ha hb hi =>
    have := ha.range; have := hb.range
    intro j x e
    match j, e with
    | 0, e => cases e; exact .br (rbr hn (by omega) (by omega) (by omega)) hn (by simp; omega)
    | 1, e => cases e; exact .plain (r22 (by omega) (by omega) (by omega)) (by omega) (by omega)
  | turn k a b m hk ha hb hi =>
    have := ha.range; have := hb.range
    intro j x e
    match j, e with
    | 0, e => cases e; exact .plain (r22 (by omega) (by omega) (by omega)) (by omega) (by omega)
    | 1, e => cases e; exact .plain (r22 (by omega) (by omega) (by omega)) (by omega) (by omega)
    | 2, e => cases e; exact .plain (r22 (by omega) (by omega) (by omega)) (by omega) (by omega)
    | 3, e => cases e; exact .br (rbr (by omega) (by omega) (by omega) (by omega)) (by omega) (by simp; omega)
  | sys v x y hv hx hy =>
    intro j x e
    match j, e with
    | 0, e => cases e; exact .plain (r22 (by omega) (by omega) (by omega)) (by omega) (by omega)
    | 1, e => cases e; exact .plain (r22 (by omega) (by omega) (by omega)) (by omega) (by omega)
    | 2, e => cases e; exact .plain (r22 (by omega) (by omega) (by omega)) (by omega) (by omega)
    | 3, e => cases e; exact .plain r63 (by omega) (by omega)
theorem Dpcs.ins {f : Int} {C : Int → Int → Prop} {D : Int → Prop} (hD : ∀ d, D d → DatP d) (hf : FrmP f) {s : Int} {b : List Ins} (h : Dpcs f C D s b) : ∀ (j : Nat) (x : Ins), b[j]? = some x → InsF f C s (s + b.length) (s + j) x := by
  induction h with
  | nil i => intro j x e; cases e
  | cons i l m h k ih =>
    intro j x e
    rw [List.length_append]
    by_cases hj : j < l.length
    · rw [List.getElem?_append_left hj] at e
      exact (h.ins hD hf j x e).mono (Int.le_refl _) (by omega)
    · rw [List.getElem?_append_right (by omega)] at e
      have := ih (j - l.length) x e
      have e1 : i + (l.length : Int) + ((j - l.length : Nat) : Int) = i + (j : Int) := by omega
      rw [e1] at this
      exact this.mono (by omega) (by omega)
def funL (f : Int) (b : List Ins) : List Ins := proL f ++ b ++ epiL f
theorem funL_length (f : Int) (b : List Ins) : (funL f b).length = b.length + 5 := by simp [funL, proL, epiL]
theorem funL_cases (f : Int) (b : List Ins) (i : Nat) (x : Ins) (h : (funL f b)[i]? = some x) :
    (i = 0 ∧ x = (22, 2, 2, 0, 0 - f)) ∨ (i = 1 ∧ x = (21, 0, 2, 1, f - 8)) ∨ (∃ j, i = j + 2 ∧ j < b.length ∧ b[j]? = some x) ∨ (i = b.length + 2 ∧ x = (14, 1, 2, 0, f - 8)) ∨ (i = b.length + 3 ∧ x = (22, 2, 2, 0, f)) ∨ (i = b.length + 4 ∧ x = (4, 0, 1, 0, 0)) := by
  unfold funL proL epiL at h
  match i with
  | 0 => exact .inl ⟨rfl, by cases h; rfl⟩
  | 1 => exact .inr (.inl ⟨rfl, by cases h; rfl⟩)
  | j + 2 =>
    right; right
    simp only [List.cons_append, List.nil_append, List.getElem?_cons_succ] at h
    by_cases hj : j < b.length
    · rw [List.getElem?_append_left hj] at h
      exact .inl ⟨j, rfl, hj, h⟩
    · rw [List.getElem?_append_right (by omega)] at h
      right
      obtain ⟨k, rfl⟩ : ∃ k, j = b.length + k := ⟨j - b.length, by omega⟩
      rw [Nat.add_sub_cancel_left] at h
      match k with
      | 0 => simp at h; exact .inl ⟨by omega, h.symm⟩
      | 1 => simp at h; exact .inr (.inl ⟨by omega, h.symm⟩)
      | 2 => simp at h; exact .inr (.inr ⟨by omega, h.symm⟩)
      | k + 3 => simp at h
theorem rd_get {xs : List Ins} {i : Nat} (h : i < xs.length) : ∃ x, xs[i]? = some x ∧ rd (τ := TIns) xs (i : Int) = x := ⟨xs[i], by simp [h], rd_nat (τ := TIns) xs i h⟩
theorem funL_end (f : Int) (b : List Ins) : rd (τ := TIns) (funL f b) ((b.length + 2 : Nat) : Int) = (14, 1, 2, 0, f - 8) ∧ rd (τ := TIns) (funL f b) ((b.length + 3 : Nat) : Int) = (22, 2, 2, 0, f) ∧ rd (τ := TIns) (funL f b) ((b.length + 4 : Nat) : Int) = (4, 0, 1, 0, 0) := by
  refine ⟨?_, ?_, ?_⟩ <;> apply rd_some (τ := TIns) <;> simp [funL, proL, epiL]
theorem funL_begin (f : Int) (b : List Ins) : rd (τ := TIns) (funL f b) 0 = (22, 2, 2, 0, 0 - f) ∧ rd (τ := TIns) (funL f b) 1 = (21, 0, 2, 1, f - 8) := by
  constructor
  · exact rd_some (τ := TIns) (funL f b) 0 _ (by simp [funL, proL])
  · exact rd_some (τ := TIns) (funL f b) 1 _ (by simp [funL, proL])
theorem ends_funL {f : Int} {C : Int → Int → Prop} {D : Int → Prop} (hD : ∀ d, D d → DatP d) (hf : FrmP f) {b : List Ins} (h : Dpcs f C D 2 b) (k : Int) : endsI (funL f b) f k = decide (k = (b.length : Int) + 2) := by
  by_cases hk : k = (b.length : Int) + 2
  · rw [decide_eq_true hk]
    obtain ⟨e1, e2, e3⟩ := funL_end f b
    unfold endsI
    rw [funL_length, show k = ((b.length + 2 : Nat) : Int) by omega, show ((b.length + 2 : Nat) : Int) + 1 = ((b.length + 3 : Nat) : Int) by omega, show ((b.length + 2 : Nat) : Int) + 2 = ((b.length + 4 : Nat) : Int) by omega, e1, e2, e3]
    simp; omega
  · rw [decide_eq_false hk]
    cases he : endsI (funL f b) f k with
    | false => rfl
    | true =>
      unfold endsI at he
      simp only [Bool.and_eq_true, decide_eq_true_eq, funL_length] at he
      obtain ⟨⟨⟨⟨h1, h2⟩, h3⟩, _⟩, _⟩ := he
      obtain ⟨i, rfl⟩ : ∃ i : Nat, k = i := ⟨k.toNat, by omega⟩
      obtain ⟨x, hx, hr⟩ := rd_get (xs := funL f b) (i := i) (by rw [funL_length]; omega)
      rw [hr] at h3
      rcases funL_cases f b i x hx with ⟨hi, _⟩ | ⟨hi, _⟩ | ⟨j, hi, hj, hb⟩ | ⟨hi, _⟩ | ⟨hi, _⟩ | ⟨hi, _⟩
      · omega
      · omega
      · have := h.ins hD hf j x hb
        rw [h3] at this
        rcases this with ⟨m, e, _⟩ | ⟨_, _, _, e, _⟩
        · cases e
        · exact absurd rfl e
      · omega
      · omega
      · omega
theorem funL_right {f : Int} {C : Int → Int → Prop} {D : Int → Prop} (hD : ∀ d, D d → DatP d) (hC : ∀ i m, C i m → rightV (3, 1, 0, 0, m) = true) (hf : FrmP f) {b : List Ins} (h : Dpcs f C D 2 b) : ∀ x ∈ funL f b, rightV x = true := by
  have hfr := hf.range
  intro x hx
  obtain ⟨i, hi⟩ := List.getElem?_of_mem hx
  rcases funL_cases f b i x hi with ⟨_, rfl⟩ | ⟨_, rfl⟩ | ⟨j, _, hj, hb⟩ | ⟨_, rfl⟩ | ⟨_, rfl⟩ | ⟨_, rfl⟩
  · exact r22 (by decide) (by decide) (by omega)
  · exact r21 (by decide) (by decide) (by omega)
  · rcases h.ins hD hf j x hb with ⟨m, rfl, hm⟩ | h
    · exact hC _ _ hm
    · exact h.1
  · exact r14 (by decide) (by decide) (by omega)
  · exact r22 (by decide) (by decide) (by omega)
  · decide +kernel
theorem right_ins {x : Ins} (h : rightV x = true) : InsR x := by
  obtain ⟨h1, hr, _⟩ := right_facts h
  exact ⟨h1.1, h1.2, hr, h⟩
theorem Dpc.mono {f : Int} {C C' D D' : Int → Prop} {l : List Ins} (hC : ∀ m, C m → C' m) (hD : ∀ d, D d → D' d) (h : Dpc f C D l) : Dpc f C' D' l := by
  cases h with
  | alu n a b c hn ha hb hc => exact .alu n a b c hn ha hb hc
  | imm a b i ha hb hi => exact .imm a b i ha hb hi
  | data a d ha hd => exact .data a d ha (hD d hd)
  | stack a b c i k ha hb hc hi hk => exact .stack a b c i k ha hb hc hi hk
  | call i hi => exact .call i (hC i hi)
  | out => exact .out
  | skip n a b i hn ha hb hi => exact .skip n a b i hn ha hb hi
  | turn k a b i hk ha hb hi => exact .turn k a b i hk ha hb hi
  | sys v x y hv hx hy => exact .sys v x y hv hx hy
theorem Dpcs.mono {f : Int} {C C' : Int → Int → Prop} {D D' : Int → Prop} (hC : ∀ i m, C i m → C' i m) (hD : ∀ d, D d → D' d) {i : Int} {l : List Ins} (h : Dpcs f C D i l) : Dpcs f C' D' i l := by
  induction h with
  | nil i => exact .nil i
  | cons i l m h _ ih => exact .cons i l m (h.mono (hC i) hD) ih
/-- Bytes. -/
def BytP (a : List Int) : Prop := ∀ x ∈ a, 0 ≤ x ∧ x ≤ 255
theorem enc_of {n d a b i : Int} (hn : 1 ≤ n ∧ n ≤ 64) (hd : 0 ≤ d ∧ d ≤ 31) (ha : 0 ≤ a ∧ a ≤ 31) (hb : 0 ≤ b ∧ b ≤ 31) (hi : -4611686018427387904 ≤ i ∧ i ≤ 4611686018427387904) (hu : (shp n).1 ≠ 1) : EncR (n, d, a, b, i) :=
  ⟨hn, ⟨hd, ha, hb, by simp only; omega⟩, fun e => absurd e hu⟩
theorem funL_enc {f : Int} {C : Int → Int → Prop} {D : Int → Prop} (hD : ∀ d, D d → DatP d) (hf : FrmP f) {b : List Ins} (h : Dpcs f C D 2 b) (hC : ∀ (j : Nat) (m : Int), j < b.length → C (2 + j) m → -4611686018427387904 ≤ m ∧ m ≤ 4611686018427387904) : ∀ x ∈ funL f b, EncR x := by
  have hfr := hf.range
  intro x hx
  obtain ⟨i, hi⟩ := List.getElem?_of_mem hx
  rcases funL_cases f b i x hi with ⟨_, rfl⟩ | ⟨_, rfl⟩ | ⟨j, _, hj, hb⟩ | ⟨_, rfl⟩ | ⟨_, rfl⟩ | ⟨_, rfl⟩
  · exact EncR.right (r22 (by decide) (by decide) (by omega))
  · exact EncR.right (r21 (by decide) (by decide) (by omega))
  · rcases h.ins hD hf j x hb with ⟨m, rfl, hm⟩ | h
    · have := hC j m hj hm
      exact enc_of (by decide) (by decide) (by decide) (by decide) this (by decide)
    · exact EncR.right h.1
  · exact EncR.right (r14 (by decide) (by decide) (by omega))
  · exact EncR.right (r22 (by decide) (by decide) (by omega))
  · exact EncR.right (by decide +kernel)
theorem size_app (a b : ByteArray) : (a ++ b).size = a.size + b.size := ByteArray.size_append
theorem allB_congr {p q : Nat → Bool} : ∀ k i, (∀ j, i ≤ j → j < i + k → p j = q j) → allB p i k = allB q i k
  | 0, _, _ => rfl
  | k + 1, i, h => by rw [allB, allB, h i (Nat.le_refl _) (by omega), allB_congr k (i + 1) fun j h1 h2 => h j (by omega) (by omega)]
def lOK (L : List (Int × Int)) : Bool := decide (L.length ≤ 64) && allB (fun i => bif baseV (rd (τ := TI2) L (i : Int)).1 then bif inR (rd (τ := TI2) L (i : Int)).2 0 15 then (decide (i = 0) || decide ((rd (τ := TI2) L ((i - 1 : Nat) : Int)).1 < (rd (τ := TI2) L (i : Int)).1)) else false else false) 0 L.length
theorem memV_memF (F : Int → Int) (L : List (Int × Int)) : memV (memF F L) = lOK L := by
  have hml : (memF F L).length = L.length := by simp [memF]
  unfold memV lOK
  rw [hml]
  congr 1
  apply allB_congr
  intro j _ hj
  have hj : j < L.length := by omega
  unfold memP
  rw [rd_mem F L j hj, rd_mem F L (j - 1) (by omega)]
  simp only [show ∀ q : Int × Int, (pageF F q).1 = q.1 from fun _ => rfl, show ∀ q : Int × Int, (pageF F q).2.1 = q.2 from fun _ => rfl, show ∀ q : Int × Int, (pageF F q).2.2 = pg F q.1 from fun _ => rfl, pg_size]
  rw [show decide (((128 : Nat) : Int) = 128) = true from rfl, cond_true]
/-- A call put right: S: the symbols; i: the function's number; k: the instruction's. -/
def fix1 (S : List Sym) (i : Int) (k : Int) (x : Ins) : Ins :=
  if x.1 = 3 ∧ x.2.1 = 1 then (x.1, x.2.1, x.2.2.1, x.2.2.2.1, (rd (τ := TSym) S ((x.2.2.2.2 + 4 * k) / 1000000 - 1)).2.2.1 - (rd (τ := TSym) S i).2.2.1 - 4 * k) else x
def fixL (S : List Sym) (i : Int) : Int → List Ins → List Ins
  | _, [] => []
  | k, x :: l => fix1 S i k x :: fixL S i (k + 1) l
theorem fixL_length (S : List Sym) (i : Int) : ∀ (l : List Ins) (k : Int), (fixL S i k l).length = l.length
  | [], _ => rfl
  | x :: l, k => by simp [fixL, fixL_length S i l]
theorem fixL_append (S : List Sym) (i : Int) : ∀ (l m : List Ins) (k : Int), fixL S i k (l ++ m) = fixL S i k l ++ fixL S i (k + l.length) m
  | [], m, k => by simp [fixL]
  | x :: l, m, k => by
    simp only [List.cons_append, fixL, fixL_append S i l m (k + 1), List.length_cons]
    rw [show k + 1 + (l.length : Int) = k + ((l.length + 1 : Nat) : Int) by omega]
theorem fixL_get (S : List Sym) (i : Int) : ∀ (l : List Ins) (k : Int) (j : Nat) (x : Ins), l[j]? = some x → (fixL S i k l)[j]? = some (fix1 S i (k + j) x)
  | [], _, _, _, h => by simp at h
  | y :: l, k, 0, x, h => by simp at h; subst h; simp [fixL]
  | y :: l, k, j + 1, x, h => by
    have := fixL_get S i l (k + 1) j x (by simpa using h)
    simp only [fixL, List.getElem?_cons_succ, this]
    rw [show k + 1 + (j : Int) = k + ((j + 1 : Nat) : Int) by omega]
theorem fix1_other {S : List Sym} {i k : Int} {x : Ins} (h : x.1 ≠ 3) : fix1 S i k x = x := by
  unfold fix1; rw [if_neg fun e => h e.1]
/-- Half way: the first k are put right. -/
def halfL (S : List Sym) (i : Int) (l : List Ins) (k : Nat) : List Ins := (fixL S i 0 l).take k ++ l.drop k
theorem half_zero (S : List Sym) (i : Int) (l : List Ins) : halfL S i l 0 = l := by simp [halfL]
theorem half_full (S : List Sym) (i : Int) (l : List Ins) : halfL S i l l.length = fixL S i 0 l := by
  unfold halfL
  rw [List.take_of_length_le (by rw [fixL_length]; exact Nat.le_refl _), List.drop_length, List.append_nil]
theorem half_length (S : List Sym) (i : Int) (l : List Ins) (k : Nat) (h : k ≤ l.length) : (halfL S i l k).length = l.length := by
  simp [halfL, fixL_length]; omega
theorem half_get (S : List Sym) (i : Int) (l : List Ins) (k : Nat) (h : k < l.length) : (halfL S i l k)[k]? = l[k]? := by
  unfold halfL
  rw [List.getElem?_append_right (by simp [fixL_length]; omega)]
  simp only [List.length_take, fixL_length, List.getElem?_drop]
  rw [show k + (k - min k l.length) = k by omega]
theorem half_succ (S : List Sym) (i : Int) (l : List Ins) (k : Nat) (h : k < l.length) : (halfL S i l k).set k (fix1 S i k l[k]) = halfL S i l (k + 1) := by
  unfold halfL
  have h1 : ((fixL S i 0 l).take k).length = k := by simp [fixL_length]; omega
  rw [List.set_append_right _ _ (by omega), h1, Nat.sub_self, List.drop_eq_getElem_cons h, List.set_cons_zero]
  have h2 : (fixL S i 0 l)[k]? = some (fix1 S i (0 + k) l[k]) := fixL_get S i l 0 k l[k] (by simp [h])
  rw [List.take_add_one, h2, Int.zero_add]
  simp
theorem half_same (S : List Sym) (i : Int) (l : List Ins) (k : Nat) (h : k < l.length) (he : fix1 S i k l[k] = l[k]) : halfL S i l (k + 1) = halfL S i l k := by
  rw [← half_succ S i l k h, he]
  have := half_get S i l k h
  apply List.ext_getElem? 
  intro j
  rw [List.getElem?_set]
  split
  · rename_i e
    subst e
    rw [half_length S i l k (by omega), if_pos h, this]; simp [h]
  · rfl
/-- Pieces with their calls put right. -/
theorem Dpc.fix {S : List Sym} {i f : Int} {C C' : Int → Prop} {D : Int → Prop} {k : Int} (hC : ∀ m, C m → C' ((rd (τ := TSym) S ((m + 4 * k) / 1000000 - 1)).2.2.1 - (rd (τ := TSym) S i).2.2.1 - 4 * k)) {l : List Ins} (h : Dpc f C D l) : Dpc f C' D (fixL S i k l) := by
  cases h with
  | alu n a b c hn ha hb hc =>
    simp only [fixL]; rw [fix1_other (by simp only; omega)]; exact .alu n a b c hn ha hb hc
  | imm a b i ha hb hi => simp only [fixL]; rw [fix1_other (by simp)]; exact .imm a b i ha hb hi
  | data a d ha hd =>
    simp only [fixL]
    rw [fix1_other (by simp), fix1_other (by simp), fix1_other (by simp), fix1_other (by simp)]; exact .data a d ha hd
  | stack a b c i k ha hb hc hi hk =>
    simp only [fixL]
    rw [fix1_other (by simp), fix1_other (by simp), fix1_other (by simp)]; exact .stack a b c i k ha hb hc hi hk
  | call m hm =>
    simp only [fixL, fix1, and_self, ↓reduceIte]
    exact .call _ (hC m hm)
  | out => simp only [fixL]; rw [fix1_other (by simp), fix1_other (by simp)]; exact .out
  | skip n a b i hn ha hb hi =>
    simp only [fixL]
    rw [fix1_other (by simp only; omega), fix1_other (by simp)]; exact .skip n a b i hn ha hb hi
  | turn k a b i hk ha hb hi =>
    simp only [fixL]
    rw [fix1_other (by simp), fix1_other (by simp), fix1_other (by simp), fix1_other (by simp)]; exact .turn k a b i hk ha hb hi
  | sys v x y hv hx hy =>
    simp only [fixL]
    rw [fix1_other (by simp), fix1_other (by simp), fix1_other (by simp), fix1_other (by simp)]; exact .sys v x y hv hx hy
theorem Dpcs.fix {S : List Sym} {i f : Int} {C C' : Int → Int → Prop} {D : Int → Prop} (hC : ∀ k m, C k m → C' k ((rd (τ := TSym) S ((m + 4 * k) / 1000000 - 1)).2.2.1 - (rd (τ := TSym) S i).2.2.1 - 4 * k)) {k : Int} {l : List Ins} (h : Dpcs f C D k l) : Dpcs f C' D k (fixL S i k l) := by
  induction h with
  | nil k => exact .nil k
  | cons k l m h _ ih =>
    rw [fixL_append]
    refine .cons k _ _ (h.fix (hC k)) ?_
    rw [fixL_length]; exact ih
theorem fix_funL (S : List Sym) (i f : Int) (b : List Ins) : fixL S i 0 (funL f b) = funL f (fixL S i 2 b) := by
  unfold funL
  rw [fixL_append, fixL_append]
  congr 1
/-- A function of an image: its frame, its instructions. -/
abbrev Fn : Type := Int × List Ins
def lenS : List Fn → Nat
  | [] => 0
  | p :: r => p.2.length + lenS r
def catL : List Fn → List Ins
  | [] => []
  | p :: r => p.2 ++ catL r
def nmL : List ByteArray := [(⟨#[109, 97, 105, 110]⟩ : ByteArray), (⟨#[119, 111, 114, 107]⟩ : ByteArray), (⟨#[108, 101, 97, 102]⟩ : ByteArray), (⟨#[116, 105, 99, 107]⟩ : ByteArray), (⟨#[112, 97, 100]⟩ : ByteArray), (⟨#[99, 97, 108, 99]⟩ : ByteArray)]
def nmV (k : Nat) : ByteArray := rd (τ := .str) nmL (k : Int)
def symA : Nat → Nat → List Fn → List Sym
  | _, _, [] => []
  | k, a, p :: r => (nmV k, 1, ((4 * a : Nat) : Int), ((4 * p.2.length : Nat) : Int), p.1) :: symA (k + 1) (a + p.2.length) r
theorem catL_length : ∀ l : List Fn, (catL l).length = lenS l
  | [] => rfl
  | q :: l => by simp [catL, lenS, catL_length l]
theorem catL_snoc : ∀ (l : List Fn) (p : Fn), catL (l ++ [p]) = catL l ++ p.2
  | [], p => by simp [catL]
  | q :: l, p => by simp [catL, catL_snoc l p]
theorem symA_snoc : ∀ (l : List Fn) (p : Fn) (k a : Nat), symA k a (l ++ [p]) = symA k a l ++ [(nmV (k + l.length), 1, ((4 * (a + lenS l) : Nat) : Int), ((4 * p.2.length : Nat) : Int), p.1)]
  | [], p, k, a => by simp [symA, lenS]
  | q :: l, p, k, a => by
    simp only [List.cons_append, symA, symA_snoc l p, List.length_cons, lenS]
    rw [show k + 1 + l.length = k + (l.length + 1) by omega, show a + q.2.length + lenS l = a + (q.2.length + lenS l) by omega]
theorem symA_length : ∀ (l : List Fn) (k a : Nat), (symA k a l).length = l.length
  | [], _, _ => rfl
  | q :: l, k, a => by simp [symA, symA_length l]
theorem lenS_le (l : List Fn) (m : Nat) (h : ∀ p ∈ l, p.2.length ≤ m) : lenS l ≤ m * l.length := by
  induction l with
  | nil => simp [lenS]
  | cons p l ih =>
    have h1 := h p (by simp)
    have h2 := ih fun q hq => h q (by simp [hq])
    simp only [lenS, List.length_cons, Nat.mul_add]; omega
/-- A drawn function. -/
def FnD (C : Int → Int → Prop) (D : Int → Prop) (p : Fn) : Prop := FrmP p.1 ∧ ∃ b, p.2 = funL p.1 b ∧ Dpcs p.1 C D 2 b ∧ b.length ≤ 24 ∧ 1 ≤ b.length
theorem FnD.len {C : Int → Int → Prop} {D : Int → Prop} {p : Fn} (h : FnD C D p) : p.2.length ≤ 29 ∧ 6 ≤ p.2.length := by
  obtain ⟨_, b, e, _, h1, h2⟩ := h
  rw [e, funL_length]; omega
theorem l07names_val : spec_l07Names = some nmL := spec_l07Names_eq
def calD (calls : List Int) : Int → Int → Prop := fun i m => ∃ c ∈ calls, m = c - 0 - 4 * i
theorem fn_enc {C : Int → Int → Prop} {D : Int → Prop} (hD : ∀ d, D d → DatP d) {p : Fn} (h : FnD C D p) (hC : ∀ (j : Nat) (m : Int), j ≤ 100 → C j m → -4611686018427387904 ≤ m ∧ m ≤ 4611686018427387904) : ∀ x ∈ p.2, EncR x := by
  obtain ⟨hf, b, e, hp, h1, h2⟩ := h
  rw [e]
  refine funL_enc hD hf hp fun j m hj hm => hC (2 + j) m (by omega) ?_
  have : ((2 + j : Nat) : Int) = 2 + (j : Int) := by omega
  rw [this]; exact hm
theorem set_last {α : Type} (l : List α) (d x : α) : (l ++ [d]).set l.length x = l ++ [x] := by
  rw [List.set_append_right _ _ (Nat.le_refl _)]; simp
/-- The functions are drawn. -/
theorem image_funs (im0 : Img) (n words : Int) (calls datas : List Int) (hn : n ≤ 5) (hc : ∀ c ∈ calls, CalP c) (hd : ∀ d ∈ datas, DatP d) (hcl : calls.length ≤ 256) (hdl : datas.length ≤ 256) {K : Nat} : ∀ (k i : Nat) (s : Src) (fs : List Fn), (i : Int) + k = n → fs.length = i → (∀ p ∈ fs, FnD (calD calls) (· ∈ datas) p) → SrcOK (K + 150 * k) s →
    ∃ (fs' : List Fn) (t : Src), fs'.length = i + k ∧ (∀ p ∈ fs', FnD (calD calls) (· ∈ datas) p) ∧ SrcOK K t ∧
      spec_l00Src_image.l111111111010 s im0 n words datas calls (codeOf (catL fs), ⟨#[]⟩, symA 0 0 fs) (fs.map (·.2)) (i : Int) = spec_l00Src_image.l11111111111010 t im0 n words (⟨#[]⟩, ⟨#[]⟩, symA 0 0 fs') (fs'.map (·.2)) 0 := by
  intro k
  induction k with
  | zero =>
    intro i s fs hk hl hfs hs
    refine ⟨fs, s, by omega, hfs, hs.mono (by omega), ?_⟩
    rw [spec_l00Src_image.l111111111010_eq, decide_eq_false (show ¬ (i : Int) < n by omega)]; rfl
  | succ k ih =>
    intro i s fs hk hl hfs hs
    obtain ⟨f, s1, e1, hf, h1⟩ := frm_ok (hs.mono (show K + 150 * k + 147 + 3 ≤ K + 150 * (k + 1) by omega))
    obtain ⟨v, s2, e2, p2, q2, _, h2⟩ := next_ok (h1.mono (show K + 150 * k + 144 + 3 ≤ K + 150 * k + 147 by omega)) 6
    have q2 := q2 (by decide)
    obtain ⟨m, hm⟩ : ∃ m : Nat, 1 + v = m := ⟨(1 + v).toNat, by omega⟩
    obtain ⟨b, s3, e3, hp, _, hb1, hb4, h3⟩ := function_ok2 (K := K + 150 * k) m (h2.mono (by omega)) 0 f calls datas hf (by decide) hc hd hcl hdl (by omega)
    have hD : FnD (calD calls) (· ∈ datas) (f, funL f b) := ⟨hf, b, rfl, hp, by omega, hb1 (by omega)⟩
    have hlen : (proL f ++ b ++ epiL f).length = b.length + 5 := funL_length f b
    have hls := lenS_le fs 29 fun p hp => (hfs p hp).len.1
    have hsz : (codeOf (catL fs)).size = 4 * lenS fs := by rw [codeOf_size, catL_length]
    have henc : ∀ x ∈ proL f ++ b ++ epiL f, EncR x := fn_enc (p := (f, funL f b)) hd hD fun j m hj hm => by
      obtain ⟨c, hcm, rfl⟩ := hm
      have := hc c hcm
      unfold CalP at this; omega
    rw [spec_l00Src_image.l111111111010_eq, decide_eq_true (show (i : Int) < n by omega), e1]
    simp only [cond_true, Option.bind_some]
    rw [e2]
    simp only [Option.bind_some]
    rw [w64 (n := 1 + v) (by omega) (by omega), hm, e3, l07names_val]
    simp only [Option.bind_some]
    rw [room_le (by simp; omega) (by simp; omega), inL_true (by omega) (by simp [nmL]; omega), room_le (by simp [symA_length]; omega) (by simp [symA_length]; omega), spec_words _ (by omega) henc]
    simp only [cond_true, Option.bind_some]
    rw [decide_eq_true (by rw [codeOf_size, codeOf_size, hlen, catL_length]; omega), cond_true, w64_succ i 5 (by omega) (by omega), w64 (n := 4 * ((proL f ++ b ++ epiL f).length : Int)) (by omega) (by omega), hsz]
    have hset : ((fs.map (·.2)) ++ [([] : List Ins)]).set (fs.map (·.2)).length (proL f ++ b ++ epiL f) = (fs ++ [(f, funL f b)]).map (·.2) := by
      rw [set_last, List.map_append]; rfl
    have hcat : codeOf (catL fs) ++ codeOf (proL f ++ b ++ epiL f) = codeOf (catL (fs ++ [(f, funL f b)])) := by
      rw [catL_snoc, codeOf_append (catL fs)]; rfl
    have hsym : symA 0 0 fs ++ [((rd (τ := .str) nmL (i : Int)), 1, ((4 * lenS fs : Nat) : Int), 4 * ((proL f ++ b ++ epiL f).length : Int), f)] = symA 0 0 (fs ++ [(f, funL f b)]) := by
      rw [symA_snoc, Nat.zero_add, Nat.zero_add, hl]
      have : ((4 * (funL f b).length : Nat) : Int) = 4 * ((proL f ++ b ++ epiL f).length : Int) := by rw [show (proL f ++ b ++ epiL f) = funL f b from rfl]; omega
      rw [this]; rfl
    obtain ⟨fs', t, g1, g2, g3, g4⟩ := ih (i + 1) s3 (fs ++ [(f, funL f b)]) (by omega) (by simp [hl]) (fun p hp => by
      rcases List.mem_append.1 hp with hp | hp
      · exact hfs p hp
      · rw [List.mem_singleton.1 hp]; exact hD) h3
    refine ⟨fs', t, by omega, g2, g3, ?_⟩
    rw [← g4]
    have hset' : ((fs.map (·.2)) ++ [([] : List Ins)]).set (fs.map (·.2)).length (proL f ++ b ++ epiL f) = List.map (·.2) (fs ++ [(f, funL f b)]) := hset
    rw [hset', hcat, hsym]
theorem rd_set1 {τ : Ty} (xs : List τ.den) (i : Nat) (x : τ.den) (h : i < xs.length) : rd (τ := τ) (xs.set i x) (i : Int) = x := by
  rw [rd_nat _ i (by simpa using h)]; simp
/-- The symbols stand at places that are known. -/
def PlaceR (S : List Sym) : Prop := S.length ≤ 16 ∧ ∀ j : Nat, j < S.length → ∃ v : Int, (rd (τ := TSym) S (j : Int)).2.2.1 = v ∧ 0 ≤ v ∧ v ≤ 100000
/-- Its calls bear numbers of functions. -/
def CallR (n : Nat) (L : List Ins) : Prop := ∀ (k : Nat) (x : Ins), L[k]? = some x → x.1 = 3 → x.2.1 = 1 → ∃ t : Nat, t < n ∧ x.2.2.2.2 = 1000000 * ((t : Int) + 1) - 4 * (k : Int)
theorem image_fix (s : Src) (im0 : Img) (n words : Int) (S : List Sym) (code : ByteArray) (i : Nat) (L : List Ins) (codes : List (List Ins)) (hL : L.length ≤ 100) (hS : PlaceR S) (hi : i < S.length) (hic : i < codes.length) (hc : CallR S.length L) :
    ∀ (j k : Nat), k + j = L.length → spec_l00Src_image.l1111111111101001001010 s im0 n words (code, ⟨#[]⟩, S) (codes.set i (halfL S (i : Int) L k)) (i : Int) (i : Int) (k : Int) = spec_l00Src_image.l1111111111101001001010 s im0 n words (code, ⟨#[]⟩, S) (codes.set i (fixL S (i : Int) 0 L)) (i : Int) (i : Int) (L.length : Int) := by
  intro j
  induction j with
  | zero =>
    intro k hk
    have : k = L.length := by omega
    subst this
    rw [half_full]
  | succ j ih =>
    intro k hk
    have hkl : k < L.length := by omega
    rw [← ih (k + 1) (by omega)]
    have hrd : rd (τ := .list TIns) (codes.set i (halfL S (i : Int) L k)) (i : Int) = halfL S (i : Int) L k := rd_set1 (τ := .list TIns) codes i _ hic
    have hhl := half_length S (i : Int) L k (by omega)
    have hel : rd (τ := TIns) (halfL S (i : Int) L k) (k : Int) = L[k] := rd_some (τ := TIns) _ k _ (by rw [half_get _ _ _ _ hkl]; simp [hkl])
    rw [spec_l00Src_image.l1111111111101001001010_eq, hrd, hhl, lt_nat, decide_eq_true hkl]
    simp only [cond_true, joinB]
    rw [inL_nat, decide_eq_true hkl, hel, w64_succ k L.length hkl (by omega)]
    simp only [cond_true, Int.toNat_natCast, List.set_set]
    by_cases h3 : L[k].1 = 3
    · by_cases h1 : L[k].2.1 = 1
      · obtain ⟨t, ht, hm⟩ := hc k L[k] (by simp [hkl]) h3 h1
        have e1 : L[k].2.2.2.2 + 4 * (k : Int) = 1000000 * ((t : Int) + 1) := by omega
        have hti := hS.1
        obtain ⟨A, hA, hA0, hA1⟩ := hS.2 t ht
        obtain ⟨B, hB, hB0, hB1⟩ := hS.2 i hi
        rw [decide_eq_true h3, decide_eq_true h1]
        simp only [cond_true]
        rw [w64 (n := 4 * (k : Int)) (by omega) (by omega), e1, w64 (n := 1000000 * ((t : Int) + 1)) (by omega) (by omega), Int.tdiv_eq_ediv_of_nonneg (by omega), show 1000000 * ((t : Int) + 1) / 1000000 = (t : Int) + 1 by omega, w64 (n := (t : Int) + 1) (by omega) (by omega), w64 (n := (t : Int) + 1 - 1) (by omega) (by omega), show (t : Int) + 1 - 1 = (t : Int) by omega, inL_nat, decide_eq_true ht, inL_nat, decide_eq_true hi]
        simp only [cond_true, letB]
        rw [hA, hB, w64 (n := A - B) (by omega) (by omega), w64 (n := A - B - 4 * (k : Int)) (by omega) (by omega)]
        rw [← half_succ S (i : Int) L k hkl]
        have hf : fix1 S (i : Int) (k : Int) L[k] = (L[k].1, L[k].2.1, L[k].2.2.1, L[k].2.2.2.1, A - B - 4 * (k : Int)) := by
          unfold fix1
          rw [if_pos ⟨h3, h1⟩, e1, show 1000000 * ((t : Int) + 1) / 1000000 - 1 = (t : Int) by omega, hA, hB]
        rw [hf]
      · rw [decide_eq_true h3, decide_eq_false h1]
        simp only [cond_true, cond_false]
        rw [half_same S (i : Int) L k hkl (by unfold fix1; rw [if_neg fun e => h1 e.2])]
    · rw [decide_eq_false h3]
      simp only [cond_false]
      rw [half_same S (i : Int) L k hkl (fix1_other h3)]
/-- All functions with their calls put right. -/
def fixS (S : List Sym) : Nat → List Fn → List Fn
  | _, [] => []
  | i, p :: r => (p.1, fixL S (i : Int) 0 p.2) :: fixS S (i + 1) r
theorem fixS_length (S : List Sym) : ∀ (r : List Fn) (i : Nat), (fixS S i r).length = r.length
  | [], _ => rfl
  | p :: r, i => by simp [fixS, fixS_length S r]
theorem fixS_symA (S : List Sym) : ∀ (r : List Fn) (i k a : Nat), symA k a (fixS S i r) = symA k a r
  | [], _, _, _ => rfl
  | p :: r, i, k, a => by simp only [fixS, symA, fixL_length, fixS_symA S r]
theorem image_fixes (s : Src) (im0 : Img) (n words : Int) (S : List Sym) (hS : PlaceR S) : ∀ (r g : List Fn), ((g.length + r.length : Nat) : Int) = n → g.length + r.length ≤ S.length → (∀ q ∈ g, q.2.length ≤ 100) → (∀ q ∈ r, q.2.length ≤ 100 ∧ CallR S.length q.2 ∧ ∀ i : Nat, i < S.length → ∀ x ∈ fixL S (i : Int) 0 q.2, EncR x) →
    spec_l00Src_image.l11111111111010 s im0 n words (codeOf (catL g), ⟨#[]⟩, S) (g.map (·.2) ++ r.map (·.2)) (g.length : Int) = spec_l00Src_image.l111111111111010 s im0 words (codeOf (catL (g ++ fixS S g.length r)), ⟨#[]⟩, S) 0 := by
  intro r
  induction r with
  | nil =>
    intro g hn hg h1 h2
    rw [spec_l00Src_image.l11111111111010_eq, decide_eq_false (by simp at hn; omega)]
    simp [fixS]
  | cons p r ih =>
    intro g hn hg h1 h2
    obtain ⟨p1, p2, p3⟩ := h2 p (by simp)
    have hlen : ((g.map (·.2) ++ (p :: r).map (·.2)) : List (List Ins)).length = g.length + (r.length + 1) := by simp
    have hrd : rd (τ := .list TIns) (g.map (·.2) ++ (p :: r).map (·.2)) (g.length : Int) = p.2 := rd_some (τ := .list TIns) _ g.length _ (by rw [List.getElem?_append_right (by simp)]; simp)
    have hset : ∀ X : List Ins, ((g.map (·.2) ++ (p :: r).map (·.2)) : List (List Ins)).set g.length X = g.map (·.2) ++ X :: r.map (·.2) := fun X => by
      rw [List.set_append_right _ _ (by simp)]; simp
    have hls := lenS_le g 100 h1
    have hsl := hS.1
    simp only [List.length_cons] at hn hg
    rw [spec_l00Src_image.l11111111111010_eq, decide_eq_true (by omega), inL_nat, hlen, decide_eq_true (by omega), hrd]
    simp only [cond_true, Int.toNat_natCast]
    have hz := image_fix s im0 n words S (codeOf (catL g)) g.length p.2 (g.map (·.2) ++ (p :: r).map (·.2)) p1 hS (by omega) (by rw [hlen]; omega) p2 p.2.length 0 (by omega)
    rw [half_zero] at hz
    have hz' : spec_l00Src_image.l1111111111101001001010 s im0 n words (codeOf (catL g), ⟨#[]⟩, S) ((g.map (·.2) ++ (p :: r).map (·.2)).set g.length p.2) (g.length : Int) (g.length : Int) 0 = _ := hz
    rw [hz', spec_l00Src_image.l1111111111101001001010_eq]
    have hrd2 : rd (τ := .list TIns) ((g.map (·.2) ++ (p :: r).map (·.2)).set g.length (fixL S (g.length : Int) 0 p.2)) (g.length : Int) = fixL S (g.length : Int) 0 p.2 := rd_set1 (τ := .list TIns) _ _ _ (by rw [hlen]; omega)
    rw [hrd2, fixL_length, lt_nat, decide_eq_false (Nat.lt_irrefl _)]
    simp only [cond_false]
    rw [spec_words _ (by rw [fixL_length]; omega) (p3 g.length (by omega))]
    simp only [Option.bind_some]
    rw [decide_eq_true (by rw [codeOf_size, codeOf_size, catL_length, fixL_length]; omega), cond_true, Int.toNat_natCast, List.set_set, hset, w64_succ g.length (g.length + 1) (by omega) (by omega)]
    have := ih (g ++ [(p.1, fixL S (g.length : Int) 0 p.2)]) (by simp; omega) (by simp; omega) (fun q hq => by
      rcases List.mem_append.1 hq with hq | hq
      · exact h1 q hq
      · rw [List.mem_singleton.1 hq]; simp only; rw [fixL_length]; omega) (fun q hq => h2 q (by simp [hq]))
    simp only [List.length_append, List.length_cons, List.length_nil, Nat.zero_add, List.map_append, List.map_cons, List.map_nil, List.append_assoc, List.cons_append, List.nil_append] at this
    rw [catL_snoc, codeOf_append] at this
    rw [this]
    simp only [fixS]
/-- The symbols of drawn data. -/
def dsy (w c : Int) : List Sym := if w > 0 then ((⟨#[99, 111, 117, 110, 116]⟩ : ByteArray), 2, 0, 8 * c, 0) :: (if c < w then [((⟨#[108, 105, 115, 116]⟩ : ByteArray), 2, 8 * c, 8 * (w - c), 0)] else []) else []
theorem image_data (im0 : Img) (words : Int) (code : ByteArray) (S : List Sym) (hw : 0 ≤ words ∧ words ≤ 7) (hS : S.length ≤ 10) {K : Nat} : ∀ (k i : Nat) (s : Src) (dat : ByteArray), (i : Int) + k = words → dat.size = 8 * i → SrcOK (K + 3 + 3 * k) s →
    ∃ (dat' : ByteArray) (c : Int) (t : Src), (dat'.size : Int) = 8 * words ∧ 1 ≤ c ∧ (words > 0 → c ≤ words) ∧ SrcOK K t ∧ spec_l00Src_image.l111111111111010 s im0 words (code, dat, S) (i : Int) = some ((code, dat', S ++ dsy words c), t) := by
  intro k
  induction k with
  | zero =>
    intro i s dat hk hd hs
    rw [spec_l00Src_image.l111111111111010_eq, decide_eq_false (by omega)]
    simp only [cond_false]
    by_cases h0 : words > 0
    · obtain ⟨v, t, e, p, q, _, ht⟩ := next_ok (hs.mono (show K + 3 ≤ K + 3 + 3 * 0 by omega)) words
      have q := q (by omega)
      rw [decide_eq_true h0, e]
      simp only [cond_true, Option.bind_some]
      rw [w64 (n := 1 + v) (by omega) (by omega), w64 (n := 8 * (1 + v)) (by omega) (by omega), room_le (by simp; omega) (by simp; omega)]
      simp only [cond_true]
      by_cases h1 : 1 + v < words
      · rw [decide_eq_true h1, w64 (n := words - (1 + v)) (by omega) (by omega), w64 (n := 8 * (words - (1 + v))) (by omega) (by omega), room_le (by simp; omega) (by simp; omega)]
        refine ⟨dat, 1 + v, t, by omega, by omega, fun _ => by omega, ht, ?_⟩
        simp [dsy, h0, h1]
      · rw [decide_eq_false h1]
        refine ⟨dat, 1 + v, t, by omega, by omega, fun _ => by omega, ht, ?_⟩
        simp [dsy, h0, h1]
    · rw [decide_eq_false h0]
      refine ⟨dat, 1, s, by omega, by omega, fun h => absurd h h0, hs.mono (by omega), ?_⟩
      simp [dsy, h0]
  | succ k ih =>
    intro i s dat hk hd hs
    obtain ⟨v, t, e, p, q, _, ht⟩ := next_ok (hs.mono (show K + 3 + 3 * k + 3 ≤ K + 3 + 3 * (k + 1) by omega)) 50
    rw [spec_l00Src_image.l111111111111010_eq, decide_eq_true (by omega), e]
    simp only [cond_true, Option.bind_some]
    rw [show spec_l01Little v 8 = some (bytesOf (leB v 8)) from spec_little v 8 (by omega)]
    simp only [Option.bind_some]
    rw [decide_eq_true (by rw [bytesOf_size, leB_length, hd]; omega), cond_true, w64_succ i 7 (by omega) (by omega)]
    exact ih (i + 1) t (dat ++ bytesOf (leB v 8)) (by omega) (by rw [size_app, bytesOf_size, leB_length, hd]; omega) ht
def DatW (w d : Int) : Prop := ∃ i : Nat, (i : Int) < w ∧ d = 16384 + 8 * (i : Int)
theorem DatW.ok {w d : Int} (hw : w ≤ 7) (h : DatW w d) : DatP d := by
  obtain ⟨i, h1, rfl⟩ := h
  unfold DatP; omega
/-- Where function t begins, in instructions. -/
def offF (gs : List Fn) (t : Nat) : Nat := lenS (gs.take t)
theorem image_datas (s : Src) (im0 : Img) (n words : Int) (hw : words ≤ 7) : ∀ (k i : Nat) (l : List Int), (i : Int) + k = words → l.length = i → (∀ d ∈ l, DatW words d) →
    ∃ l', l'.length = i + k ∧ (∀ d ∈ l', DatW words d) ∧ spec_l00Src_image.l1111010 s im0 n words l (i : Int) = spec_l00Src_image.l111111010 s im0 n words l' [] 0 := by
  intro k
  induction k with
  | zero =>
    intro i l hk hl hd
    refine ⟨l, by omega, hd, ?_⟩
    rw [spec_l00Src_image.l1111010_eq, decide_eq_false (by omega)]; rfl
  | succ k ih =>
    intro i l hk hl hd
    obtain ⟨l', g1, g2, g3⟩ := ih (i + 1) (l ++ [16384 + 8 * (i : Int)]) (by omega) (by simp [hl]) (fun d hd' => by
      rcases List.mem_append.1 hd' with h | h
      · exact hd d h
      · rw [List.mem_singleton.1 h]; exact ⟨i, by omega, rfl⟩)
    refine ⟨l', by omega, g2, ?_⟩
    rw [← g3, spec_l00Src_image.l1111010_eq, decide_eq_true (by omega), room_le (by simp; omega) (by simp; omega), w64 (n := 8 * (i : Int)) (by omega) (by omega), w64 (n := 16384 + 8 * (i : Int)) (by omega) (by omega), w64_succ i 7 (by omega) (by omega)]
    rfl
def CalW (n : Int) (c : Int) : Prop := ∃ t : Nat, (t : Int) < n ∧ c = 1000000 * ((t : Int) + 1)
theorem image_calls (s : Src) (im0 : Img) (n words : Int) (datas : List Int) (hn : n ≤ 5) : ∀ (k i : Nat) (l : List Int), (i : Int) + k = n → l.length = i → (∀ d ∈ l, CalW n d) →
    ∃ l', l'.length = i + k ∧ (∀ d ∈ l', CalW n d) ∧ spec_l00Src_image.l111111010 s im0 n words datas l (i : Int) = spec_l00Src_image.l111111111010 s im0 n words datas l' (⟨#[]⟩, ⟨#[]⟩, []) [] 0 := by
  intro k
  induction k with
  | zero =>
    intro i l hk hl hd
    refine ⟨l, by omega, hd, ?_⟩
    rw [spec_l00Src_image.l111111010_eq, decide_eq_false (by omega)]; rfl
  | succ k ih =>
    intro i l hk hl hd
    obtain ⟨l', g1, g2, g3⟩ := ih (i + 1) (l ++ [1000000 * ((i : Int) + 1)]) (by omega) (by simp [hl]) (fun d hd' => by
      rcases List.mem_append.1 hd' with h | h
      · exact hd d h
      · rw [List.mem_singleton.1 h]; exact ⟨i, by omega, rfl⟩)
    refine ⟨l', by omega, g2, ?_⟩
    rw [← g3, spec_l00Src_image.l111111010_eq, decide_eq_true (by omega), room_le (by simp; omega) (by simp; omega), w64 (n := (i : Int) + 1) (by omega) (by omega), w64 (n := 1000000 * ((i : Int) + 1)) (by omega) (by omega)]
    rfl
theorem symA_get : ∀ (l : List Fn) (k a j : Nat) (p : Fn), l[j]? = some p → (symA k a l)[j]? = some (nmV (k + j), 1, ((4 * (a + offF l j) : Nat) : Int), ((4 * p.2.length : Nat) : Int), p.1)
  | [], _, _, _, _, h => by simp at h
  | q :: l, k, a, 0, p, h => by simp at h; subst h; simp [symA, offF, lenS]
  | q :: l, k, a, j + 1, p, h => by
    have := symA_get l (k + 1) (a + q.2.length) j p (by simpa using h)
    simp only [symA, List.getElem?_cons_succ, this, offF, List.take_succ_cons, lenS]
    rw [show k + 1 + j = k + (j + 1) by omega, Nat.add_assoc]
theorem offF_le (l : List Fn) (m j : Nat) (h : ∀ p ∈ l, p.2.length ≤ m) : offF l j ≤ m * l.length := by
  have h1 := lenS_le (l.take j) m fun p hp => h p (List.mem_of_mem_take hp)
  have h2 : (l.take j).length ≤ l.length := by simp; omega
  exact Nat.le_trans h1 (Nat.mul_le_mul_left m h2)
theorem fixS_get (S : List Sym) : ∀ (r : List Fn) (i j : Nat) (p : Fn), r[j]? = some p → (fixS S i r)[j]? = some (p.1, fixL S ((i + j : Nat) : Int) 0 p.2)
  | [], _, _, _, h => by simp at h
  | q :: r, i, 0, p, h => by simp at h; subst h; simp [fixS]
  | q :: r, i, j + 1, p, h => by
    have := fixS_get S r (i + 1) j p (by simpa using h)
    simp only [fixS, List.getElem?_cons_succ, this]
    rw [show i + 1 + j = i + (j + 1) by omega]
theorem fixS_off (S : List Sym) : ∀ (r : List Fn) (i t : Nat), offF (fixS S i r) t = offF r t
  | [], _, _ => rfl
  | q :: r, i, 0 => by simp [offF, lenS]
  | q :: r, i, t + 1 => by
    have := fixS_off S r (i + 1) t
    simp only [offF, fixS, List.take_succ_cons, lenS, fixL_length] at this ⊢
    rw [this]
theorem symA_place (fs : List Fn) (h5 : fs.length ≤ 5) (hl : ∀ p ∈ fs, p.2.length ≤ 29) (t : Nat) (ht : t < fs.length) : (rd (τ := TSym) (symA 0 0 fs) (t : Int)).2.2.1 = 4 * (offF fs t : Int) := by
  have := symA_get fs 0 0 t fs[t] (by simp [ht])
  rw [rd_some (τ := TSym) _ t _ this]
  show ((4 * (0 + offF fs t) : Nat) : Int) = _
  omega
theorem symA_placeR (fs : List Fn) (h5 : fs.length ≤ 5) (hl : ∀ p ∈ fs, p.2.length ≤ 29) : PlaceR (symA 0 0 fs) := by
  refine ⟨by rw [symA_length]; omega, fun j hj => ?_⟩
  rw [symA_length] at hj
  have := offF_le fs 29 j hl
  exact ⟨4 * (offF fs j : Int), symA_place fs h5 hl j hj, by omega, by omega⟩
/-- The calls of a drawn function, once put right: from function j to function t. -/
def CalG (gs : List Fn) (j : Nat) : Int → Int → Prop := fun k m => ∃ t : Nat, t < gs.length ∧ m = 4 * (offF gs t : Int) - 4 * (offF gs j : Int) - 4 * k
/-- A drawn image. -/
structure ImgD (im : Img) (gs : List Fn) (w c : Int) : Prop where
  hn : 1 ≤ gs.length ∧ gs.length ≤ 5
  hw : 0 ≤ w ∧ w ≤ 7
  hc : 1 ≤ c ∧ (w > 0 → c ≤ w)
  code : im.1 = codeOf (catL gs)
  data : (im.2.1.size : Int) = 8 * w
  syms : im.2.2 = symA 0 0 gs ++ dsy w c
  funs : ∀ (j : Nat) (p : Fn), gs[j]? = some p → FnD (CalG gs j) (DatW w) p
theorem FnD.calls {n : Nat} {calls : List Int} {D : Int → Prop} (hD : ∀ d, D d → DatP d) (hc : ∀ c ∈ calls, CalW (n : Int) c) {p : Fn} (h : FnD (calD calls) D p) : CallR n p.2 := by
  obtain ⟨hf, b, e, hp, h1, h2⟩ := h
  intro k x hx h3 h1'
  rw [e] at hx
  rcases funL_cases p.1 b k x hx with ⟨_, rfl⟩ | ⟨_, rfl⟩ | ⟨j, hj, hjb, hb⟩ | ⟨_, rfl⟩ | ⟨_, rfl⟩ | ⟨_, rfl⟩
  · simp at h3
  · simp at h3
  · rcases hp.ins hD hf j x hb with ⟨m, rfl, c, hcm, rfl⟩ | h
    · obtain ⟨t, ht, rfl⟩ := hc c hcm
      exact ⟨t, by omega, by simp only; omega⟩
    · exact absurd h3 h.2.1
  · simp at h3
  · simp at h3
  · simp at h3
theorem FnD.fixed {n : Nat} {calls : List Int} {D : Int → Prop} (hc : ∀ c ∈ calls, CalW (n : Int) c) {S : List Sym} {O : Nat → Int} (hO : ∀ t : Nat, t < n → (rd (τ := TSym) S (t : Int)).2.2.1 = O t) {p : Fn} (h : FnD (calD calls) D p) (j : Nat) (hj : j < n) :
    FnD (fun k m => ∃ t : Nat, t < n ∧ m = O t - O j - 4 * k) D (p.1, fixL S (j : Int) 0 p.2) := by
  obtain ⟨hf, b, e, hp, h1, h2⟩ := h
  refine ⟨hf, fixL S (j : Int) 2 b, by simp only; rw [e, fix_funL], Dpcs.fix (fun k m hm => ?_) hp, by rw [fixL_length]; exact h1, by rw [fixL_length]; exact h2⟩
  obtain ⟨c, hcm, rfl⟩ := hm
  obtain ⟨t, ht, rfl⟩ := hc c hcm
  refine ⟨t, by omega, ?_⟩
  rw [show (1000000 * ((t : Int) + 1) - 0 - 4 * k + 4 * k) / 1000000 - 1 = (t : Int) by omega, hO t (by omega), hO j hj]
theorem image_ok {K : Nat} {s : Src} (h : SrcOK (K + 900) s) : ∃ (im : Img) (gs : List Fn) (w c : Int) (t : Src), spec_l00Src_image s = some (im, t) ∧ ImgD im gs w c ∧ SrcOK K t := by
  obtain ⟨v1, s1, e1, p1, q1, _, h1⟩ := next_ok (h.mono (show K + 897 + 3 ≤ K + 900 by omega)) 5
  obtain ⟨v2, s2, e2, p2, q2, _, h2⟩ := next_ok (h1.mono (show K + 894 + 3 ≤ K + 897 by omega)) 8
  have q1 := q1 (by decide); have q2 := q2 (by decide)
  obtain ⟨n, hn⟩ : ∃ n : Nat, 1 + v1 = n := ⟨(1 + v1).toNat, by omega⟩
  obtain ⟨w, hw⟩ : ∃ w : Nat, v2 = w := ⟨v2.toNat, by omega⟩
  subst hw
  obtain ⟨datas, d1, d2, d3⟩ := image_datas s2 (⟨#[]⟩, ⟨#[]⟩, []) (n : Int) (w : Int) (by omega) w 0 [] (by omega) rfl (by simp)
  obtain ⟨calls, c1, c2, c3⟩ := image_calls s2 (⟨#[]⟩, ⟨#[]⟩, []) (n : Int) (w : Int) datas (by omega) n 0 [] (by omega) rfl (by simp)
  have hdat : ∀ d ∈ datas, DatP d := fun d hd => (d2 d hd).ok (by omega)
  have hcal : ∀ c ∈ calls, CalP c := fun c hc => by obtain ⟨t, ht, rfl⟩ := c2 c hc; unfold CalP; omega
  obtain ⟨fs, s3, f1, f2, f3, f4⟩ := image_funs (⟨#[]⟩, ⟨#[]⟩, []) (n : Int) (w : Int) calls datas (by omega) hcal hdat (by omega) (by omega) (K := K + 100) n 0 s2 [] (by omega) rfl (by simp) (h2.mono (by omega))
  have hlen : ∀ p ∈ fs, p.2.length ≤ 29 := fun p hp => (f2 p hp).len.1
  have hfn : fs.length = n := by omega
  have hSl : (symA 0 0 fs).length = n := by rw [symA_length, hfn]
  have hO : ∀ t : Nat, t < n → (rd (τ := TSym) (symA 0 0 fs) (t : Int)).2.2.1 = 4 * (offF fs t : Int) := fun t ht => symA_place fs (by omega) hlen t (by omega)
  have hfix : ∀ p ∈ fs, ∀ j : Nat, j < n → FnD (fun k m => ∃ t : Nat, t < n ∧ m = 4 * (offF fs t : Int) - 4 * (offF fs j : Int) - 4 * k) (· ∈ datas) (p.1, fixL (symA 0 0 fs) (j : Int) 0 p.2) := fun p hp j hj => (f2 p hp).fixed c2 hO j hj
  have g := image_fixes s3 (⟨#[]⟩, ⟨#[]⟩, []) (n : Int) (w : Int) (symA 0 0 fs) (symA_placeR fs (by omega) hlen) fs [] (by simp; omega) (by rw [symA_length]; simp) (by simp) (fun q hq => ⟨by have := hlen q hq; omega, by rw [hSl]; exact (f2 q hq).calls hdat c2, fun i hi => fn_enc hdat (hfix q hq i (by omega)) fun j m hj hm => by
      obtain ⟨t, ht, rfl⟩ := hm
      have := offF_le fs 29 t hlen
      have := offF_le fs 29 i hlen
      omega⟩)
  obtain ⟨dat, c, s4, k1, k2, k3, k4, k5⟩ := image_data (⟨#[]⟩, ⟨#[]⟩, []) (w : Int) (codeOf (catL (fixS (symA 0 0 fs) 0 fs))) (symA 0 0 fs) (by omega) (by omega) (K := K) w 0 s3 ⟨#[]⟩ (by omega) rfl (f3.mono (by omega))
  refine ⟨(codeOf (catL (fixS (symA 0 0 fs) 0 fs)), dat, symA 0 0 fs ++ dsy (w : Int) c), fixS (symA 0 0 fs) 0 fs, w, c, s4, ?_, ⟨by rw [fixS_length]; omega, by omega, ⟨k2, k3⟩, rfl, k1, by rw [fixS_symA], fun j p hp => ?_⟩, k4⟩
  · rw [spec_l00Src_image_eq, e1]
    simp only [Option.bind_some]
    rw [e2]
    simp only [Option.bind_some]
    rw [w64 (n := 1 + v1) (by omega) (by omega), hn]
    have d3' : spec_l00Src_image.l1111010 s2 (⟨#[]⟩, ⟨#[]⟩, []) (n : Int) (w : Int) [] 0 = _ := d3
    have c3' : spec_l00Src_image.l111111010 s2 (⟨#[]⟩, ⟨#[]⟩, []) (n : Int) (w : Int) datas [] 0 = _ := c3
    have f4' : spec_l00Src_image.l111111111010 s2 (⟨#[]⟩, ⟨#[]⟩, []) (n : Int) (w : Int) datas calls (⟨#[]⟩, ⟨#[]⟩, []) [] 0 = _ := f4
    have g' : spec_l00Src_image.l11111111111010 s3 (⟨#[]⟩, ⟨#[]⟩, []) (n : Int) (w : Int) (⟨#[]⟩, ⟨#[]⟩, symA 0 0 fs) (fs.map (·.2)) 0 = _ := g
    rw [d3', c3', f4', g']
    exact k5
  · have hj : j < fs.length := by
      have := (List.getElem?_eq_some_iff.1 hp).1
      rw [fixS_length] at this; exact this
    have e := fixS_get (symA 0 0 fs) fs 0 j fs[j] (by simp [hj])
    rw [hp] at e
    simp only [Option.some.injEq] at e
    rw [e, Nat.zero_add]
    obtain ⟨hf, b, e1, hp1, r1, r2⟩ := hfix fs[j] (List.getElem_mem hj) j (by omega)
    refine ⟨hf, b, e1, hp1.mono (fun k m hm => ?_) (fun d hd => d2 d hd), r1, r2⟩
    obtain ⟨t, ht, rfl⟩ := hm
    exact ⟨t, by rw [fixS_length]; omega, by rw [fixS_off, fixS_off]⟩
theorem name_loopG (t : ByteArray) (hz : t.size ≤ 20) (h : ∀ i : Nat, i < t.size → 97 ≤ bt t (i : Int) ∧ bt t (i : Int) ≤ 122) : ∀ (k i : Nat), i + k = t.size → impl_NameOK.l11010 t (i : Int) = some true := by
  intro k
  induction k with
  | zero =>
    intro i hi
    rw [impl_NameOK.l11010_eq, lt_nat, decide_eq_false (by omega)]; rfl
  | succ k ih =>
    intro i hi
    obtain ⟨h1, h2⟩ := h i (by omega)
    rw [impl_NameOK.l11010_eq, lt_nat, decide_eq_true (show i < t.size by omega), inL_nat, decide_eq_true (show i < t.size by omega), impl_isLetter_eq, decide_eq_true h1, decide_eq_true h2, w64_succ i t.size (by omega) (by omega)]
    exact ih (i + 1) (by omega)
theorem name_good (t : ByteArray) (h0 : 1 ≤ t.size) (hz : t.size ≤ 20) (h : ∀ i : Nat, i < t.size → 97 ≤ bt t (i : Int) ∧ bt t (i : Int) ≤ 122) : nameV t = true := by
  have e : impl_NameOK t = some true := by
    obtain ⟨h1, h2⟩ := h 0 (by omega)
    have h1' : bt t 0 ≥ 97 := h1
    have h2' : bt t 0 ≤ 122 := h2
    rw [impl_NameOK_eq, impl_within_eq, decide_eq_true (show (1 : Int) ≤ (t.size : Int) by omega), decide_eq_true (show (t.size : Int) ≤ 20 by omega), inL_true (by omega) (by omega), impl_isLetter_eq, decide_eq_true h1', decide_eq_true h2']
    exact name_loopG t hz h (t.size - 1) 1 (by omega)
  unfold nameV
  rw [e]; rfl
def goodB (t : ByteArray) : Bool := decide (1 ≤ t.size) && decide (t.size ≤ 20) && (List.range t.size).all fun i => decide (97 ≤ bt t (i : Int)) && decide (bt t (i : Int) ≤ 122)
theorem name_goodB {t : ByteArray} (h : goodB t = true) : nameV t = true := by
  simp only [goodB, Bool.and_eq_true, decide_eq_true_eq, List.all_eq_true, List.mem_range] at h
  exact name_good t h.1.1 h.1.2 h.2
abbrev cntN : ByteArray := ⟨#[99, 111, 117, 110, 116]⟩
abbrev lstN : ByteArray := ⟨#[108, 105, 115, 116]⟩
theorem names_good : ∀ k : Fin 6, goodB (nmV k) = true := by decide +kernel
theorem dnames_good : goodB cntN = true ∧ goodB lstN = true := by decide +kernel
theorem symA_names : ∀ (l : List Fn) (k a : Nat), (symA k a l).map (·.1) = (List.range' k l.length).map nmV
  | [], _, _ => rfl
  | p :: l, k, a => by simp only [symA, List.map_cons, symA_names l (k + 1), List.length_cons, List.range'_succ]
def dnm (w c : Int) : List ByteArray := if w > 0 then cntN :: (if c < w then [lstN] else []) else []
theorem dsy_names (w c : Int) : (dsy w c).map (·.1) = dnm w c := by
  unfold dsy dnm
  by_cases h : w > 0
  · by_cases h' : c < w <;> simp [h, h']
  · simp [h]
theorem names_nodup (n : Nat) (hn : n ≤ 5) (w c : Int) : ((List.range' 0 n).map nmV ++ dnm w c).Nodup := by
  have key : ∀ n : Fin 6, ((List.range' 0 n).map nmV ++ [cntN, lstN]).Nodup := by decide +kernel
  have h := key ⟨n, by omega⟩
  unfold dnm
  by_cases h1 : w > 0
  · by_cases h2 : c < w
    · simp only [h1, h2, if_true]; exact h
    · simp only [h1, h2, if_true, if_false]
      exact h.sublist (List.Sublist.append (List.Sublist.refl _) (by simp))
  · simp only [h1, if_false]
    exact h.sublist (List.Sublist.append (List.Sublist.refl _) (by simp))
theorem dup_none (l : List Sym) (h : (l.map (·.1)).Nodup) (i : Nat) (hi : i < l.length) : dupV (l.take i) l[i].1 = false := by
  unfold dupV
  rw [List.any_eq_false]
  intro y hy
  simp only [decide_eq_true_eq]
  intro e
  obtain ⟨j, hj, rfl⟩ := List.getElem_of_mem hy
  have hj' : j < i := by simp at hj; omega
  rw [List.getElem_take] at e
  have h2 := List.pairwise_iff_getElem.1 h j i (by simp; omega) (by simpa using hi) hj'
  exact h2 (by simpa using e)
theorem Dpcs.bound {f : Int} {C : Int → Int → Prop} {D : Int → Prop} {s : Int} {b : List Ins} (h : Dpcs f C D s b) : Dpcs f (fun i m => C i m ∧ s ≤ i ∧ i < s + b.length) D s b := by
  induction h with
  | nil i => exact .nil i
  | cons i l m h k ih =>
    have hl := h.len
    refine .cons i l m (h.mono (fun m' hm => ⟨hm, Int.le_refl _, by rw [List.length_append]; omega⟩) fun _ x => x) (ih.mono (fun j m' hm => ⟨hm.1, by omega, by rw [List.length_append]; omega⟩) fun _ x => x)
theorem imm2 {i : Int} (h : -1048576 ≤ i ∧ i ≤ 1048574 ∧ i % 2 = 0) : immR 2 i = true := by simp [immR]; omega
theorem rjal {a i : Int} (ha : 0 ≤ a ∧ a ≤ 31) (h : -1048576 ≤ i ∧ i ≤ 1048574 ∧ i % 2 = 0) : rightV (3, a, 0, 0, i) = true := right_of 2 rfl (by decide) ha (by decide) (by decide) (.inl rfl) (.inr rfl) (.inr rfl) (imm2 h)
theorem lenS_append : ∀ a b : List Fn, lenS (a ++ b) = lenS a + lenS b
  | [], b => by simp [lenS]
  | p :: a, b => by simp only [List.cons_append, lenS, lenS_append a b]; omega
theorem catL_append : ∀ a b : List Fn, catL (a ++ b) = catL a ++ catL b
  | [], b => rfl
  | p :: a, b => by simp only [List.cons_append, catL, catL_append a b, List.append_assoc]
theorem split_at {α : Type} (l : List α) (i : Nat) (x : α) (h : l[i]? = some x) : l = l.take i ++ x :: l.drop (i + 1) := by
  obtain ⟨hi, rfl⟩ := List.getElem?_eq_some_iff.1 h
  rw [← List.drop_eq_getElem_cons hi, List.take_append_drop]
theorem off_total (gs : List Fn) (i : Nat) (p : Fn) (h : gs[i]? = some p) : lenS gs = offF gs i + (p.2.length + lenS (gs.drop (i + 1))) ∧ offF gs (i + 1) = offF gs i + p.2.length := by
  have e := split_at gs i p h
  constructor
  · conv => lhs; rw [e]
    rw [lenS_append]; rfl
  · unfold offF
    rw [List.take_add_one, h, Option.toList_some, lenS_append]
    simp [lenS]
theorem ImgD.len29 {im : Img} {gs : List Fn} {w c : Int} (h : ImgD im gs w c) : ∀ p ∈ gs, p.2.length ≤ 29 := fun p hp => by
  obtain ⟨j, hj⟩ := List.getElem?_of_mem hp
  exact (h.funs j p hj).len.1
theorem dsy_length (w c : Int) : (dsy w c).length ≤ 2 := by unfold dsy; split <;> (try split) <;> simp
theorem ImgD.total {im : Img} {gs : List Fn} {w c : Int} (h : ImgD im gs w c) : lenS gs ≤ 145 := by
  have := lenS_le gs 29 h.len29
  have := h.hn; omega
theorem ImgD.size {im : Img} {gs : List Fn} {w c : Int} (h : ImgD im gs w c) : im.1.size = 4 * lenS gs := by rw [h.code, codeOf_size, catL_length]
theorem ImgD.sz {im : Img} {gs : List Fn} {w c : Int} (h : ImgD im gs w c) : ImgSz im := by
  have h1 := h.total
  have h2 := h.size
  have h3 := dsy_length w c
  have h4 := h.hn
  have h5 := h.hw
  have h6 := h.data
  refine ⟨by rw [h.syms, List.length_append, symA_length]; omega, by omega, by omega⟩
theorem ImgD.slen {im : Img} {gs : List Fn} {w c : Int} (h : ImgD im gs w c) : im.2.2.length = gs.length + (dsy w c).length := by rw [h.syms, List.length_append, symA_length]
theorem ImgD.sym_f {im : Img} {gs : List Fn} {w c : Int} (h : ImgD im gs w c) (i : Nat) (p : Fn) (hp : gs[i]? = some p) : im.2.2[i]? = some (nmV i, 1, 4 * (offF gs i : Int), 4 * (p.2.length : Int), p.1) := by
  have hi := (List.getElem?_eq_some_iff.1 hp).1
  rw [h.syms, List.getElem?_append_left (by rw [symA_length]; exact hi), symA_get gs 0 0 i p hp]
  simp
theorem ImgD.sym_d {im : Img} {gs : List Fn} {w c : Int} (h : ImgD im gs w c) (j : Nat) : im.2.2[gs.length + j]? = (dsy w c)[j]? := by
  rw [h.syms, List.getElem?_append_right (by rw [symA_length]; omega), symA_length, Nat.add_sub_cancel_left]
/-- Where code and data have ended. -/
def endE (gs : List Fn) (w c : Int) (i : Nat) : Int × Int := if i ≤ gs.length then (4 * (offF gs i : Int), 0) else if i = gs.length + 1 then (4 * (lenS gs : Int), 8 * c) else (4 * (lenS gs : Int), 8 * w)
theorem offF_full (gs : List Fn) : offF gs gs.length = lenS gs := by simp [offF]
theorem offF_mono (gs : List Fn) (i : Nat) : offF gs i ≤ lenS gs := by
  unfold offF
  conv => rhs; rw [← List.take_append_drop i gs, lenS_append]
  omega
theorem ImgD.chain {im : Img} {gs : List Fn} {w c : Int} (h : ImgD im gs w c) : ChainTo im im.2.2.length (endE gs w c) := by
  have hsz := h.size
  have hdt := h.data
  have hw := h.hw
  have hc := h.hc
  have hnd : (im.2.2.map (·.1)).Nodup := by
    rw [h.syms, List.map_append, symA_names, dsy_names]
    exact names_nodup _ h.hn.2 w c
  refine ⟨?_, fun i hi => ?_, fun i hi _ => ?_⟩
  · simp [endE, offF, lenS]
  · have := offF_mono gs i
    unfold endE
    split
    · exact ⟨⟨by simp only; omega, by simp only; omega⟩, ⟨by simp, by simp only; omega⟩⟩
    · have hd : w > 0 := by
        rw [h.slen] at hi
        by_cases hd : w > 0
        · exact hd
        · simp [dsy, hd] at hi; omega
      have := hc.2 hd
      split
      · exact ⟨⟨by simp only; omega, by simp only; omega⟩, ⟨by simp only; omega, by simp only; omega⟩⟩
      · exact ⟨⟨by simp only; omega, by simp only; omega⟩, ⟨by simp only; omega, by simp only; omega⟩⟩
  · have hdup := dup_none im.2.2 hnd i hi
    by_cases hg : i < gs.length
    · have hs := h.sym_f i gs[i] (by simp [hg])
      have hs' : im.2.2[i] = (nmV i, 1, 4 * (offF gs i : Int), 4 * (gs[i].2.length : Int), gs[i].1) := by
        rw [List.getElem?_eq_getElem hi] at hs; exact Option.some.inj hs
      rw [hs'] at hdup ⊢
      have hnm : nameV (nmV i) = true := name_goodB (names_good ⟨i, by have := h.hn; omega⟩)
      obtain ⟨t1, t2⟩ := off_total gs i gs[i] (by simp [hg])
      have hl := (h.funs i gs[i] (by simp [hg])).len
      unfold lintS
      simp only [hnm, hdup, Bool.true_eq_false, Bool.false_eq_true, if_false, if_true]
      have e1 : endE gs w c i = (4 * (offF gs i : Int), 0) := by unfold endE; rw [if_pos (by omega)]
      have e2 : endE gs w c (i + 1) = (4 * (offF gs (i + 1) : Int), 0) := by unfold endE; rw [if_pos (by omega)]
      rw [e1, e2]
      simp only
      rw [if_pos ⟨trivial, by omega, by omega⟩, t2]
      congr 2; omega
    · obtain ⟨j, rfl⟩ : ∃ j, i = gs.length + j := ⟨i - gs.length, by omega⟩
      have hd : w > 0 := by
        have hi2 := hi
        rw [h.slen] at hi2
        by_cases hd : w > 0
        · exact hd
        · have h0 : (dsy w c).length = 0 := by unfold dsy; rw [if_neg hd]; rfl
          omega
      have hcw := hc.2 hd
      have hs := h.sym_d j
      rw [List.getElem?_eq_getElem hi] at hs
      have hj : j < 2 := by
        have := dsy_length w c
        have hi2 := hi
        rw [h.slen] at hi2; omega
      match j, hj with
      | 0, _ =>
        have hs' : im.2.2[gs.length + 0] = (cntN, 2, 0, 8 * c, 0) := by
          have e : (dsy w c)[0]? = some (cntN, 2, 0, 8 * c, 0) := by simp [dsy, hd]
          rw [e] at hs; exact Option.some.inj hs
        rw [hs'] at hdup ⊢
        have hnm : nameV cntN = true := name_goodB dnames_good.1
        have e1 : endE gs w c (gs.length + 0) = (4 * (lenS gs : Int), 0) := by unfold endE; rw [if_pos (by omega), Nat.add_zero, offF_full]
        have e2 : endE gs w c (gs.length + 0 + 1) = (4 * (lenS gs : Int), 8 * c) := by unfold endE; rw [if_neg (by omega), if_pos (by omega)]
        unfold lintS
        simp only [hnm, hdup, Bool.true_eq_false, Bool.false_eq_true, if_false, if_true]
        rw [e1, e2]
        simp only
        rw [if_neg (by decide), if_pos ⟨by omega, by omega, by omega, by omega, by omega, by omega⟩]
        congr 2; omega
      | 1, _ =>
        by_cases hcl : c < w
        · have hs' : im.2.2[gs.length + 1] = (lstN, 2, 8 * c, 8 * (w - c), 0) := by
            have e : (dsy w c)[1]? = some (lstN, 2, 8 * c, 8 * (w - c), 0) := by simp [dsy, hd, hcl]
            rw [e] at hs; exact Option.some.inj hs
          rw [hs'] at hdup ⊢
          have hnm : nameV lstN = true := name_goodB dnames_good.2
          have e1 : endE gs w c (gs.length + 1) = (4 * (lenS gs : Int), 8 * c) := by unfold endE; rw [if_neg (by omega), if_pos (by omega)]
          have e2 : endE gs w c (gs.length + 1 + 1) = (4 * (lenS gs : Int), 8 * w) := by unfold endE; rw [if_neg (by omega), if_neg (by omega)]
          unfold lintS
          simp only [hnm, hdup, Bool.true_eq_false, Bool.false_eq_true, if_false, if_true]
          rw [e1, e2]
          simp only
          rw [if_neg (by decide), if_pos ⟨by omega, by omega, by omega, by omega, by omega, by omega⟩]
          congr 2; omega
        · have hi2 := hi
          rw [h.slen] at hi2
          simp [dsy, hd, hcl] at hi2
theorem dsy_kind (w c : Int) (j : Nat) (s : Sym) (h : (dsy w c)[j]? = some s) : s.2.1 = 2 := by
  unfold dsy at h
  split at h
  · split at h
    · match j with
      | 0 => simp at h; rw [← h]
      | 1 => simp at h; rw [← h]
      | j + 2 => simp at h
    · match j with
      | 0 => simp at h; rw [← h]
      | j + 1 => simp at h
  · simp at h
theorem ImgD.rd_f {im : Img} {gs : List Fn} {w c : Int} (h : ImgD im gs w c) (i : Nat) (p : Fn) (hp : gs[i]? = some p) : rd (τ := TSym) im.2.2 (i : Int) = (nmV i, 1, 4 * (offF gs i : Int), 4 * (p.2.length : Int), p.1) := rd_some (τ := TSym) _ i _ (h.sym_f i p hp)
theorem ImgD.rd_d {im : Img} {gs : List Fn} {w c : Int} (h : ImgD im gs w c) (i : Nat) (hi : gs.length ≤ i) (hl : i < im.2.2.length) : (rd (τ := TSym) im.2.2 (i : Int)).2.1 = 2 := by
  obtain ⟨j, rfl⟩ : ∃ j, i = gs.length + j := ⟨i - gs.length, by omega⟩
  have e : im.2.2[gs.length + j]? = some im.2.2[gs.length + j] := by simp [hl]
  rw [rd_some (τ := TSym) _ _ _ e]
  rw [h.sym_d j] at e
  exact dsy_kind w c j _ e
theorem ImgD.cut {im : Img} {gs : List Fn} {w c : Int} (h : ImgD im gs w c) (i : Nat) (p : Fn) (hp : gs[i]? = some p) : im.1.extract (4 * offF gs i) (4 * offF gs i + 4 * p.2.length) = codeOf p.2 := by
  have e := split_at gs i p hp
  have e2 : catL gs = catL (gs.take i) ++ (p.2 ++ catL (gs.drop (i + 1))) := by
    conv => lhs; rw [e]
    rw [catL_append]; rfl
  rw [h.code, e2, codeOf_append, codeOf_append]
  have h1 : (codeOf (catL (gs.take i))).size = 4 * offF gs i := by rw [codeOf_size, catL_length]; rfl
  have h2 : (codeOf p.2).size = 4 * p.2.length := codeOf_size _
  have := ba_extract_mid (codeOf (catL (gs.take i))) (codeOf p.2) (codeOf (catL (gs.drop (i + 1))))
  rw [h1, h2] at this
  exact this
theorem ImgD.first {im : Img} {gs : List Fn} {w c : Int} (h : ImgD im gs w c) : (rd (τ := TSym) im.2.2 0).2.1 = 1 := by
  have h0 := h.hn.1
  have := h.rd_f 0 gs[0] (by simp)
  have e : rd (τ := TSym) im.2.2 0 = _ := this
  rw [e]
theorem ImgD.end {im : Img} {gs : List Fn} {w c : Int} (h : ImgD im gs w c) : (endE gs w c im.2.2.length).1 = (im.1.size : Int) := by
  have := h.size
  unfold endE
  split
  · rename_i hl
    have e : im.2.2.length = gs.length := by have := h.slen; omega
    rw [e, offF_full]; simp only; omega
  · split <;> (simp only; omega)
theorem imageDrawn_ok (a : List Int) (hb : BytP a) (hn : a.length ≤ 1048576) : ∃ (im : Img) (gs : List Fn) (w c : Int), spec_ImageDrawn a = some im ∧ ImgD im gs w c := by
  obtain ⟨s, e, hs⟩ := source_ok a hb hn
  obtain ⟨im, gs, w, c, t, e2, hd, _⟩ := image_ok (K := 0) (hs.mono (by decide))
  rw [spec_ImageDrawn_eq, e]
  simp only [Option.bind_some, optC]
  rw [e2]
  exact ⟨im, gs, w, c, rfl, hd⟩
theorem index_i (l : List Int) (n : Int) (hz : l.length ≤ 1048576) : ∀ (k j : Nat), j + k = l.length → ∃ r : Int, slices_Index_int.l1010 l n (l.length : Int) (j : Int) = some r ∧ decide (r ≥ 0) = decide (n ∈ l.drop j) := by
  intro k
  induction k with
  | zero =>
    intro j hj
    rw [slices_Index_int.l1010_eq, lt_nat, decide_eq_false (show ¬ j < l.length by omega), List.drop_eq_nil_of_le (by omega)]
    exact ⟨_, rfl, rfl⟩
  | succ k ih =>
    intro j hj
    have hjl : j < l.length := by omega
    obtain ⟨r, h1, h2⟩ := ih (j + 1) (by omega)
    rw [slices_Index_int.l1010_eq, lt_nat, inL_nat, decide_eq_true hjl, w64_succ j l.length hjl (by omega), rd_nat (τ := .int .i64) l j hjl, List.drop_eq_getElem_cons hjl]
    simp only [cond_true]
    by_cases e : n = l[j]
    · rw [decide_eq_true e, decide_eq_true (show n ∈ l[j] :: l.drop (j + 1) by rw [e]; exact List.mem_cons_self)]
      exact ⟨(j : Int), rfl, by simp⟩
    · have e2 : decide (n ∈ l[j] :: l.drop (j + 1)) = decide (n ∈ l.drop (j + 1)) := by simp only [List.mem_cons, e, false_or]
      rw [e2, decide_eq_false e]
      exact ⟨r, h1, h2⟩
theorem has_i (l : List Int) (n : Int) (hz : l.length ≤ 1048576) : slices_Contains_int l n = some (decide (n ∈ l)) := by
  obtain ⟨r, i1, i2⟩ := index_i l n hz l.length 0 (by omega)
  rw [show ((0 : Nat) : Int) = 0 by rfl] at i1
  rw [slices_Contains_int_eq, slices_Index_int_eq, i1, Option.bind_some, i2, List.drop_zero]
theorem codeSize_i (t : ByteArray) : impl_isCodeSize t = some (codeSizeV t.size) := by
  rw [impl_isCodeSize_eq]
  unfold codeSizeV
  cases decide (((t.size : Nat) : Int).tmod 4 = 0) <;> rfl
theorem funcSize_i (t : ByteArray) : impl_isFuncSize t = some (funcSizeV t.size) := by
  rw [impl_isFuncSize_eq, codeSize_i t]
  simp only [Option.bind_some, funcSizeV]
  cases codeSizeV t.size <;> rfl
theorem instrs_i (l : List Ins) (hl : l.length ≤ 1000) (hr : ∀ x ∈ l, rightV x = true) : impl_instrsOf (codeOf l) = some (l, 0, true) := by
  rw [impl_instrsOf_eq]; exact instrs_loop l hl hr l [] rfl
theorem fault_zero (l : List Ins) (f a : Int) (calls E : List Int) (hE : EndsAre l f l.length E) (hf : 16 ≤ f ∧ f ≤ 128) (ha : 0 ≤ a ∧ a ≤ 1048575) (hl : l.length ≤ 1048576) (hc : calls.length ≤ 1048576) (i : Int) (h : 2 ≤ i) (h' : i < (l.length : Int)) (x : Ins) (hx : rd (τ := TIns) l i = x) (hr : InsR x)
    (c4 : x.1 = 4 → endsI l f (i - 2) = true) (c3 : x.1 = 3 → x.2.1 = 1 ∧ a + 4 * i + x.2.2.2.2 ∈ calls)
    (cb : 5 ≤ x.1 → x.1 ≤ 10 → x.2.2.2.2 % 4 = 0 ∧ 2 ≤ i + x.2.2.2.2 / 4 ∧ i + x.2.2.2.2 / 4 < (l.length : Int) ∧ endsI l f (i + x.2.2.2.2 / 4 - 1) = false ∧ endsI l f (i + x.2.2.2.2 / 4 - 2) = false)
    (c1 : x.1 ≠ 3 → x.1 ≠ 4 → x.2.1 = 1 → endsI l f i = true) (c2 : x.1 ≠ 3 → x.1 ≠ 4 → x.2.1 = 2 → endsI l f (i - 1) = true)
    (cm : 11 ≤ x.1 → x.1 ≤ 21 → x.2.2.1 = 2 → endsI l f i = true ∨ (0 ≤ x.2.2.2.2 ∧ x.2.2.2.2 ≤ f - 8 - (widV x.1).1 ∧ x.2.2.2.2 % (widV x.1).1 = 0)) : impl_linting_fault (l, f, a, calls, E) i = some 0 := by
  have him := hr.imm
  have he := ends_bits hE i (by omega) h'
  have hEi : inL i E.length = true := inL_true (by omega) (by rw [hE.1]; exact h')
  rw [impl_linting_fault_eq]
  dsimp only
  rw [inL_true (by omega) h', hEi, hx, he.1, he.2.1, he.2.2.1, branch_val, load_val, store_val, has_i calls _ hc, w64 (n := 4 * i) (by omega) (by omega), w64 (n := a + 4 * i) (by omega) (by omega), w64 (n := a + 4 * i + x.2.2.2.2) (by omega) (by omega)]
  simp only [cond_true, joinB, Option.bind_some]
  by_cases h4 : x.1 = 4
  · rw [decide_eq_true h4, c4 h4]; rfl
  rw [decide_eq_false h4]
  simp only [cond_false]
  by_cases h3 : x.1 = 3
  · obtain ⟨hd, hm⟩ := c3 h3
    rw [decide_eq_true h3, decide_eq_true hd, decide_eq_true hm]; rfl
  rw [decide_eq_false h3]
  simp only [cond_false]
  by_cases hb : 5 ≤ x.1 ∧ x.1 ≤ 10
  · obtain ⟨m4, t1, t2, t3, t4⟩ := cb hb.1 hb.2
    have mt : x.2.2.2.2.tmod 4 = 0 := Int.tmod_eq_zero_of_dvd (by omega)
    have hp : impl_linting_permitted (l, f, a, calls, E) i = some true := by
      rw [impl_linting_permitted_eq]
      dsimp only
      have he2 := ends_bits hE (i + x.2.2.2.2 / 4) (by omega) t2
      rw [inL_true (by omega) h', hx, decide_eq_true mt, wrap_four _ (by omega) (by omega), tdiv4 _ mt, w64 (n := i + x.2.2.2.2 / 4) (by omega) (by omega), w64 (n := (l.length : Int) - 1) (by omega) (by omega), within_val, decide_eq_true t1, decide_eq_true (show i + x.2.2.2.2 / 4 ≤ (l.length : Int) - 1 by omega)]
      simp only [cond_true, Option.bind_some, Bool.and_self]
      rw [inL_true (by omega) (by rw [hE.1]; exact t2), he2.2.2.2, t3, t4]; rfl
    rw [decide_eq_true hb.1, decide_eq_true hb.2, hp]; rfl
  have hb' : (decide (5 ≤ x.1) && decide (x.1 ≤ 10)) = false := by simp; omega
  rw [hb']
  simp only [cond_false]
  have c1 := c1 h3 h4
  have c2 := c2 h3 h4
  generalize endsI l f i = B0 at *
  generalize endsI l f (i - 1) = B1 at *
  obtain ⟨T, hT⟩ : ∃ T : Option Int, ((impl_widthOf x.1).bind fun r21 => (impl_within x.2.2.2.2 0 (IntKind.wrap .i64 ((IntKind.wrap .i64 (f - 8)) - r21.1))).bind fun r22 => bif (!r22) then some 17 else (bif (decide (r21.1 = 0)) then none else (bif (!decide ((x.2.2.2.2.tmod r21.1) = 0)) then some 17 else some (0 : Int)))) = T := ⟨_, rfl⟩
  have tailT : B0 = false → 11 ≤ x.1 → x.1 ≤ 21 → x.2.2.1 = 2 → T = some 0 := by
    intro q4 q1 q2 q3
    rw [← hT]
    have hw := wid_pos x.1 q1 q2
    rcases cm q1 q2 q3 with he | ⟨m0, m1, m2⟩
    · rw [he] at q4; cases q4
    · have mt : x.2.2.2.2.tmod (widV x.1).1 = 0 := by rw [Int.tmod_eq_emod_of_nonneg m0]; exact m2
      rw [impl_wid _ q1 q2]
      simp only [Option.bind_some]
      rw [within_val, w64 (n := f - 8) (by omega) (by omega), w64 (n := f - 8 - (widV x.1).1) (by omega) (by omega), decide_eq_true m0, decide_eq_true m1, decide_eq_false (show ¬ (widV x.1).1 = 0 by omega), decide_eq_true mt]; rfl
  have rest : (bif (decide (11 ≤ x.1) && decide (x.1 ≤ 17)) then (bif decide (x.2.2.1 = 2) then (bif !B0 then T else some 0) else some 0) else (bif (decide (18 ≤ x.1) && decide (x.1 ≤ 21)) then (bif decide (x.2.2.1 = 2) then (bif !B0 then T else some 0) else some 0) else some 0)) = some 0 := by
    have one : 11 ≤ x.1 → x.1 ≤ 21 → (bif decide (x.2.2.1 = 2) then (bif !B0 then T else some 0) else some 0) = some 0 := by
      intro q1 q2
      by_cases hb2 : x.2.2.1 = 2
      · rw [decide_eq_true hb2]
        cases B0 with
        | false => exact tailT rfl q1 q2 hb2
        | true => rfl
      · rw [decide_eq_false hb2]; rfl
    by_cases q : 11 ≤ x.1 ∧ x.1 ≤ 17
    · rw [show (decide (11 ≤ x.1) && decide (x.1 ≤ 17)) = true by simp; omega, cond_true]
      exact one q.1 (by omega)
    · rw [show (decide (11 ≤ x.1) && decide (x.1 ≤ 17)) = false by simp; omega, cond_false]
      by_cases q' : 18 ≤ x.1 ∧ x.1 ≤ 21
      · rw [show (decide (18 ≤ x.1) && decide (x.1 ≤ 21)) = true by simp; omega, cond_true]
        exact one (by omega) q'.2
      · rw [show (decide (18 ≤ x.1) && decide (x.1 ≤ 21)) = false by simp; omega, cond_false]
  rw [← hT] at rest
  by_cases d1 : x.2.1 = 1
  · rw [decide_eq_true d1, decide_eq_false (show ¬ x.2.1 = 2 by omega)]
    have := c1 d1
    subst this
    exact rest
  · rw [decide_eq_false d1]
    by_cases d2 : x.2.1 = 2
    · rw [decide_eq_true d2]
      have := c2 d2
      subst this
      exact rest
    · rw [decide_eq_false d2]
      exact rest
end Go.Proofs.YtjebgmofebmgaaaGreat.S
