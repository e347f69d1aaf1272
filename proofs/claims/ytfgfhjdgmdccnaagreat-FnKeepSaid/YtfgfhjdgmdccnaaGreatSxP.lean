/- Pure sides: what the functions come to (numbers and lists alone). -/
import Derived.Test.YtfgfhjdgmdccnaaGreatSxI
import Derived.IntWalk
namespace Go.Proofs.YtfgfhjdgmdccnaaGreat.S
open Go.Ps
set_option linter.unusedVariables false
set_option maxRecDepth 100000
theorem w64 {n : Int} (h : -9223372036854775808 ≤ n) (h' : n ≤ 9223372036854775807) : IntKind.wrap .i64 n = n := IntWalk.i64_in n ⟨h, h'⟩
theorem bt_range (t : ByteArray) (i : Int) : 0 ≤ bt t i ∧ bt t i ≤ 255 := by
  unfold bt
  have := (t.data.getD i.toNat 0).toNat_lt
  omega
theorem cond_ite {α : Type} (c : Bool) (a b : α) : cond c a b = if c = true then a else b := by cases c <;> rfl
theorem wrap64_mod (n : Int) : ∃ q : Int, IntKind.wrap .i64 n = n - 18446744073709551616 * q := by
  rw [IntKind.wrap_i64]; exact ⟨(n + 9223372036854775808) / 18446744073709551616, by omega⟩
theorem i64_range (n : Int) : -9223372036854775808 ≤ IntKind.wrap .i64 n ∧ IntKind.wrap .i64 n ≤ 9223372036854775807 := by
  rw [IntKind.wrap_i64]; omega
theorem bv64 (x : Int) : ((BitVec.ofInt IntKind.i64.bits x).toNat : Int) = x % 18446744073709551616 := by
  rw [BitVec.toNat_ofInt]
  have hb : ((2 ^ IntKind.i64.bits : Nat) : Int) = 18446744073709551616 := rfl
  rw [hb]; omega
theorem mod_pow_mod (x : Int) (c : Nat) (hc : c ≤ 62) : x % 18446744073709551616 % 2 ^ c = x % 2 ^ c := by
  apply Int.emod_emod_of_dvd
  exact ⟨2 ^ (64 - c), by rw [← Int.pow_add, show c + (64 - c) = 64 by omega]; rfl⟩
theorem pow_le62 (c : Nat) (hc : c ≤ 62) : (1 : Int) ≤ 2 ^ c ∧ (2 : Int) ^ c ≤ 4611686018427387904 := by
  have h1 : 2 ^ c ≤ 2 ^ 62 := Nat.pow_le_pow_right (by decide) hc
  have h2 : 1 ≤ 2 ^ c := Nat.one_le_two_pow
  have e : ((2 ^ c : Nat) : Int) = (2 : Int) ^ c := by simp
  omega
theorem and_mask (x : Int) (c : Nat) (hc : c ≤ 62) : andI .i64 x (2 ^ c - 1) = x % 2 ^ c := by
  have hp := pow_le62 c hc
  have e : ((2 ^ c : Nat) : Int) = (2 : Int) ^ c := by simp
  unfold andI
  have h1 : (BitVec.ofInt IntKind.i64.bits x &&& BitVec.ofInt IntKind.i64.bits ((2 : Int) ^ c - 1)).toNat = (BitVec.ofInt IntKind.i64.bits x).toNat % 2 ^ c := by
    rw [BitVec.toNat_and]
    have : (BitVec.ofInt IntKind.i64.bits ((2 : Int) ^ c - 1)).toNat = 2 ^ c - 1 := by
      have := bv64 ((2 : Int) ^ c - 1); omega
    rw [this, Nat.and_two_pow_sub_one_eq_mod]
  rw [h1]
  have h2 : (((BitVec.ofInt IntKind.i64.bits x).toNat % 2 ^ c : Nat) : Int) = x % 2 ^ c := by
    rw [Int.natCast_emod, bv64, e, mod_pow_mod x c hc]
  rw [h2]
  have h3 : 0 ≤ x % 2 ^ c := Int.emod_nonneg _ (by omega)
  have h4 : x % 2 ^ c < 2 ^ c := Int.emod_lt_of_pos _ (by omega)
  exact w64 (by omega) (by omega)
theorem shr_div {x : Int} {k : Int} (h : 0 ≤ k) (h' : k ≤ 64) : shrI .i64 x k = x / 2 ^ k.toNat := by
  unfold shrI
  have hb : IntKind.i64.bits = 64 := rfl
  rw [show min k.toNat IntKind.i64.bits = k.toNat by omega, Int.fdiv_eq_ediv_of_nonneg]
  have := pow_le62
  exact Int.le_of_lt (Int.pow_pos (by decide))
theorem shl_mul {x : Int} {k : Int} (h : 0 ≤ k) (h' : k ≤ 64) : shlI .i64 x k = IntKind.wrap .i64 (x * 2 ^ k.toNat) := by
  unfold shlI
  have hb : IntKind.i64.bits = 64 := rfl
  rw [show min k.toNat IntKind.i64.bits = k.toNat by omega]
theorem bitsOf_val (v low count : Int) (h : 0 ≤ low) (h' : low ≤ 64) (hc : 0 ≤ count) (hc' : count ≤ 62) : impl_bitsOf v low count = some (v / 2 ^ low.toNat % 2 ^ count.toNat) := by
  rw [impl_bitsOf_eq]
  have hp := pow_le62 count.toNat (by omega)
  rw [show decide (low < 0) = false by simp; omega, show decide (count < 0) = false by simp; omega, shl_mul hc (by omega), shr_div h h', Int.one_mul, w64 (n := 2 ^ count.toNat) (by omega) (by omega), w64 (n := 2 ^ count.toNat - 1) (by omega) (by omega), and_mask _ _ (by omega)]
  rfl
/-- A number is laid into a place that is empty. -/
theorem nat_or_field (x y k c : Nat) (hy : y < 2 ^ c) (h : x / 2 ^ k % 2 ^ c = 0) : x ||| y * 2 ^ k = x + y * 2 ^ k := by
  have hk : 0 < 2 ^ k := Nat.two_pow_pos k
  have hkc : 0 < 2 ^ (k + c) := Nat.two_pow_pos _
  have e1 : x % 2 ^ (k + c) < 2 ^ k := by
    rw [Nat.pow_add]
    have : x % (2 ^ k * 2 ^ c) = x % 2 ^ k + 2 ^ k * (x / 2 ^ k % 2 ^ c) := Nat.mod_mul
    rw [this, h]
    have := Nat.mod_lt x hk
    omega
  have e2 : y * 2 ^ k + x % 2 ^ (k + c) < 2 ^ (k + c) := by
    have : (y + 1) * 2 ^ k ≤ 2 ^ c * 2 ^ k := Nat.mul_le_mul_right _ (by omega)
    rw [Nat.pow_add, Nat.mul_comm (2 ^ k) (2 ^ c)]
    rw [Nat.pow_add, Nat.mul_comm (2 ^ k) (2 ^ c)] at e1
    rw [Nat.add_mul] at this
    omega
  have hx : x = (x / 2 ^ (k + c)) <<< (k + c) ||| x % 2 ^ (k + c) := by
    rw [← Nat.shiftLeft_add_eq_or_of_lt (Nat.mod_lt x hkc), Nat.shiftLeft_eq]
    have := Nat.div_add_mod x (2 ^ (k + c))
    rw [Nat.mul_comm] at this; exact this.symm
  have h3 : x % 2 ^ (k + c) ||| y * 2 ^ k = y * 2 ^ k + x % 2 ^ (k + c) := by
    rw [Nat.or_comm, ← Nat.shiftLeft_eq y k, ← Nat.shiftLeft_add_eq_or_of_lt e1, Nat.shiftLeft_eq]
  calc x ||| y * 2 ^ k = (x / 2 ^ (k + c)) <<< (k + c) ||| (x % 2 ^ (k + c) ||| y * 2 ^ k) := by
        conv => lhs; rw [hx]
        rw [Nat.or_assoc]
    _ = (x / 2 ^ (k + c)) <<< (k + c) + (y * 2 ^ k + x % 2 ^ (k + c)) := by rw [h3, Nat.shiftLeft_add_eq_or_of_lt e2]
    _ = x + y * 2 ^ k := by
        rw [Nat.shiftLeft_eq]
        have := Nat.div_add_mod x (2 ^ (k + c))
        rw [Nat.mul_comm] at this; omega
theorem or_field {x y P Q : Int} (k c : Nat) (hP : P = 2 ^ k) (hQ : Q = 2 ^ c) (hkc : k + c ≤ 62) (hx : 0 ≤ x) (hx' : x < 4611686018427387904) (hy : 0 ≤ y) (hy' : y < Q) (h : x / P % Q = 0) : orI .i64 x (y * P) = x + y * P := by
  subst hP hQ
  obtain ⟨a, rfl⟩ := Int.eq_ofNat_of_zero_le hx
  obtain ⟨b, rfl⟩ := Int.eq_ofNat_of_zero_le hy
  have hp := pow_le62 k (by omega)
  have ek : ((2 ^ k : Nat) : Int) = (2 : Int) ^ k := by simp
  have ec : ((2 ^ c : Nat) : Int) = (2 : Int) ^ c := by simp
  have hb : b < 2 ^ c := by omega
  have hlt : b * 2 ^ k < 4611686018427387904 := by
    have h1 : b * 2 ^ k < 2 ^ c * 2 ^ k := Nat.mul_lt_mul_of_pos_right hb (Nat.two_pow_pos k)
    rw [← Nat.pow_add] at h1
    have h2 : 2 ^ (c + k) ≤ 2 ^ 62 := Nat.pow_le_pow_right (by decide) (by omega)
    omega
  have h0 : a / 2 ^ k % 2 ^ c = 0 := by
    have : ((a / 2 ^ k % 2 ^ c : Nat) : Int) = (a : Int) / 2 ^ k % 2 ^ c := by
      rw [Int.natCast_emod, Int.natCast_ediv, ek, ec]
    omega
  have em : ((b * 2 ^ k : Nat) : Int) = (b : Int) * 2 ^ k := by rw [Int.natCast_mul, ek]
  unfold orI
  rw [BitVec.toNat_or]
  have f1 : (BitVec.ofInt IntKind.i64.bits (a : Int)).toNat = a := by have := bv64 (a : Int); omega
  have f2 : (BitVec.ofInt IntKind.i64.bits ((b : Int) * 2 ^ k)).toNat = b * 2 ^ k := by have := bv64 ((b : Int) * 2 ^ k); omega
  rw [f1, f2, nat_or_field a b k c hb h0, Int.natCast_add, em]
  exact w64 (by omega) (by omega)
/-- A number's lowest bits with a sign. -/
def signV (v : Int) (c : Nat) : Int := if v % 2 ^ c < 2 ^ (c - 1) then v % 2 ^ c else v % 2 ^ c - 2 ^ c
theorem pow_half (c : Nat) (h : 1 ≤ c) : (2 : Int) ^ c = 2 * 2 ^ (c - 1) := by
  obtain ⟨d, rfl⟩ := Nat.exists_eq_add_of_le h
  rw [Nat.add_comm, Int.pow_succ, Int.mul_comm]; rfl
theorem signV_mod (v : Int) (c : Nat) : ∃ q, signV v c = v + 2 ^ c * q := by
  unfold signV
  rw [Int.emod_def]
  split
  · exact ⟨-(v / 2 ^ c), by rw [Int.mul_neg]; omega⟩
  · exact ⟨-(v / 2 ^ c) - 1, by rw [Int.mul_sub, Int.mul_neg]; omega⟩
theorem signV_range (v : Int) (c : Nat) (h : 1 ≤ c) : -2 ^ (c - 1) ≤ signV v c ∧ signV v c < 2 ^ (c - 1) := by
  have hp := pow_half c h
  have hp1 : (0 : Int) < 2 ^ (c - 1) := Int.pow_pos (by decide)
  have a1 := Int.emod_nonneg v (show (2 : Int) ^ c ≠ 0 by omega)
  have a2 := Int.emod_lt_of_pos v (show (0 : Int) < 2 ^ c by omega)
  unfold signV
  split <;> omega
theorem wrap_unique {n s : Int} (q : Int) (h : n = s + 18446744073709551616 * q) (h1 : -9223372036854775808 ≤ s) (h2 : s ≤ 9223372036854775807) : IntKind.wrap .i64 n = s := by
  rw [IntKind.wrap_i64]; omega
theorem signOf_val (v count : Int) (h : 1 ≤ count) (h' : count ≤ 64) : impl_signOf v count = some (signV v count.toNat) := by
  rw [impl_signOf_eq, w64 (n := 64 - count) (by omega) (by omega), show decide (64 - count < 0) = false by simp; omega, shl_mul (by omega) (by omega), shr_div (by omega) (by omega)]
  simp only [cond_false]
  congr 1
  obtain ⟨c, rfl⟩ := Int.eq_ofNat_of_zero_le (show 0 ≤ count by omega)
  rw [show ((64 : Int) - (c : Int)).toNat = 64 - c by omega, Int.toNat_natCast]
  have hp1 : (0 : Int) < 2 ^ (c - 1) := Int.pow_pos (by decide)
  have hk : (0 : Int) < 2 ^ (64 - c) := Int.pow_pos (by decide)
  obtain ⟨q, hq⟩ := signV_mod v c
  have hr := signV_range v c (by omega)
  have e64 : (2 : Int) ^ c * 2 ^ (64 - c) = 18446744073709551616 := by rw [← Int.pow_add, show c + (64 - c) = 64 by omega]; rfl
  have e63 : (2 : Int) ^ (c - 1) * 2 ^ (64 - c) = 9223372036854775808 := by rw [← Int.pow_add, show c - 1 + (64 - c) = 63 by omega]; rfl
  have hv : v * 2 ^ (64 - c) = signV v c * 2 ^ (64 - c) + 18446744073709551616 * (-q) := by
    rw [hq, ← e64, Int.add_mul, Int.mul_neg, Int.mul_assoc, Int.mul_comm q, ← Int.mul_assoc]; omega
  have l1 : -9223372036854775808 ≤ signV v c * 2 ^ (64 - c) := by
    have := Int.mul_le_mul_of_nonneg_right hr.1 (show (0 : Int) ≤ 2 ^ (64 - c) by omega)
    rw [Int.neg_mul, e63] at this; exact this
  have l2 : signV v c * 2 ^ (64 - c) ≤ 9223372036854775807 := by
    have := Int.mul_lt_mul_of_pos_right hr.2 hk
    rw [e63] at this; omega
  rw [wrap_unique (-q) hv l1 l2, Int.mul_ediv_cancel _ (by omega)]
def shpL : List (Int × Int × Int × Int) := [(0, 0, 0, 0), (1, 55, 0, 0), (1, 23, 0, 0), (2, 111, 0, 0), (3, 103, 0, 0), (4, 99, 0, 0), (4, 99, 1, 0), (4, 99, 4, 0), (4, 99, 5, 0), (4, 99, 6, 0), (4, 99, 7, 0), (3, 3, 0, 0), (3, 3, 1, 0), (3, 3, 2, 0), (3, 3, 3, 0), (3, 3, 4, 0), (3, 3, 5, 0), (3, 3, 6, 0), (5, 35, 0, 0), (5, 35, 1, 0), (5, 35, 2, 0), (5, 35, 3, 0), (3, 19, 0, 0), (3, 19, 2, 0), (3, 19, 3, 0), (3, 19, 4, 0), (3, 19, 6, 0), (3, 19, 7, 0), (6, 19, 1, 0), (6, 19, 5, 0), (6, 19, 5, 32), (8, 51, 0, 0), (8, 51, 0, 32), (8, 51, 1, 0), (8, 51, 2, 0), (8, 51, 3, 0), (8, 51, 4, 0), (8, 51, 5, 0), (8, 51, 5, 32), (8, 51, 6, 0), (8, 51, 7, 0), (3, 27, 0, 0), (7, 27, 1, 0), (7, 27, 5, 0), (7, 27, 5, 32), (8, 59, 0, 0), (8, 59, 0, 32), (8, 59, 1, 0), (8, 59, 5, 0), (8, 59, 5, 32), (8, 51, 0, 1), (8, 51, 1, 1), (8, 51, 2, 1), (8, 51, 3, 1), (8, 51, 4, 1), (8, 51, 5, 1), (8, 51, 6, 1), (8, 51, 7, 1), (8, 59, 0, 1), (8, 59, 4, 1), (8, 59, 5, 1), (8, 59, 6, 1), (8, 59, 7, 1), (9, 115, 0, 0), (9, 115, 0, 1)]
def shp (n : Int) : Int × Int × Int × Int := shpL.getD n.toNat (0, 0, 0, 0)
theorem fin65 {n : Int} (h : 0 ≤ n) (h' : n ≤ 64) : ∃ k : Fin 65, n = (k.val : Int) := ⟨⟨n.toNat, by omega⟩, by simp; omega⟩
theorem impl_shape (n : Int) (h : 0 ≤ n) (h' : n ≤ 64) : impl_shapeOf n = some (shp n) := by
  rw [impl_shapeOf_eq, impl_ops_eq]
  simp only [Option.bind_some]
  obtain ⟨k, rfl⟩ := fin65 h h'
  clear h h'; revert k
  decide +kernel
/-- What shapes are: the form, the code, both others. -/
def ShpOK (s : Int × Int × Int × Int) : Bool := decide (1 ≤ s.1) && decide (s.1 ≤ 9) && decide (0 ≤ s.2.1) && decide (s.2.1 < 128) && decide (0 ≤ s.2.2.1) && decide (s.2.2.1 < 8) && decide (0 ≤ s.2.2.2) && decide (s.2.2.2 < 64) && (!decide (s.1 = 6) || decide (s.2.2.2 % 2 = 0)) && (!decide (s.1 = 9) || (decide (s.2.2.2 < 2) && decide (s.2.2.1 = 0)))
theorem shp_ok (n : Int) (h : 1 ≤ n) (h' : n ≤ 64) : ShpOK (shp n) = true := by
  obtain ⟨k, rfl⟩ := fin65 (show 0 ≤ n by omega) h'
  clear h'; revert k
  decide +kernel
theorem or_7_1 {x y : Int} (hx : 0 ≤ x) (hx' : x < 4611686018427387904) (hy : 0 ≤ y) (hy' : y < 2) (h : x / 128 % 2 = 0) : orI .i64 x (y * 128) = x + y * 128 := or_field 7 1 rfl rfl (by decide) hx hx' hy hy' h
theorem or_7_5 {x y : Int} (hx : 0 ≤ x) (hx' : x < 4611686018427387904) (hy : 0 ≤ y) (hy' : y < 32) (h : x / 128 % 32 = 0) : orI .i64 x (y * 128) = x + y * 128 := or_field 7 5 rfl rfl (by decide) hx hx' hy hy' h
theorem or_8_4 {x y : Int} (hx : 0 ≤ x) (hx' : x < 4611686018427387904) (hy : 0 ≤ y) (hy' : y < 16) (h : x / 256 % 16 = 0) : orI .i64 x (y * 256) = x + y * 256 := or_field 8 4 rfl rfl (by decide) hx hx' hy hy' h
theorem or_12_3 {x y : Int} (hx : 0 ≤ x) (hx' : x < 4611686018427387904) (hy : 0 ≤ y) (hy' : y < 8) (h : x / 4096 % 8 = 0) : orI .i64 x (y * 4096) = x + y * 4096 := or_field 12 3 rfl rfl (by decide) hx hx' hy hy' h
theorem or_12_8 {x y : Int} (hx : 0 ≤ x) (hx' : x < 4611686018427387904) (hy : 0 ≤ y) (hy' : y < 256) (h : x / 4096 % 256 = 0) : orI .i64 x (y * 4096) = x + y * 4096 := or_field 12 8 rfl rfl (by decide) hx hx' hy hy' h
theorem or_12_20 {x y : Int} (hx : 0 ≤ x) (hx' : x < 4611686018427387904) (hy : 0 ≤ y) (hy' : y < 1048576) (h : x / 4096 % 1048576 = 0) : orI .i64 x (y * 4096) = x + y * 4096 := or_field 12 20 rfl rfl (by decide) hx hx' hy hy' h
theorem or_20_1 {x y : Int} (hx : 0 ≤ x) (hx' : x < 4611686018427387904) (hy : 0 ≤ y) (hy' : y < 2) (h : x / 1048576 % 2 = 0) : orI .i64 x (y * 1048576) = x + y * 1048576 := or_field 20 1 rfl rfl (by decide) hx hx' hy hy' h
theorem or_20_5 {x y : Int} (hx : 0 ≤ x) (hx' : x < 4611686018427387904) (hy : 0 ≤ y) (hy' : y < 32) (h : x / 1048576 % 32 = 0) : orI .i64 x (y * 1048576) = x + y * 1048576 := or_field 20 5 rfl rfl (by decide) hx hx' hy hy' h
theorem or_20_6 {x y : Int} (hx : 0 ≤ x) (hx' : x < 4611686018427387904) (hy : 0 ≤ y) (hy' : y < 64) (h : x / 1048576 % 64 = 0) : orI .i64 x (y * 1048576) = x + y * 1048576 := or_field 20 6 rfl rfl (by decide) hx hx' hy hy' h
theorem or_20_12 {x y : Int} (hx : 0 ≤ x) (hx' : x < 4611686018427387904) (hy : 0 ≤ y) (hy' : y < 4096) (h : x / 1048576 % 4096 = 0) : orI .i64 x (y * 1048576) = x + y * 1048576 := or_field 20 12 rfl rfl (by decide) hx hx' hy hy' h
theorem or_21_10 {x y : Int} (hx : 0 ≤ x) (hx' : x < 4611686018427387904) (hy : 0 ≤ y) (hy' : y < 1024) (h : x / 2097152 % 1024 = 0) : orI .i64 x (y * 2097152) = x + y * 2097152 := or_field 21 10 rfl rfl (by decide) hx hx' hy hy' h
theorem or_25_6 {x y : Int} (hx : 0 ≤ x) (hx' : x < 4611686018427387904) (hy : 0 ≤ y) (hy' : y < 64) (h : x / 33554432 % 64 = 0) : orI .i64 x (y * 33554432) = x + y * 33554432 := or_field 25 6 rfl rfl (by decide) hx hx' hy hy' h
theorem or_25_7 {x y : Int} (hx : 0 ≤ x) (hx' : x < 4611686018427387904) (hy : 0 ≤ y) (hy' : y < 128) (h : x / 33554432 % 128 = 0) : orI .i64 x (y * 33554432) = x + y * 33554432 := or_field 25 7 rfl rfl (by decide) hx hx' hy hy' h
theorem or_26_6 {x y : Int} (hx : 0 ≤ x) (hx' : x < 4611686018427387904) (hy : 0 ≤ y) (hy' : y < 64) (h : x / 67108864 % 64 = 0) : orI .i64 x (y * 67108864) = x + y * 67108864 := or_field 26 6 rfl rfl (by decide) hx hx' hy hy' h
theorem or_31_1 {x y : Int} (hx : 0 ≤ x) (hx' : x < 4611686018427387904) (hy : 0 ≤ y) (hy' : y < 2) (h : x / 2147483648 % 2 = 0) : orI .i64 x (y * 2147483648) = x + y * 2147483648 := or_field 31 1 rfl rfl (by decide) hx hx' hy hy' h
theorem or_1_4 {x y : Int} (hx : 0 ≤ x) (hx' : x < 4611686018427387904) (hy : 0 ≤ y) (hy' : y < 16) (h : x / 2 % 16 = 0) : orI .i64 x (y * 2) = x + y * 2 := or_field 1 4 rfl rfl (by decide) hx hx' hy hy' h
theorem or_1_10 {x y : Int} (hx : 0 ≤ x) (hx' : x < 4611686018427387904) (hy : 0 ≤ y) (hy' : y < 1024) (h : x / 2 % 1024 = 0) : orI .i64 x (y * 2) = x + y * 2 := or_field 1 10 rfl rfl (by decide) hx hx' hy hy' h
theorem or_5_6 {x y : Int} (hx : 0 ≤ x) (hx' : x < 4611686018427387904) (hy : 0 ≤ y) (hy' : y < 64) (h : x / 32 % 64 = 0) : orI .i64 x (y * 32) = x + y * 32 := or_field 5 6 rfl rfl (by decide) hx hx' hy hy' h
theorem or_5_7 {x y : Int} (hx : 0 ≤ x) (hx' : x < 4611686018427387904) (hy : 0 ≤ y) (hy' : y < 128) (h : x / 32 % 128 = 0) : orI .i64 x (y * 32) = x + y * 32 := or_field 5 7 rfl rfl (by decide) hx hx' hy hy' h
theorem or_11_1 {x y : Int} (hx : 0 ≤ x) (hx' : x < 4611686018427387904) (hy : 0 ≤ y) (hy' : y < 2) (h : x / 2048 % 2 = 0) : orI .i64 x (y * 2048) = x + y * 2048 := or_field 11 1 rfl rfl (by decide) hx hx' hy hy' h
theorem or_12_1 {x y : Int} (hx : 0 ≤ x) (hx' : x < 4611686018427387904) (hy : 0 ≤ y) (hy' : y < 2) (h : x / 4096 % 2 = 0) : orI .i64 x (y * 4096) = x + y * 4096 := or_field 12 1 rfl rfl (by decide) hx hx' hy hy' h
theorem or_rs {w a b : Int} (hw : 0 ≤ w) (hw' : w < 4611686018427387904) (ha : 0 ≤ a) (ha' : a < 32) (hb : 0 ≤ b) (hb' : b < 8) (h : w / 4096 % 256 = 0) : orI .i64 w (a * 32768 + b * 4096) = w + (a * 32768 + b * 4096) := by
  have := or_field (x := w) (y := a * 8 + b) (P := 4096) (Q := 256) 12 8 rfl rfl (by decide) hw hw' (by omega) (by omega) h
  rw [show a * 32768 + b * 4096 = (a * 8 + b) * 4096 by omega]; exact this
/-- The word of an instruction. -/
def encV (s : Int × Int × Int × Int) (x : Int × Int × Int × Int × Int) : Int :=
  if s.1 = 1 then s.2.1 + x.2.1 * 128 + x.2.2.2.2 / 4096 % 1048576 * 4096
  else if s.1 = 2 then s.2.1 + x.2.1 * 128 + x.2.2.2.2 / 4096 % 256 * 4096 + x.2.2.2.2 / 2048 % 2 * 1048576 + x.2.2.2.2 / 2 % 1024 * 2097152 + x.2.2.2.2 / 1048576 % 2 * 2147483648
  else if s.1 = 3 then s.2.1 + x.2.1 * 128 + s.2.2.1 * 4096 + x.2.2.1 * 32768 + x.2.2.2.2 % 4096 * 1048576
  else if s.1 = 4 then s.2.1 + x.2.2.2.2 / 2048 % 2 * 128 + x.2.2.2.2 / 2 % 16 * 256 + s.2.2.1 * 4096 + x.2.2.1 * 32768 + x.2.2.2.1 * 1048576 + x.2.2.2.2 / 32 % 64 * 33554432 + x.2.2.2.2 / 4096 % 2 * 2147483648
  else if s.1 = 5 then s.2.1 + x.2.2.2.2 % 32 * 128 + s.2.2.1 * 4096 + x.2.2.1 * 32768 + x.2.2.2.1 * 1048576 + x.2.2.2.2 / 32 % 128 * 33554432
  else if s.1 = 6 then s.2.1 + x.2.1 * 128 + s.2.2.1 * 4096 + x.2.2.1 * 32768 + x.2.2.2.2 % 64 * 1048576 + s.2.2.2 / 2 * 67108864
  else if s.1 = 7 then s.2.1 + x.2.1 * 128 + s.2.2.1 * 4096 + x.2.2.1 * 32768 + x.2.2.2.2 % 32 * 1048576 + s.2.2.2 * 33554432
  else if s.1 = 8 then s.2.1 + x.2.1 * 128 + s.2.2.1 * 4096 + x.2.2.1 * 32768 + x.2.2.2.1 * 1048576 + s.2.2.2 * 33554432
  else s.2.1 + s.2.2.2 * 1048576
structure RegsOK (x : Int × Int × Int × Int × Int) : Prop where
  d : 0 ≤ x.2.1 ∧ x.2.1 ≤ 31
  a : 0 ≤ x.2.2.1 ∧ x.2.2.1 ≤ 31
  b : 0 ≤ x.2.2.2.1 ∧ x.2.2.2.1 ≤ 31
  i : -9223372036854775808 ≤ x.2.2.2.2 ∧ x.2.2.2.2 ≤ 9223372036854775807
theorem shp_facts {f c f3 f7 : Int} (h : ShpOK (f, c, f3, f7) = true) : (1 ≤ f ∧ f ≤ 9) ∧ (0 ≤ c ∧ c < 128) ∧ (0 ≤ f3 ∧ f3 < 8) ∧ (0 ≤ f7 ∧ f7 < 64) ∧ (f = 6 → f7 % 2 = 0) ∧ (f = 9 → f7 < 2 ∧ f3 = 0) := by
  simp only [ShpOK, Bool.and_eq_true, Bool.or_eq_true, Bool.not_eq_true', decide_eq_true_eq, decide_eq_false_iff_not] at h
  omega
theorem forms {f : Int} (h : 1 ≤ f ∧ f ≤ 9) : f = 1 ∨ f = 2 ∨ f = 3 ∨ f = 4 ∨ f = 5 ∨ f = 6 ∨ f = 7 ∨ f = 8 ∨ f = 9 := by omega
theorem inL_nat (j n : Nat) : inL (j : Int) n = decide (j < n) := by
  unfold inL; rw [show decide (0 ≤ (j : Int)) = true by simp, Bool.true_and]; congr 1; simp
theorem rd_nat {τ : Ty} (xs : List τ.den) (j : Nat) (h : j < xs.length) : rd (τ := τ) xs (j : Int) = xs[j] := by
  unfold rd; rw [Int.toNat_natCast, List.getD_eq_getElem?_getD, List.getElem?_eq_getElem h]; rfl
theorem w64_succ (j n : Nat) (h : j < n) (h' : n ≤ 9223372036854775807) : IntKind.wrap .i64 ((j : Int) + 1) = ((j + 1 : Nat) : Int) := by
  rw [w64 (by omega) (by omega)]; omega
theorem lt_nat (j n : Nat) : decide ((j : Int) < (n : Int)) = decide (j < n) := by congr 1; simp
def putP (imm : Int) (w : Int) (p : Int × Int × Int) : Int := orI .i64 w (shlI .i64 (imm / 2 ^ p.1.toNat % 2 ^ p.2.1.toNat) p.2.2)
def PiecesOK (ps : List (Int × Int × Int)) : Prop := ps.length ≤ 4 ∧ ∀ p ∈ ps, 0 ≤ p.1 ∧ p.1 ≤ 62 ∧ 0 ≤ p.2.1 ∧ p.2.1 ≤ 62 ∧ 0 ≤ p.2.2 ∧ p.2.2 ≤ 62
theorem enc_loop (x : Int × Int × Int × Int × Int) (s : Int × Int × Int × Int) (ps : List (Int × Int × Int)) (hp : PiecesOK ps) :
    ∀ (k j : Nat) (w : Int), j + k = ps.length → impl_encode.l111010 x s w ps (ps.length : Int) (j : Int) = impl_encode.l111010 x s ((ps.drop j).foldl (putP x.2.2.2.2) w) ps (ps.length : Int) (ps.length : Int) := by
  intro k
  induction k with
  | zero => intro j w h; have : j = ps.length := by omega
            subst this; simp
  | succ k ih =>
    intro j w h
    have hj : j < ps.length := by omega
    obtain ⟨p1, p2, p3, p4, p5, p6⟩ := hp.2 ps[j] (List.getElem_mem hj)
    have e := rd_nat (τ := .pair (.int .i64) (.pair (.int .i64) (.int .i64))) ps j hj
    rw [impl_encode.l111010_eq, lt_nat, inL_nat, e, w64_succ j ps.length hj (by have := hp.1; omega)]
    simp only [decide_eq_true hj, cond_true]
    rw [bitsOf_val _ _ _ (by omega) (by omega) (by omega) (by omega)]
    simp only [Option.bind_some]
    rw [show decide (ps[j].2.2 < 0) = false by simp; omega]
    simp only [cond_false]
    rw [ih (j + 1) _ (by omega), List.drop_eq_getElem_cons hj, List.foldl_cons]
    rfl
def piecesV (f : Int) : List (Int × Int × Int) :=
  if f = 1 then [(12, 20, 12)] else if f = 2 then [(12, 8, 12), (11, 1, 20), (1, 10, 21), (20, 1, 31)] else if f = 3 then [(0, 12, 20)] else if f = 4 then [(11, 1, 7), (1, 4, 8), (5, 6, 25), (12, 1, 31)]
  else if f = 5 then [(0, 5, 7), (5, 7, 25)] else if f = 6 then [(0, 6, 20)] else if f = 7 then [(0, 5, 20)] else []
theorem pieces_val {f : Int} (h : 1 ≤ f ∧ f ≤ 9) : impl_pieces f = some (piecesV f) ∧ PiecesOK (piecesV f) := by
  rw [impl_pieces_eq]
  rcases forms h with rfl | rfl | rfl | rfl | rfl | rfl | rfl | rfl | rfl <;> exact ⟨rfl, by unfold PiecesOK; decide⟩
theorem shl_val {y : Int} (k : Nat) (P : Int) (hP : P = 2 ^ k) (hk : k ≤ 62) (h0 : 0 ≤ y) (h : y * P ≤ 9223372036854775807) : shlI .i64 y (k : Int) = y * P := by
  rw [shl_mul (by omega) (by omega), Int.toNat_natCast, ← hP]
  have : 0 ≤ y * P := Int.mul_nonneg h0 (by rw [hP]; exact Int.le_of_lt (Int.pow_pos (by decide)))
  exact w64 (by omega) (by omega)
theorem shl_7 {y : Int} (h0 : 0 ≤ y) (h : y ≤ 2147483647) : shlI .i64 y 7 = y * 128 := shl_val 7 128 rfl (by decide) h0 (by omega)
theorem shl_8 {y : Int} (h0 : 0 ≤ y) (h : y ≤ 2147483647) : shlI .i64 y 8 = y * 256 := shl_val 8 256 rfl (by decide) h0 (by omega)
theorem shl_12 {y : Int} (h0 : 0 ≤ y) (h : y ≤ 2147483647) : shlI .i64 y 12 = y * 4096 := shl_val 12 4096 rfl (by decide) h0 (by omega)
theorem shl_15 {y : Int} (h0 : 0 ≤ y) (h : y ≤ 2147483647) : shlI .i64 y 15 = y * 32768 := shl_val 15 32768 rfl (by decide) h0 (by omega)
theorem shl_20 {y : Int} (h0 : 0 ≤ y) (h : y ≤ 2147483647) : shlI .i64 y 20 = y * 1048576 := shl_val 20 1048576 rfl (by decide) h0 (by omega)
theorem shl_21 {y : Int} (h0 : 0 ≤ y) (h : y ≤ 2147483647) : shlI .i64 y 21 = y * 2097152 := shl_val 21 2097152 rfl (by decide) h0 (by omega)
theorem shl_25 {y : Int} (h0 : 0 ≤ y) (h : y ≤ 2147483647) : shlI .i64 y 25 = y * 33554432 := shl_val 25 33554432 rfl (by decide) h0 (by omega)
theorem shl_26 {y : Int} (h0 : 0 ≤ y) (h : y ≤ 2147483647) : shlI .i64 y 26 = y * 67108864 := shl_val 26 67108864 rfl (by decide) h0 (by omega)
theorem shl_31 {y : Int} (h0 : 0 ≤ y) (h : y ≤ 2147483647) : shlI .i64 y 31 = y * 2147483648 := shl_val 31 2147483648 rfl (by decide) h0 (by omega)
theorem shr_one {x : Int} : shrI .i64 x 1 = x / 2 := by rw [shr_div (by decide) (by decide)]; rfl
def fieldsV (f : Int) : Bool × Bool × Bool :=
  if f = 1 ∨ f = 2 then (true, false, false) else if f = 3 ∨ f = 6 ∨ f = 7 then (true, true, false) else if f = 4 ∨ f = 5 then (false, true, true) else if f = 8 then (true, true, true) else (false, false, false)
theorem fields_val {f : Int} (h : 1 ≤ f ∧ f ≤ 9) : impl_fields f = some (fieldsV f) := by
  rw [impl_fields_eq]
  rcases forms h with rfl | rfl | rfl | rfl | rfl | rfl | rfl | rfl | rfl <;> rfl
theorem impl_encode_val (x : Int × Int × Int × Int × Int) (h : 1 ≤ x.1) (h' : x.1 ≤ 64) (hr : RegsOK x) : impl_encode x = some (encV (shp x.1) x) := by
  rw [impl_encode_eq, impl_shape _ (by omega) h']
  have hs := shp_ok x.1 h h'
  generalize shp x.1 = s at *
  obtain ⟨n, rd', rs1, rs2, imm⟩ := x
  obtain ⟨f, c, f3, f7⟩ := s
  obtain ⟨⟨d1, d2⟩, ⟨a1, a2⟩, ⟨b1, b2⟩, ⟨i1, i2⟩⟩ := hr
  obtain ⟨s1, ⟨s2, s2'⟩, ⟨s3, s3'⟩, ⟨s4, s4'⟩, s5, s6⟩ := shp_facts hs
  clear hs
  dsimp only at *
  obtain ⟨hp, hpo⟩ := pieces_val s1
  have hf := fields_val s1
  simp only [Option.bind_some, hp]
  rw [show (0 : Int) = ((0 : Nat) : Int) by rfl, enc_loop _ _ _ hpo (piecesV f).length 0 _ (by omega), impl_encode.l111010_eq, lt_nat]
  simp only [Nat.lt_irrefl, decide_false, cond_false, hf, List.drop_zero, Option.bind_some, joinB]
  clear hp hpo hf
  rcases forms s1 with rfl | rfl | rfl | rfl | rfl | rfl | rfl | rfl | rfl
  · simp [piecesV, fieldsV, putP, encV]
    have hb0 : 0 ≤ imm / 4096 % 1048576 ∧ imm / 4096 % 1048576 < 1048576 := by omega
    generalize imm / 4096 % 1048576 = y0 at *
    simp (disch := omega) only [shl_12, shl_7, or_12_20, or_7_5]
    try omega
  · simp [piecesV, fieldsV, putP, encV]
    have hb0 : 0 ≤ imm / 4096 % 256 ∧ imm / 4096 % 256 < 256 := by omega
    generalize imm / 4096 % 256 = y0 at *
    have hb1 : 0 ≤ imm / 2048 % 2 ∧ imm / 2048 % 2 < 2 := by omega
    generalize imm / 2048 % 2 = y1 at *
    have hb2 : 0 ≤ imm / 2 % 1024 ∧ imm / 2 % 1024 < 1024 := by omega
    generalize imm / 2 % 1024 = y2 at *
    have hb3 : 0 ≤ imm / 1048576 % 2 ∧ imm / 1048576 % 2 < 2 := by omega
    generalize imm / 1048576 % 2 = y3 at *
    simp (disch := omega) only [shl_12, shl_20, shl_21, shl_31, shl_7, or_12_8, or_20_1, or_21_10, or_31_1, or_7_5]
    try omega
  · simp [piecesV, fieldsV, putP, encV]
    have hb0 : 0 ≤ imm % 4096 ∧ imm % 4096 < 4096 := by omega
    generalize imm % 4096 = y0 at *
    simp (disch := omega) only [shl_20, shl_7, shl_15, shl_12, or_20_12, or_7_5, or_12_3, or_rs]
    try omega
  · simp [piecesV, fieldsV, putP, encV]
    have hb0 : 0 ≤ imm / 2048 % 2 ∧ imm / 2048 % 2 < 2 := by omega
    generalize imm / 2048 % 2 = y0 at *
    have hb1 : 0 ≤ imm / 2 % 16 ∧ imm / 2 % 16 < 16 := by omega
    generalize imm / 2 % 16 = y1 at *
    have hb2 : 0 ≤ imm / 32 % 64 ∧ imm / 32 % 64 < 64 := by omega
    generalize imm / 32 % 64 = y2 at *
    have hb3 : 0 ≤ imm / 4096 % 2 ∧ imm / 4096 % 2 < 2 := by omega
    generalize imm / 4096 % 2 = y3 at *
    simp (disch := omega) only [shl_7, shl_8, shl_25, shl_31, shl_15, shl_12, shl_20, or_7_1, or_8_4, or_25_6, or_31_1, or_12_3, or_rs, or_20_5]
    try omega
  · simp [piecesV, fieldsV, putP, encV]
    have hb0 : 0 ≤ imm % 32 ∧ imm % 32 < 32 := by omega
    generalize imm % 32 = y0 at *
    have hb1 : 0 ≤ imm / 32 % 128 ∧ imm / 32 % 128 < 128 := by omega
    generalize imm / 32 % 128 = y1 at *
    simp (disch := omega) only [shl_7, shl_25, shl_15, shl_12, shl_20, or_7_5, or_25_7, or_12_3, or_rs, or_20_5]
    try omega
  · simp [piecesV, fieldsV, putP, encV, shr_one]
    have hb0 : 0 ≤ imm % 64 ∧ imm % 64 < 64 := by omega
    generalize imm % 64 = y0 at *
    have hs : 0 ≤ f7 / 2 ∧ f7 / 2 < 64 := by omega
    generalize f7 / 2 = z at *
    simp (disch := omega) only [shl_20, shl_7, shl_15, shl_12, shl_26, or_20_6, or_7_5, or_12_3, or_rs, or_26_6]
    try omega
  · simp [piecesV, fieldsV, putP, encV]
    have hb0 : 0 ≤ imm % 32 ∧ imm % 32 < 32 := by omega
    generalize imm % 32 = y0 at *
    simp (disch := omega) only [shl_20, shl_7, shl_15, shl_12, shl_25, or_20_5, or_7_5, or_12_3, or_rs, or_25_7]
    try omega
  · simp [piecesV, fieldsV, encV]
    simp (disch := omega) only [shl_7, shl_15, shl_12, shl_20, shl_25, or_7_5, or_12_3, or_rs, or_20_5, or_25_7]
    try omega
  · simp [piecesV, fieldsV, encV]
    simp (disch := omega) only [shl_20, or_20_1]
    try omega
/-- The number of an instruction's word, without its sign. -/
def immU (f w : Int) : Int :=
  if f = 1 then w / 4096 % 1048576 * 4096
  else if f = 2 then w / 4096 % 256 * 4096 + w / 1048576 % 2 * 2048 + w / 2097152 % 1024 * 2 + w / 2147483648 % 2 * 1048576
  else if f = 3 then w / 1048576 % 4096
  else if f = 4 then w / 128 % 2 * 2048 + w / 256 % 16 * 2 + w / 33554432 % 64 * 32 + w / 2147483648 % 2 * 4096
  else if f = 5 then w / 128 % 32 + w / 33554432 % 128 * 32
  else if f = 6 then w / 1048576 % 64
  else if f = 7 then w / 1048576 % 32
  else 0
def bitsV (f : Int) : Nat := if f = 1 then 32 else if f = 2 then 21 else if f = 3 ∨ f = 5 then 12 else if f = 4 then 13 else 0
def immS (f w : Int) : Int := if 0 < bitsV f then signV (immU f w) (bitsV f) else immU f w
def decV (n f w : Int) : Int × Int × Int × Int × Int :=
  (n, (if (fieldsV f).1 then w / 128 % 32 else 0), (if (fieldsV f).2.1 then w / 32768 % 32 else 0), (if (fieldsV f).2.2 then w / 1048576 % 32 else 0), immS f w)
theorem immBits_val {f : Int} (h : 1 ≤ f ∧ f ≤ 9) : impl_immBits f = some ((bitsV f : Nat) : Int) := by
  rw [impl_immBits_eq]
  rcases forms h with rfl | rfl | rfl | rfl | rfl | rfl | rfl | rfl | rfl <;> rfl
theorem immS_range {f w : Int} (hf : 1 ≤ f ∧ f ≤ 9) (h : 0 ≤ w) (h' : w < 4294967296) : -2147483648 ≤ immS f w ∧ immS f w ≤ 2147483647 := by
  rcases forms hf with rfl | rfl | rfl | rfl | rfl | rfl | rfl | rfl | rfl <;> simp [immS, bitsV, immU, signV] <;> omega
theorem dec_regs {n f w : Int} (hf : 1 ≤ f ∧ f ≤ 9) (h : 0 ≤ w) (h' : w < 4294967296) : RegsOK (decV n f w) := by
  have hi := immS_range hf h h'
  refine ⟨?_, ?_, ?_, ?_⟩
  · simp only [decV]; split <;> omega
  · simp only [decV]; split <;> omega
  · simp only [decV]; split <;> omega
  · simp only [decV]; omega
def takeP (w : Int) (i : Int) (p : Int × Int × Int) : Int := orI .i64 i (shlI .i64 (w / 2 ^ p.2.2.toNat % 2 ^ p.2.1.toNat) p.1)
theorem dec_loop (w : Int) (z : Int × Int × Int × Int × Int) (s : Int × Int × Int × Int) (os : List (ByteArray × Int × Int × Int × Int)) (ln n : Int) (op rd' r1 r2 : Int) (ps : List (Int × Int × Int)) (hp : PiecesOK ps) :
    ∀ (k j : Nat) (i : Int), j + k = ps.length → impl_decode.l1010011001111010 w z s (op, rd', r1, r2, i) os ln n ps (ps.length : Int) (j : Int) = impl_decode.l1010011001111010 w z s (op, rd', r1, r2, (ps.drop j).foldl (takeP w) i) os ln n ps (ps.length : Int) (ps.length : Int) := by
  intro k
  induction k with
  | zero => intro j i h; have : j = ps.length := by omega
            subst this; simp
  | succ k ih =>
    intro j i h
    have hj : j < ps.length := by omega
    obtain ⟨p1, p2, p3, p4, p5, p6⟩ := hp.2 ps[j] (List.getElem_mem hj)
    have e := rd_nat (τ := .pair (.int .i64) (.pair (.int .i64) (.int .i64))) ps j hj
    rw [impl_decode.l1010011001111010_eq, lt_nat, inL_nat, e, w64_succ j ps.length hj (by have := hp.1; omega)]
    simp only [decide_eq_true hj, cond_true]
    rw [bitsOf_val _ _ _ (by omega) (by omega) (by omega) (by omega)]
    simp only [Option.bind_some]
    rw [show decide (ps[j].1 < 0) = false by simp; omega]
    simp only [cond_false]
    rw [ih (j + 1) _ (by omega), List.drop_eq_getElem_cons hj, List.foldl_cons]
    rfl
theorem shl_11 {y : Int} (h0 : 0 ≤ y) (h : y ≤ 2147483647) : shlI .i64 y 11 = y * 2048 := shl_val 11 2048 rfl (by decide) h0 (by omega)
theorem shl_1 {y : Int} (h0 : 0 ≤ y) (h : y ≤ 2147483647) : shlI .i64 y 1 = y * 2 := shl_val 1 2 rfl (by decide) h0 (by omega)
theorem shl_5 {y : Int} (h0 : 0 ≤ y) (h : y ≤ 2147483647) : shlI .i64 y 5 = y * 32 := shl_val 5 32 rfl (by decide) h0 (by omega)
theorem shl_0 {y : Int} (h0 : 0 ≤ y) (h : y ≤ 2147483647) : shlI .i64 y 0 = y := by
  rw [shl_mul (by decide) (by decide)]; simp; exact w64 (by omega) (by omega)
theorem or_zero {y : Int} (h0 : 0 ≤ y) (h : y ≤ 2147483647) : orI .i64 0 y = y := by
  have := or_field (x := 0) (y := y) (P := 1) (Q := 2147483648) 0 31 rfl rfl (by decide) (by decide) (by decide) h0 (by omega) (by omega)
  simpa using this
theorem take_pieces {f w : Int} (hf : 1 ≤ f ∧ f ≤ 9) (h : 0 ≤ w) (h' : w < 4294967296) : (piecesV f).foldl (takeP w) 0 = immU f w := by
  rcases forms hf with rfl | rfl | rfl | rfl | rfl | rfl | rfl | rfl | rfl
  · simp [piecesV, takeP, immU]
    have hb0 : 0 ≤ w / 4096 % 1048576 ∧ w / 4096 % 1048576 < 1048576 := by omega
    generalize w / 4096 % 1048576 = y0 at *
    simp (disch := omega) only [shl_12, or_12_20]
    omega
  · simp [piecesV, takeP, immU]
    have hb0 : 0 ≤ w / 4096 % 256 ∧ w / 4096 % 256 < 256 := by omega
    generalize w / 4096 % 256 = y0 at *
    have hb1 : 0 ≤ w / 1048576 % 2 ∧ w / 1048576 % 2 < 2 := by omega
    generalize w / 1048576 % 2 = y1 at *
    have hb2 : 0 ≤ w / 2097152 % 1024 ∧ w / 2097152 % 1024 < 1024 := by omega
    generalize w / 2097152 % 1024 = y2 at *
    have hb3 : 0 ≤ w / 2147483648 % 2 ∧ w / 2147483648 % 2 < 2 := by omega
    generalize w / 2147483648 % 2 = y3 at *
    simp (disch := omega) only [shl_12, shl_11, shl_1, shl_20, or_12_8, or_11_1, or_1_10, or_20_1]
    omega
  · simp [piecesV, takeP, immU]
    have hb0 : 0 ≤ w / 1048576 % 4096 ∧ w / 1048576 % 4096 < 4096 := by omega
    generalize w / 1048576 % 4096 = y0 at *
    simp (disch := omega) only [shl_0, or_zero]
  · simp [piecesV, takeP, immU]
    have hb0 : 0 ≤ w / 128 % 2 ∧ w / 128 % 2 < 2 := by omega
    generalize w / 128 % 2 = y0 at *
    have hb1 : 0 ≤ w / 256 % 16 ∧ w / 256 % 16 < 16 := by omega
    generalize w / 256 % 16 = y1 at *
    have hb2 : 0 ≤ w / 33554432 % 64 ∧ w / 33554432 % 64 < 64 := by omega
    generalize w / 33554432 % 64 = y2 at *
    have hb3 : 0 ≤ w / 2147483648 % 2 ∧ w / 2147483648 % 2 < 2 := by omega
    generalize w / 2147483648 % 2 = y3 at *
    simp (disch := omega) only [shl_11, shl_1, shl_5, shl_12, or_11_1, or_1_4, or_5_6, or_12_1]
    omega
  · simp [piecesV, takeP, immU]
    have hb0 : 0 ≤ w / 128 % 32 ∧ w / 128 % 32 < 32 := by omega
    generalize w / 128 % 32 = y0 at *
    have hb1 : 0 ≤ w / 33554432 % 128 ∧ w / 33554432 % 128 < 128 := by omega
    generalize w / 33554432 % 128 = y1 at *
    simp (disch := omega) only [shl_0, shl_5, or_zero, or_5_7]
  · simp [piecesV, takeP, immU]
    have hb0 : 0 ≤ w / 1048576 % 64 ∧ w / 1048576 % 64 < 64 := by omega
    generalize w / 1048576 % 64 = y0 at *
    simp (disch := omega) only [shl_0, or_zero]
  · simp [piecesV, takeP, immU]
    have hb0 : 0 ≤ w / 1048576 % 32 ∧ w / 1048576 % 32 < 32 := by omega
    generalize w / 1048576 % 32 = y0 at *
    simp (disch := omega) only [shl_0, or_zero]
  · rfl
  · rfl
theorem dec_imm {f w : Int} (hf : 1 ≤ f ∧ f ≤ 9) : (if 0 < bitsV f then impl_signOf (immU f w) ((bitsV f : Nat) : Int) else some (immU f w)) = some (immS f w) := by
  unfold immS
  rcases forms hf with rfl | rfl | rfl | rfl | rfl | rfl | rfl | rfl | rfl <;> simp [bitsV] <;> rw [signOf_val _ _ (by decide) (by decide)] <;> rfl
theorem ops_rd (n : Int) (h : 0 ≤ n) (h' : n ≤ 64) : ∃ os : List (ByteArray × Int × Int × Int × Int), impl_ops = some os ∧ os.length = 65 ∧ ∀ m : Nat, m ≤ 64 → ((rd (τ := (.pair .str (.pair (.int .i64) (.pair (.int .i64) (.pair (.int .i64) (.int .i64)))))) os m).2) = shp m := by
  refine ⟨_, impl_ops_eq, rfl, fun m hm => ?_⟩
  obtain ⟨k, rfl⟩ : ∃ k : Fin 65, m = k.val := ⟨⟨m, by omega⟩, rfl⟩
  clear hm; revert k
  decide +kernel
theorem impl_dec_step (w : Int) (h : 0 ≤ w) (h' : w < 4294967296) (z : Int × Int × Int × Int × Int) (os : List (ByteArray × Int × Int × Int × Int)) (ho : os.length = 65) (hs : ∀ m : Nat, m ≤ 64 → ((rd (τ := (.pair .str (.pair (.int .i64) (.pair (.int .i64) (.pair (.int .i64) (.int .i64)))))) os m).2) = shp m) (n : Nat) (h1 : 1 ≤ n) (hn : n ≤ 64) :
    impl_decode.l1010 w z os 65 n = if (shp n).2.1 = w % 128 ∧ encV (shp n) (decV n (shp n).1 w) = w then some (decV n (shp n).1 w, true) else impl_decode.l1010 w z os 65 ((n + 1 : Nat) : Int) := by
  have hsf := shp_ok n (by omega) (by omega)
  rw [impl_decode.l1010_eq, show decide ((n : Int) < 65) = true by simp; omega, ho, show inL (n : Int) 65 = true by rw [inL_nat]; simp; omega, hs n hn, show decide ((n : Int) = 0) = false by simp; omega, bitsOf_val w 0 7 (by decide) (by decide) (by decide) (by decide), w64 (n := (n : Int) + 1) (by omega) (by omega)]
  have e0 : ((n + 1 : Nat) : Int) = (n : Int) + 1 := by omega
  rw [e0]
  simp only [cond_true, cond_false, joinB, Option.bind_some]
  rw [show w / 2 ^ (0 : Int).toNat % 2 ^ (7 : Int).toNat = w % 128 by simp]
  by_cases hc : (shp n).2.1 = w % 128
  · have henc : ∀ x : Int × Int × Int × Int × Int, x.1 = (n : Int) → RegsOK x → impl_encode x = some (encV (shp n) x) := fun x hx hr => by rw [← hx]; exact impl_encode_val x (by omega) (by omega) hr
    generalize hS : shp n = s at *
    obtain ⟨f, c, f3, f7⟩ := s
    obtain ⟨s1, ⟨s2, s2'⟩, ⟨s3, s3'⟩, ⟨s4, s4'⟩, s5, s6⟩ := shp_facts hsf
    obtain ⟨hp, hpo⟩ := pieces_val s1
    dsimp only at *
    rw [decide_eq_true hc, hp]
    simp only [eq_true hc, true_and, Bool.not_true, cond_false, Option.bind_some]
    clear hc
    rw [show (0 : Int) = ((0 : Nat) : Int) by rfl, dec_loop _ _ _ _ _ _ _ _ _ _ _ hpo (piecesV f).length 0 _ (by omega), List.drop_zero, show (((0 : Nat) : Int)) = 0 by rfl, take_pieces s1 h h', impl_decode.l1010011001111010_eq, lt_nat]
    simp only [Nat.lt_irrefl, decide_false, cond_false, immBits_val s1, fields_val s1, Option.bind_some, joinB]
    have hi := dec_imm (w := w) s1
    have he := henc (decV n f w) rfl (dec_regs s1 h h')
    have b1 : impl_bitsOf w 7 5 = some (w / 128 % 32) := bitsOf_val w 7 5 (by decide) (by decide) (by decide) (by decide)
    have b2 : impl_bitsOf w 15 5 = some (w / 32768 % 32) := bitsOf_val w 15 5 (by decide) (by decide) (by decide) (by decide)
    have b3 : impl_bitsOf w 20 5 = some (w / 1048576 % 32) := bitsOf_val w 20 5 (by decide) (by decide) (by decide) (by decide)
    rw [w64 (n := (n : Int) + 1) (by omega) (by omega)]
    clear henc hS hs ho hp hpo s5 s6 hsf
    unfold decV at he ⊢
    generalize impl_decode.l1010 w z os 65 (↑n + 1) = nx
    generalize immU f w = iu at *
    generalize immS f w = im at *
    simp only [b1, b2, b3, Option.bind_some]
    rcases forms s1 with rfl | rfl | rfl | rfl | rfl | rfl | rfl | rfl | rfl <;> simp [bitsV, fieldsV] at hi he ⊢ <;> first | (rw [hi, Option.bind_some, he]; simp [cond_ite]) | (rw [hi, he]; simp [cond_ite])
  · rw [if_neg (fun hh => hc hh.1), show decide ((shp n).2.1 = w % 128) = false by simpa using hc]
    rfl
theorem within_val (n a b : Int) : impl_within n a b = some (decide (a ≤ n) && decide (n ≤ b)) := by
  rw [impl_within_eq]
  by_cases h : a ≤ n <;> simp [h]
/-- An instruction's number fits its form. -/
def immR (f i : Int) : Bool :=
  if f = 1 then decide (-2147483648 ≤ i) && decide (i ≤ 2147479552) && decide (i % 4096 = 0)
  else if f = 2 then decide (-1048576 ≤ i) && decide (i ≤ 1048574) && decide (i % 2 = 0)
  else if f = 3 ∨ f = 5 then decide (-2048 ≤ i) && decide (i ≤ 2047)
  else if f = 4 then decide (-4096 ≤ i) && decide (i ≤ 4094) && decide (i % 2 = 0)
  else if f = 6 then decide (0 ≤ i) && decide (i ≤ 63)
  else if f = 7 then decide (0 ≤ i) && decide (i ≤ 31)
  else decide (i = 0)
def rightV (x : Int × Int × Int × Int × Int) : Bool :=
  decide (1 ≤ x.1) && decide (x.1 ≤ 64) && decide (0 ≤ x.2.1) && decide (x.2.1 ≤ 31) && decide (0 ≤ x.2.2.1) && decide (x.2.2.1 ≤ 31) && decide (0 ≤ x.2.2.2.1) && decide (x.2.2.2.1 ≤ 31)
    && ((fieldsV (shp x.1).1).1 || decide (x.2.1 = 0)) && ((fieldsV (shp x.1).1).2.1 || decide (x.2.2.1 = 0)) && ((fieldsV (shp x.1).1).2.2 || decide (x.2.2.2.1 = 0)) && immR (shp x.1).1 x.2.2.2.2
theorem shp_form {n : Int} (h : 1 ≤ n) (h' : n ≤ 64) : 1 ≤ (shp n).1 ∧ (shp n).1 ≤ 9 := by
  have := shp_ok n h h'
  generalize shp n = s at *
  exact (shp_facts this).1
abbrev TIns : Ty := .pair (.int .i64) (.pair (.int .i64) (.pair (.int .i64) (.pair (.int .i64) (.int .i64))))
abbrev Ins : Type := Int × Int × Int × Int × Int
theorem strEq_iff (a b : ByteArray) : (strEq a b = true) = (a = b) := by
  unfold strEq
  rw [beq_iff_eq]
  refine propext ⟨fun h => ?_, fun h => by rw [h]⟩
  have e : ∀ x : ByteArray, x.toList = x.data.toList := by
    intro x
    have : ∀ (n i : Nat) (r : List UInt8), n = x.size - i → ByteArray.toList.loop x i r = r.reverse ++ x.data.toList.drop i := by
      intro n
      induction n with
      | zero => intro i r hn
                rw [ByteArray.toList.loop, if_neg (by omega), List.drop_eq_nil_of_le (by have : x.size = x.data.size := rfl; simp; omega), List.append_nil]
      | succ n ih =>
        intro i r hn
        have hi : i < x.data.toList.length := by have : x.size = x.data.size := rfl; simp; omega
        rw [ByteArray.toList.loop, if_pos (by omega), ih (i + 1) _ (by omega), List.drop_eq_getElem_cons hi]
        have : x.get! i = x.data.toList[i] := by
          have h2 : i < x.data.size := by simpa using hi
          rw [ByteArray.get!, getElem!_pos x.data i h2]; simp
        rw [this]; simp
    have := this (x.size - 0) 0 [] rfl
    rw [ByteArray.toList, this]; simp
  rw [e, e] at h
  have : a.data = b.data := Array.toList_inj.mp h
  cases a; cases b; simp_all
theorem strEq_dec (a b : ByteArray) : strEq a b = decide (a = b) := by
  have := strEq_iff a b
  by_cases h : a = b
  · rw [decide_eq_true h, this.mpr h]
  · rw [decide_eq_false h]
    cases e : strEq a b
    · rfl
    · exact absurd (this.mp e) h
/-- The number that bytes are, the lowest first. -/
def leN (t : ByteArray) (a : Nat) : Nat → Nat
  | 0 => 0
  | n + 1 => (t.data.getD a 0).toNat + 256 * leN t (a + 1) n
theorem or_byte (V b : Int) (hV : 0 ≤ V) (hb : 0 ≤ b) (hb' : b ≤ 255) : orI .i64 (shlI .i64 (IntKind.wrap .i64 V) 8) b = IntKind.wrap .i64 (256 * V + b) := by
  have h1 : shlI .i64 (IntKind.wrap .i64 V) 8 = IntKind.wrap .i64 (V * 256) := by
    rw [shl_mul (by decide) (by decide)]
    obtain ⟨q, hq⟩ := wrap64_mod V
    have e8 : (2 : Int) ^ (8 : Int).toNat = 256 := by decide
    rw [hq, e8, IntKind.wrap_i64, IntKind.wrap_i64]; omega
  rw [h1]
  obtain ⟨y, rfl⟩ := Int.eq_ofNat_of_zero_le hb
  unfold orI
  rw [BitVec.toNat_or]
  have f1 := bv64 (IntKind.wrap .i64 (V * 256))
  have f2 : (BitVec.ofInt IntKind.i64.bits (y : Int)).toNat = y := by have := bv64 (y : Int); omega
  have f3 : IntKind.wrap .i64 (V * 256) % 18446744073709551616 = V * 256 % 18446744073709551616 := by
    rw [IntKind.wrap_i64]; omega
  rw [f3] at f1
  rw [f2]
  generalize (BitVec.ofInt IntKind.i64.bits (IntKind.wrap .i64 (V * 256))).toNat = x at *
  have h0 := nat_or_field x y 0 8 (by omega) (by omega)
  simp only [Nat.pow_zero, Nat.mul_one] at h0
  rw [h0, IntKind.wrap_i64, IntKind.wrap_i64]
  omega
theorem wrap_u64 (n : Int) : IntKind.wrap .u64 n = n % 18446744073709551616 := by simp [IntKind.wrap, IntKind.bits, IntKind.signed]
theorem bt_nat (t : ByteArray) (i : Nat) : bt t (i : Int) = ((t.data.getD i 0).toNat : Int) := by unfold bt; rw [Int.toNat_natCast]
theorem impl_take_loop (t : ByteArray) (hz : t.size ≤ 9223372036854775807) : ∀ (k : Nat), k ≤ t.size → impl_takeLittle.l11010 t (IntKind.wrap .i64 (leN t k (t.size - k))) ((k : Int) - 1) = some (IntKind.wrap .i64 (leN t 0 t.size)) := by
  intro k
  induction k with
  | zero =>
    intro _
    rw [impl_takeLittle.l11010_eq]; rfl
  | succ k ih =>
    intro hk
    have hs : (((k + 1 : Nat) : Int) - 1) = (k : Int) := by omega
    have hb := bt_range t (k : Int)
    rw [hs, impl_takeLittle.l11010_eq, show decide ((k : Int) ≥ 0) = true by simp, inL_nat, decide_eq_true (show k < t.size by omega), w64 (n := bt t (k : Int)) (by omega) (by omega), or_byte _ _ (by omega) hb.1 hb.2, w64 (n := (k : Int) - 1) (by omega) (by omega)]
    simp only [cond_true]
    have e : leN t k (t.size - k) = (t.data.getD k 0).toNat + 256 * leN t (k + 1) (t.size - (k + 1)) := by
      rw [show t.size - k = (t.size - (k + 1)) + 1 by omega, leN]
    have ih := ih (by omega)
    rw [e] at ih
    rw [bt_nat, show (256 : Int) * (leN t (k + 1) (t.size - (k + 1)) : Nat) + ((t.data.getD k 0).toNat : Nat) = (((t.data.getD k 0).toNat + 256 * leN t (k + 1) (t.size - (k + 1)) : Nat) : Int) by omega]
    exact ih
theorem impl_take_val (t : ByteArray) (hz : t.size ≤ 9223372036854775807) : impl_takeLittle t = some (IntKind.wrap .i64 (leN t 0 t.size)) := by
  have := impl_take_loop t hz t.size (by omega)
  rw [Nat.sub_self, show IntKind.wrap .i64 (leN t t.size 0 : Nat) = 0 by rfl] at this
  rw [impl_takeLittle_eq, w64 (n := (t.size : Int) - 1) (by omega) (by omega)]
  exact this
theorem room_le {n b : Nat} (h : n * b ≤ 140737488355328) (h' : n ≤ 140737488355328) : roomB n b = true := by
  simp only [roomB, Bool.and_eq_true, decide_eq_true_eq]; omega
theorem epi_eq (f : Int) (h : 16 ≤ f ∧ f ≤ 128) : impl_epilogue f = some [(14, 1, 2, 0, f - 8), (22, 2, 2, 0, f), (4, 0, 1, 0, 0)] ∧ spec_l06Epilogue f = some [(14, 1, 2, 0, f - 8), (22, 2, 2, 0, f), (4, 0, 1, 0, 0)] := by
  rw [impl_epilogue_eq, spec_l06Epilogue_eq, w64 (n := f - 8) (by omega) (by omega)]; exact ⟨rfl, rfl⟩
theorem inL_iff (i : Int) (n : Nat) : (inL i n = true) = (0 ≤ i ∧ i < (n : Int)) := by simp [inL]
theorem inL_true {i : Int} {n : Nat} (h : 0 ≤ i) (h' : i < (n : Int)) : inL i n = true := by rw [inL_iff]; exact ⟨h, h'⟩
theorem branch_val (n : Int) : impl_isBranch n = some (decide (5 ≤ n) && decide (n ≤ 10)) := by rw [impl_isBranch_eq, within_val]; rfl
theorem load_val (n : Int) : impl_isLoad n = some (decide (11 ≤ n) && decide (n ≤ 17)) := by rw [impl_isLoad_eq, within_val]; rfl
theorem store_val (n : Int) : impl_isStore n = some (decide (18 ≤ n) && decide (n ≤ 21)) := by rw [impl_isStore_eq, within_val]; rfl
/-- How many bytes a load or store moves, and whether with a sign. -/
def widV (n : Int) : Int × Bool :=
  if n = 11 then (1, true) else if n = 12 then (2, true) else if n = 13 then (4, true) else if n = 14 then (8, true) else if n = 15 then (1, false) else if n = 16 then (2, false) else if n = 17 then (4, false)
  else if n = 18 then (1, false) else if n = 19 then (2, false) else if n = 20 then (4, false) else if n = 21 then (8, false) else (0, false)
theorem impl_wid (n : Int) (h : 11 ≤ n) (h' : n ≤ 21) : impl_widthOf n = some (widV n) := by
  rw [impl_widthOf_eq, store_val]
  have : n = 11 ∨ n = 12 ∨ n = 13 ∨ n = 14 ∨ n = 15 ∨ n = 16 ∨ n = 17 ∨ n = 18 ∨ n = 19 ∨ n = 20 ∨ n = 21 := by omega
  rcases this with rfl | rfl | rfl | rfl | rfl | rfl | rfl | rfl | rfl | rfl | rfl <;> decide +kernel
def frameV (f : Int) : Bool := bif decide (16 ≤ f) && decide (f ≤ 128) then decide (f.tmod 16 = 0) else false
theorem frame_i (f : Int) : impl_FrameOK f = some (frameV f) := by
  rw [impl_FrameOK_eq, within_val]
  simp only [Option.bind_some, frameV]
  cases (decide (16 ≤ f) && decide (f ≤ 128)) <;> rfl
/-- The lowest bytes of a number, the lowest first. -/
def leB (v : Int) : Nat → List Int
  | 0 => []
  | n + 1 => v % 256 :: leB (v / 256) n
theorem leB_length (n : Nat) : ∀ v, (leB v n).length = n := by
  induction n with
  | zero => intro v; rfl
  | succ n ih => intro v; simp [leB, ih]
theorem wrap_u8 (n : Int) : IntKind.wrap .u8 n = n % 256 := by simp [IntKind.wrap, IntKind.bits, IntKind.signed]
theorem put_little_loop (n : Nat) : ∀ (v : Int) (xs : List Int), n ≤ 1000 → xs.length + n ≤ 1000 → impl_putLittle.l1100 v n xs = some (bytesOf (xs ++ leB v n)) := by
  induction n with
  | zero => intro v xs _ _; rw [impl_putLittle.l1100_eq]; simp [leB]
  | succ n ih =>
    intro v xs hn hx
    rw [impl_putLittle.l1100_eq, show decide (((n + 1 : Nat) : Int) > 0) = true from decide_eq_true (by omega), room_le (by simp; omega) (by simp; omega), w64 (n := ((n + 1 : Nat) : Int) - 1) (by omega) (by omega), shr_div (by decide) (by decide), wrap_u8, show ((n + 1 : Nat) : Int) - 1 = (n : Int) by omega]
    simp only [cond_true]
    rw [ih _ _ (by omega) (by simp; omega), leB, List.append_assoc]
    rfl
theorem put_little (v : Int) (n : Nat) (h : n ≤ 1000) : impl_putLittle v n = some (bytesOf (leB v n)) := by
  rw [impl_putLittle_eq, put_little_loop n v [] h (by simpa using h)]; rfl
theorem bytesOf_size (xs : List Int) : (bytesOf xs).size = xs.length := by simp [bytesOf, ByteArray.size]
theorem bytesOf_getD (xs : List Int) (i : Nat) (h : ∀ x ∈ xs, 0 ≤ x ∧ x ≤ 255) (hi : i < xs.length) : (((bytesOf xs).data.getD i 0).toNat : Int) = xs[i] := by
  have hx := h _ (List.getElem_mem hi)
  unfold bytesOf
  simp [Array.getD, hi]
  omega
theorem leB_range (n : Nat) : ∀ v : Int, ∀ x ∈ leB v n, 0 ≤ x ∧ x ≤ 255 := by
  induction n with
  | zero => intro v x hx; cases hx
  | succ n ih =>
    intro v x hx
    rw [leB] at hx
    rcases List.mem_cons.mp hx with h | h
    · omega
    · exact ih _ x h
theorem leN_leB (n : Nat) : ∀ (v : Int) (pre : List Int), 0 ≤ v → (∀ x ∈ pre, 0 ≤ x ∧ x ≤ 255) → ((leN (bytesOf (pre ++ leB v n)) pre.length n : Nat) : Int) = v % 256 ^ n := by
  induction n with
  | zero => intro v pre _ _; simp [leN, Int.emod_one]
  | succ n ih =>
    intro v pre hv hp
    have h1 := ih (v / 256) (pre ++ [v % 256]) (by omega) (by
      intro x hx
      rcases List.mem_append.mp hx with h | h
      · exact hp x h
      · rw [List.mem_singleton.mp h]; omega)
    rw [List.append_assoc, List.singleton_append, List.length_append, List.length_singleton] at h1
    rw [leB, leN]
    have hr : ∀ x ∈ pre ++ v % 256 :: leB (v / 256) n, 0 ≤ x ∧ x ≤ 255 := by
      intro x hx
      rcases List.mem_append.mp hx with h | h
      · exact hp x h
      · rcases List.mem_cons.mp h with h | h
        · rw [h]; omega
        · exact leB_range n _ x h
    have h2 := bytesOf_getD (pre ++ v % 256 :: leB (v / 256) n) pre.length hr (by simp)
    rw [Int.natCast_add, Int.natCast_mul, h1, h2]
    simp
    rw [Int.pow_succ, Int.mul_comm (256 ^ n) 256]
    have hp0 : (0 : Int) ≤ 256 := by decide
    rw [Int.emod_def v (256 * 256 ^ n), Int.emod_def (v / 256) (256 ^ n), ← Int.ediv_ediv_of_nonneg hp0, Int.mul_sub, Int.mul_assoc]
    omega
theorem byte_ext {a b : ByteArray} (hs : a.size = b.size) (h : ∀ i, i < a.size → a.data.getD i 0 = b.data.getD i 0) : a = b := by
  cases a with | mk x => cases b with | mk y =>
  congr 1
  have hs : x.size = y.size := hs
  apply Array.ext hs
  intro i h1 h2
  have := h i h1
  simpa [Array.getD, h1, h2] using this
def allB (p : Nat → Bool) : Nat → Nat → Bool
  | _, 0 => true
  | i, k + 1 => bif p i then allB p (i + 1) k else false
theorem loop_all (L : Int → Option Bool) (p : Nat → Bool) (n : Nat) (hend : L (n : Int) = some true) (hstep : ∀ i : Nat, i < n → L (i : Int) = bif p i then L ((i + 1 : Nat) : Int) else some false) :
    ∀ k i : Nat, i + k = n → L (i : Int) = some (allB p i k) := by
  intro k
  induction k with
  | zero => intro i h; have : i = n := by omega
            subst this; exact hend
  | succ k ih =>
    intro i h
    rw [hstep i (by omega), ih (i + 1) (by omega), allB]
    cases p i <;> rfl
theorem loop_all0 {L : Int → Option Bool} (p : Nat → Bool) (n : Nat) (hend : L (n : Int) = some true) (hstep : ∀ i : Nat, i < n → L (i : Int) = bif p i then L ((i + 1 : Nat) : Int) else some false) : L 0 = some (allB p 0 n) :=
  loop_all L p n hend hstep n 0 (by omega)
def findB (p : Nat → Bool) : Nat → Nat → Int
  | _, 0 => -1
  | i, k + 1 => bif p i then (i : Int) else findB p (i + 1) k
theorem loop_find (L : Int → Option Int) (p : Nat → Bool) (n : Nat) (hend : L (n : Int) = some (-1)) (hstep : ∀ i : Nat, i < n → L (i : Int) = bif p i then some (i : Int) else L ((i + 1 : Nat) : Int)) :
    ∀ k i : Nat, i + k = n → L (i : Int) = some (findB p i k) := by
  intro k
  induction k with
  | zero => intro i h; have : i = n := by omega
            subst this; exact hend
  | succ k ih =>
    intro i h
    rw [hstep i (by omega), ih (i + 1) (by omega), findB]
    cases p i <;> rfl
theorem loop_find0 {L : Int → Option Int} (p : Nat → Bool) (n : Nat) (hend : L (n : Int) = some (-1)) (hstep : ∀ i : Nat, i < n → L (i : Int) = bif p i then some (i : Int) else L ((i + 1 : Nat) : Int)) : L 0 = some (findB p 0 n) :=
  loop_find L p n hend hstep n 0 (by omega)
theorem findB_spec (p : Nat → Bool) : ∀ k i, (findB p i k = -1 ∧ ∀ j, i ≤ j → j < i + k → p j = false) ∨ ∃ j : Nat, findB p i k = (j : Int) ∧ i ≤ j ∧ j < i + k ∧ p j = true ∧ ∀ q, i ≤ q → q < j → p q = false
  | 0, i => .inl ⟨rfl, fun j h1 h2 => by omega⟩
  | k + 1, i => by
    rw [findB]
    cases h : p i with
    | true => exact .inr ⟨i, rfl, Nat.le_refl _, by omega, h, fun q h1 h2 => by omega⟩
    | false =>
      rw [cond_false]
      rcases findB_spec p k (i + 1) with ⟨h1, h2⟩ | ⟨j, h1, h2, h3, h4, h5⟩
      · refine .inl ⟨h1, fun j h3 h4 => ?_⟩
        by_cases e : j = i
        · rw [e]; exact h
        · exact h2 j (by omega) (by omega)
      · refine .inr ⟨j, h1, by omega, by omega, h4, fun q h6 h7 => ?_⟩
        by_cases e : q = i
        · rw [e]; exact h
        · exact h5 q (by omega) (by omega)
theorem w64_pred (i : Nat) (h : 0 < i) (h' : i ≤ 1048576) : IntKind.wrap .i64 ((i : Int) - 1) = ((i - 1 : Nat) : Int) := by
  rw [w64 (by omega) (by omega)]; omega
theorem lt_not_ge (a b : Int) : decide (a < b) = !decide (a ≥ b) := by
  rw [← decide_not]; congr 1; apply propext; omega
abbrev TPage : Ty := .pair (.int .i64) (.pair (.int .i64) .str)
abbrev Page : Type := Int × Int × ByteArray
def inR (n a b : Int) : Bool := decide (a ≤ n) && decide (n ≤ b)
theorem in_i (n a b : Int) : impl_within n a b = some (inR n a b) := within_val n a b
theorem inR_iff {n a b : Int} : inR n a b = true ↔ a ≤ n ∧ n ≤ b := by simp [inR]
def baseV (b : Int) : Bool := bif inR b 0 1048575 then decide (b.tmod 128 = 0) else false
theorem base_i (b : Int) : impl_isBase b = some (baseV b) := by
  rw [impl_isBase_eq, in_i]
  unfold baseV
  simp only [Option.bind_some]
  cases inR b 0 1048575 <;> rfl
theorem perm_i (p : Int) : impl_isPerm p = some (inR p 0 15) := by rw [impl_isPerm_eq, in_i]; rfl
def memP (m : List Page) (i : Nat) : Bool :=
  bif baseV (rd (τ := TPage) m i).1 then bif inR (rd (τ := TPage) m i).2.1 0 15 then bif decide (((rd (τ := TPage) m i).2.2.size : Int) = 128) then
    (decide (i = 0) || decide ((rd (τ := TPage) m ((i - 1 : Nat) : Int)).1 < (rd (τ := TPage) m i).1)) else false else false else false
def memV (m : List Page) : Bool := decide (m.length ≤ 64) && allB (memP m) 0 m.length
theorem memory_i (m : List Page) : impl_MemoryOK m = some (memV m) := by
  rw [impl_MemoryOK_eq]
  unfold memV
  rcases Nat.lt_or_ge 64 m.length with h | h
  · rw [show decide ((m.length : Int) > 64) = true by simp; omega, decide_eq_false (by omega)]; rfl
  rw [show decide ((m.length : Int) > 64) = false by simp; omega, decide_eq_true h, cond_false, Bool.true_and]
  refine loop_all0 (L := impl_MemoryOK.l11010 m m (m.length : Int)) (memP m) m.length ?_ fun i hi => ?_
  · rw [impl_MemoryOK.l11010_eq, lt_nat]; simp
  · rw [impl_MemoryOK.l11010_eq, lt_nat, inL_nat, decide_eq_true hi, w64_succ i m.length hi (by omega), base_i, perm_i]
    unfold memP
    simp only [cond_true, Option.bind_some]
    by_cases h0 : i = 0
    · rw [show decide ((i : Int) > 0) = false by simp [h0], decide_eq_true h0]
      cases baseV (rd (τ := TPage) m i).1 <;> cases inR (rd (τ := TPage) m i).2.1 0 15 <;> cases decide (((rd (τ := TPage) m i).2.2.size : Int) = 128) <;> rfl
    · rw [show decide ((i : Int) > 0) = true by simp; omega, decide_eq_false h0, w64_pred i (by omega) (by omega), inL_nat, decide_eq_true (show i - 1 < m.length by omega)]
      rw [show decide ((rd (τ := TPage) m ((i - 1 : Nat) : Int)).1 < (rd (τ := TPage) m i).1) = !decide ((rd (τ := TPage) m ((i - 1 : Nat) : Int)).1 ≥ (rd (τ := TPage) m i).1) from lt_not_ge _ _]
      cases baseV (rd (τ := TPage) m i).1 <;> cases inR (rd (τ := TPage) m i).2.1 0 15 <;> cases decide (((rd (τ := TPage) m i).2.2.size : Int) = 128) <;> cases decide ((rd (τ := TPage) m ((i - 1 : Nat) : Int)).1 ≥ (rd (τ := TPage) m i).1) <;> rfl
def mapB {α : Type} (f : Nat → α) : Nat → Nat → List α
  | _, 0 => []
  | i, k + 1 => f i :: mapB f (i + 1) k
theorem mapB_length {α : Type} (f : Nat → α) : ∀ k i, (mapB f i k).length = k
  | 0, _ => rfl
  | k + 1, i => by rw [mapB, List.length_cons, mapB_length f k]
theorem loop_map {α β : Type} (L : List α → Int → Option β) (f : Nat → α) (n A : Nat) (hstep : ∀ acc (i : Nat), i < n → acc.length = A + i → L acc (i : Int) = L (acc ++ [f i]) ((i + 1 : Nat) : Int)) :
    ∀ (k i : Nat) (acc : List α), i + k = n → acc.length = A + i → L acc (i : Int) = L (acc ++ mapB f i k) (n : Int) := by
  intro k
  induction k with
  | zero => intro i acc h _; have : i = n := by omega
            subst this; rw [mapB, List.append_nil]
  | succ k ih =>
    intro i acc h ha
    rw [hstep acc i (by omega) ha, ih (i + 1) _ (by omega) (by simp; omega), mapB, List.append_assoc]; rfl
theorem loop_map0 {α β : Type} {L : List α → Int → Option β} (f : Nat → α) (n : Nat) (acc : List α) (hstep : ∀ acc' (i : Nat), i < n → acc'.length = acc.length + i → L acc' (i : Int) = L (acc' ++ [f i]) ((i + 1 : Nat) : Int)) : L acc 0 = L (acc ++ mapB f 0 n) (n : Int) :=
  loop_map L f n acc.length hstep n 0 acc (by omega) (by omega)
theorem mapB_mem {α : Type} (f : Nat → α) (x : α) : ∀ k i, x ∈ mapB f i k ↔ ∃ j, i ≤ j ∧ j < i + k ∧ f j = x
  | 0, i => by simp [mapB]; omega
  | k + 1, i => by
    rw [mapB, List.mem_cons, mapB_mem f x k (i + 1)]
    constructor
    · rintro (h | ⟨j, h1, h2, h3⟩)
      · exact ⟨i, Nat.le_refl _, by omega, h.symm⟩
      · exact ⟨j, by omega, by omega, h3⟩
    · rintro ⟨j, h1, h2, h3⟩
      by_cases e : j = i
      · subst e; exact .inl h3.symm
      · exact .inr ⟨j, by omega, by omega, h3⟩
theorem mapB_get {α : Type} (f : Nat → α) : ∀ k i j (h : j < (mapB f i k).length), (mapB f i k)[j] = f (i + j)
  | 0, _, _, h => by simp [mapB] at h
  | k + 1, i, 0, _ => by simp [mapB]
  | k + 1, i, j + 1, h => by
    have := mapB_get f k (i + 1) j (by rw [mapB_length] at h ⊢; omega)
    simp only [mapB, List.getElem_cons_succ]
    rw [this]; congr 1; omega
def I64 (n : Int) : Prop := -9223372036854775808 ≤ n ∧ n ≤ 9223372036854775807
theorem immOK_val (f i : Int) (hf : 1 ≤ f ∧ f ≤ 9) : impl_immOK f i = some (immR f i) := by
  rw [impl_immOK_eq]
  have t1 : decide (i.tmod 4096 = 0) = decide (i % 4096 = 0) := by
    congr 1; exact propext ⟨fun h => by rw [← Int.dvd_iff_tmod_eq_zero] at h; omega, fun h => by rw [← Int.dvd_iff_tmod_eq_zero]; omega⟩
  have t2 : decide (i.tmod 2 = 0) = decide (i % 2 = 0) := by
    congr 1; exact propext ⟨fun h => by rw [← Int.dvd_iff_tmod_eq_zero] at h; omega, fun h => by rw [← Int.dvd_iff_tmod_eq_zero]; omega⟩
  rw [t1, t2]
  simp only [within_val, Option.bind_some, joinB]
  rcases forms hf with rfl | rfl | rfl | rfl | rfl | rfl | rfl | rfl | rfl
  all_goals simp [immR, cond_ite]
  all_goals (try (split <;> simp_all))
  all_goals (try (intro q1 q2; omega))
theorem rd_set {τ : Ty} (l : List τ.den) (k : Nat) (x : τ.den) (hk : k < l.length) (i : Nat) (hi : i < l.length) : rd (τ := τ) (l.set k x) (i : Int) = if i = k then x else rd (τ := τ) l (i : Int) := by
  rw [rd_nat _ _ (by rw [List.length_set]; exact hi), rd_nat _ _ hi, List.getElem_set]
  by_cases h : i = k
  · rw [if_pos h, if_pos h.symm]
  · rw [if_neg h, if_neg (fun e => h e.symm)]
def updF (F : Int → Int) (a : Int) (t : ByteArray) (x : Int) : Int := if a ≤ x ∧ x < a + (t.size : Int) then bt t (x - a) else F x
def FR (F : Int → Int) : Prop := ∀ x, 0 ≤ F x ∧ F x ≤ 255
theorem updF_range {F : Int → Int} (h : FR F) (a : Int) (t : ByteArray) : FR (updF F a t) := by
  intro x
  unfold updF
  split
  · exact bt_range _ _
  · exact h x
def pg (F : Int → Int) (b : Int) : ByteArray := bytesOf (mapB (fun i => F (b + (i : Int))) 0 128)
def pageF (F : Int → Int) (q : Int × Int) : Page := (q.1, q.2, pg F q.1)
def memF (F : Int → Int) (L : List (Int × Int)) : List Page := L.map (pageF F)
theorem pg_size (F : Int → Int) (b : Int) : (pg F b).size = 128 := by unfold pg; rw [bytesOf_size, mapB_length]
theorem mapB_all {α : Type} (f : Nat → α) (P : α → Prop) (k i : Nat) (h : ∀ j, P (f j)) : ∀ x ∈ mapB f i k, P x := by
  intro x hx
  obtain ⟨j, _, _, rfl⟩ := (mapB_mem f x k i).1 hx
  exact h j
theorem pg_bt {F : Int → Int} (hF : FR F) (b i : Int) (h : 0 ≤ i) (h' : i < 128) : bt (pg F b) i = F (b + i) := by
  obtain ⟨n, rfl⟩ : ∃ n : Nat, i = (n : Int) := ⟨i.toNat, by omega⟩
  rw [bt_nat]
  unfold pg
  rw [bytesOf_getD _ n (mapB_all _ _ _ _ fun j => hF _) (by rw [mapB_length]; omega), mapB_get, Nat.zero_add]
theorem intsOf_bytesOf (xs : List Int) (h : ∀ x ∈ xs, 0 ≤ x ∧ x ≤ 255) : intsOf (bytesOf xs) = xs := by
  unfold intsOf bytesOf
  simp only [List.map_map]
  rw [List.map_congr_left (g := id) fun x hx => ?_, List.map_id]
  have := h x hx
  simp only [Function.comp, id]
  rw [UInt8.toNat_ofNat']
  omega
theorem mapB_set {α : Type} (f : Nat → α) (n i : Nat) (x : α) : (mapB f 0 n).set i x = mapB (fun j => if j = i then x else f j) 0 n := by
  apply List.ext_getElem
  · rw [List.length_set, mapB_length, mapB_length]
  · intro j h1 h2
    rw [List.getElem_set, mapB_get, mapB_get, Nat.zero_add]
    by_cases h : j = i
    · rw [if_pos h.symm, if_pos h]
    · rw [if_neg (fun e => h e.symm), if_neg h]
theorem mapB_congr {α : Type} {f g : Nat → α} : ∀ (k i : Nat), (∀ j, i ≤ j → j < i + k → f j = g j) → mapB f i k = mapB g i k
  | 0, _, _ => rfl
  | k + 1, i, h => by rw [mapB, mapB, h i (Nat.le_refl _) (by omega), mapB_congr k (i + 1) fun j h1 h2 => h j (by omega) (by omega)]
/-- The first i bytes of a page are written. -/
def rowV (F : Int → Int) (a : Int) (t : ByteArray) (b : Int) (i : Nat) : List Int := mapB (fun j => if j < i then updF F a t (b + (j : Int)) else F (b + (j : Int))) 0 128
structure BasesR (L : List (Int × Int)) : Prop where
  len : L.length ≤ 64
  base : ∀ q ∈ L, 0 ≤ q.1 ∧ q.1 ≤ 1048575
def AddrR (a : Int) (t : ByteArray) : Prop := -1099511627776 ≤ a ∧ a ≤ 1099511627776 ∧ t.size ≤ 1048576
theorem impl_put_row {F : Int → Int} (hF : FR F) (a : Int) (t : ByteArray) (hA : AddrR a t) (x6 m : List Page) (k : Nat) (p : Page) (hp : 0 ≤ p.1 ∧ p.1 ≤ 1048575) (x17 x18 : Int) (hk : k < m.length) : ∀ (d i : Nat), i + d = 128 →
    impl_Memory_put.l110100110011010 a t x6 m (k : Int) p (rowV F a t p.1 i) x17 x18 128 (i : Int) = impl_Memory_put.l11010 a t x6 (m.set k ((rd (τ := TPage) m (k : Int)).1, (rd (τ := TPage) m (k : Int)).2.1, bytesOf (rowV F a t p.1 128))) x17 (IntKind.wrap .i64 (x18 + 1)) := by
  obtain ⟨a1, a2, a3⟩ := hA
  intro d
  induction d with
  | zero =>
    intro i h
    have : i = 128 := by omega
    subst this
    rw [impl_Memory_put.l110100110011010_eq, show decide (((128 : Nat) : Int) < 128) = false by decide, cond_false, inL_nat, decide_eq_true hk, Int.toNat_natCast]; rfl
  | succ d ih =>
    intro i h
    have hi : i < 128 := by omega
    have hs : rowV F a t p.1 (i + 1) = if a ≤ p.1 + (i : Int) ∧ p.1 + (i : Int) < a + (t.size : Int) then (rowV F a t p.1 i).set i (bt t (p.1 + (i : Int) - a)) else rowV F a t p.1 i := by
      unfold rowV
      split
      · rename_i hc
        rw [mapB_set]
        apply mapB_congr
        intro j _ _
        by_cases hj : j = i
        · subst hj
          rw [if_pos (by omega), if_pos rfl]
          unfold updF
          rw [if_pos hc]
        · rw [if_neg hj]
          by_cases hj2 : j < i
          · rw [if_pos (by omega), if_pos hj2]
          · rw [if_neg (by omega), if_neg hj2]
      · rename_i hc
        apply mapB_congr
        intro j _ _
        by_cases hj : j = i
        · subst hj
          rw [if_pos (by omega), if_neg (by omega)]
          unfold updF
          rw [if_neg hc]
        · by_cases hj2 : j < i
          · rw [if_pos (by omega), if_pos hj2]
          · rw [if_neg (by omega), if_neg hj2]
    have hl : (rowV F a t p.1 i).length = 128 := by unfold rowV; rw [mapB_length]
    have ih' := ih (i + 1) (by omega)
    rw [hs] at ih'
    rw [impl_Memory_put.l110100110011010_eq, decide_eq_true (show (i : Int) < 128 by omega), w64 (n := p.1 + (i : Int)) (by omega) (by omega), w64 (n := p.1 + (i : Int) - a) (by omega) (by omega), w64 (n := (t.size : Int) - 1) (by omega) (by omega), w64 (n := (i : Int) + 1) (by omega) (by omega), show (i : Int) + 1 = ((i + 1 : Nat) : Int) by omega, in_i]
    simp only [cond_true, Option.bind_some]
    by_cases hc : a ≤ p.1 + (i : Int) ∧ p.1 + (i : Int) < a + (t.size : Int)
    · rw [inR_iff.2 (show 0 ≤ p.1 + (i : Int) - a ∧ p.1 + (i : Int) - a ≤ (t.size : Int) - 1 by omega), inL_true (i := p.1 + (i : Int) - a) (n := t.size) (by omega) (by omega), inL_nat, hl, decide_eq_true hi]
      rw [if_pos hc] at ih'
      simp only [cond_true, letB, Int.toNat_natCast]
      exact ih'
    · rw [show inR (p.1 + (i : Int) - a) 0 ((t.size : Int) - 1) = false by cases h5 : inR (p.1 + (i : Int) - a) 0 ((t.size : Int) - 1); rfl; rw [inR_iff] at h5; omega]
      rw [if_neg hc] at ih'
      simp only [cond_false]
      exact ih'
theorem impl_put_loop {F : Int → Int} (hF : FR F) (a : Int) (t : ByteArray) (hA : AddrR a t) (L : List (Int × Int)) (hL : BasesR L) (x6 : List Page) : ∀ (d k : Nat), k + d = L.length →
    impl_Memory_put.l11010 a t x6 (memF (updF F a t) (L.take k) ++ memF F (L.drop k)) (L.length : Int) (k : Int) = some (memF (updF F a t) L) := by
  have hn := hL.len
  intro d
  induction d with
  | zero =>
    intro k h
    have : k = L.length := by omega
    subst this
    rw [impl_Memory_put.l11010_eq, lt_nat, decide_eq_false (Nat.lt_irrefl _), cond_false, List.take_length, List.drop_length]
    simp [memF]
  | succ d ih =>
    intro k h
    have hk : k < L.length := by omega
    have hml : (memF (updF F a t) (L.take k) ++ memF F (L.drop k)).length = L.length := by simp [memF]; omega
    have hrd : rd (τ := TPage) (memF (updF F a t) (L.take k) ++ memF F (L.drop k)) (k : Int) = pageF F L[k] := by
      rw [rd_nat (τ := TPage) _ k (by rw [hml]; exact hk), List.getElem_append_right (by simp [memF]; omega)]
      simp [memF, List.getElem_drop]
      congr 2
      omega
    have hset : (memF (updF F a t) (L.take k) ++ memF F (L.drop k)).set k (pageF (updF F a t) L[k]) = memF (updF F a t) (L.take (k + 1)) ++ memF F (L.drop (k + 1)) := by
      rw [List.set_append_right _ _ (by simp [memF]; omega)]
      have e : k - (memF (updF F a t) (L.take k)).length = 0 := by simp [memF]; omega
      rw [e]
      unfold memF
      rw [List.drop_eq_getElem_cons hk, List.map_cons, List.set_cons_zero, List.take_succ_eq_append_getElem hk, List.map_append, List.append_assoc]
      rfl
    have hq := hL.base L[k] (List.getElem_mem hk)
    rw [impl_Memory_put.l11010_eq, lt_nat, inL_nat, hml, decide_eq_true hk, hrd]
    have hint : intsOf (pg F (L[k]).1) = rowV F a t (L[k]).1 0 := by
      unfold pg
      rw [intsOf_bytesOf _ (mapB_all _ _ _ _ fun j => hF _)]
      unfold rowV
      apply mapB_congr
      intro j _ _
      rw [if_neg (by omega)]
    show (bif true then bif true then bif decide ((pg F (L[k]).1).size ≤ 9223372036854775807) then impl_Memory_put.l110100110011010 a t x6 _ (k : Int) (pageF F L[k]) (intsOf (pg F (L[k]).1)) (L.length : Int) (k : Int) ((intsOf (pg F (L[k]).1)).length : Int) 0 else none else none else _) = _
    rw [pg_size, hint, show (rowV F a t (L[k]).1 0).length = 128 by unfold rowV; rw [mapB_length]]
    have hrow := impl_put_row hF a t hA x6 (memF (updF F a t) (L.take k) ++ memF F (L.drop k)) k (pageF F L[k]) hq (L.length : Int) (k : Int) (by rw [hml]; exact hk) 128 0 (by omega)
    rw [hrd] at hrow
    have hfin : bytesOf (rowV F a t (pageF F L[k]).1 128) = pg (updF F a t) (L[k]).1 := by
      unfold rowV pg
      rw [mapB_congr (f := fun j => if j < 128 then updF F a t ((pageF F L[k]).1 + (j : Int)) else F ((pageF F L[k]).1 + (j : Int))) (g := fun j => updF F a t ((L[k]).1 + (j : Int))) 128 0 fun j _ hj => if_pos (by omega)]
    rw [hfin, w64_succ k L.length hk (by omega)] at hrow
    have hset' : (memF (updF F a t) (L.take k) ++ memF F (L.drop k)).set k ((pageF F L[k]).1, (pageF F L[k]).2.1, pg (updF F a t) (L[k]).1) = memF (updF F a t) (L.take (k + 1)) ++ memF F (L.drop (k + 1)) := hset
    rw [hset'] at hrow
    exact hrow.trans (ih (k + 1) (by omega))
theorem clone_page (m : List Page) (h : m.length ≤ 64) : slices_Clone_impl_Page m = some m := by
  rw [slices_Clone_impl_Page_eq, show roomB m.length 32 = true by simp [roomB]; omega]; rfl
theorem impl_put {F : Int → Int} (hF : FR F) (a : Int) (t : ByteArray) (hA : AddrR a t) (L : List (Int × Int)) (hL : BasesR L) : impl_Memory_put (memF F L) a t = some (memF (updF F a t) L) := by
  have hml : (memF F L).length = L.length := by simp [memF]
  have hn := hL.len
  rw [impl_Memory_put_eq, impl_Memory_own_eq, clone_page _ (by omega)]
  simp only [Option.bind_some]
  rw [hml]
  exact impl_put_loop hF a t hA L hL [] L.length 0 (by omega)
theorem bt_append (a b : ByteArray) (i : Nat) : bt (a ++ b) (i : Int) = if i < a.size then bt a (i : Int) else bt b ((i - a.size : Nat) : Int) := by
  rw [bt_nat, bt_nat, bt_nat]
  have hs : a.size = a.data.size := rfl
  rw [ByteArray.data_append, Array.getD_eq_getD_getElem?, Array.getD_eq_getD_getElem?, Array.getD_eq_getD_getElem?, Array.getElem?_append, hs]
  split <;> rfl
theorem bt_extract (t : ByteArray) (s e i : Nat) (h : s + i < e) (he : e ≤ t.size) : bt (t.extract s e) (i : Int) = bt t ((s + i : Nat) : Int) := by
  rw [bt_nat, bt_nat]
  have hs : t.size = t.data.size := rfl
  rw [ByteArray.data_extract, Array.getD_eq_getD_getElem?, Array.getD_eq_getD_getElem?, Array.getElem?_extract, if_pos (by omega)]
theorem bt_ext {a b : ByteArray} (hs : a.size = b.size) (h : ∀ i : Nat, i < a.size → bt a (i : Int) = bt b (i : Int)) : a = b := by
  apply byte_ext hs
  intro i hi
  have := h i hi
  rw [bt_nat, bt_nat] at this
  exact UInt8.toNat_inj.1 (by omega)
abbrev TI2 : Ty := .pair (.int .i64) (.int .i64)
def inPage (b a : Int) : Bool := decide (b ≤ a) && decide (a ≤ b + 127)
def pageAt (L : List (Int × Int)) (a : Int) : Int := findB (fun i => inPage (rd (τ := TI2) L (i : Int)).1 a) 0 L.length
theorem rd_mem (F : Int → Int) (L : List (Int × Int)) (i : Nat) (h : i < L.length) : rd (τ := TPage) (memF F L) (i : Int) = pageF F (rd (τ := TI2) L (i : Int)) := by
  rw [rd_nat (τ := TPage) (memF F L) i (by simp [memF]; exact h), rd_nat (τ := TI2) L i h]
  simp [memF]
theorem base_rd {L : List (Int × Int)} (hL : BasesR L) (i : Nat) (h : i < L.length) {q : Int × Int} (hq : rd (τ := TI2) L (i : Int) = q) : 0 ≤ q.1 ∧ q.1 ≤ 1048575 := by
  rw [rd_nat (τ := TI2) L i h] at hq; rw [← hq]; exact hL.base _ (List.getElem_mem h)
def MidA (a : Int) : Prop := -1099511627776 ≤ a ∧ a ≤ 1099511627776
theorem impl_page (F : Int → Int) (L : List (Int × Int)) (hL : BasesR L) (a : Int) (ha : MidA a) : impl_Memory_page (memF F L) a = some (pageAt L a) := by
  have hn := hL.len
  obtain ⟨a1, a2⟩ := ha
  have hml : (memF F L).length = L.length := by simp [memF]
  rw [impl_Memory_page_eq, slices_IndexFunc_impl_Page_impl_Memory_page_1_eq, hml]
  rw [loop_find0 (L := slices_IndexFunc_impl_Page_impl_Memory_page_1.l1010 a (memF F L) (L.length : Int)) (fun i => inPage (rd (τ := TI2) L (i : Int)).1 a) L.length ?_ fun i hi => ?_]
  · rfl
  · rw [slices_IndexFunc_impl_Page_impl_Memory_page_1.l1010_eq, lt_nat]; simp
  · rw [slices_IndexFunc_impl_Page_impl_Memory_page_1.l1010_eq, lt_nat, inL_nat, hml, decide_eq_true hi, w64_succ i _ hi (by omega), rd_mem F L i hi, impl_Memory_page_1_eq]
    obtain ⟨q, hq⟩ : ∃ q : Int × Int, rd (τ := TI2) L (i : Int) = q := ⟨_, rfl⟩
    have hb := base_rd hL i hi hq
    rw [hq]
    obtain ⟨b, hbe⟩ : ∃ b : Int, q.1 = b := ⟨_, rfl⟩
    rw [hbe] at hb ⊢
    show (bif true then bif true then (Option.bind (Option.bind (impl_within a (pageF F q).1 (IntKind.wrap .i64 (IntKind.wrap .i64 ((pageF F q).1 + 128) - 1))) fun r1 => some r1) _) else none else _) = _
    rw [show (pageF F q).1 = b from hbe, w64 (n := b + 128) (by omega) (by omega), w64 (n := b + 128 - 1) (by omega) (by omega), in_i, show inR a b (b + 128 - 1) = inPage b a by unfold inR inPage; rw [show b + 128 - 1 = b + 127 by omega]]
    rfl
/-- No address lies in two pages. -/
def NoOver (L : List (Int × Int)) : Prop := ∀ (i j : Nat) (a : Int), i < L.length → j < L.length → inPage (rd (τ := TI2) L (i : Int)).1 a = true → inPage (rd (τ := TI2) L (j : Int)).1 a = true → i = j
theorem pageAt_spec {L : List (Int × Int)} {a : Int} (h : 0 ≤ pageAt L a) : ∃ (k : Nat) (q : Int × Int), pageAt L a = (k : Int) ∧ k < L.length ∧ rd (τ := TI2) L (k : Int) = q ∧ q.1 ≤ a ∧ a ≤ q.1 + 127 := by
  unfold pageAt at h ⊢
  rcases findB_spec (fun i => inPage (rd (τ := TI2) L (i : Int)).1 a) L.length 0 with ⟨h1, _⟩ | ⟨j, h1, h2, h3, h4, _⟩
  · omega
  · unfold inPage at h4
    rw [Bool.and_eq_true, decide_eq_true_eq, decide_eq_true_eq] at h4
    exact ⟨j, _, h1, by omega, rfl, h4.1, h4.2⟩
def getV (F : Int → Int) (a : Int) (n : Nat) : ByteArray := bytesOf (mapB (fun i => F (a + (i : Int))) 0 n)
theorem room1' (n : Nat) (h : n ≤ 8192) : roomB n 1 = true := by simp [roomB]; omega
theorem impl_bytes {F : Int → Int} (hF : FR F) (L : List (Int × Int)) (hL : BasesR L) (a : Int) (n : Nat) (hn : n ≤ 1024) (h1 : -1000000000 ≤ a) (h2 : a ≤ 1000000000) (hx : ∀ x, a ≤ x → x < a + (n : Int) → 0 ≤ pageAt L x) :
    impl_Memory_bytes (memF F L) a (n : Int) = some (getV F a n) := by
  have hml : (memF F L).length = L.length := by simp [memF]
  rw [impl_Memory_bytes_eq]
  have key := loop_map0 (L := fun acc i => impl_Memory_bytes.l11010 a (n : Int) (memF F L) acc (a + i)) (fun i => F (a + (i : Int))) n ([] : List Int) fun acc i hi ha => ?_
  · simp only [Int.add_zero, List.nil_append] at key
    rw [key, impl_Memory_bytes.l11010_eq, w64 (n := a + (n : Int)) (by omega) (by omega), decide_eq_false (show ¬ a + (n : Int) < a + (n : Int) by omega)]; rfl
  · simp only [List.length_nil, Nat.zero_add] at ha
    obtain ⟨k, q, hk, hkl, hq, hb1, hb2⟩ := pageAt_spec (hx (a + (i : Int)) (by omega) (by omega))
    have hb := base_rd hL k hkl hq
    show impl_Memory_bytes.l11010 a (n : Int) (memF F L) acc (a + (i : Int)) = impl_Memory_bytes.l11010 a (n : Int) (memF F L) (acc ++ [F (a + (i : Int))]) (a + ((i + 1 : Nat) : Int))
    rw [impl_Memory_bytes.l11010_eq, w64 (n := a + (n : Int)) (by omega) (by omega), decide_eq_true (show a + (i : Int) < a + (n : Int) by omega), impl_page F L hL _ ⟨by omega, by omega⟩, hk]
    simp only [cond_true, Option.bind_some]
    rw [inL_nat, hml, decide_eq_true hkl, rd_mem F L k hkl, hq]
    simp only [show (pageF F q).1 = q.1 from rfl, show (pageF F q).2.2 = pg F q.1 from rfl, cond_true]
    rw [w64 (n := a + (i : Int) - q.1) (by omega) (by omega), w64 (n := a + (i : Int) + 1) (by omega) (by omega), pg_size, inL_true (i := a + (i : Int) - q.1) (n := 128) (by omega) (by omega), pg_bt hF _ _ (by omega) (by omega), show q.1 + (a + (i : Int) - q.1) = a + (i : Int) by omega, room1' _ (by simp; omega), show a + (i : Int) + 1 = a + ((i + 1 : Nat) : Int) by omega]
    rfl
def Zero (F : Int → Int) (b : Int) (n : Nat) : Prop := ∀ x, b ≤ x → x < b + (n : Int) → F x = 0
theorem pg_zero {F : Int → Int} {b : Int} (h : Zero F b 128) : pg F b = bytesOf (List.replicate 128 (0 : Int)) := by
  unfold pg
  rw [mapB_congr (g := fun _ => (0 : Int)) 128 0 fun j _ hj => h _ (by omega) (by omega)]
  rfl
theorem rep_zero : repB (⟨#[0]⟩ : ByteArray) 128 = bytesOf (List.replicate 128 (0 : Int)) := by decide +kernel
theorem impl_add {F : Int → Int} (L : List (Int × Int)) (hn : L.length < 64) (b p : Int) (hb : ∀ q ∈ L, q.1 < b) (hz : Zero F b 128) : impl_Memory_addPage (memF F L) b p = some (memF F (L ++ [(b, p)])) := by
  have hml : (memF F L).length = L.length := by simp [memF]
  rw [impl_Memory_addPage_eq]
  have loop : ∀ (d k : Nat), k + d = L.length → impl_Memory_addPage.l1100 b p (memF F L) [] (k : Int) = impl_Memory_addPage.l1100 b p (memF F L) [] (L.length : Int) := by
    intro d
    induction d with
    | zero => intro k h; have : k = L.length := by omega
              rw [this]
    | succ d ih =>
      intro k h
      have hk : k < L.length := by omega
      obtain ⟨q, hq⟩ : ∃ q : Int × Int, rd (τ := TI2) L (k : Int) = q := ⟨_, rfl⟩
      have hqb : q.1 < b := by rw [rd_nat (τ := TI2) L k hk] at hq; rw [← hq]; exact hb _ (List.getElem_mem hk)
      rw [impl_Memory_addPage.l1100_eq, hml, lt_nat, inL_nat, decide_eq_true hk, rd_mem F L k hk, hq]
      simp only [joinB, cond_true]
      rw [show decide ((pageF F q).1 < b) = true from decide_eq_true hqb, w64_succ k L.length hk (by omega), cond_true, ih (k + 1) (by omega)]
  have h0 := loop L.length 0 (by omega)
  rw [show ((0 : Nat) : Int) = 0 from rfl] at h0
  rw [h0, impl_Memory_addPage.l1100_eq, hml, lt_nat, decide_eq_false (Nat.lt_irrefl _)]
  simp only [joinB, cond_false]
  rw [clone_page _ (by omega), strings_Repeat_eq]
  simp only [Option.bind_some]
  rw [show (decide (0 ≤ (128 : Int)) && decide ((128 : Int) ≤ 9223372036854775807) && decide (ByteArray.size (⟨#[0]⟩ : ByteArray) * (128 : Int).toNat ≤ 140737488355328)) = true by decide, cond_true, rep_zero, ← pg_zero hz]
  simp only [Option.bind_some]
  rw [slices_Insert_impl_Page_eq, hml, show (decide ((L.length : Int) = (L.length : Int)) && roomB (L.length + [(b, p, pg F b)].length) 32) = true by simp [roomB]; omega]
  simp only [cond_true, Option.bind_some]
  unfold memF
  rw [List.map_append]; rfl
/-- The pages of an area. -/
def arL (b p : Int) (n : Nat) : List (Int × Int) := mapB (fun i => (b + 128 * (i : Int), p)) 0 n
def L1 : List (Int × Int) := arL 4096 4 8
def L2 : List (Int × Int) := L1 ++ arL 8192 4 8
def L3 : List (Int × Int) := L2 ++ arL 16384 3 2
def L4 : List (Int × Int) := L3 ++ arL 20480 3 2
def bOK (L : List (Int × Int)) (m : Int) : Bool := decide (L.length ≤ 64) && L.all fun q => decide (0 ≤ q.1) && decide (q.1 ≤ 1048575) && decide (q.1 < m)
theorem b1 : bOK L1 8192 = true := by decide
theorem b2 : bOK L2 16384 = true := by decide
theorem b3 : bOK L3 20480 = true := by decide
theorem b4 : bOK L4 32768 = true := by decide
theorem right_facts {x : Ins} (h : rightV x = true) : (1 ≤ x.1 ∧ x.1 ≤ 64) ∧ RegsOK x ∧ ((fieldsV (shp x.1).1).1 = false → x.2.1 = 0) ∧ ((fieldsV (shp x.1).1).2.1 = false → x.2.2.1 = 0) ∧ ((fieldsV (shp x.1).1).2.2 = false → x.2.2.2.1 = 0) ∧ immR (shp x.1).1 x.2.2.2.2 = true := by
  simp only [rightV, Bool.and_eq_true, Bool.or_eq_true, decide_eq_true_eq] at h
  obtain ⟨⟨⟨⟨⟨⟨⟨⟨⟨⟨⟨h1, h2⟩, h3⟩, h4⟩, h5⟩, h6⟩, h7⟩, h8⟩, a⟩, b⟩, c⟩, d⟩ := h
  have hf := shp_form (n := x.1) h1 h2
  refine ⟨⟨h1, h2⟩, ⟨⟨h3, h4⟩, ⟨h5, h6⟩, ⟨h7, h8⟩, ?_⟩, fun e => ?_, fun e => ?_, fun e => ?_, d⟩
  · generalize (shp x.1).1 = f at d hf
    rcases forms hf with rfl | rfl | rfl | rfl | rfl | rfl | rfl | rfl | rfl <;> simp [immR] at d <;> omega
  · simpa [e] using a
  · simpa [e] using b
  · simpa [e] using c
theorem sp2 (i : Int) (h : i % 2 = 0) : i = 2 * (i / 2 % 1024 + 1024 * (i / 2048 % 2 + 2 * (i / 4096 % 256 + 256 * (i / 1048576 % 2 + 2 * (i / 2097152))))) := by
  have a1 : i / 2048 = i / 2 / 1024 := by omega
  have a2 : i / 4096 = i / 2048 / 2 := by omega
  have a3 : i / 1048576 = i / 4096 / 256 := by omega
  have a4 : i / 2097152 = i / 1048576 / 2 := by omega
  have b0 : i = 2 * (i / 2) := by omega
  have b1 := Int.emod_add_mul_ediv (i / 2) 1024
  have b2 := Int.emod_add_mul_ediv (i / 2048) 2
  have b3 := Int.emod_add_mul_ediv (i / 4096) 256
  have b4 := Int.emod_add_mul_ediv (i / 1048576) 2
  rw [← a1] at b1; rw [← a2] at b2; rw [← a3] at b3; rw [← a4] at b4
  rw [b4, b3, b2, b1]; exact b0
theorem sp4 (i : Int) (h : i % 2 = 0) : i = 2 * (i / 2 % 16 + 16 * (i / 32 % 64 + 64 * (i / 2048 % 2 + 2 * (i / 4096 % 2 + 2 * (i / 8192))))) := by
  have a1 : i / 32 = i / 2 / 16 := by omega
  have a2 : i / 2048 = i / 32 / 64 := by omega
  have a3 : i / 4096 = i / 2048 / 2 := by omega
  have a4 : i / 8192 = i / 4096 / 2 := by omega
  have b0 : i = 2 * (i / 2) := by omega
  have b1 := Int.emod_add_mul_ediv (i / 2) 16
  have b2 := Int.emod_add_mul_ediv (i / 32) 64
  have b3 := Int.emod_add_mul_ediv (i / 2048) 2
  have b4 := Int.emod_add_mul_ediv (i / 4096) 2
  rw [← a1] at b1; rw [← a2] at b2; rw [← a3] at b3; rw [← a4] at b4
  rw [b4, b3, b2, b1]; exact b0
theorem sp5 (i : Int) : i = i % 32 + 32 * (i / 32 % 128 + 128 * (i / 4096)) := by
  have a1 : i / 4096 = i / 32 / 128 := by omega
  have b0 := Int.emod_add_mul_ediv i 32
  have b1 := Int.emod_add_mul_ediv (i / 32) 128
  rw [← a1] at b1
  rw [b1, b0]
theorem m2 (a : Int) : 0 ≤ a % 2 ∧ a % 2 < 2 := by omega
theorem m16 (a : Int) : 0 ≤ a % 16 ∧ a % 16 < 16 := by omega
theorem m32 (a : Int) : 0 ≤ a % 32 ∧ a % 32 < 32 := by omega
theorem m64 (a : Int) : 0 ≤ a % 64 ∧ a % 64 < 64 := by omega
theorem m128 (a : Int) : 0 ≤ a % 128 ∧ a % 128 < 128 := by omega
theorem m256 (a : Int) : 0 ≤ a % 256 ∧ a % 256 < 256 := by omega
theorem m1024 (a : Int) : 0 ≤ a % 1024 ∧ a % 1024 < 1024 := by omega
theorem un2 {c d y0 y1 y2 y3 : Int} (hc : 0 ≤ c ∧ c < 128) (hd : 0 ≤ d ∧ d ≤ 31) (q0 : 0 ≤ y0 ∧ y0 < 256) (q1 : 0 ≤ y1 ∧ y1 < 2) (q2 : 0 ≤ y2 ∧ y2 < 1024) (q3 : 0 ≤ y3 ∧ y3 < 2) :
    (c + d * 128 + y0 * 4096 + y1 * 1048576 + y2 * 2097152 + y3 * 2147483648) / 128 % 32 = d ∧ (c + d * 128 + y0 * 4096 + y1 * 1048576 + y2 * 2097152 + y3 * 2147483648) / 4096 % 256 = y0 ∧ (c + d * 128 + y0 * 4096 + y1 * 1048576 + y2 * 2097152 + y3 * 2147483648) / 1048576 % 2 = y1 ∧ (c + d * 128 + y0 * 4096 + y1 * 1048576 + y2 * 2097152 + y3 * 2147483648) / 2097152 % 1024 = y2 ∧ (c + d * 128 + y0 * 4096 + y1 * 1048576 + y2 * 2097152 + y3 * 2147483648) / 2147483648 % 2 = y3 := by
  refine ⟨?_, ?_, ?_, ?_, ?_⟩ <;> omega
theorem un4 {c y0 y1 f3 a b y2 y3 : Int} (hc : 0 ≤ c ∧ c < 128) (hf : 0 ≤ f3 ∧ f3 < 8) (ha : 0 ≤ a ∧ a ≤ 31) (hb : 0 ≤ b ∧ b ≤ 31) (q0 : 0 ≤ y0 ∧ y0 < 2) (q1 : 0 ≤ y1 ∧ y1 < 16) (q2 : 0 ≤ y2 ∧ y2 < 64) (q3 : 0 ≤ y3 ∧ y3 < 2) :
    (c + y0 * 128 + y1 * 256 + f3 * 4096 + a * 32768 + b * 1048576 + y2 * 33554432 + y3 * 2147483648) / 128 % 2 = y0 ∧ (c + y0 * 128 + y1 * 256 + f3 * 4096 + a * 32768 + b * 1048576 + y2 * 33554432 + y3 * 2147483648) / 256 % 16 = y1 ∧ (c + y0 * 128 + y1 * 256 + f3 * 4096 + a * 32768 + b * 1048576 + y2 * 33554432 + y3 * 2147483648) / 32768 % 32 = a ∧ (c + y0 * 128 + y1 * 256 + f3 * 4096 + a * 32768 + b * 1048576 + y2 * 33554432 + y3 * 2147483648) / 1048576 % 32 = b ∧ (c + y0 * 128 + y1 * 256 + f3 * 4096 + a * 32768 + b * 1048576 + y2 * 33554432 + y3 * 2147483648) / 33554432 % 64 = y2 ∧ (c + y0 * 128 + y1 * 256 + f3 * 4096 + a * 32768 + b * 1048576 + y2 * 33554432 + y3 * 2147483648) / 2147483648 % 2 = y3 := by
  refine ⟨?_, ?_, ?_, ?_, ?_, ?_⟩ <;> omega
theorem un5 {c y0 f3 a b y1 : Int} (hc : 0 ≤ c ∧ c < 128) (hf : 0 ≤ f3 ∧ f3 < 8) (ha : 0 ≤ a ∧ a ≤ 31) (hb : 0 ≤ b ∧ b ≤ 31) (q0 : 0 ≤ y0 ∧ y0 < 32) (q1 : 0 ≤ y1 ∧ y1 < 128) :
    (c + y0 * 128 + f3 * 4096 + a * 32768 + b * 1048576 + y1 * 33554432) / 128 % 32 = y0 ∧ (c + y0 * 128 + f3 * 4096 + a * 32768 + b * 1048576 + y1 * 33554432) / 32768 % 32 = a ∧ (c + y0 * 128 + f3 * 4096 + a * 32768 + b * 1048576 + y1 * 33554432) / 1048576 % 32 = b ∧ (c + y0 * 128 + f3 * 4096 + a * 32768 + b * 1048576 + y1 * 33554432) / 33554432 % 128 = y1 := by
  refine ⟨?_, ?_, ?_, ?_⟩ <;> omega
theorem dec_enc_x {f c f3 f7 n d a b i : Int} (hs : ShpOK (f, c, f3, f7) = true) (hr : RegsOK (n, d, a, b, i)) (hd : (fieldsV f).1 = false → d = 0) (ha : (fieldsV f).2.1 = false → a = 0) (hb : (fieldsV f).2.2 = false → b = 0) (hi : immR f i = true) : decV n f (encV (f, c, f3, f7) (n, d, a, b, i)) = (n, d, a, b, i) := by
  obtain ⟨h1, h2, h3, h4, h5, h6⟩ := shp_facts hs
  obtain ⟨⟨d0, d1⟩, ⟨a0, a1⟩, ⟨b0, b1⟩, _⟩ := hr
  simp only at d0 d1 a0 a1 b0 b1
  clear hs
  rcases forms h1 with rfl | rfl | rfl | rfl | rfl | rfl | rfl | rfl | rfl <;> simp [immR] at hi <;> simp [fieldsV] at hd ha hb <;> simp [decV, fieldsV, encV, immS, bitsV, immU, signV]
  · omega
  · have e := sp2 i (by omega)
    have q1 := m1024 (i / 2); have q2 := m2 (i / 2048); have q3 := m256 (i / 4096); have q4 := m2 (i / 1048576)
    generalize i / 2 % 1024 = y2 at *; generalize i / 2048 % 2 = y1 at *; generalize i / 4096 % 256 = y0 at *; generalize i / 1048576 % 2 = y3 at *
    obtain ⟨w1, w2, w3, w4, w5⟩ := un2 h2 ⟨d0, d1⟩ q3 q2 q1 q4
    rw [w1, w2, w3, w4, w5]; omega
  · omega
  · have e := sp4 i (by omega)
    have q1 := m16 (i / 2); have q2 := m64 (i / 32); have q3 := m2 (i / 2048); have q4 := m2 (i / 4096)
    generalize i / 2 % 16 = y1 at *; generalize i / 32 % 64 = y2 at *; generalize i / 2048 % 2 = y0 at *; generalize i / 4096 % 2 = y3 at *
    obtain ⟨w1, w2, w3, w4, w5, w6⟩ := un4 h2 h3 ⟨a0, a1⟩ ⟨b0, b1⟩ q3 q1 q2 q4
    rw [w1, w2, w3, w4, w5, w6]; omega
  · have e := sp5 i
    have q1 := m32 i; have q2 := m128 (i / 32)
    generalize i % 32 = y0 at *; generalize i / 32 % 128 = y1 at *
    obtain ⟨w1, w3, w4, w5⟩ := un5 h2 h3 ⟨a0, a1⟩ ⟨b0, b1⟩ q1 q2
    rw [w1, w3, w4, w5]; omega
  all_goals omega
theorem enc_range {f c f3 f7 n d a b i : Int} (hs : ShpOK (f, c, f3, f7) = true) (hr : RegsOK (n, d, a, b, i)) : 0 ≤ encV (f, c, f3, f7) (n, d, a, b, i) ∧ encV (f, c, f3, f7) (n, d, a, b, i) < 4294967296 ∧ encV (f, c, f3, f7) (n, d, a, b, i) % 128 = c ∧ (3 ≤ f → f ≤ 8 → encV (f, c, f3, f7) (n, d, a, b, i) / 4096 % 8 = f3)
    ∧ (f = 6 → encV (f, c, f3, f7) (n, d, a, b, i) / 67108864 = f7 / 2) ∧ (f = 7 ∨ f = 8 → encV (f, c, f3, f7) (n, d, a, b, i) / 33554432 = f7) ∧ (f = 9 → encV (f, c, f3, f7) (n, d, a, b, i) / 1048576 = f7) := by
  obtain ⟨h1, h2, h3, h4, h5, h6⟩ := shp_facts hs
  obtain ⟨⟨d0, d1⟩, ⟨a0, a1⟩, ⟨b0, b1⟩, _⟩ := hr
  simp only at d0 d1 a0 a1 b0 b1
  have q1 := m1024 (i / 2); have q2 := m2 (i / 2048); have q3 := m256 (i / 4096); have q4 := m2 (i / 1048576)
  have q5 := m16 (i / 2); have q6 := m64 (i / 32); have q7 := m2 (i / 4096); have q8 := m32 i; have q9 := m128 (i / 32)
  clear hs
  rcases forms h1 with rfl | rfl | rfl | rfl | rfl | rfl | rfl | rfl | rfl <;> simp [encV]
  · omega
  · generalize i / 2 % 1024 = y2 at *; generalize i / 2048 % 2 = y1 at *; generalize i / 4096 % 256 = y0 at *; generalize i / 1048576 % 2 = y3 at *
    clear q5 q6 q7 q8 q9; omega
  · omega
  · generalize i / 2 % 16 = y1 at *; generalize i / 32 % 64 = y2 at *; generalize i / 2048 % 2 = y0 at *; generalize i / 4096 % 2 = y3 at *
    clear q1 q3 q4 q8 q9; omega
  · generalize i % 32 = y0 at *; generalize i / 32 % 128 = y1 at *
    clear q1 q2 q3 q4 q5 q6 q7; omega
  all_goals omega
/-- Two operations have different words. -/
def apartOp (m n : Fin 65) : Bool :=
  let s := shp (m.val : Int); let t := shp (n.val : Int)
  decide (m.val = 0) || decide (n.val = 0) || decide (m = n) || !decide (s.2.1 = t.2.1) || (decide (3 ≤ s.1) && decide (s.1 ≤ 8) && decide (3 ≤ t.1) && decide (t.1 ≤ 8) && !decide (s.2.2.1 = t.2.2.1)) || (decide (s.1 = t.1) && decide (6 ≤ s.1) && !decide (s.2.2.2 = t.2.2.2))
theorem apart_op : ∀ m n : Fin 65, apartOp m n = true := by decide +kernel
theorem op_unique {x y : Ins} (hx : RegsOK x) (hy : RegsOK y) (h1 : 1 ≤ x.1 ∧ x.1 ≤ 64) (h2 : 1 ≤ y.1 ∧ y.1 ≤ 64) (e : encV (shp x.1) x = encV (shp y.1) y) : x.1 = y.1 := by
  obtain ⟨n, d, a, b, i⟩ := x
  obtain ⟨m, d', a', b', i'⟩ := y
  simp only at h1 h2 e ⊢
  have o1 := shp_ok n h1.1 h1.2
  have o2 := shp_ok m h2.1 h2.2
  have f1 := shp_facts (f := (shp n).1) (c := (shp n).2.1) (f3 := (shp n).2.2.1) (f7 := (shp n).2.2.2) o1
  have f2 := shp_facts (f := (shp m).1) (c := (shp m).2.1) (f3 := (shp m).2.2.1) (f7 := (shp m).2.2.2) o2
  have r1 : _ ∧ _ := enc_range (f := (shp n).1) (c := (shp n).2.1) (f3 := (shp n).2.2.1) (f7 := (shp n).2.2.2) o1 hx
  have r2 : _ ∧ _ := enc_range (f := (shp m).1) (c := (shp m).2.1) (f3 := (shp m).2.2.1) (f7 := (shp m).2.2.2) o2 hy
  change 0 ≤ encV (shp n) (n, d, a, b, i) ∧ encV (shp n) (n, d, a, b, i) < 4294967296 ∧ encV (shp n) (n, d, a, b, i) % 128 = _ ∧ (_ → _ → encV (shp n) (n, d, a, b, i) / 4096 % 8 = _) ∧ (_ → encV (shp n) (n, d, a, b, i) / 67108864 = _) ∧ (_ → encV (shp n) (n, d, a, b, i) / 33554432 = _) ∧ (_ → encV (shp n) (n, d, a, b, i) / 1048576 = _) at r1
  change 0 ≤ encV (shp m) (m, d', a', b', i') ∧ encV (shp m) (m, d', a', b', i') < 4294967296 ∧ encV (shp m) (m, d', a', b', i') % 128 = _ ∧ (_ → _ → encV (shp m) (m, d', a', b', i') / 4096 % 8 = _) ∧ (_ → encV (shp m) (m, d', a', b', i') / 67108864 = _) ∧ (_ → encV (shp m) (m, d', a', b', i') / 33554432 = _) ∧ (_ → encV (shp m) (m, d', a', b', i') / 1048576 = _) at r2
  rw [e] at r1
  obtain ⟨k, hk⟩ := fin65 (n := n) (by omega) (by omega)
  obtain ⟨l, hl⟩ := fin65 (n := m) (by omega) (by omega)
  have ha := apart_op k l
  unfold apartOp at ha
  rw [← hk, ← hl] at ha
  by_cases hkl : k = l
  · omega
  exfalso
  generalize encV (shp m) (m, d', a', b', i') = w at *
  have k0 : k.val ≠ 0 := by omega
  have l0 : l.val ≠ 0 := by omega
  simp only [Bool.or_eq_true, Bool.and_eq_true, Bool.not_eq_true', decide_eq_true_eq, decide_eq_false_iff_not, k0, l0, hkl, false_or] at ha
  clear e hk hl o1 o2
  generalize shp n = s at *
  generalize shp m = t at *
  obtain ⟨sf, sc, s3, s7⟩ := s
  obtain ⟨tf, tc, t3, t7⟩ := t
  simp only at *
  obtain ⟨_, _, u1, u2, u3, u4, u5⟩ := r1
  obtain ⟨_, _, v1, v2, v3, v4, v5⟩ := r2
  obtain ⟨f1a, _, _, _, f1b, _⟩ := f1
  obtain ⟨f2a, _, _, _, f2b, _⟩ := f2
  rcases ha with (ha | ⟨⟨⟨⟨ha, hb⟩, hc⟩, hd⟩, he⟩) | ⟨⟨ha, hb⟩, hc⟩
  · exact ha (u1.symm.trans v1)
  · exact he ((u2 ha hb).symm.trans (v2 hc hd))
  · subst ha
    have : sf = 6 ∨ sf = 7 ∨ sf = 8 ∨ sf = 9 := by omega
    rcases this with h | h | h | h
    · have := (u3 h).symm.trans (v3 h); have := f1b h; have := f2b h; omega
    · exact hc ((u4 (.inl h)).symm.trans (v4 (.inl h)))
    · exact hc ((u4 (.inr h)).symm.trans (v4 (.inr h)))
    · exact hc ((u5 h).symm.trans (v5 h))
theorem decode_i (x : Ins) (h : rightV x = true) : impl_decode (encV (shp x.1) x) = some (x, true) := by
  obtain ⟨h1, hr, hd, ha, hb, hi⟩ := right_facts h
  have ho := shp_ok x.1 h1.1 h1.2
  have er := enc_range (f := (shp x.1).1) (c := (shp x.1).2.1) (f3 := (shp x.1).2.2.1) (f7 := (shp x.1).2.2.2) (n := x.1) (d := x.2.1) (a := x.2.2.1) (b := x.2.2.2.1) (i := x.2.2.2.2) ho hr
  have ee : encV ((shp x.1).1, (shp x.1).2.1, (shp x.1).2.2.1, (shp x.1).2.2.2) (x.1, x.2.1, x.2.2.1, x.2.2.2.1, x.2.2.2.2) = encV (shp x.1) x := rfl
  rw [ee] at er
  have hdec : decV x.1 (shp x.1).1 (encV (shp x.1) x) = x := dec_enc_x (f := (shp x.1).1) (c := (shp x.1).2.1) (f3 := (shp x.1).2.2.1) (f7 := (shp x.1).2.2.2) (n := x.1) (d := x.2.1) (a := x.2.2.1) (b := x.2.2.2.1) (i := x.2.2.2.2) ho hr hd ha hb hi
  obtain ⟨os, ho', hl, hs⟩ := ops_rd 0 (by decide) (by decide)
  rw [impl_decode_eq, ho']
  simp only [Option.bind_some, hl]
  have hz : impl_decode.l1010 (encV (shp x.1) x) (0, 0, 0, 0, 0) os 65 0 = impl_decode.l1010 (encV (shp x.1) x) (0, 0, 0, 0, 0) os 65 1 := by
    rw [impl_decode.l1010_eq, hl]; rfl
  have key : ∀ (k n : Nat), (n : Int) + k = x.1 → 1 ≤ n → impl_decode.l1010 (encV (shp x.1) x) (0, 0, 0, 0, 0) os 65 (n : Int) = some (x, true) := by
    intro k
    induction k with
    | zero =>
      intro n hn hn1
      have hnx : (n : Int) = x.1 := by omega
      rw [impl_dec_step _ er.1 er.2.1 _ os hl hs n hn1 (by omega), hnx, hdec, if_pos ⟨er.2.2.1.symm, rfl⟩]
    | succ k ih =>
      intro n hn hn1
      rw [impl_dec_step _ er.1 er.2.1 _ os hl hs n hn1 (by omega), if_neg, ih (n + 1) (by omega) (by omega)]
      rintro ⟨_, hc⟩
      have := op_unique (x := decV (n : Int) (shp n).1 (encV (shp x.1) x)) (y := x) (dec_regs (shp_form (n := n) (by omega) (by omega)) er.1 er.2.1) hr (by simp only [decV]; omega) h1 hc
      simp only [decV] at this
      omega
  rw [show (((65 : Nat)) : Int) = 65 by rfl, hz]
  exact key (x.1 - 1).toNat 1 (by omega) (by omega)
theorem instrOK_right (x : Ins) (h : rightV x = true) : impl_InstrOK x = some true := by
  obtain ⟨h1, hr, hd, ha, hb, hi⟩ := right_facts h
  have hf := shp_form (n := x.1) h1.1 h1.2
  have hm := immOK_val (shp x.1).1 x.2.2.2.2 hf
  rw [hi] at hm
  have r1 : (decide ((0 : Int) ≤ x.2.1) && decide (x.2.1 ≤ 31)) = true := by simp; exact hr.d
  have r2 : (decide ((0 : Int) ≤ x.2.2.1) && decide (x.2.2.1 ≤ 31)) = true := by simp; exact hr.a
  have r3 : (decide ((0 : Int) ≤ x.2.2.2.1) && decide (x.2.2.2.1 ≤ 31)) = true := by simp; exact hr.b
  have r0 : (decide ((1 : Int) ≤ x.1) && decide (x.1 ≤ 64)) = true := by simp; exact h1
  rw [impl_InstrOK_eq, impl_isOp_eq, within_val, impl_shape _ (by omega) h1.2, r0]
  simp only [Option.bind_some]
  rw [fields_val hf]
  simp only [impl_isReg_eq, within_val, r1, r2, r3, hm, Option.bind_some, cond_true, Bool.not_true, cond_false]
  cases e1 : (fieldsV (shp x.1).1).1 <;> cases e2 : (fieldsV (shp x.1).1).2.1 <;> cases e3 : (fieldsV (shp x.1).1).2.2 <;> simp_all
def wordL (x : Ins) : List Int := leB (encV (shp x.1) x) 4
def codeL : List Ins → List Int
  | [] => []
  | x :: l => wordL x ++ codeL l
def codeOf (l : List Ins) : ByteArray := bytesOf (codeL l)
theorem wordL_length (x : Ins) : (wordL x).length = 4 := leB_length 4 _
theorem codeL_length : ∀ l : List Ins, (codeL l).length = 4 * l.length
  | [] => rfl
  | x :: l => by rw [codeL, List.length_append, wordL_length, codeL_length l, List.length_cons]; omega
theorem codeOf_size (l : List Ins) : (codeOf l).size = 4 * l.length := by rw [codeOf, bytesOf_size, codeL_length]
theorem codeL_append : ∀ a b : List Ins, codeL (a ++ b) = codeL a ++ codeL b
  | [], _ => rfl
  | x :: a, b => by rw [List.cons_append, codeL, codeL, codeL_append a b, List.append_assoc]
theorem bytesOf_append (xs ys : List Int) : bytesOf (xs ++ ys) = bytesOf xs ++ bytesOf ys := by
  apply ByteArray.ext
  rw [ByteArray.data_append]
  simp [bytesOf]
theorem codeOf_append (a b : List Ins) : codeOf (a ++ b) = codeOf a ++ codeOf b := by rw [codeOf, codeL_append, bytesOf_append]; rfl
theorem right_range {x : Ins} (h : rightV x = true) : 0 ≤ encV (shp x.1) x ∧ encV (shp x.1) x < 4294967296 := by
  obtain ⟨h1, hr, _⟩ := right_facts h
  have er := enc_range (f := (shp x.1).1) (c := (shp x.1).2.1) (f3 := (shp x.1).2.2.1) (f7 := (shp x.1).2.2.2) (n := x.1) (d := x.2.1) (a := x.2.2.1) (b := x.2.2.2.1) (i := x.2.2.2.2) (shp_ok x.1 h1.1 h1.2) hr
  exact ⟨er.1, er.2.1⟩
theorem take_word (x : Ins) (h : rightV x = true) : impl_takeLittle (bytesOf (wordL x)) = some (encV (shp x.1) x) := by
  have hr := right_range h
  rw [impl_take_val _ (by rw [bytesOf_size, wordL_length]; decide), bytesOf_size, wordL_length]
  have := leN_leB 4 (encV (shp x.1) x) [] hr.1 (fun x hx => by cases hx)
  rw [List.nil_append, List.length_nil] at this
  unfold wordL
  rw [this, Int.emod_eq_of_lt hr.1 (by simpa using hr.2), w64 (by omega) (by omega)]
theorem words_loop (l : List Ins) (hl : l.length ≤ 64) (hr : ∀ x ∈ l, rightV x = true) : ∀ (b a : List Ins), l = a ++ b → impl_WordsOf.l111010 (codeOf a) l (l.length : Int) (a.length : Int) = some (codeOf l, 0) := by
  intro b
  induction b with
  | nil =>
    intro a e
    rw [List.append_nil] at e
    subst e
    rw [impl_WordsOf.l111010_eq, lt_nat, decide_eq_false (Nat.lt_irrefl _), cond_false]
  | cons x b ih =>
    intro a e
    have hlen : l.length = a.length + (b.length + 1) := by rw [e]; simp
    have hx : rightV x = true := hr x (by rw [e]; simp)
    obtain ⟨h1, hrg, _⟩ := right_facts hx
    have hrd : rd (τ := TIns) l (a.length : Int) = x := by rw [rd_nat _ _ (by omega)]; simp [e]
    rw [impl_WordsOf.l111010_eq, lt_nat, decide_eq_true (show a.length < l.length by omega), inL_nat, decide_eq_true (show a.length < l.length by omega), hrd, instrOK_right x hx, w64_succ a.length l.length (by omega) (by omega)]
    simp only [cond_true, Option.bind_some, Bool.not_true, cond_false]
    rw [impl_encode_val x h1.1 h1.2 hrg]
    simp only [Option.bind_some]
    have hp : impl_putLittle (encV (shp x.1) x) 4 = some (bytesOf (wordL x)) := put_little _ 4 (by decide)
    rw [hp]
    simp only [Option.bind_some]
    rw [decide_eq_true (show (codeOf a).size + (bytesOf (wordL x)).size ≤ 9223372036854775807 by rw [codeOf_size, bytesOf_size, wordL_length]; omega), cond_true]
    have h2 := ih (a ++ [x]) (by rw [e]; simp)
    have h3 : codeOf (a ++ [x]) = codeOf a ++ bytesOf (wordL x) := by rw [codeOf_append]; simp [codeOf, codeL]
    rw [List.length_append, List.length_singleton, h3] at h2
    exact h2
theorem words_val (l : List Ins) (hl : l.length ≤ 64) (hr : ∀ x ∈ l, rightV x = true) : impl_WordsOf l = some (codeOf l, 0) := by
  rw [impl_WordsOf_eq, decide_eq_false (show ¬ ((l.length : Int) > 4096) by omega), decide_eq_false (show ¬ ((l.length : Int) > 64) by omega)]
  simp only [cond_false]
  exact words_loop l hl hr l [] rfl
abbrev Src : Type := List Int × Int × Int
/-- A source from which K bytes may still be drawn. -/
structure SrcOK (K : Nat) (s : Src) : Prop where
  b : ∀ x ∈ s.1, 0 ≤ x ∧ x ≤ 255
  n : s.1.length ≤ 1048576
  a0 : 0 ≤ s.2.1
  a1 : s.2.1 + (K : Int) ≤ 4611686018427387904
  s0 : 0 ≤ s.2.2
  s1 : s.2.2 < 2147483648
theorem SrcOK.mono {K K' : Nat} {s : Src} (h : SrcOK K s) (hk : K' ≤ K) : SrcOK K' s := ⟨h.b, h.n, h.a0, by have := h.a1; omega, h.s0, h.s1⟩
theorem byte_ok {K : Nat} {s : Src} (h : SrcOK (K + 1) s) : ∃ (v : Int) (t : Src), spec_l00Src_byte s = some (v, t) ∧ 0 ≤ v ∧ v ≤ 255 ∧ SrcOK K t := by
  obtain ⟨c, a, d⟩ := s
  obtain ⟨hb, hn, ha, ha', hs, hs'⟩ := h
  simp only at hb hn ha ha' hs hs'
  rw [spec_l00Src_byte_eq]
  simp only
  rw [w64 (n := a + 1) (by omega) (by omega), w64 (n := a + 1 - 1) (by omega) (by omega), show a + 1 - 1 = a by omega]
  by_cases hi : a + 1 ≤ (c.length : Int)
  · rw [decide_eq_true hi, inL_true ha (by omega)]
    simp only [cond_true]
    obtain ⟨k, rfl⟩ : ∃ k : Nat, a = k := ⟨a.toNat, by omega⟩
    rw [rd_nat (τ := .int .u8) c k (by omega)]
    have hc := hb (c[k]'(by omega)) (List.getElem_mem _)
    generalize (c[k]'(by omega) : Int) = x at *
    rw [w64 (n := x) (by omega) (by omega), w64 (n := d * 31) (by omega) (by omega), w64 (n := d * 31 + x) (by omega) (by omega), w64 (n := d * 31 + x + 7) (by omega) (by omega)]
    refine ⟨_, _, rfl, hc.1, hc.2, ⟨hb, hn, by simp only; omega, by simp only; omega, ?_, ?_⟩⟩
    · simp only; rw [Int.tmod_eq_emod_of_nonneg (by omega)]; omega
    · simp only; rw [Int.tmod_eq_emod_of_nonneg (by omega)]; omega
  · rw [decide_eq_false hi]
    simp only [cond_false]
    by_cases hj : a + 1 > 3000
    · rw [decide_eq_true hj]
      exact ⟨_, _, rfl, by omega, by omega, ⟨hb, hn, by simp only; omega, by simp only; omega, hs, hs'⟩⟩
    · rw [decide_eq_false hj, w64 (n := d * 1103515245) (by omega) (by omega), w64 (n := d * 1103515245 + 12345) (by omega) (by omega)]
      simp only [cond_false]
      have h0 : 0 ≤ (d * 1103515245 + 12345).tmod 2147483648 ∧ (d * 1103515245 + 12345).tmod 2147483648 < 2147483648 := by
        rw [Int.tmod_eq_emod_of_nonneg (by omega)]; omega
      generalize (d * 1103515245 + 12345).tmod 2147483648 = e at *
      have h1 : 0 ≤ e.tdiv 65536 ∧ e.tdiv 65536 < 32768 := by rw [Int.tdiv_eq_ediv_of_nonneg h0.1]; omega
      rw [w64 (n := e.tdiv 65536) (by omega) (by omega)]
      have h2 : 0 ≤ (e.tdiv 65536).tmod 256 ∧ (e.tdiv 65536).tmod 256 ≤ 255 := by rw [Int.tmod_eq_emod_of_nonneg h1.1]; omega
      exact ⟨_, _, rfl, h2.1, h2.2, ⟨hb, hn, by simp only; omega, by simp only; omega, h0.1, h0.2⟩⟩
theorem next_ok {K : Nat} {s : Src} (h : SrcOK (K + 3) s) (n : Int) : ∃ (v : Int) (t : Src), spec_l00Src_next s n = some (v, t) ∧ 0 ≤ v ∧ (1 ≤ n → v < n) ∧ (n ≤ 1 → v = 0) ∧ SrcOK K t := by
  rw [spec_l00Src_next_eq]
  by_cases h1 : n ≤ 1
  · rw [decide_eq_true h1]
    exact ⟨0, s, rfl, by omega, by omega, fun _ => rfl, h.mono (by omega)⟩
  · rw [decide_eq_false h1]
    simp only [cond_false]
    by_cases h2 : n ≤ 256
    · obtain ⟨v, t, e, v0, v1, ht⟩ := byte_ok (h.mono (show K + 1 ≤ K + 3 by omega))
      rw [decide_eq_true h2, e, decide_eq_false (show ¬ n = 0 by omega)]
      simp only [cond_true, cond_false, Option.bind_some]
      refine ⟨_, t, rfl, ?_, fun _ => ?_, fun h => absurd h h1, ht⟩ <;> rw [Int.tmod_eq_emod_of_nonneg v0]
      · exact Int.emod_nonneg _ (by omega)
      · exact Int.emod_lt_of_pos _ (by omega)
    · obtain ⟨v, t, e, v0, v1, ht⟩ := byte_ok (h.mono (show K + 2 + 1 ≤ K + 3 by omega))
      obtain ⟨v', t', e', v0', v1', ht'⟩ := byte_ok (ht.mono (show K + 1 + 1 ≤ K + 2 by omega))
      obtain ⟨v'', t'', e'', v0'', v1'', ht''⟩ := byte_ok (ht'.mono (show K + 1 ≤ K + 1 by omega))
      rw [decide_eq_false h2, e]
      simp only [cond_false, Option.bind_some]
      rw [e']
      simp only [Option.bind_some]
      rw [e'']
      simp only [Option.bind_some]
      rw [decide_eq_false (show ¬ n = 0 by omega), w64 (n := v * 65536) (by omega) (by omega), w64 (n := v' * 256) (by omega) (by omega), w64 (n := v * 65536 + v' * 256) (by omega) (by omega), w64 (n := v * 65536 + v' * 256 + v'') (by omega) (by omega)]
      simp only [cond_false]
      refine ⟨_, t'', rfl, ?_, fun _ => ?_, fun h => absurd h h1, ht''⟩ <;> rw [Int.tmod_eq_emod_of_nonneg (by omega)]
      · exact Int.emod_nonneg _ (by omega)
      · exact Int.emod_lt_of_pos _ (by omega)
theorem source_ok (a : List Int) (hb : ∀ x ∈ a, 0 ≤ x ∧ x ≤ 255) (hn : a.length ≤ 1048576) : ∃ s : Src, spec_l00Source a = some (some s) ∧ SrcOK 1000000000 s := by
  refine ⟨_, spec_l00Source_eq a, ⟨hb, hn, by simp, by simp, ?_, ?_⟩⟩ <;> simp only <;> rw [Int.tmod_eq_emod_of_nonneg (by omega)] <;> omega
/-- The registers of drawn code. -/
def RegP (a : Int) : Prop := a = 5 ∨ a = 6 ∨ a = 7 ∨ a = 10 ∨ a = 11 ∨ a = 12 ∨ a = 28
theorem reg_ok {K : Nat} {s : Src} (h : SrcOK (K + 3) s) : ∃ (a : Int) (t : Src), spec_l00Src_reg s = some (a, t) ∧ RegP a ∧ SrcOK K t := by
  obtain ⟨v, t, e, v0, v1, _, ht⟩ := next_ok h 7
  have v1 := v1 (by decide)
  rw [spec_l00Src_reg_eq, e]
  simp only [Option.bind_some]
  rw [inL_true v0 (by simp; omega)]
  refine ⟨_, t, rfl, ?_, ht⟩
  have : v = 0 ∨ v = 1 ∨ v = 2 ∨ v = 3 ∨ v = 4 ∨ v = 5 ∨ v = 6 := by omega
  rcases this with rfl | rfl | rfl | rfl | rfl | rfl | rfl <;> simp [RegP, rd]
def FrmP (f : Int) : Prop := f = 16 ∨ f = 32 ∨ f = 48 ∨ f = 64 ∨ f = 128
theorem frm_ok {K : Nat} {s : Src} (h : SrcOK (K + 3) s) : ∃ (a : Int) (t : Src), spec_l00Src_frame s = some (a, t) ∧ FrmP a ∧ SrcOK K t := by
  obtain ⟨v, t, e, v0, v1, _, ht⟩ := next_ok h 6
  have v1 := v1 (by decide)
  rw [spec_l00Src_frame_eq, e]
  simp only [Option.bind_some]
  rw [inL_true v0 (by simp; omega)]
  refine ⟨_, t, rfl, ?_, ht⟩
  have : v = 0 ∨ v = 1 ∨ v = 2 ∨ v = 3 ∨ v = 4 ∨ v = 5 := by omega
  rcases this with rfl | rfl | rfl | rfl | rfl | rfl <;> simp [FrmP, rd]
theorem FrmP.ok {f : Int} (h : FrmP f) : frameV f = true := by rcases h with rfl | rfl | rfl | rfl | rfl <;> rfl
/-- A drawn piece; C: the numbers that a call may bear; D: the addresses of data. -/
inductive Dpc (f : Int) (C D : Int → Prop) : List Ins → Prop where
  | alu (n a b c : Int) (hn : (31 ≤ n ∧ n ≤ 40) ∨ (50 ≤ n ∧ n ≤ 62)) (ha : RegP a) (hb : RegP b) (hc : RegP c) : Dpc f C D [(n, a, b, c, 0)]
  | imm (a b i : Int) (ha : RegP a) (hb : RegP b) (hi : -8 ≤ i ∧ i ≤ 31) : Dpc f C D [(22, a, b, 0, i)]
  | data (a d : Int) (ha : RegP a) (hd : D d) : Dpc f C D [(1, 13, 0, 0, d / 4096 * 4096), (14, a, 13, 0, d % 4096), (22, a, a, 0, 1), (21, 0, 13, a, d % 4096)]
  | stack (a b c i k : Int) (ha : RegP a) (hb : RegP b) (hc : RegP c) (hi : -8 ≤ i ∧ i ≤ 31) (hk : 0 ≤ k ∧ 8 * k ≤ f - 16) : Dpc f C D [(21, 0, 2, b, 8 * k), (22, a, b, 0, i), (14, c, 2, 0, 8 * k)]
  | call (i : Int) (hi : C i) : Dpc f C D [(3, 1, 0, 0, i)]
  | out : Dpc f C D [(22, 17, 0, 0, 3), (63, 0, 0, 0, 0)]
  | skip (n a b i : Int) (hn : 5 ≤ n ∧ n ≤ 10) (ha : RegP a) (hb : RegP b) (hi : -8 ≤ i ∧ i ≤ 31) : Dpc f C D [(n, 0, a, b, 8), (22, a, b, 0, i)]
  | turn (k a b i : Int) (hk : 1 ≤ k ∧ k ≤ 4) (ha : RegP a) (hb : RegP b) (hi : -8 ≤ i ∧ i ≤ 31) : Dpc f C D [(22, 9, 0, 0, k), (22, a, b, 0, i), (22, 9, 9, 0, -1), (6, 0, 9, 0, -8)]
  | sys (v x y : Int) (hv : 1 ≤ v ∧ v ≤ 12) (hx : 0 ≤ x ∧ x ≤ 4) (hy : 0 ≤ y ∧ y ≤ 3) : Dpc f C D [(22, 17, 0, 0, v), (22, 10, 0, 0, x), (22, 11, 0, 0, y), (63, 0, 0, 0, 0)]
theorem Dpc.len {f : Int} {C D : Int → Prop} {l : List Ins} (h : Dpc f C D l) : 1 ≤ l.length ∧ l.length ≤ 4 := by cases h <;> simp
def DatP (d : Int) : Prop := 0 ≤ d ∧ d ≤ 1048575 ∧ d % 8 = 0 ∧ d % 4096 ≤ 2047
def CalP (c : Int) : Prop := -1099511627776 ≤ c ∧ c ≤ 1099511627776
theorem body_ok {K : Nat} {s : Src} (h : SrcOK (K + 24) s) (i a f : Int) (calls datas : List Int) (hf : FrmP f) (hi : 0 ≤ i ∧ i ≤ 1000) (ha : 0 ≤ a ∧ a ≤ 1048575) (hc : ∀ c ∈ calls, CalP c) (hd : ∀ d ∈ datas, DatP d) (hcl : calls.length ≤ 256) (hdl : datas.length ≤ 256) :
    ∃ (l : List Ins) (t : Src), spec_l00Src_body s i a f calls datas = some (l, t) ∧ Dpc f (fun m => ∃ c ∈ calls, m = c - a - 4 * i) (· ∈ datas) l ∧ SrcOK K t := by
  obtain ⟨ra, s1, e1, r1, h1⟩ := reg_ok (h.mono (show K + 21 + 3 ≤ K + 24 by omega))
  obtain ⟨rb, s2, e2, r2, h2⟩ := reg_ok (h1.mono (show K + 18 + 3 ≤ K + 21 by omega))
  obtain ⟨rc, s3, e3, r3, h3⟩ := reg_ok (h2.mono (show K + 15 + 3 ≤ K + 18 by omega))
  obtain ⟨v4, s4, e4, p4, q4, _, h4⟩ := next_ok (h3.mono (show K + 12 + 3 ≤ K + 15 by omega)) 40
  obtain ⟨v5, s5, e5, p5, q5, _, h5⟩ := next_ok (h4.mono (show K + 9 + 3 ≤ K + 12 by omega)) 11
  have q4 := q4 (by decide); have q5 := q5 (by decide)
  have him : -8 ≤ v4 - 8 ∧ v4 - 8 ≤ 31 := by omega
  rw [spec_l00Src_body_eq, e1]; simp only [Option.bind_some]
  rw [e2]; simp only [Option.bind_some]
  rw [e3]; simp only [Option.bind_some]
  rw [e4]; simp only [Option.bind_some]
  rw [e5]; simp only [Option.bind_some, joinB]
  rw [w64 (n := v4 - 8) (by omega) (by omega), w64 (n := 4 * i) (by omega) (by omega)]
  have plain : ∃ (l : List Ins) (t : Src), some ([((22 : Int), ra, rb, (0 : Int), v4 - 8)], s5) = some (l, t) ∧ Dpc f (fun m => ∃ c ∈ calls, m = c - a - 4 * i) (· ∈ datas) l ∧ SrcOK K t := ⟨_, _, rfl, .imm _ _ _ r1 r2 him, h5.mono (by omega)⟩
  have : v5 = 0 ∨ v5 = 1 ∨ (v5 = 2 ∨ v5 = 3) ∨ v5 = 4 ∨ (v5 = 5 ∨ v5 = 6) ∨ v5 = 7 ∨ v5 = 8 ∨ v5 = 9 ∨ v5 = 10 := by omega
  rcases this with rfl | rfl | h23 | rfl | h56 | rfl | rfl | rfl | rfl
  · obtain ⟨v, t, e, p, q, _, ht⟩ := next_ok (h5.mono (show K + 6 + 3 ≤ K + 9 by omega)) 10
    have q := q (by decide)
    simp only [decide_true, cond_true, e, Option.bind_some]
    rw [w64 (n := 31 + v) (by omega) (by omega)]
    exact ⟨_, _, rfl, .alu _ _ _ _ (.inl (by omega)) r1 r2 r3, ht.mono (by omega)⟩
  · obtain ⟨v, t, e, p, q, _, ht⟩ := next_ok (h5.mono (show K + 6 + 3 ≤ K + 9 by omega)) 13
    have q := q (by decide)
    simp only [show decide ((1 : Int) = 0) = false from rfl, decide_true, cond_true, cond_false, e, Option.bind_some]
    rw [w64 (n := 50 + v) (by omega) (by omega)]
    exact ⟨_, _, rfl, .alu _ _ _ _ (.inr (by omega)) r1 r2 r3, ht.mono (by omega)⟩
  · have hdat : ∃ (l : List Ins) (t : Src), (bif decide ((datas.length : Int) > 0) then ((spec_l00Src_next s5 (datas.length : Int)).bind fun r9 => bif inL r9.1 (datas.length) then some ([((1 : Int), (13 : Int), (0 : Int), (0 : Int), (IntKind.wrap .i64 ((IntKind.wrap .i64 ((rd (τ := (.int .i64)) datas r9.1).tdiv 4096)) * 4096))), (14, ra, 13, 0, ((rd (τ := (.int .i64)) datas r9.1).tmod 4096)), (22, ra, ra, 0, 1), (21, 0, 13, ra, ((rd (τ := (.int .i64)) datas r9.1).tmod 4096))], r9.2) else none) else some ([(22, ra, rb, 0, v4 - 8)], s5)) = some (l, t) ∧ Dpc f (fun m => ∃ c ∈ calls, m = c - a - 4 * i) (· ∈ datas) l ∧ SrcOK K t := by
      by_cases hdn : (datas.length : Int) > 0
      · obtain ⟨v, t, e, p, q, _, ht⟩ := next_ok (h5.mono (show K + 6 + 3 ≤ K + 9 by omega)) (datas.length : Int)
        have q := q (by omega)
        rw [decide_eq_true hdn, e]
        simp only [cond_true, Option.bind_some]
        rw [inL_true p q]
        simp only [cond_true]
        obtain ⟨k, rfl⟩ : ∃ k : Nat, v = k := ⟨v.toNat, by omega⟩
        have hk : k < datas.length := by omega
        rw [rd_nat (τ := .int .i64) datas k hk]
        have hdk := hd _ (List.getElem_mem hk)
        have hmem : (datas[k] : Int) ∈ datas := List.getElem_mem hk
        generalize (datas[k] : Int) = d at *
        obtain ⟨d0, d1, d2, d3⟩ := hdk
        rw [Int.tdiv_eq_ediv_of_nonneg d0, Int.tmod_eq_emod_of_nonneg d0, w64 (n := d / 4096) (by omega) (by omega), w64 (n := d / 4096 * 4096) (by omega) (by omega)]
        exact ⟨_, _, rfl, .data _ _ r1 hmem, ht.mono (by omega)⟩
      · rw [decide_eq_false hdn]; exact plain
    rcases h23 with rfl | rfl <;> exact hdat
  · simp only [show decide ((4 : Int) = 0) = false from rfl, show decide ((4 : Int) = 1) = false from rfl, show decide ((4 : Int) = 2) = false from rfl, show decide ((4 : Int) = 3) = false from rfl, decide_true, cond_true, cond_false]
    by_cases hf3 : f ≥ 32
    · have ht8 : f.tdiv 8 = f / 8 := Int.tdiv_eq_ediv_of_nonneg (by omega)
      have hfr : f ≤ 128 ∧ f % 8 = 0 := by rcases hf with rfl | rfl | rfl | rfl | rfl <;> decide
      obtain ⟨v, t, e, p, q, _, ht⟩ := next_ok (h5.mono (show K + 6 + 3 ≤ K + 9 by omega)) (f / 8 - 1)
      have q := q (by omega)
      rw [decide_eq_true hf3, ht8, w64 (n := f / 8) (by omega) (by omega), w64 (n := f / 8 - 1) (by omega) (by omega), e]
      simp only [cond_true, Option.bind_some]
      rw [w64 (n := 8 * v) (by omega) (by omega)]
      exact ⟨_, _, rfl, .stack _ _ _ _ _ r1 r2 r3 him ⟨p, by omega⟩, ht.mono (by omega)⟩
    · rw [decide_eq_false hf3]; exact plain
  · have hcal : ∃ (l : List Ins) (t : Src), (bif decide ((calls.length : Int) > 0) then ((spec_l00Src_next s5 (calls.length : Int)).bind fun r12 => bif inL r12.1 (calls.length) then some ([((3 : Int), (1 : Int), (0 : Int), (0 : Int), (IntKind.wrap .i64 ((IntKind.wrap .i64 ((rd (τ := (.int .i64)) calls r12.1) - a)) - (4 * i))))], r12.2) else none) else some ([(22, ra, rb, 0, v4 - 8)], s5)) = some (l, t) ∧ Dpc f (fun m => ∃ c ∈ calls, m = c - a - 4 * i) (· ∈ datas) l ∧ SrcOK K t := by
      by_cases hcn : (calls.length : Int) > 0
      · obtain ⟨v, t, e, p, q, _, ht⟩ := next_ok (h5.mono (show K + 6 + 3 ≤ K + 9 by omega)) (calls.length : Int)
        have q := q (by omega)
        rw [decide_eq_true hcn, e]
        simp only [cond_true, Option.bind_some]
        rw [inL_true p q]
        simp only [cond_true]
        obtain ⟨k, rfl⟩ : ∃ k : Nat, v = k := ⟨v.toNat, by omega⟩
        have hk : k < calls.length := by omega
        rw [rd_nat (τ := .int .i64) calls k hk]
        have hck := hc _ (List.getElem_mem hk)
        have hmem : (calls[k] : Int) ∈ calls := List.getElem_mem hk
        generalize (calls[k] : Int) = c at *
        obtain ⟨c0, c1⟩ := hck
        rw [w64 (n := c - a) (by omega) (by omega), w64 (n := c - a - 4 * i) (by omega) (by omega)]
        exact ⟨_, _, rfl, .call _ ⟨c, hmem, rfl⟩, ht.mono (by omega)⟩
      · rw [decide_eq_false hcn]; exact plain
    rcases h56 with rfl | rfl <;> exact hcal
  · exact ⟨_, _, rfl, .out, h5.mono (by omega)⟩
  · obtain ⟨v, t, e, p, q, _, ht⟩ := next_ok (h5.mono (show K + 6 + 3 ≤ K + 9 by omega)) 6
    have q := q (by decide)
    simp only [e, Option.bind_some]
    rw [w64 (n := 5 + v) (by omega) (by omega)]
    exact ⟨_, _, rfl, .skip _ _ _ _ (by omega) r1 r2 him, ht.mono (by omega)⟩
  · obtain ⟨v, t, e, p, q, _, ht⟩ := next_ok (h5.mono (show K + 6 + 3 ≤ K + 9 by omega)) 4
    have q := q (by decide)
    simp only [e, Option.bind_some]
    rw [w64 (n := 1 + v) (by omega) (by omega)]
    exact ⟨_, _, rfl, .turn _ _ _ _ (by omega) r1 r2 him, ht.mono (by omega)⟩
  · obtain ⟨v, t, e, p, q, _, ht⟩ := next_ok (h5.mono (show K + 6 + 3 ≤ K + 9 by omega)) 12
    obtain ⟨v', t', e', p', q', _, ht'⟩ := next_ok (ht.mono (show K + 3 + 3 ≤ K + 6 by omega)) 5
    obtain ⟨v'', t'', e'', p'', q'', _, ht''⟩ := next_ok (ht'.mono (show K + 3 ≤ K + 3 by omega)) 4
    have q := q (by decide); have q' := q' (by decide); have q'' := q'' (by decide)
    simp only [e, e', e'', Option.bind_some]
    rw [w64 (n := 1 + v) (by omega) (by omega)]
    exact ⟨_, _, rfl, .sys _ _ _ (by omega) (by omega) (by omega), ht''⟩
/-- Pieces one behind another; i: the number of the first instruction. -/
inductive Dpcs (f : Int) (C : Int → Int → Prop) (D : Int → Prop) : Int → List Ins → Prop where
  | nil (i : Int) : Dpcs f C D i []
  | cons (i : Int) (l m : List Ins) (h : Dpc f (C i) D l) (k : Dpcs f C D (i + l.length) m) : Dpcs f C D i (l ++ m)
theorem Dpcs.snoc {f : Int} {C : Int → Int → Prop} {D : Int → Prop} : ∀ {i : Int} {l m : List Ins}, Dpcs f C D i l → Dpc f (C (i + l.length)) D m → Dpcs f C D i (l ++ m) := by
  intro i l m h k
  induction h with
  | nil i =>
    have := Dpcs.cons i m [] (by simpa using k) (.nil _)
    simpa using this
  | cons i l' m' h' _ ih =>
    rw [List.append_assoc]
    refine .cons i l' (m' ++ m) h' (ih ?_)
    rw [List.length_append] at k
    have : i + ((l'.length + m'.length : Nat) : Int) = i + (l'.length : Int) + (m'.length : Int) := by omega
    rw [this] at k; exact k
def proL (f : Int) : List Ins := [(22, 2, 2, 0, 0 - f), (21, 0, 2, 1, f - 8)]
def epiL (f : Int) : List Ins := [(14, 1, 2, 0, f - 8), (22, 2, 2, 0, f), (4, 0, 1, 0, 0)]
theorem FrmP.range {f : Int} (h : FrmP f) : 16 ≤ f ∧ f ≤ 128 ∧ f % 16 = 0 := by rcases h with rfl | rfl | rfl | rfl | rfl <;> decide
theorem pro_val {f : Int} (h : FrmP f) : spec_l06Prologue f = some (proL f) := by
  have := h.range
  rw [spec_l06Prologue_eq, w64 (n := 0 - f) (by omega) (by omega), w64 (n := f - 8) (by omega) (by omega)]; rfl
theorem epi_val {f : Int} (h : FrmP f) : spec_l06Epilogue f = some (epiL f) := (epi_eq f ⟨h.range.1, h.range.2.1⟩).2
theorem function_ok {K : Nat} {s : Src} (n : Nat) (h : SrcOK (K + 24 * n) s) (a f : Int) (calls datas : List Int) (hf : FrmP f) (ha : 0 ≤ a ∧ a ≤ 1048575) (hc : ∀ c ∈ calls, CalP c) (hd : ∀ d ∈ datas, DatP d) (hcl : calls.length ≤ 256) (hdl : datas.length ≤ 256) (hn : n ≤ 1000) :
    ∃ (b : List Ins) (t : Src), spec_l00Src_function s a f (n : Int) calls datas = some (proL f ++ b ++ epiL f, t) ∧ Dpcs f (fun i m => ∃ c ∈ calls, m = c - a - 4 * i) (· ∈ datas) 2 b ∧ b.length ≤ 51 ∧ (1 ≤ n → 1 ≤ b.length) ∧ SrcOK K t := by
  rw [spec_l00Src_function_eq, pro_val hf]
  simp only [Option.bind_some]
  have key : ∀ (k j : Nat) (s : Src) (b : List Ins), j + k = n → SrcOK (K + 24 * k) s → b.length ≤ 51 → (1 ≤ j → 1 ≤ b.length) → Dpcs f (fun i m => ∃ c ∈ calls, m = c - a - 4 * i) (· ∈ datas) 2 b →
      ∃ (d : List Ins) (t : Src), spec_l00Src_function.l11010 s a f (n : Int) calls datas (proL f ++ b) (j : Int) = some (proL f ++ d ++ epiL f, t) ∧ Dpcs f (fun i m => ∃ c ∈ calls, m = c - a - 4 * i) (· ∈ datas) 2 d ∧ d.length ≤ 51 ∧ (1 ≤ n → 1 ≤ d.length) ∧ SrcOK K t := by
    intro k
    induction k with
    | zero =>
      intro j s b hj hs hb hb1 hp
      have hjn : j = n := by omega
      subst hjn
      rw [spec_l00Src_function.l11010_eq, joinB, lt_nat, decide_eq_false (Nat.lt_irrefl _)]
      simp only [cond_false]
      rw [epi_val hf]
      simp only [Option.bind_some]
      rw [room_le (by simp [proL, epiL]; omega) (by simp [proL, epiL]; omega), cond_true]
      exact ⟨b, s, rfl, hp, hb, hb1, hs.mono (by omega)⟩
    | succ k ih =>
      intro j s b hj hs hb hb1 hp
      rw [spec_l00Src_function.l11010_eq, joinB, lt_nat, decide_eq_true (show j < n by omega)]
      simp only [cond_true]
      by_cases hlen : ((proL f ++ b).length : Int) < 50
      · have hl2 : (proL f ++ b).length = b.length + 2 := by simp [proL]
        obtain ⟨l, s', e, hl, hs'⟩ := body_ok (hs.mono (show K + 24 * k + 24 ≤ K + 24 * (k + 1) by omega)) (((proL f ++ b).length : Nat) : Int) a f calls datas hf (by omega) ha hc hd hcl hdl
        have hll := hl.len
        rw [decide_eq_true hlen, e]
        simp only [cond_true, Option.bind_some]
        rw [room_le (by omega) (by omega), cond_true, w64_succ j n (by omega) (by omega), List.append_assoc]
        refine ih (j + 1) s' (b ++ l) (by omega) hs' (by rw [List.length_append]; omega) (fun _ => by rw [List.length_append]; omega) (hp.snoc ?_)
        have e2 : (((proL f ++ b).length : Nat) : Int) = 2 + (b.length : Int) := by omega
        rw [e2] at hl
        exact hl
      · rw [decide_eq_false hlen]
        simp only [cond_false]
        rw [epi_val hf]
        simp only [Option.bind_some]
        have hl2 : (proL f ++ b).length = b.length + 2 := by simp [proL]
        rw [room_le (by simp [proL, epiL]; omega) (by simp [proL, epiL]; omega), cond_true]
        exact ⟨b, s, rfl, hp, hb, fun _ => by omega, hs.mono (by omega)⟩
  have := key n 0 s [] (by omega) h (by simp) (by omega) (.nil _)
  rw [List.append_nil] at this
  exact this
/-- An instruction of a drawn function's body; i: its number; lo, hi: where its jumps may go. -/
def InsF (f : Int) (C : Int → Int → Prop) (lo hi i : Int) (x : Ins) : Prop :=
  (∃ m, x = (3, 1, 0, 0, m) ∧ C i m) ∨
  (rightV x = true ∧ x.1 ≠ 3 ∧ x.1 ≠ 4 ∧ x.2.1 ≠ 1 ∧ x.2.1 ≠ 2 ∧ (5 ≤ x.1 → x.1 ≤ 10 → x.2.2.2.2 % 4 = 0 ∧ lo ≤ i + x.2.2.2.2 / 4 ∧ i + x.2.2.2.2 / 4 ≤ hi) ∧ (11 ≤ x.1 → x.1 ≤ 21 → x.2.2.1 = 2 → 0 ≤ x.2.2.2.2 ∧ x.2.2.2.2 ≤ f - 8 - (widV x.1).1 ∧ x.2.2.2.2 % (widV x.1).1 = 0))
theorem InsF.mono {f : Int} {C : Int → Int → Prop} {lo hi lo' hi' i : Int} {x : Ins} (h : InsF f C lo hi i x) (h1 : lo' ≤ lo) (h2 : hi ≤ hi') : InsF f C lo' hi' i x := by
  rcases h with h | ⟨a, b, c, d, e, g, k⟩
  · exact .inl h
  · exact .inr ⟨a, b, c, d, e, fun p q => by obtain ⟨u, v, w⟩ := g p q; exact ⟨u, by omega, by omega⟩, k⟩
theorem RegP.range {a : Int} (h : RegP a) : 0 ≤ a ∧ a ≤ 31 ∧ a ≠ 1 ∧ a ≠ 2 := by rcases h with rfl | rfl | rfl | rfl | rfl | rfl | rfl <;> decide
theorem form8 {n : Int} (h : (31 ≤ n ∧ n ≤ 40) ∨ (50 ≤ n ∧ n ≤ 62)) : (shp n).1 = 8 := by
  obtain ⟨k, rfl⟩ := fin65 (n := n) (by omega) (by omega)
  revert k
  decide
theorem form4 {n : Int} (h : 5 ≤ n ∧ n ≤ 10) : (shp n).1 = 4 := by
  obtain ⟨k, rfl⟩ := fin65 (n := n) (by omega) (by omega)
  revert k
  decide
theorem right_of {n d a b i : Int} (f : Int) (hf : (shp n).1 = f) (hn : 1 ≤ n ∧ n ≤ 64) (hd : 0 ≤ d ∧ d ≤ 31) (ha : 0 ≤ a ∧ a ≤ 31) (hb : 0 ≤ b ∧ b ≤ 31) (g1 : (fieldsV f).1 = true ∨ d = 0) (g2 : (fieldsV f).2.1 = true ∨ a = 0) (g3 : (fieldsV f).2.2 = true ∨ b = 0) (hi : immR f i = true) : rightV (n, d, a, b, i) = true := by
  simp only [rightV, Bool.and_eq_true, Bool.or_eq_true, decide_eq_true_eq, hf]
  exact ⟨⟨⟨⟨⟨⟨⟨⟨⟨⟨⟨hn.1, hn.2⟩, hd.1⟩, hd.2⟩, ha.1⟩, ha.2⟩, hb.1⟩, hb.2⟩, g1⟩, g2⟩, g3⟩, hi⟩
theorem imm3 {i : Int} (h : -2048 ≤ i ∧ i ≤ 2047) : immR 3 i = true := by simp [immR]; omega
theorem imm5 {i : Int} (h : -2048 ≤ i ∧ i ≤ 2047) : immR 5 i = true := by simp [immR]; omega
theorem imm4 {i : Int} (h : -4096 ≤ i ∧ i ≤ 4094 ∧ i % 2 = 0) : immR 4 i = true := by simp [immR]; omega
theorem imm1 {i : Int} (h : -2147483648 ≤ i ∧ i ≤ 2147479552 ∧ i % 4096 = 0) : immR 1 i = true := by simp [immR]; omega
theorem r22 {a b i : Int} (ha : 0 ≤ a ∧ a ≤ 31) (hb : 0 ≤ b ∧ b ≤ 31) (h : -2048 ≤ i ∧ i ≤ 2047) : rightV (22, a, b, 0, i) = true := right_of 3 rfl (by decide) ha hb (by decide) (.inl rfl) (.inl rfl) (.inr rfl) (imm3 h)
theorem r14 {a b i : Int} (ha : 0 ≤ a ∧ a ≤ 31) (hb : 0 ≤ b ∧ b ≤ 31) (h : -2048 ≤ i ∧ i ≤ 2047) : rightV (14, a, b, 0, i) = true := right_of 3 rfl (by decide) ha hb (by decide) (.inl rfl) (.inl rfl) (.inr rfl) (imm3 h)
theorem r21 {a b i : Int} (ha : 0 ≤ a ∧ a ≤ 31) (hb : 0 ≤ b ∧ b ≤ 31) (h : -2048 ≤ i ∧ i ≤ 2047) : rightV (21, 0, a, b, i) = true := right_of 5 rfl (by decide) (by decide) ha hb (.inr rfl) (.inl rfl) (.inl rfl) (imm5 h)
theorem r1 {a i : Int} (ha : 0 ≤ a ∧ a ≤ 31) (h : -2147483648 ≤ i ∧ i ≤ 2147479552 ∧ i % 4096 = 0) : rightV (1, a, 0, 0, i) = true := right_of 1 rfl (by decide) ha (by decide) (by decide) (.inl rfl) (.inr rfl) (.inr rfl) (imm1 h)
theorem r8 {n a b c : Int} (h : (31 ≤ n ∧ n ≤ 40) ∨ (50 ≤ n ∧ n ≤ 62)) (ha : 0 ≤ a ∧ a ≤ 31) (hb : 0 ≤ b ∧ b ≤ 31) (hc : 0 ≤ c ∧ c ≤ 31) : rightV (n, a, b, c, 0) = true := right_of 8 (form8 h) (by omega) ha hb hc (.inl rfl) (.inl rfl) (.inl rfl) rfl
theorem rbr {n a b i : Int} (h : 5 ≤ n ∧ n ≤ 10) (ha : 0 ≤ a ∧ a ≤ 31) (hb : 0 ≤ b ∧ b ≤ 31) (hi : -4096 ≤ i ∧ i ≤ 4094 ∧ i % 2 = 0) : rightV (n, 0, a, b, i) = true := right_of 4 (form4 h) (by omega) (by decide) ha hb (.inr rfl) (.inl rfl) (.inl rfl) (imm4 hi)
theorem r63 : rightV (63, 0, 0, 0, 0) = true := by decide +kernel
theorem InsF.plain {f : Int} {C : Int → Int → Prop} {lo hi i n a b c m : Int} (hr : rightV (n, a, b, c, m) = true) (hn : n = 1 ∨ 22 ≤ n) (ha : a ≠ 1 ∧ a ≠ 2) : InsF f C lo hi i (n, a, b, c, m) := by
  refine .inr ⟨hr, ?_, ?_, ha.1, ha.2, fun h h' => ?_, fun h h' => ?_⟩ <;> simp only at * <;> omega
theorem InsF.mem {f : Int} {C : Int → Int → Prop} {lo hi i n a b c m : Int} (hr : rightV (n, a, b, c, m) = true) (hn : 11 ≤ n ∧ n ≤ 21) (ha : a ≠ 1 ∧ a ≠ 2) (hb : b = 2 → 0 ≤ m ∧ m ≤ f - 8 - (widV n).1 ∧ m % (widV n).1 = 0) : InsF f C lo hi i (n, a, b, c, m) := by
  refine .inr ⟨hr, ?_, ?_, ha.1, ha.2, fun h h' => ?_, fun h h' h2 => hb h2⟩ <;> simp only at * <;> omega
theorem InsF.br {f : Int} {C : Int → Int → Prop} {lo hi i n b c m : Int} (hr : rightV (n, 0, b, c, m) = true) (hn : 5 ≤ n ∧ n ≤ 10) (hm : m % 4 = 0 ∧ lo ≤ i + m / 4 ∧ i + m / 4 ≤ hi) : InsF f C lo hi i (n, 0, b, c, m) := by
  refine .inr ⟨hr, ?_, ?_, by simp, by simp, fun h h' => hm, fun h h' => ?_⟩ <;> simp only at * <;> omega
theorem Dpc.ins {f : Int} {C : Int → Int → Prop} {D : Int → Prop} (hD : ∀ d, D d → DatP d) (hf : FrmP f) {i : Int} {l : List Ins} (h : Dpc f (C i) D l) : ∀ (j : Nat) (x : Ins), l[j]? = some x → InsF f C i (i + l.length) (i + j) x := by
  have hfr := hf.range
  cases h with
  | alu n a b c hn ha hb hc =>
    have := ha.range; have := hb.range; have := hc.range
    intro j x e
    match j, e with
    | 0, e => cases e; exact .plain (r8 hn (by omega) (by omega) (by omega)) (by omega) (by omega)
  | imm a b m ha hb hi =>
    have := ha.range; have := hb.range
    intro j x e
    match j, e with
    | 0, e => cases e; exact .plain (r22 (by omega) (by omega) (by omega)) (by omega) (by omega)
  | data a d ha hd =>
    have := ha.range
    obtain ⟨d0, d1, d2, d3⟩ := hD d hd
    intro j x e
    match j, e with
    | 0, e => cases e; exact .plain (r1 (by omega) (by omega)) (by omega) (by omega)
    | 1, e => cases e; exact .mem (r14 (by omega) (by omega) (by omega)) (by omega) (by omega) (by omega)
    | 2, e => cases e; exact .plain (r22 (by omega) (by omega) (by omega)) (by omega) (by omega)
    | 3, e => cases e; exact .mem (r21 (by omega) (by omega) (by omega)) (by omega) (by omega) (by omega)
  | stack a b c m k ha hb hc hi hk =>
    have := ha.range; have := hb.range; have := hc.range
    intro j x e
    match j, e with
    | 0, e => cases e; exact .mem (r21 (by omega) (by omega) (by omega)) (by omega) (by omega) (fun _ => by simp [widV]; omega)
    | 1, e => cases e; exact .plain (r22 (by omega) (by omega) (by omega)) (by omega) (by omega)
    | 2, e => cases e; exact .mem (r14 (by omega) (by omega) (by omega)) (by omega) (by omega) (fun _ => by simp [widV]; omega)
  | call m hm =>
    intro j x e
    match j, e with
    | 0, e => cases e; exact .inl ⟨m, rfl, by simpa using hm⟩
  | out =>
    intro j x e
    match j, e with
    | 0, e => cases e; exact .plain (r22 (by omega) (by omega) (by omega)) (by omega) (by omega)
    | 1, e => cases e; exact .plain r63 (by omega) (by omega)
  | skip n a b m hn ha hb hi =>
    have := ha.range; have := hb.range
    intro j x e
    match j, e with
    | 0, e => cases e; exact .br (rbr hn (by omega) (by omega) (by omega)) hn (by simp; omega)
    | 1, e => cases e; exact .plain (r22 (by omega) (by omega) (by omega)) (by omega) (by omega)
  | turn k a b m hk ha hb hi =>
    have := ha.range; have := hb.range
    intro j x e
    match j, e with
    | 0, e => cases e; exact .plain (r22 (by omega) (by omega) (by omega)) (by omega) (by omega)
    | 1, e => cases e; exact .plain (r22 (by omega) (by omega) (by omega)) (by omega) (by omega)
    | 2, e => cases e; exact .plain (r22 (by omega) (by omega) (by omega)) (by omega) (by omega)
    | 3, e => cases e; exact .br (rbr (by omega) (by omega) (by omega) (by omega)) (by omega) (by simp; omega)
  | sys v x y hv hx hy =>
    intro j x e
    match j, e with
    | 0, e => cases e; exact .plain (r22 (by omega) (by omega) (by omega)) (by omega) (by omega)
    | 1, e => cases e; exact .plain (r22 (by omega) (by omega) (by omega)) (by omega) (by omega)
    | 2, e => cases e; exact .plain (r22 (by omega) (by omega) (by omega)) (by omega) (by omega)
    | 3, e => cases e; exact .plain r63 (by omega) (by omega)
theorem Dpcs.ins {f : Int} {C : Int → Int → Prop} {D : Int → Prop} (hD : ∀ d, D d → DatP d) (hf : FrmP f) {s : Int} {b : List Ins} (h : Dpcs f C D s b) : ∀ (j : Nat) (x : Ins), b[j]? = some x → InsF f C s (s + b.length) (s + j) x := by
  induction h with
  | nil i => intro j x e; cases e
  | cons i l m h k ih =>
    intro j x e
    rw [List.length_append]
    by_cases hj : j < l.length
    · rw [List.getElem?_append_left hj] at e
      exact (h.ins hD hf j x e).mono (Int.le_refl _) (by omega)
    · rw [List.getElem?_append_right (by omega)] at e
      have := ih (j - l.length) x e
      have e1 : i + (l.length : Int) + ((j - l.length : Nat) : Int) = i + (j : Int) := by omega
      rw [e1] at this
      exact this.mono (by omega) (by omega)
def funL (f : Int) (b : List Ins) : List Ins := proL f ++ b ++ epiL f
theorem funL_length (f : Int) (b : List Ins) : (funL f b).length = b.length + 5 := by simp [funL, proL, epiL]
theorem funL_cases (f : Int) (b : List Ins) (i : Nat) (x : Ins) (h : (funL f b)[i]? = some x) :
    (i = 0 ∧ x = (22, 2, 2, 0, 0 - f)) ∨ (i = 1 ∧ x = (21, 0, 2, 1, f - 8)) ∨ (∃ j, i = j + 2 ∧ j < b.length ∧ b[j]? = some x) ∨ (i = b.length + 2 ∧ x = (14, 1, 2, 0, f - 8)) ∨ (i = b.length + 3 ∧ x = (22, 2, 2, 0, f)) ∨ (i = b.length + 4 ∧ x = (4, 0, 1, 0, 0)) := by
  unfold funL proL epiL at h
  match i with
  | 0 => exact .inl ⟨rfl, by cases h; rfl⟩
  | 1 => exact .inr (.inl ⟨rfl, by cases h; rfl⟩)
  | j + 2 =>
    right; right
    simp only [List.cons_append, List.nil_append, List.getElem?_cons_succ] at h
    by_cases hj : j < b.length
    · rw [List.getElem?_append_left hj] at h
      exact .inl ⟨j, rfl, hj, h⟩
    · rw [List.getElem?_append_right (by omega)] at h
      right
      obtain ⟨k, rfl⟩ : ∃ k, j = b.length + k := ⟨j - b.length, by omega⟩
      rw [Nat.add_sub_cancel_left] at h
      match k with
      | 0 => simp at h; exact .inl ⟨by omega, h.symm⟩
      | 1 => simp at h; exact .inr (.inl ⟨by omega, h.symm⟩)
      | 2 => simp at h; exact .inr (.inr ⟨by omega, h.symm⟩)
      | k + 3 => simp at h
theorem funL_right {f : Int} {C : Int → Int → Prop} {D : Int → Prop} (hD : ∀ d, D d → DatP d) (hC : ∀ i m, C i m → rightV (3, 1, 0, 0, m) = true) (hf : FrmP f) {b : List Ins} (h : Dpcs f C D 2 b) : ∀ x ∈ funL f b, rightV x = true := by
  have hfr := hf.range
  intro x hx
  obtain ⟨i, hi⟩ := List.getElem?_of_mem hx
  rcases funL_cases f b i x hi with ⟨_, rfl⟩ | ⟨_, rfl⟩ | ⟨j, _, hj, hb⟩ | ⟨_, rfl⟩ | ⟨_, rfl⟩ | ⟨_, rfl⟩
  · exact r22 (by decide) (by decide) (by omega)
  · exact r21 (by decide) (by decide) (by omega)
  · rcases h.ins hD hf j x hb with ⟨m, rfl, hm⟩ | h
    · exact hC _ _ hm
    · exact h.1
  · exact r14 (by decide) (by decide) (by omega)
  · exact r22 (by decide) (by decide) (by omega)
  · decide +kernel
theorem Dpc.mono {f : Int} {C C' D D' : Int → Prop} {l : List Ins} (hC : ∀ m, C m → C' m) (hD : ∀ d, D d → D' d) (h : Dpc f C D l) : Dpc f C' D' l := by
  cases h with
  | alu n a b c hn ha hb hc => exact .alu n a b c hn ha hb hc
  | imm a b i ha hb hi => exact .imm a b i ha hb hi
  | data a d ha hd => exact .data a d ha (hD d hd)
  | stack a b c i k ha hb hc hi hk => exact .stack a b c i k ha hb hc hi hk
  | call i hi => exact .call i (hC i hi)
  | out => exact .out
  | skip n a b i hn ha hb hi => exact .skip n a b i hn ha hb hi
  | turn k a b i hk ha hb hi => exact .turn k a b i hk ha hb hi
  | sys v x y hv hx hy => exact .sys v x y hv hx hy
theorem Dpcs.mono {f : Int} {C C' : Int → Int → Prop} {D D' : Int → Prop} (hC : ∀ i m, C i m → C' i m) (hD : ∀ d, D d → D' d) {i : Int} {l : List Ins} (h : Dpcs f C D i l) : Dpcs f C' D' i l := by
  induction h with
  | nil i => exact .nil i
  | cons i l m h _ ih => exact .cons i l m (h.mono (hC i) hD) ih
/-- Bytes. -/
def BytP (a : List Int) : Prop := ∀ x ∈ a, 0 ≤ x ∧ x ≤ 255
theorem frameDrawn_ok (a : List Int) (hb : BytP a) (hn : a.length ≤ 1048576) : ∃ f, spec_FrameDrawn a = some f ∧ FrmP f := by
  obtain ⟨s, e, hs⟩ := source_ok a hb hn
  obtain ⟨f, t, e2, hf, _⟩ := frm_ok (K := 0) (hs.mono (by decide))
  rw [spec_FrameDrawn_eq, e]
  simp only [Option.bind_some, optC]
  rw [e2]
  exact ⟨f, rfl, hf⟩
theorem take_drop_mid {α : Type} (p b e : List α) : ((p ++ b ++ e).take (p.length + b.length)).drop p.length = b := by
  rw [← List.length_append, List.take_left, List.drop_left]
theorem bodyDrawn_ok (a : List Int) (hb : BytP a) (hn : a.length ≤ 1048576) {f : Int} (hf : FrmP f) : ∃ b, spec_BodyDrawn a f = some b ∧ Dpcs f (fun _ _ => False) (fun _ => False) 2 b ∧ b.length ≤ 51 ∧ 1 ≤ b.length := by
  obtain ⟨s, e, hs⟩ := source_ok a hb hn
  rw [spec_BodyDrawn_eq, e]
  simp only [Option.bind_some, optC]
  obtain ⟨v, t, e2, v0, v1, _, ht⟩ := next_ok (K := 200) (hs.mono (by decide)) 5
  have v1 := v1 (by decide)
  rw [e2]
  simp only [Option.bind_some]
  rw [w64 (n := 1 + v) (by omega) (by omega)]
  obtain ⟨k, hk⟩ : ∃ k : Nat, 1 + v = k := ⟨(1 + v).toNat, by omega⟩
  obtain ⟨b, t', e3, hp, hl, h1, _⟩ := function_ok (K := 0) k (ht.mono (by omega)) 8192 f [] [] hf (by decide) (by simp) (by simp) (by simp) (by simp) (by omega)
  rw [hk, e3]
  simp only [Option.bind_some]
  have hlen : (proL f ++ b ++ epiL f).length = b.length + 5 := funL_length f b
  rw [w64 (n := ((proL f ++ b ++ epiL f).length : Int) - 3) (by omega) (by omega)]
  have e4 : (((proL f ++ b ++ epiL f).length : Int) - 3).toNat = (proL f).length + b.length := by rw [hlen]; simp [proL]; omega
  rw [show (decide ((0 : Nat) ≤ 2) && decide (2 ≤ ((proL f ++ b ++ epiL f).length : Int) - 3) && decide (((proL f ++ b ++ epiL f).length : Int) - 3 ≤ ((proL f ++ b ++ epiL f).length : Int))) = true by simp only [Bool.and_eq_true, decide_eq_true_eq]; omega, e4]
  simp only [cond_true]
  have e5 : ((proL f ++ b ++ epiL f).take ((proL f).length + b.length)).drop (Int.toNat 2) = b := take_drop_mid (proL f) b (epiL f)
  rw [e5, room_le (by omega) (by omega), cond_true]
  refine ⟨b, rfl, ?_, hl, h1 (by omega)⟩
  exact hp.mono (fun _ _ h => by obtain ⟨c, hc, _⟩ := h; cases hc) (fun _ h => by cases h)
theorem impl_pro {f : Int} (h : FrmP f) : impl_Prologue f = some (proL f, 0) := by
  have := h.range
  rw [impl_Prologue_eq, frame_i, h.ok, impl_prologue_eq, w64 (n := 0 - f) (by omega) (by omega), w64 (n := f - 8) (by omega) (by omega)]; rfl
theorem impl_epi {f : Int} (h : FrmP f) : impl_Epilogue f = some (epiL f, 0) := by
  rw [impl_Epilogue_eq, frame_i, h.ok, (epi_eq f ⟨h.range.1, h.range.2.1⟩).1]; rfl
theorem allB_congr {p q : Nat → Bool} : ∀ k i, (∀ j, i ≤ j → j < i + k → p j = q j) → allB p i k = allB q i k
  | 0, _, _ => rfl
  | k + 1, i, h => by rw [allB, allB, h i (Nat.le_refl _) (by omega), allB_congr k (i + 1) fun j h1 h2 => h j (by omega) (by omega)]
def lOK (L : List (Int × Int)) : Bool := decide (L.length ≤ 64) && allB (fun i => bif baseV (rd (τ := TI2) L (i : Int)).1 then bif inR (rd (τ := TI2) L (i : Int)).2 0 15 then (decide (i = 0) || decide ((rd (τ := TI2) L ((i - 1 : Nat) : Int)).1 < (rd (τ := TI2) L (i : Int)).1)) else false else false) 0 L.length
theorem memV_memF (F : Int → Int) (L : List (Int × Int)) : memV (memF F L) = lOK L := by
  have hml : (memF F L).length = L.length := by simp [memF]
  unfold memV lOK
  rw [hml]
  congr 1
  apply allB_congr
  intro j _ hj
  have hj : j < L.length := by omega
  unfold memP
  rw [rd_mem F L j hj, rd_mem F L (j - 1) (by omega)]
  simp only [show ∀ q : Int × Int, (pageF F q).1 = q.1 from fun _ => rfl, show ∀ q : Int × Int, (pageF F q).2.1 = q.2 from fun _ => rfl, show ∀ q : Int × Int, (pageF F q).2.2 = pg F q.1 from fun _ => rfl, pg_size]
  rw [show decide (((128 : Nat) : Int) = 128) = true from rfl, cond_true]
theorem impl_own {m : List Page} (h : m.length ≤ 64) : impl_Memory_own m = some m := by
  rw [impl_Memory_own_eq, clone_page m h]; rfl
theorem impl_moved {F : Int → Int} (L : List (Int × Int)) (hL : BasesR L) (a : Int) (n : Nat) (hn : n ≤ 8192) (h1 : -1000000000 ≤ a) (h2 : a ≤ 1000000000) (hx : ∀ x, a ≤ x → x < a + (n : Int) → 0 ≤ pageAt L x) : impl_Memory_isMoved (memF F L) a (n : Int) = some true := by
  rw [impl_Memory_isMoved_eq]
  have key : ∀ (k i : Nat), i + k = n → impl_Memory_isMoved.l1010 a (n : Int) (memF F L) (i : Int) = some true := by
    intro k
    induction k with
    | zero =>
      intro i hi
      have : i = n := by omega
      subst this
      rw [impl_Memory_isMoved.l1010_eq, lt_nat, decide_eq_false (Nat.lt_irrefl _), cond_false]
    | succ k ih =>
      intro i hi
      rw [impl_Memory_isMoved.l1010_eq, lt_nat, decide_eq_true (show i < n by omega), w64 (n := a + (i : Int)) (by omega) (by omega), impl_page F L hL _ ⟨by omega, by omega⟩]
      have := hx (a + (i : Int)) (by omega) (by omega)
      simp only [cond_true, Option.bind_some]
      rw [decide_eq_false (show ¬ pageAt L (a + (i : Int)) < 0 by omega), w64_succ i n (by omega) (by omega)]
      simp only [cond_false]
      exact ih (i + 1) (by omega)
  exact key n 0 (by omega)
theorem put_bytes {F : Int → Int} (hF : FR F) (L : List (Int × Int)) (hL : BasesR L) (ho : lOK L = true) (a : Int) (t : ByteArray) (hn : t.size ≤ 8192) (h1 : -1000000000 ≤ a) (h2 : a ≤ 1000000000) (hx : ∀ x, a ≤ x → x < a + (t.size : Int) → 0 ≤ pageAt L x) : impl_PutBytes (memF F L) a t = some (memF (updF F a t) L, 0) := by
  rw [impl_PutBytes_eq, impl_isLong_eq, memory_i, memV_memF, ho, impl_moved L hL a t.size hn h1 h2 hx, impl_put hF a t ⟨by omega, by omega, by omega⟩ L hL, decide_eq_false (show ¬ ((t.size : Int) > 65536) by omega), decide_eq_false (show ¬ ((t.size : Int) > 8192) by omega)]
  rfl
theorem get_bytes {F : Int → Int} (hF : FR F) (L : List (Int × Int)) (hL : BasesR L) (ho : lOK L = true) (a : Int) (n : Nat) (hn : n ≤ 1024) (h1 : -1000000000 ≤ a) (h2 : a ≤ 1000000000) (hx : ∀ x, a ≤ x → x < a + (n : Int) → 0 ≤ pageAt L x) : impl_GetBytes (memF F L) a (n : Int) = some (getV F a n, 0) := by
  rw [impl_GetBytes_eq, memory_i, memV_memF, ho, within_val, impl_moved L hL a n (by omega) h1 h2 hx, impl_bytes hF L hL a n hn h1 h2 hx, decide_eq_true (show (0 : Int) ≤ (n : Int) by omega), decide_eq_true (show (n : Int) ≤ 8192 by omega)]
  rfl
theorem page_put {F : Int → Int} (hF : FR F) (a : Int) (t : ByteArray) (b : Int) (j : Nat) (hj : a = b + (j : Int)) (h2 : j + t.size ≤ 128) : (pg F b).extract 0 j ++ t ++ (pg F b).extract (j + t.size) 128 = pg (updF F a t) b := by
  have hz1 : ((pg F b).extract 0 j).size = j := by rw [ByteArray.size_extract, pg_size]; omega
  have hz2 : ((pg F b).extract (j + t.size) 128).size = 128 - (j + t.size) := by rw [ByteArray.size_extract, pg_size]; omega
  apply bt_ext
  · rw [ByteArray.size_append, ByteArray.size_append, hz1, hz2, pg_size]; omega
  · intro i hi
    rw [ByteArray.size_append, ByteArray.size_append, hz1, hz2] at hi
    rw [pg_bt (updF_range hF a t) _ _ (by omega) (by omega), bt_append, ByteArray.size_append, hz1, bt_append, hz1]
    unfold updF
    by_cases c1 : i < j
    · rw [if_pos (by omega), if_pos c1, if_neg (by omega), bt_extract _ _ _ _ (by omega) (by rw [pg_size]; omega), pg_bt hF _ _ (by omega) (by omega), Nat.zero_add]
    · by_cases c2 : i < j + t.size
      · rw [if_pos c2, if_neg c1, if_pos (by omega), show b + (i : Int) - a = ((i - j : Nat) : Int) by omega]
      · rw [if_neg c2, if_neg (by omega), bt_extract _ _ _ _ (by omega) (by rw [pg_size]; omega), pg_bt hF _ _ (by omega) (by omega)]
        congr 1; omega
theorem set_page {F : Int → Int} (L : List (Int × Int)) (hN : NoOver L) (a : Int) (t : ByteArray) (k : Nat) (hkl : k < L.length) {q : Int × Int} (hq : rd (τ := TI2) L (k : Int) = q) (h1 : q.1 ≤ a) (h2 : a + (t.size : Int) ≤ q.1 + 128) : (memF F L).set k (pageF (updF F a t) q) = memF (updF F a t) L := by
  apply List.ext_getElem
  · simp [memF]
  · intro i g1 g2
    have hi : i < L.length := by simpa [memF] using g2
    rw [List.getElem_set]
    have e1 : (memF (updF F a t) L)[i] = pageF (updF F a t) L[i] := by simp [memF]
    have e2 : (memF F L)[i]'(by simp [memF]; exact hi) = pageF F L[i] := by simp [memF]
    rw [e1, e2]
    have hqk : L[k] = q := by rw [← hq, rd_nat (τ := TI2) L k hkl]
    by_cases c : k = i
    · subst c
      rw [if_pos rfl, hqk]
    · rw [if_neg c]
      unfold pageF
      congr 2
      have hpg : ∀ x : Nat, x < 128 → F ((L[i]).1 + (x : Int)) = updF F a t ((L[i]).1 + (x : Int)) := by
        intro x hx
        unfold updF
        rw [if_neg]
        intro hc
        refine c (hN k i ((L[i]).1 + (x : Int)) hkl hi ?_ ?_)
        · rw [hq]; unfold inPage
          rw [Bool.and_eq_true, decide_eq_true_eq, decide_eq_true_eq]; omega
        · rw [rd_nat (τ := TI2) L i hi]; unfold inPage
          rw [Bool.and_eq_true, decide_eq_true_eq, decide_eq_true_eq]; omega
      unfold pg
      rw [mapB_congr 128 0 fun x _ hx => hpg x (by omega)]
/-- An access that is allowed. -/
theorem access_ok {F : Int → Int} (L : List (Int × Int)) (hL : BasesR L) (a n p : Int) (st : Bool) (k : Nat) (hk : pageAt L a = (k : Int)) (hkl : k < L.length) {q : Int × Int} (hq : rd (τ := TI2) L (k : Int) = q) (ha : MidA a) (hn : 1 ≤ n) (h8 : a.tmod n = 0) (hp : decide (andI .i64 q.2 p = 0) = false) (hst : (!decide (andI .i64 q.2 8 = 0) && !st && !decide (p = 4)) = false) : impl_Memory_access (memF F L) a n p st = some ((k : Int), 0) := by
  have hml : (memF F L).length = L.length := by simp [memF]
  rw [impl_Memory_access_eq, decide_eq_false (show ¬ n = 0 by omega), decide_eq_true h8, impl_page F L hL a ha, hk]
  simp only [cond_false, Bool.not_true, Option.bind_some]
  rw [decide_eq_false (show ¬ (k : Int) < 0 by omega), inL_nat, hml, decide_eq_true hkl, rd_mem F L k hkl, hq]
  simp only [cond_false, cond_true, show (pageF F q).2.1 = q.2 from rfl]
  rw [hp]
  simp only [cond_false]
  revert hst
  cases (!decide (andI .i64 q.2 8 = 0)) <;> cases st <;> cases decide (p = 4) <;> simp
theorem load_ok {F : Int → Int} (L : List (Int × Int)) (hL : BasesR L) (a p : Int) (n : Nat) (st : Bool) (k : Nat) (hk : pageAt L a = (k : Int)) (hkl : k < L.length) {q : Int × Int} (hq : rd (τ := TI2) L (k : Int) = q) (ha : MidA a) (hn : 1 ≤ n ∧ n ≤ 128) (h8 : a.tmod n = 0) (h1 : q.1 ≤ a) (h2 : a + (n : Int) ≤ q.1 + 128)
    (hp : decide (andI .i64 q.2 p = 0) = false) (hst : (!decide (andI .i64 q.2 8 = 0) && !st && !decide (p = 4)) = false) :
    impl_Memory_load (memF F L) a n p st = (impl_takeLittle ((pg F q.1).extract (a - q.1).toNat ((a - q.1).toNat + n))).bind fun v => some (v, 0) := by
  have hml : (memF F L).length = L.length := by simp [memF]
  have hb := base_rd hL k hkl hq
  obtain ⟨a1, a2⟩ := ha
  rw [impl_Memory_load_eq, access_ok L hL a n p st k hk hkl hq ⟨a1, a2⟩ (by omega) h8 hp hst]
  simp only [Option.bind_some]
  rw [inL_nat, hml, decide_eq_true hkl, rd_mem F L k hkl, hq]
  simp only [cond_true, show (pageF F q).1 = q.1 from rfl, show (pageF F q).2.2 = pg F q.1 from rfl]
  rw [w64 (n := a - q.1) (by omega) (by omega), w64 (n := a - q.1 + (n : Int)) (by omega) (by omega), pg_size, show (decide (0 ≤ a - q.1) && decide (a - q.1 ≤ a - q.1 + (n : Int)) && decide (a - q.1 + (n : Int) ≤ ((128 : Nat) : Int))) = true by simp; omega, cond_true, show (a - q.1 + (n : Int)).toNat = (a - q.1).toNat + n by omega]
  rfl
theorem store_ok {F : Int → Int} (hF : FR F) (L : List (Int × Int)) (hL : BasesR L) (hN : NoOver L) (a : Int) (n : Nat) (v : Int) (st : Bool) (k : Nat) (hk : pageAt L a = (k : Int)) (hkl : k < L.length) {q : Int × Int} (hq : rd (τ := TI2) L (k : Int) = q) (ha : MidA a) (hn : 1 ≤ n ∧ n ≤ 8) (h8 : a.tmod n = 0) (h1 : q.1 ≤ a) (h2 : a + (n : Int) ≤ q.1 + 128)
    (hp : decide (andI .i64 q.2 2 = 0) = false) (hst : (!decide (andI .i64 q.2 8 = 0) && !st) = false) :
    impl_Memory_store (memF F L) a n v st = some (memF (updF F a (bytesOf (leB v n))) L, 0) := by
  have hml : (memF F L).length = L.length := by simp [memF]
  have hb := base_rd hL k hkl hq
  have hlen := hL.len
  have ha' := ha
  obtain ⟨a1, a2⟩ := ha
  rw [impl_Memory_store_eq, access_ok L hL a n 2 st k hk hkl hq ha' (by omega) h8 hp (by rw [hst]; rfl), impl_own (by omega)]
  simp only [Option.bind_some]
  rw [inL_nat, hml, decide_eq_true hkl, rd_mem F L k hkl, hq]
  simp only [cond_true, show (pageF F q).1 = q.1 from rfl, show (pageF F q).2.1 = q.2 from rfl, show (pageF F q).2.2 = pg F q.1 from rfl]
  obtain ⟨j, hj⟩ : ∃ j : Nat, a - q.1 = (j : Int) := ⟨(a - q.1).toNat, by omega⟩
  have hts : (bytesOf (leB v n)).size = n := by rw [bytesOf_size, leB_length]
  rw [w64 (n := a - q.1) (by omega) (by omega), hj, pg_size, w64 (n := (j : Int) + (n : Int)) (by omega) (by omega), put_little v n (by omega)]
  simp only [Option.bind_some]
  rw [show (decide ((0 : Nat) ≤ 0) && decide (0 ≤ (j : Int)) && decide ((j : Int) ≤ ((128 : Nat) : Int))) = true by simp; omega, show (decide (0 ≤ (j : Int) + (n : Int)) && decide ((j : Int) + (n : Int) ≤ ((128 : Nat) : Int)) && decide (((128 : Nat) : Int) ≤ ((128 : Nat) : Int))) = true by simp; omega]
  rw [show (Int.toNat 0) = 0 from rfl, Int.toNat_natCast, show ((j : Int) + (n : Int)).toNat = j + n by omega, Int.toNat_natCast, Int.toNat_natCast]
  have hz1 : ((pg F q.1).extract 0 j).size = j := by rw [ByteArray.size_extract, pg_size]; omega
  have hz2 : ((pg F q.1).extract (j + n) 128).size = 128 - (j + n) := by rw [ByteArray.size_extract, pg_size]; omega
  rw [decide_eq_true (show ((pg F q.1).extract 0 j).size + (bytesOf (leB v n)).size ≤ 9223372036854775807 by rw [hz1, hts]; omega), decide_eq_true (show ((pg F q.1).extract 0 j ++ bytesOf (leB v n)).size + ((pg F q.1).extract (j + n) 128).size ≤ 9223372036854775807 by rw [ByteArray.size_append, hz1, hz2, hts]; omega)]
  simp only [cond_true, letB]
  have hp := page_put hF a (bytesOf (leB v n)) q.1 j (by omega) (by rw [hts]; omega)
  rw [hts] at hp
  rw [hp]
  have hs := set_page (F := F) L hN a (bytesOf (leB v n)) k hkl hq h1 (by rw [hts]; exact h2)
  exact congrArg some (congrArg (·, (0 : Int)) hs)
/-- The bytes from a place on are those of a list. -/
def At (F : Int → Int) (a : Int) (l : List Int) : Prop := ∀ (j : Nat) (x : Int), l[j]? = some x → F (a + (j : Int)) = x
theorem At.extract {F : Int → Int} (hF : FR F) {b a : Int} {l : List Int} (h : At F a l) (hl : ∀ x ∈ l, 0 ≤ x ∧ x ≤ 255) (h1 : b ≤ a) (h2 : a + (l.length : Int) ≤ b + 128) : (pg F b).extract (a - b).toNat ((a - b).toNat + l.length) = bytesOf l := by
  apply bt_ext
  · rw [ByteArray.size_extract, pg_size, bytesOf_size]; omega
  · intro i hi
    rw [ByteArray.size_extract, pg_size] at hi
    rw [bt_extract _ _ _ _ (by omega) (by rw [pg_size]; omega), pg_bt hF _ _ (by omega) (by omega)]
    have hil : i < l.length := by omega
    rw [bt_nat, bytesOf_getD l i hl hil]
    have := h i l[i] (by simp [hil])
    rw [← this]; congr 1; omega
theorem At.upd {F : Int → Int} {a b : Int} {l : List Int} (h : At F a l) (t : ByteArray) (hd : a + (l.length : Int) ≤ b ∨ b + (t.size : Int) ≤ a) : At (updF F b t) a l := by
  intro j x hj
  have hjl : j < l.length := by
    rcases Nat.lt_or_ge j l.length with h | h
    · exact h
    · rw [List.getElem?_eq_none h] at hj; cases hj
  unfold updF
  rw [if_neg (by omega)]
  exact h j x hj
theorem At.self {F : Int → Int} (a : Int) (l : List Int) (hl : ∀ x ∈ l, 0 ≤ x ∧ x ≤ 255) : At (updF F a (bytesOf l)) a l := by
  intro j x hj
  have hjl : j < l.length := by
    rcases Nat.lt_or_ge j l.length with h | h
    · exact h
    · rw [List.getElem?_eq_none h] at hj; cases hj
  unfold updF
  rw [bytesOf_size, if_pos (by omega), show a + (j : Int) - a = (j : Int) by omega, bt_nat, bytesOf_getD l j hl hjl]
  rw [List.getElem?_eq_getElem hjl] at hj
  exact Option.some.inj hj
theorem i64w (n : Int) : I64 (IntKind.wrap .i64 n) := i64_range n
theorem u64_nonneg (n : Int) : 0 ≤ IntKind.wrap .u64 n := by rw [wrap_u64]; omega
theorem andu_nonneg (a b : Int) : decide (andI .u64 a b < 0) = false := decide_eq_false (by have := u64_nonneg (((BitVec.ofInt IntKind.u64.bits a &&& BitVec.ofInt IntKind.u64.bits b).toNat : Nat) : Int); unfold andI; omega)
theorem andi_i64 (a b : Int) : I64 (andI .i64 a b) := i64w _
theorem ori_i64 (a b : Int) : I64 (orI .i64 a b) := i64w _
theorem shli_i64 (a b : Int) : I64 (shlI .i64 a b) := i64w _
theorem fdiv_pow_range {x : Int} (h : I64 x) (k : Nat) : I64 (x.fdiv (2 ^ k)) := by
  obtain ⟨h1, h2⟩ := h
  have hp : (0 : Int) < 2 ^ k := Int.pow_pos (by decide)
  rw [Int.fdiv_eq_ediv_of_nonneg _ (Int.le_of_lt hp)]
  constructor
  · rw [Int.le_ediv_iff_mul_le hp]
    have : (1 : Int) ≤ 2 ^ k := hp
    calc (-9223372036854775808 : Int) * 2 ^ k ≤ -9223372036854775808 * 1 := by
          apply Int.mul_le_mul_of_nonpos_left (by decide) this
      _ ≤ x := by omega
  · have : x / 2 ^ k ≤ 9223372036854775807 := by
      rcases Int.lt_or_le x 0 with hx | hx
      · have := Int.ediv_neg_of_neg_of_pos hx hp; omega
      · have := Int.ediv_le_self (b := 2 ^ k) hx; omega
    exact this
theorem shri_i64 {x : Int} (h : I64 x) (y : Int) : I64 (shrI .i64 x y) := fdiv_pow_range h _
theorem word_val (a : Int) : ∃ v, impl_WordOf a = some v ∧ I64 v := ⟨_, impl_WordOf_eq a, i64w _⟩
theorem tmod_le' {a : Int} (b : Int) (h : 0 ≤ a) : a.tmod b ≤ a := by
  have := Int.natAbs_tmod a b
  have h2 := Nat.mod_le a.natAbs b.natAbs
  omega
theorem tdiv_i64 {a b : Int} (h : I64 a) : I64 (a.tmod b) := by
  obtain ⟨h1, h2⟩ := h
  constructor
  · rcases Int.lt_or_le a 0 with ha | ha
    · have := Int.neg_tmod (a := a) (b := b)
      have h3 : 0 ≤ (-a).tmod b := Int.tmod_nonneg _ (by omega)
      have h4 : (-a).tmod b ≤ -a := tmod_le' b (by omega)
      omega
    · have h3 : 0 ≤ a.tmod b := Int.tmod_nonneg _ ha; omega
  · rcases Int.lt_or_le a 0 with ha | ha
    · have := Int.neg_tmod (a := a) (b := b)
      have h3 : 0 ≤ (-a).tmod b := Int.tmod_nonneg _ (by omega)
      omega
    · have h4 : a.tmod b ≤ a := tmod_le' b ha; omega
theorem i64m1 : I64 (-1) := ⟨by decide, by decide⟩
theorem i640 : I64 0 := ⟨by decide, by decide⟩
theorem divide_val {a b : Int} (ha : I64 a) (hb : I64 b) : ∃ v : Int × Int, impl_divide a b = some v ∧ I64 v.1 ∧ I64 v.2 := by
  rw [impl_divide_eq]
  by_cases h0 : b = 0
  · rw [decide_eq_true h0]; exact ⟨_, rfl, i64m1, ha⟩
  · rw [decide_eq_false h0]
    by_cases h1 : b = -1
    · rw [decide_eq_true h1]; exact ⟨_, rfl, i64w _, i640⟩
    · rw [decide_eq_false h1]; exact ⟨_, rfl, i64w _, tdiv_i64 ha⟩
theorem divideU_val {a b : Int} (ha : I64 a) (hb : I64 b) : ∃ v : Int × Int, impl_DivideU a b = some v ∧ I64 v.1 ∧ I64 v.2 := by
  rw [impl_DivideU_eq]
  by_cases h0 : b = 0
  · rw [decide_eq_true h0]; exact ⟨_, rfl, i64m1, ha⟩
  · have : ¬ IntKind.wrap .u64 b = 0 := by rw [wrap_u64]; obtain ⟨b1, b2⟩ := hb; omega
    rw [decide_eq_false h0, decide_eq_false this]; exact ⟨_, rfl, i64w _, i64w _⟩
theorem mul_val (a b : Int) : ∃ v : Int × Int, impl_MulWide a b = some v ∧ I64 v.1 ∧ I64 v.2 := by
  rw [impl_MulWide_eq, math_bits_Mul64_eq]; exact ⟨_, rfl, i64w _, i64w _⟩
theorem opcases {n : Int} (h : (31 ≤ n ∧ n ≤ 40) ∨ (50 ≤ n ∧ n ≤ 62)) : n = 31 ∨ n = 32 ∨ n = 33 ∨ n = 34 ∨ n = 35 ∨ n = 36 ∨ n = 37 ∨ n = 38 ∨ n = 39 ∨ n = 40 ∨ n = 50 ∨ n = 51 ∨ n = 52 ∨ n = 53 ∨ n = 54 ∨ n = 55 ∨ n = 56 ∨ n = 57 ∨ n = 58 ∨ n = 59 ∨ n = 60 ∨ n = 61 ∨ n = 62 := by omega
theorem compW {n a b : Int} (h : n = 58 ∨ n = 59 ∨ n = 60 ∨ n = 61 ∨ n = 62) : ∃ v, impl_computeW n a b = some (v, true) ∧ I64 v := by
  rw [impl_computeW_eq]
  obtain ⟨x, x1, x2⟩ := word_val a
  obtain ⟨y, y1, y2⟩ := word_val b
  obtain ⟨p, p1, _⟩ := divide_val x2 y2
  obtain ⟨q, q1, _⟩ := divideU_val (andi_i64 a 4294967295) (andi_i64 b 4294967295)
  rw [x1, y1]
  simp only [Option.bind_some]
  rw [p1, q1]
  simp only [Option.bind_some, impl_WordOf_eq]
  rcases h with rfl | rfl | rfl | rfl | rfl <;> exact ⟨_, rfl, i64w _⟩
theorem compW_no {n a b : Int} (h : (31 ≤ n ∧ n ≤ 40) ∨ (50 ≤ n ∧ n ≤ 57)) : impl_computeW n a b = some (0, false) := by
  rw [impl_computeW_eq]
  obtain ⟨x, x1, x2⟩ := word_val a
  obtain ⟨y, y1, y2⟩ := word_val b
  rw [x1, y1]
  simp only [Option.bind_some]
  have e : ∀ k : Int, (45 ≤ k ∧ k ≤ 49) ∨ 58 ≤ k → decide (n = k) = false := fun k hk => decide_eq_false (by omega)
  rw [e 45 (by omega), e 46 (by omega), e 47 (by omega), e 48 (by omega), e 49 (by omega), e 58 (by omega), e 59 (by omega), e 61 (by omega), e 60 (by omega), e 62 (by omega)]
  rfl
theorem plain_val {n : Int} (h : (31 ≤ n ∧ n ≤ 40) ∨ (50 ≤ n ∧ n ≤ 62)) : impl_plain n = some n := by
  rw [impl_plain_eq]
  have e : ∀ k : Int, k ≤ 30 ∨ (41 ≤ k ∧ k ≤ 49) → decide (n = k) = false := fun k hk => decide_eq_false (by omega)
  rw [e 22 (by omega), e 23 (by omega), e 24 (by omega), e 25 (by omega), e 26 (by omega), e 27 (by omega), e 28 (by omega), e 29 (by omega), e 30 (by omega), e 41 (by omega), e 42 (by omega), e 43 (by omega), e 44 (by omega)]
  rfl
theorem truth_val (b : Bool) : ∃ v, impl_truth b = some v ∧ I64 v := by
  rw [impl_truth_eq]; cases b
  · exact ⟨0, rfl, by decide, by decide⟩
  · exact ⟨1, rfl, by decide, by decide⟩
theorem computes_val {n a b : Int} (h : (31 ≤ n ∧ n ≤ 40) ∨ (50 ≤ n ∧ n ≤ 62)) (ha : I64 a) (hb : I64 b) : ∃ v, impl_computes n a b = some v ∧ I64 v := by
  rw [impl_computes_eq, plain_val h]
  simp only [Option.bind_some]
  by_cases hw : n = 58 ∨ n = 59 ∨ n = 60 ∨ n = 61 ∨ n = 62
  · obtain ⟨v, v1, v2⟩ := compW (a := a) (b := b) hw
    rw [v1]; exact ⟨v, rfl, v2⟩
  · rw [compW_no (by omega)]
    simp only [Option.bind_some, cond_false]
    rw [impl_compute_eq]
    obtain ⟨m, m1, m2, m3⟩ := mul_val a b
    obtain ⟨p, p1, p2, p3⟩ := divide_val ha hb
    obtain ⟨q, q1, q2, q3⟩ := divideU_val ha hb
    obtain ⟨t, t1, t2⟩ := truth_val (decide (a < b))
    rw [m1, p1, q1, t1, impl_BelowU_eq]
    simp only [Option.bind_some, joinB, andu_nonneg, cond_false]
    obtain ⟨u, u1, u2⟩ := truth_val (decide (IntKind.wrap .u64 a < IntKind.wrap .u64 b))
    rw [u1]
    simp only [Option.bind_some]
    rcases opcases h with rfl | rfl | rfl | rfl | rfl | rfl | rfl | rfl | rfl | rfl | rfl | rfl | rfl | rfl | rfl | rfl | rfl | rfl | rfl | rfl | rfl | rfl | rfl
    · exact ⟨_, rfl, i64w _⟩
    · exact ⟨_, rfl, i64w _⟩
    · exact ⟨_, rfl, i64w _⟩
    · exact ⟨_, rfl, t2⟩
    · exact ⟨_, rfl, u2⟩
    · exact ⟨_, rfl, i64w _⟩
    · exact ⟨_, rfl, i64w _⟩
    · exact ⟨_, rfl, shri_i64 ha _⟩
    · exact ⟨_, rfl, i64w _⟩
    · exact ⟨_, rfl, i64w _⟩
    · exact ⟨_, rfl, m3⟩
    · by_cases c1 : a < 0 <;> by_cases c2 : b < 0 <;> simp only [c1, c2, decide_true, decide_false] <;> first | exact ⟨_, rfl, i64w _⟩ | exact ⟨_, rfl, m2⟩
    · by_cases c1 : a < 0 <;> by_cases c2 : b < 0 <;> simp only [c1, c2, decide_true, decide_false] <;> first | exact ⟨_, rfl, i64w _⟩ | exact ⟨_, rfl, m2⟩
    · exact ⟨_, rfl, m2⟩
    · exact ⟨_, rfl, p2⟩
    · exact ⟨_, rfl, q2⟩
    · exact ⟨_, rfl, p3⟩
    · exact ⟨_, rfl, q3⟩
    all_goals exact absurd (by simp) hw
theorem addi_val (a i : Int) : impl_computes 22 a i = some (IntKind.wrap .i64 (a + i)) := by
  rw [impl_computes_eq, impl_plain_eq]
  obtain ⟨m, m1, m2, m3⟩ := mul_val a i
  show ((impl_computeW 31 a i).bind fun r2 => bif r2.2 then some r2.1 else ((impl_compute 31 a i).bind fun r3 => some r3)) = _
  rw [compW_no (by omega), impl_compute_eq, m1]
  rfl
theorem taken_val {n a b : Int} (h : 5 ≤ n ∧ n ≤ 10) : ∃ t, impl_taken n a b = some t := by
  rw [impl_taken_eq, impl_BelowU_eq]
  have : n = 5 ∨ n = 6 ∨ n = 7 ∨ n = 8 ∨ n = 9 ∨ n = 10 := by omega
  rcases this with rfl | rfl | rfl | rfl | rfl | rfl <;> exact ⟨_, rfl⟩
/-- Registers. -/
structure RegsP (R : List Int) : Prop where
  n : R.length = 32
  v : ∀ x ∈ R, I64 x
  z : rd (τ := .int .i64) R 0 = 0
theorem rdR (R : List Int) (k : Nat) (h : k < R.length) : rd (τ := .int .i64) R (k : Int) = R[k] := rd_nat (τ := .int .i64) R k h
theorem RegsP.get {R : List Int} (h : RegsP R) (a : Int) (h0 : 0 ≤ a ∧ a ≤ 31) : I64 (rd (τ := .int .i64) R a) := by
  obtain ⟨k, rfl⟩ : ∃ k : Nat, a = k := ⟨a.toNat, by omega⟩
  rw [rdR R k (by rw [h.n]; omega)]
  exact h.v _ (List.getElem_mem _)
theorem rdR_set (R : List Int) (d v : Int) (hn : R.length = 32) (hd : 0 ≤ d ∧ d ≤ 31) (a : Int) (ha : 0 ≤ a ∧ a ≤ 31) : rd (τ := .int .i64) (R.set d.toNat v) a = if a = d then v else rd (τ := .int .i64) R a := by
  obtain ⟨k, rfl⟩ : ∃ k : Nat, a = k := ⟨a.toNat, by omega⟩
  rw [rd_set (τ := .int .i64) R d.toNat v (by omega) k (by omega)]
  by_cases h : k = d.toNat
  · rw [if_pos h, if_pos (by omega)]
  · rw [if_neg h, if_neg (by omega)]
theorem RegsP.set {R : List Int} (h : RegsP R) (d v : Int) (hd : 1 ≤ d ∧ d ≤ 31) (hv : I64 v) : RegsP (R.set d.toNat v) := by
  refine ⟨by rw [List.length_set]; exact h.n, fun x hx => ?_, ?_⟩
  · rcases List.mem_or_eq_of_mem_set hx with h' | h'
    · exact h.v x h'
    · rw [h']; exact hv
  · rw [rdR_set R d v h.n ⟨by omega, hd.2⟩ 0 (by decide), if_neg (by omega)]; exact h.z
theorem set_val (R : List Int) (pc d v : Int) (hd : 1 ≤ d ∧ d ≤ 31) : impl_Hart_set (R, pc) d v = some (R.set d.toNat v, pc) := by
  rw [impl_Hart_set_eq, decide_eq_false (show ¬ d = 0 by omega), inL_true (by omega) (by omega)]; rfl
/-- Operations on registers. -/
theorem exec_alu {R : List Int} (hR : RegsP R) (pc : Int) (M : List Page) (hM : M.length ≤ 64) {n d a b : Int} (hn : (31 ≤ n ∧ n ≤ 40) ∨ (50 ≤ n ∧ n ≤ 62)) (hd : 1 ≤ d ∧ d ≤ 31) (ha : 0 ≤ a ∧ a ≤ 31) (hb : 0 ≤ b ∧ b ≤ 31) :
    ∃ v, impl_exec (R, pc) M (n, d, a, b, 0) = some ((R.set d.toNat v, IntKind.wrap .i64 (pc + 4)), M, 0) ∧ I64 v := by
  obtain ⟨v, v1, v2⟩ := computes_val (n := n) hn (hR.get a ha) (hR.get b hb)
  refine ⟨v, ?_, v2⟩
  have hf := form8 (n := n) hn
  have hfv := fields_val (f := (shp n).1) (by rw [hf]; decide)
  rw [impl_exec_eq, branch_val, load_val, store_val, impl_shape n (by omega) (by omega)]
  have e : ∀ k : Int, k ≤ 30 ∨ k = 63 ∨ k = 64 → decide (n = k) = false := fun k hk => decide_eq_false (by omega)
  simp only [e 1 (by omega), e 2 (by omega), e 3 (by omega), e 4 (by omega), e 63 (by omega), e 64 (by omega), cond_false, Option.bind_some, joinB]
  rw [inL_true ha.1 (by omega), inL_true hb.1 (by omega), show (decide (5 ≤ n) && decide (n ≤ 10)) = false by simp; omega, show (decide (11 ≤ n) && decide (n ≤ 17)) = false by simp; omega, show (decide (18 ≤ n) && decide (n ≤ 21)) = false by simp; omega]
  simp only [cond_true, cond_false]
  rw [hfv, hf]
  simp only [Option.bind_some, show (fieldsV 8).2.2 = true from rfl, cond_false, Bool.not_true]
  rw [v1]
  simp only [Option.bind_some]
  rw [set_val R pc d v hd]
  simp only [Option.bind_some]
  rw [impl_own hM]; rfl
theorem exec_addi {R : List Int} (pc : Int) (M : List Page) (hM : M.length ≤ 64) {d a i : Int} (hd : 1 ≤ d ∧ d ≤ 31) (ha : 0 ≤ a ∧ a ≤ 31) :
    impl_exec (R, pc) M (22, d, a, 0, i) = some ((R.set d.toNat (IntKind.wrap .i64 (rd (τ := .int .i64) R a + i)), IntKind.wrap .i64 (pc + 4)), M, 0) := by
  rw [impl_exec_eq, branch_val, load_val, store_val, impl_shape 22 (by decide) (by decide)]
  simp only [Option.bind_some, joinB]
  rw [fields_val (f := (shp 22).1) (by decide)]
  simp only [Option.bind_some]
  rw [inL_true ha.1 (by omega), inL_true (i := 0) (by decide) (by decide)]
  show ((impl_computes 22 (rd (τ := .int .i64) R a) i).bind fun r25 => (impl_Hart_set (R, pc) d r25).bind fun r26 => (impl_Memory_own M).bind fun r72 => some ((r26.1, (IntKind.wrap .i64 (pc + 4))), r72, 0)) = _
  rw [addi_val]
  simp only [Option.bind_some]
  rw [set_val R pc d _ hd]
  simp only [Option.bind_some]
  rw [impl_own hM]; rfl
theorem exec_branch {R : List Int} (pc : Int) (M : List Page) (hM : M.length ≤ 64) {n a b i : Int} (hn : 5 ≤ n ∧ n ≤ 10) (ha : 0 ≤ a ∧ a ≤ 31) (hb : 0 ≤ b ∧ b ≤ 31) :
    ∃ t, impl_taken n (rd (τ := .int .i64) R a) (rd (τ := .int .i64) R b) = some t ∧ impl_exec (R, pc) M (n, 0, a, b, i) = some ((R, IntKind.wrap .i64 (pc + (if t = true then i else 4))), M, 0) := by
  obtain ⟨t, ht⟩ := taken_val (n := n) (a := rd (τ := .int .i64) R a) (b := rd (τ := .int .i64) R b) hn
  refine ⟨t, ht, ?_⟩
  rw [impl_exec_eq, branch_val]
  have e : ∀ k : Int, k ≤ 4 → decide (n = k) = false := fun k hk => decide_eq_false (by omega)
  simp only [e 1 (by omega), e 2 (by omega), e 3 (by omega), e 4 (by omega), cond_false, Option.bind_some, joinB]
  rw [inL_true ha.1 (by omega), inL_true hb.1 (by omega), show (decide (5 ≤ n) && decide (n ≤ 10)) = true by simp; omega]
  simp only [cond_true]
  rw [ht]
  simp only [Option.bind_some]
  rw [impl_own hM]
  cases t <;> rfl
theorem exec_ecall {R : List Int} (pc : Int) (M : List Page) (hM : M.length ≤ 64) : impl_exec (R, pc) M (63, 0, 0, 0, 0) = some ((R, pc), M, 15) := by
  rw [impl_exec_eq, branch_val, load_val, store_val, impl_own hM]
  rw [inL_true (i := 0) (by decide) (by decide)]
  rfl
theorem exec_ret {R : List Int} (pc : Int) (M : List Page) (hM : M.length ≤ 64) : impl_exec (R, pc) M (4, 0, 1, 0, 0) = some ((R, andNotI .i64 (IntKind.wrap .i64 (rd (τ := .int .i64) R 1 + 0)) 1), M, 0) := by
  rw [impl_exec_eq]
  rw [inL_true (i := 1) (by decide) (by decide), inL_true (i := 0) (by decide) (by decide)]
  show ((impl_Hart_set (R, pc) 0 (IntKind.wrap .i64 (pc + 4))).bind fun r4 => (impl_Memory_own M).bind fun r63 => some ((r4.1, (andNotI .i64 (IntKind.wrap .i64 (rd (τ := .int .i64) R 1 + 0)) 1)), r63, 0)) = _
  rw [impl_Hart_set_eq, impl_own hM]
  rfl
theorem wid21 : impl_widthOf 21 = some (8, false) := impl_wid 21 (by decide) (by decide)
theorem wid14 : impl_widthOf 14 = some (8, true) := impl_wid 14 (by decide) (by decide)
theorem exec_sd {R : List Int} (pc : Int) (M : List Page) {b i : Int} (hb : 0 ≤ b ∧ b ≤ 31) (M' : List Page) (h : impl_Memory_store M (IntKind.wrap .i64 (rd (τ := .int .i64) R 2 + i)) 8 (rd (τ := .int .i64) R b) true = some (M', 0)) :
    impl_exec (R, pc) M (21, 0, 2, b, i) = some ((R, IntKind.wrap .i64 (pc + 4)), M', 0) := by
  rw [impl_exec_eq, branch_val, load_val, store_val, wid21]
  rw [inL_true (i := 2) (by decide) (by decide), inL_true hb.1 (by omega)]
  show ((impl_Memory_store M (IntKind.wrap .i64 (rd (τ := .int .i64) R 2 + i)) 8 (rd (τ := .int .i64) R b) true).bind fun r19 => bif (!decide (r19.2 = 0)) then some ((R, pc), r19) else some ((R, (IntKind.wrap .i64 (pc + 4))), r19.1, 0)) = _
  rw [h]; rfl
theorem exec_ld {R : List Int} (pc : Int) (M : List Page) (hM : M.length ≤ 64) {d i v w : Int} (hd : 1 ≤ d ∧ d ≤ 31) (h : impl_Memory_load M (IntKind.wrap .i64 (rd (τ := .int .i64) R 2 + i)) 8 1 true = some (v, 0)) (hs : impl_signOf v 64 = some w) :
    impl_exec (R, pc) M (14, d, 2, 0, i) = some ((R.set d.toNat w, IntKind.wrap .i64 (pc + 4)), M, 0) := by
  rw [impl_exec_eq, branch_val, load_val, store_val, wid14]
  rw [inL_true (i := 2) (by decide) (by decide), inL_true (i := 0) (by decide) (by decide)]
  show ((impl_Memory_load M (IntKind.wrap .i64 (rd (τ := .int .i64) R 2 + i)) 8 1 true).bind fun r10 => bif (!decide (r10.2 = 0)) then ((impl_Memory_own M).bind fun r11 => some ((R, pc), r11, r10.2)) else ((impl_signOf r10.1 (IntKind.wrap .i64 (8 * 8))).bind fun r12 => (impl_Hart_set (R, pc) d r12).bind fun r15 => (impl_Memory_own M).bind fun r70 => some ((r15.1, (IntKind.wrap .i64 (pc + 4))), r70, 0))) = _
  rw [h]
  show ((impl_signOf v 64).bind fun r12 => (impl_Hart_set (R, pc) d r12).bind fun r15 => (impl_Memory_own M).bind fun r70 => some ((r15.1, (IntKind.wrap .i64 (pc + 4))), r70, 0)) = _
  rw [hs]
  simp only [Option.bind_some]
  rw [set_val R pc d w hd]
  simp only [Option.bind_some]
  rw [impl_own hM]; rfl
def K4 : List (Int × Int) := [(8192, 4), (8320, 4), (32768, 11), (32896, 11)]
theorem K4_bases : BasesR K4 := ⟨by decide, by decide⟩
theorem K4_ok : lOK K4 = true := by decide +kernel
theorem page_K4 (a : Int) : pageAt K4 a = if 8192 ≤ a ∧ a ≤ 8319 then 0 else if 8320 ≤ a ∧ a ≤ 8447 then 1 else if 32768 ≤ a ∧ a ≤ 32895 then 2 else if 32896 ≤ a ∧ a ≤ 33023 then 3 else -1 := by
  have h : pageAt K4 a = bif inPage 8192 a then 0 else bif inPage 8320 a then 1 else bif inPage 32768 a then 2 else bif inPage 32896 a then 3 else -1 := rfl
  rw [h]
  unfold inPage
  simp only [cond_ite, Bool.and_eq_true, decide_eq_true_eq]
  repeat' split
  all_goals omega
theorem K4_over : NoOver K4 := by
  intro i j a hi hj h1 h2
  have hi : i < 4 := hi
  have hj : j < 4 := hj
  unfold inPage at h1 h2
  simp only [Bool.and_eq_true, decide_eq_true_eq] at h1 h2
  have r : ∀ k : Nat, k < 4 → (rd (τ := TI2) K4 (k : Int)).1 = if k = 0 then 8192 else if k = 1 then 8320 else if k = 2 then 32768 else 32896 := by
    intro k hk
    match k, hk with
    | 0, _ => rfl
    | 1, _ => rfl
    | 2, _ => rfl
    | 3, _ => rfl
  rw [r i hi] at h1
  rw [r j hj] at h2
  repeat' split at h1
  all_goals repeat' split at h2
  all_goals omega
theorem memF_len (F : Int → Int) : (memF F K4).length ≤ 64 := by simp [memF, K4]
/-- Memory while the function runs. -/
structure KS (l : List Ins) (G F : Int → Int) : Prop where
  r : FR F
  code : At F 8192 (codeL l)
  up : ∀ x, 32960 ≤ x → x < 33024 → F x = G x
theorem At.word {F : Int → Int} {a : Int} {l : List Ins} (h : At F a (codeL l)) (i : Nat) (x : Ins) (hx : l[i]? = some x) : At F (a + 4 * (i : Int)) (wordL x) := by
  intro j y hj
  have hjl : j < 4 := by
    rcases Nat.lt_or_ge j 4 with h | h
    · exact h
    · rw [List.getElem?_eq_none (by rw [wordL_length]; exact h)] at hj; cases hj
  have hi : i < l.length := by
    rcases Nat.lt_or_ge i l.length with h | h
    · exact h
    · rw [List.getElem?_eq_none h] at hx; cases hx
  have hl : l = l.take i ++ x :: l.drop (i + 1) := by
    rw [List.getElem?_eq_getElem hi] at hx
    cases hx
    rw [List.getElem_cons_drop, List.take_append_drop]
  have := h (4 * i + j) y (by
    rw [hl, codeL_append, codeL, List.getElem?_append_right (by rw [codeL_length, List.length_take]; omega), codeL_length, List.length_take, show 4 * i + j - 4 * min i l.length = j by omega, List.getElem?_append_left (by rw [wordL_length]; exact hjl)]
    exact hj)
  rw [← this]; congr 1; omega
theorem wordL_range (x : Ins) : ∀ y ∈ wordL x, 0 ≤ y ∧ y ≤ 255 := leB_range 4 _
theorem keep_step {l : List Ins} {G F : Int → Int} (h : KS l G F) (hl : l.length ≤ 64) (hr : ∀ x ∈ l, rightV x = true) (ab : ByteArray) {R : List Int} (hR : RegsP R) (i : Nat) (x : Ins) (hx : l[i]? = some x) (c : Int) (hc : 0 ≤ c ∧ c < 400) :
    laws_FnKeep.l111111111111111111010 (memF F K4) ab (R, 8192 + 4 * (i : Int)) c = (impl_exec (R, 8192 + 4 * (i : Int)) (memF F K4) x).bind fun r => bif decide (r.2.2 = 15) then laws_FnKeep.l111111111111111111010 (memF F K4) ab (R, 8192 + 4 * (i : Int) + 4) (c + 1) else (bif !decide (r.2.2 = 0) then some false else laws_FnKeep.l111111111111111111010 r.2.1 ab r.1 (c + 1)) := by
  have hi : i < l.length := by
    rcases Nat.lt_or_ge i l.length with h | h
    · exact h
    · rw [List.getElem?_eq_none h] at hx; cases hx
  have hxr := hr x (List.mem_of_getElem? hx)
  have hload : impl_Memory_load (memF F K4) (8192 + 4 * (i : Int)) 4 4 true = some (encV (shp x.1) x, 0) := by
    have hw := h.code.word i x hx
    have hpg := page_K4 (8192 + 4 * (i : Int))
    by_cases h1 : i < 32
    · rw [if_pos (by omega)] at hpg
      have := load_ok (F := F) K4 K4_bases (8192 + 4 * (i : Int)) 4 4 true 0 hpg (by decide) (q := (8192, 4)) rfl ⟨by omega, by omega⟩ (by decide) (Int.tmod_eq_zero_of_dvd (by omega)) (by simp only; omega) (by simp only; omega) (by decide +kernel) (by decide +kernel)
      have he := hw.extract h.r (wordL_range x) (b := 8192) (by omega) (by rw [wordL_length]; omega)
      rw [wordL_length] at he
      rw [show ((4 : Nat) : Int) = 4 from rfl] at this
      rw [this, he, take_word x hxr]; rfl
    · rw [if_neg (by omega), if_pos (by omega)] at hpg
      have := load_ok (F := F) K4 K4_bases (8192 + 4 * (i : Int)) 4 4 true 1 hpg (by decide) (q := (8320, 4)) rfl ⟨by omega, by omega⟩ (by decide) (Int.tmod_eq_zero_of_dvd (by omega)) (by simp only; omega) (by simp only; omega) (by decide +kernel) (by decide +kernel)
      have he := hw.extract h.r (wordL_range x) (b := 8320) (by omega) (by rw [wordL_length]; omega)
      rw [wordL_length] at he
      rw [show ((4 : Nat) : Int) = 4 from rfl] at this
      rw [this, he, take_word x hxr]; rfl
  rw [laws_FnKeep.l111111111111111111010_eq, decide_eq_true hc.2]
  simp only [cond_true, joinB]
  rw [decide_eq_false (show ¬ 8192 + 4 * (i : Int) = 12288 by omega)]
  simp only [Bool.not_false, cond_true]
  rw [impl_StepHart_eq, impl_HartOK_eq, memory_i, memV_memF, K4_ok]
  simp only [joinB]
  rw [inL_true (i := 0) (by decide) (by decide), hR.z]
  simp only [cond_true, Option.bind_some, Bool.not_true, cond_false]
  rw [impl_step_eq]
  simp only
  rw [hload]
  simp only [Option.bind_some]
  rw [decode_i x hxr]
  simp only [Option.bind_some, Bool.not_true, cond_false]
  rw [w64 (n := c + 1) (by omega) (by omega), w64 (n := 8192 + 4 * (i : Int) + 4) (by omega) (by omega)]
  cases impl_exec (R, 8192 + 4 * (i : Int)) (memF F K4) x <;> rfl
/-- The loop goes from one state to another in n steps. -/
def Rn (R : List Int) (F : Int → Int) (i : Int) (R' : List Int) (F' : Int → Int) (i' : Int) (n : Nat) : Prop :=
  ∀ (ab : ByteArray) (c : Int), 0 ≤ c → c + (n : Int) ≤ 400 → laws_FnKeep.l111111111111111111010 (memF F K4) ab (R, 8192 + 4 * i) c = laws_FnKeep.l111111111111111111010 (memF F' K4) ab (R', 8192 + 4 * i') (c + n)
theorem Rn.refl (R : List Int) (F : Int → Int) (i : Int) : Rn R F i R F i 0 := fun ab c _ _ => by rw [show c + ((0 : Nat) : Int) = c by omega]
theorem Rn.trans {R R' R'' : List Int} {F F' F'' : Int → Int} {i i' i'' : Int} {n m : Nat} (h : Rn R F i R' F' i' n) (k : Rn R' F' i' R'' F'' i'' m) : Rn R F i R'' F'' i'' (n + m) := fun ab c h0 h1 => by
  rw [h ab c h0 (by omega), k ab (c + n) (by omega) (by omega)]
  congr 1; omega
theorem lt_len {l : List Ins} {G F : Int → Int} (h : KS l G F) (hl : l.length ≤ 64) (hr : ∀ x ∈ l, rightV x = true) {R : List Int} (hR : RegsP R) (i : Nat) {x : Ins} (hx : l[i]? = some x) : i < l.length := by
  rcases Nat.lt_or_ge i l.length with h | h
  · exact h
  · rw [List.getElem?_eq_none h] at hx; cases hx
theorem rn_of {l : List Ins} {G F : Int → Int} (h : KS l G F) (hl : l.length ≤ 64) (hr : ∀ x ∈ l, rightV x = true) {R : List Int} (hR : RegsP R) (i : Nat) {x : Ins} (hx : l[i]? = some x) {R' : List Int} {F' : Int → Int} {i' : Int} (he : impl_exec (R, 8192 + 4 * (i : Int)) (memF F K4) x = some ((R', 8192 + 4 * i'), memF F' K4, 0)) : Rn R F i R' F' i' 1 := fun ab c h0 h1 => by
  rw [keep_step h hl hr ab hR i x hx c ⟨h0, by omega⟩, he]
  rfl
theorem rn_next {l : List Ins} {G F : Int → Int} (h : KS l G F) (hl : l.length ≤ 64) (hr : ∀ x ∈ l, rightV x = true) {R : List Int} (hR : RegsP R) (i : Nat) {x : Ins} (hx : l[i]? = some x) {R' : List Int} {F' : Int → Int} (he : impl_exec (R, 8192 + 4 * (i : Int)) (memF F K4) x = some ((R', IntKind.wrap .i64 (8192 + 4 * (i : Int) + 4)), memF F' K4, 0)) : Rn R F i R' F' (i + 1) 1 := by
  have hi := lt_len h hl hr hR i hx
  refine rn_of h hl hr hR i hx (i' := (i : Int) + 1) ?_
  rw [he, w64 (by omega) (by omega), show 8192 + 4 * (i : Int) + 4 = 8192 + 4 * ((i : Int) + 1) by omega]
theorem rn_ecall {l : List Ins} {G F : Int → Int} (h : KS l G F) (hl : l.length ≤ 64) (hr : ∀ x ∈ l, rightV x = true) {R : List Int} (hR : RegsP R) (i : Nat) (hx : l[i]? = some (63, 0, 0, 0, 0)) : Rn R F i R F (i + 1) 1 := fun ab c h0 h1 => by
  rw [keep_step h hl hr ab hR i _ hx c ⟨h0, by omega⟩, exec_ecall _ _ (memF_len F)]
  rw [show 8192 + 4 * ((i : Int) + 1) = 8192 + 4 * (i : Int) + 4 by omega]
  rfl
/-- A state in the body. -/
structure BI (l : List Ins) (G : Int → Int) (sp : Int) (R : List Int) (F : Int → Int) : Prop where
  m : KS l G F
  r : RegsP R
  p : rd (τ := .int .i64) R 2 = sp
  s : At F 32952 (leB 12288 8)
theorem BI.set {l : List Ins} {G F : Int → Int} {sp : Int} {R : List Int} (h : BI l G sp R F) (d v : Int) (hd : 1 ≤ d ∧ d ≤ 31) (h2 : d ≠ 2) (hv : I64 v) : BI l G sp (R.set d.toNat v) F :=
  ⟨h.m, h.r.set d v hd hv, by rw [rdR_set R d v h.r.n ⟨by omega, hd.2⟩ 2 (by decide), if_neg (by omega)]; exact h.p, h.s⟩
def Has (l : List Ins) (i : Nat) (p : List Ins) : Prop := ∀ (j : Nat) (x : Ins), p[j]? = some x → l[i + j]? = some x
/-- From the begin of a piece to its end. -/
def Goes (l : List Ins) (G : Int → Int) (sp : Int) (R : List Int) (F : Int → Int) (i n k : Nat) : Prop :=
  ∃ (R' : List Int) (F' : Int → Int) (m : Nat), m ≤ k ∧ BI l G sp R' F' ∧ Rn R F i R' F' ((i : Int) + (n : Int)) m
theorem Goes.refl {l : List Ins} {G F : Int → Int} {sp : Int} {R : List Int} (h : BI l G sp R F) (i k : Nat) : Goes l G sp R F i 0 k := ⟨R, F, 0, by omega, h, by rw [show (i : Int) + ((0 : Nat) : Int) = i by omega]; exact Rn.refl R F i⟩
theorem go_one {l : List Ins} {G F : Int → Int} {sp : Int} {R : List Int} (h : BI l G sp R F) (hl : l.length ≤ 64) (hr : ∀ x ∈ l, rightV x = true) (i : Nat) {x : Ins} (hx : l[i]? = some x) {R' : List Int} {F' : Int → Int} {n k : Nat} (he : impl_exec (R, 8192 + 4 * (i : Int)) (memF F K4) x = some ((R', IntKind.wrap .i64 (8192 + 4 * (i : Int) + 4)), memF F' K4, 0)) (hn : Goes l G sp R' F' (i + 1) n k) : Goes l G sp R F i (n + 1) (k + 1) := by
  obtain ⟨R'', F'', m, hm, hb, hg⟩ := hn
  refine ⟨R'', F'', 1 + m, by omega, hb, ?_⟩
  have h1 := rn_next h.m hl hr h.r i hx he
  have e : ((i + 1 : Nat) : Int) + (n : Int) = (i : Int) + ((n + 1 : Nat) : Int) := by omega
  rw [e, show ((i + 1 : Nat) : Int) = (i : Int) + 1 by omega] at hg
  exact h1.trans hg
theorem go_addi {l : List Ins} {G F : Int → Int} {sp : Int} {R : List Int} (h : BI l G sp R F) (hl : l.length ≤ 64) (hr : ∀ x ∈ l, rightV x = true) (i : Nat) {d a m : Int} (hx : l[i]? = some (22, d, a, 0, m)) (hd : 1 ≤ d ∧ d ≤ 31) (ha : 0 ≤ a ∧ a ≤ 31) {n k : Nat} (hn : Goes l G sp (R.set d.toNat (IntKind.wrap .i64 (rd (τ := .int .i64) R a + m))) F (i + 1) n k) : Goes l G sp R F i (n + 1) (k + 1) :=
  go_one h hl hr i hx (exec_addi _ _ (memF_len F) hd ha) hn
theorem go_ecall {l : List Ins} {G F : Int → Int} {sp : Int} {R : List Int} (h : BI l G sp R F) (hl : l.length ≤ 64) (hr : ∀ x ∈ l, rightV x = true) (i : Nat) (hx : l[i]? = some (63, 0, 0, 0, 0)) {n k : Nat} (hn : Goes l G sp R F (i + 1) n k) : Goes l G sp R F i (n + 1) (k + 1) := by
  obtain ⟨R'', F'', m, hm, hb, hg⟩ := hn
  refine ⟨R'', F'', 1 + m, by omega, hb, ?_⟩
  have h1 := rn_ecall h.m hl hr h.r i hx
  have e : ((i + 1 : Nat) : Int) + (n : Int) = (i : Int) + ((n + 1 : Nat) : Int) := by omega
  rw [e, show ((i + 1 : Nat) : Int) = (i : Int) + 1 by omega] at hg
  exact h1.trans hg
theorem stack_page (f k : Int) (hf : 16 ≤ f ∧ f ≤ 128 ∧ f % 16 = 0) (hk : 0 ≤ k ∧ 8 * k ≤ f - 8) : ∃ (j : Nat) (q : Int × Int), pageAt K4 (32960 - f + 8 * k) = (j : Int) ∧ j < K4.length ∧ rd (τ := TI2) K4 (j : Int) = q ∧ q.2 = 11 ∧ q.1 ≤ 32960 - f + 8 * k ∧ 32960 - f + 8 * k + 8 ≤ q.1 + 128 := by
  have hp := page_K4 (32960 - f + 8 * k)
  by_cases h : 32960 - f + 8 * k ≤ 32895
  · rw [if_neg (by omega), if_neg (by omega), if_pos (by omega)] at hp
    exact ⟨2, (32768, 11), hp, by decide, rfl, rfl, by simp only; omega, by simp only; omega⟩
  · rw [if_neg (by omega), if_neg (by omega), if_neg (by omega), if_pos (by omega)] at hp
    exact ⟨3, (32896, 11), hp, by decide, rfl, rfl, by simp only; omega, by simp only; omega⟩
theorem stack_store {F : Int → Int} (hF : FR F) (f k v : Int) (hf : 16 ≤ f ∧ f ≤ 128 ∧ f % 16 = 0) (hk : 0 ≤ k ∧ 8 * k ≤ f - 8) : impl_Memory_store (memF F K4) (32960 - f + 8 * k) 8 v true = some (memF (updF F (32960 - f + 8 * k) (bytesOf (leB v 8))) K4, 0) := by
  obtain ⟨j, q, h1, h2, h3, h4, h5, h6⟩ := stack_page f k hf hk
  exact store_ok hF K4 K4_bases K4_over (32960 - f + 8 * k) 8 v true j h1 h2 h3 ⟨by omega, by omega⟩ (by decide) (Int.tmod_eq_zero_of_dvd (by omega)) h5 h6 (by rw [h4]; decide +kernel) (by rw [h4]; decide +kernel)
theorem stack_load {F : Int → Int} (f k : Int) (hf : 16 ≤ f ∧ f ≤ 128 ∧ f % 16 = 0) (hk : 0 ≤ k ∧ 8 * k ≤ f - 8) : ∃ b : Int, b ≤ 32960 - f + 8 * k ∧ 32960 - f + 8 * k + 8 ≤ b + 128 ∧ impl_Memory_load (memF F K4) (32960 - f + 8 * k) 8 1 true = (impl_takeLittle ((pg F b).extract (32960 - f + 8 * k - b).toNat ((32960 - f + 8 * k - b).toNat + 8))).bind fun v => some (v, 0) := by
  obtain ⟨j, q, h1, h2, h3, h4, h5, h6⟩ := stack_page f k hf hk
  exact ⟨q.1, h5, h6, load_ok K4 K4_bases (32960 - f + 8 * k) 1 8 true j h1 h2 h3 ⟨by omega, by omega⟩ (by decide) (Int.tmod_eq_zero_of_dvd (by omega)) h5 h6 (by rw [h4]; decide +kernel) (by rw [h4]; decide +kernel)⟩
theorem sign64 (v : Int) : ∃ w, impl_signOf v 64 = some w ∧ I64 w := by
  rw [signOf_val v 64 (by decide) (by decide)]
  have := signV_range v 64 (by decide)
  refine ⟨_, rfl, ?_⟩
  show -9223372036854775808 ≤ signV v 64 ∧ signV v 64 ≤ 9223372036854775807
  have e : (2 : Int) ^ (64 - 1) = 9223372036854775808 := by decide
  rw [e] at this
  omega
theorem KS.store {l : List Ins} {G F : Int → Int} (h : KS l G F) (hl : l.length ≤ 64) (a : Int) (t : ByteArray) (h1 : 16384 ≤ a) (h2 : a + (t.size : Int) ≤ 32960) : KS l G (updF F a t) :=
  ⟨updF_range h.r a t, h.code.upd t (.inl (by rw [codeL_length]; omega)), fun x hx hx' => by unfold updF; rw [if_neg (by omega)]; exact h.up x hx hx'⟩
/-- The body's loops. -/
theorem go_turn {l : List Ins} {G F : Int → Int} {sp : Int} (hl : l.length ≤ 64) (hr : ∀ x ∈ l, rightV x = true) (i : Nat) {a b m : Int} (ha : RegP a) (hb : RegP b) (x1 : l[i + 1]? = some (22, a, b, 0, m)) (x2 : l[i + 2]? = some (22, 9, 9, 0, -1)) (x3 : l[i + 3]? = some (6, 0, 9, 0, -8)) :
    ∀ (k : Nat) (R : List Int), 1 ≤ k → k ≤ 4 → BI l G sp R F → rd (τ := .int .i64) R 9 = (k : Int) → ∃ (R' : List Int) (n : Nat), n ≤ 3 * k ∧ BI l G sp R' F ∧ Rn R F ((i : Int) + 1) R' F ((i : Int) + 4) n := by
  intro k
  have har := ha.range; have hbr := hb.range
  have ha9 : a ≠ 9 ∧ 5 ≤ a := by rcases ha with rfl | rfl | rfl | rfl | rfl | rfl | rfl <;> decide
  induction k with
  | zero => intro R h1; omega
  | succ k ih =>
    intro R h1 h4 hB h9
    have v1 := i64w (rd (τ := .int .i64) R b + m)
    obtain ⟨v, hv⟩ : ∃ v : Int, IntKind.wrap .i64 (rd (τ := .int .i64) R b + m) = v := ⟨_, rfl⟩
    rw [hv] at v1
    have hB1 := hB.set a v ⟨by omega, by omega⟩ (by omega) v1
    have s1 := rn_next hB.m hl hr hB.r (i + 1) x1 (exec_addi _ _ (memF_len F) ⟨by omega, by omega⟩ ⟨by omega, by omega⟩)
    rw [hv] at s1
    have h9' : rd (τ := .int .i64) (R.set a.toNat v) 9 = ((k + 1 : Nat) : Int) := by rw [rdR_set R a v hB.r.n ⟨by omega, by omega⟩ 9 (by decide), if_neg (by omega)]; exact h9
    have hw : IntKind.wrap .i64 (rd (τ := .int .i64) (R.set a.toNat v) 9 + -1) = (k : Int) := by rw [h9', w64 (by omega) (by omega)]; omega
    have s2 := rn_next hB1.m hl hr hB1.r (i + 2) x2 (exec_addi _ _ (memF_len F) (d := 9) (a := 9) (by decide) (by decide))
    rw [hw] at s2
    have hB2 := hB1.set 9 (k : Int) (by decide) (by decide) ⟨by omega, by omega⟩
    have h92 : rd (τ := .int .i64) ((R.set a.toNat v).set (9 : Int).toNat (k : Int)) 9 = (k : Int) := by rw [rdR_set _ 9 _ hB1.r.n (by decide) 9 (by decide), if_pos rfl]
    obtain ⟨t, ht, he⟩ := exec_branch (R := (R.set a.toNat v).set (9 : Int).toNat (k : Int)) (8192 + 4 * ((i + 3 : Nat) : Int)) (memF F K4) (memF_len F) (n := 6) (a := 9) (b := 0) (i := -8) (by decide) (by decide) (by decide)
    rw [h92, hB2.r.z, impl_taken_eq] at ht
    have ht : some (!decide ((k : Int) = 0)) = some t := ht
    cases ht
    have e1 : ((i + 1 : Nat) : Int) = (i : Int) + 1 := by omega
    have e2 : ((i + 2 : Nat) : Int) = (i : Int) + 1 + 1 := by omega
    have e3 : ((i + 3 : Nat) : Int) = (i : Int) + 1 + 1 + 1 := by omega
    have il : i + 3 < l.length := lt_len hB.m hl hr hB.r (i + 3) x3
    rw [e1] at s1
    rw [e2] at s2
    by_cases hk : k = 0
    · subst hk
      have he' : impl_exec (((R.set a.toNat v).set (9 : Int).toNat ((0 : Nat) : Int)), 8192 + 4 * ((i + 3 : Nat) : Int)) (memF F K4) (6, 0, 9, 0, -8) = some ((((R.set a.toNat v).set (9 : Int).toNat ((0 : Nat) : Int)), IntKind.wrap .i64 (8192 + 4 * ((i + 3 : Nat) : Int) + 4)), memF F K4, 0) := he
      have s3 := rn_next hB2.m hl hr hB2.r (i + 3) x3 he'
      rw [e3] at s3
      exact ⟨_, 1 + 1 + 1, by omega, hB2, (s1.trans s2).trans (by rw [show (i : Int) + 4 = (i : Int) + 1 + 1 + 1 + 1 by omega]; exact s3)⟩
    · have hd : (!decide ((k : Int) = 0)) = true := by simp; omega
      rw [hd, if_pos rfl] at he
      have hw2 : IntKind.wrap .i64 (8192 + 4 * ((i + 3 : Nat) : Int) + -8) = 8192 + 4 * ((i : Int) + 1) := by rw [w64 (by omega) (by omega)]; omega
      rw [hw2] at he
      have s3 := rn_of hB2.m hl hr hB2.r (i + 3) x3 he
      rw [e3] at s3
      obtain ⟨R', n, hn, hB', hs⟩ := ih _ (by omega) (by omega) hB2 h92
      exact ⟨R', 1 + 1 + 1 + n, by omega, hB', ((s1.trans s2).trans s3).trans hs⟩
theorem RegP.more {a : Int} (h : RegP a) : 5 ≤ a ∧ a ≤ 31 := by rcases h with rfl | rfl | rfl | rfl | rfl | rfl | rfl <;> decide
theorem Goes.mono {l : List Ins} {G F : Int → Int} {sp : Int} {R : List Int} {i n k k' : Nat} (h : Goes l G sp R F i n k) (hk : k ≤ k') : Goes l G sp R F i n k' := by
  obtain ⟨a, b, m, hm, h⟩ := h
  exact ⟨a, b, m, by omega, h⟩
theorem get_lt {l : List Ins} {i : Nat} {x : Ins} (hx : l[i]? = some x) : i < l.length := by
  rcases Nat.lt_or_ge i l.length with h | h
  · exact h
  · rw [List.getElem?_eq_none h] at hx; cases hx
theorem go_piece {l : List Ins} {G : Int → Int} {f : Int} (hf : FrmP f) (hl : l.length ≤ 64) (hr : ∀ x ∈ l, rightV x = true) {p : List Ins} (hp : Dpc f (fun _ => False) (fun _ => False) p) (i : Nat) (hh : Has l i p) (R : List Int) (F : Int → Int) (h : BI l G (32960 - f) R F) : Goes l G (32960 - f) R F i p.length (4 * p.length) := by
  have hfr := hf.range
  cases hp with
  | alu n a b c hn ha hb hc =>
    have := ha.more; have := hb.more; have := hc.more
    obtain ⟨v, he, hv⟩ := exec_alu h.r (8192 + 4 * (i : Int)) (memF F K4) (memF_len F) (n := n) (d := a) (a := b) (b := c) hn ⟨by omega, by omega⟩ ⟨by omega, by omega⟩ ⟨by omega, by omega⟩
    exact (go_one h hl hr i (hh 0 _ rfl) he (.refl (h.set a v ⟨by omega, by omega⟩ (by omega) hv) (i + 1) 0)).mono (by simp)
  | imm a b m ha hb hi =>
    have := ha.more; have := hb.more
    exact (go_addi h hl hr i (hh 0 _ rfl) ⟨by omega, by omega⟩ ⟨by omega, by omega⟩ (.refl (h.set a _ ⟨by omega, by omega⟩ (by omega) (i64w _)) (i + 1) 0)).mono (by simp)
  | data a d ha hd => exact hd.elim
  | call m hm => exact hm.elim
  | stack a b c m k ha hb hc hm hk =>
    have := ha.more; have := hb.more; have := hc.more
    have hil := get_lt (hh 2 _ rfl)
    have hadr : IntKind.wrap .i64 (rd (τ := .int .i64) R 2 + 8 * k) = 32960 - f + 8 * k := by rw [h.p, w64 (by omega) (by omega)]
    have hst := stack_store h.m.r f k (rd (τ := .int .i64) R b) hfr (by omega)
    have he1 := exec_sd (R := R) (8192 + 4 * (i : Int)) (memF F K4) (b := b) (i := 8 * k) ⟨by omega, by omega⟩ _ (by rw [hadr]; exact hst)
    have hts : (bytesOf (leB (rd (τ := .int .i64) R b) 8)).size = 8 := by rw [bytesOf_size, leB_length]
    have h1 : BI l G (32960 - f) R (updF F (32960 - f + 8 * k) (bytesOf (leB (rd (τ := .int .i64) R b) 8))) :=
      ⟨h.m.store hl _ _ (by omega) (by rw [hts]; omega), h.r, h.p, h.s.upd _ (.inr (by rw [hts]; omega))⟩
    refine (go_one h hl hr i (hh 0 _ rfl) he1 (n := 2) (k := 2) ?_).mono (by simp)
    generalize updF F (32960 - f + 8 * k) (bytesOf (leB (rd (τ := .int .i64) R b) 8)) = F1 at *
    have h2 := h1.set a (IntKind.wrap .i64 (rd (τ := .int .i64) R b + m)) ⟨by omega, by omega⟩ (by omega) (i64w _)
    refine go_addi h1 hl hr (i + 1) (hh 1 _ rfl) ⟨by omega, by omega⟩ ⟨by omega, by omega⟩ (n := 1) (k := 1) ?_
    generalize R.set a.toNat (IntKind.wrap .i64 (rd (τ := .int .i64) R b + m)) = R1 at *
    obtain ⟨bs, hb1, hb2, hld⟩ := stack_load (F := F1) f k hfr (by omega)
    have htk := impl_take_val ((pg F1 bs).extract (32960 - f + 8 * k - bs).toNat ((32960 - f + 8 * k - bs).toNat + 8)) (by rw [ByteArray.size_extract, pg_size]; omega)
    rw [htk] at hld
    obtain ⟨w, hw1, hw2⟩ := sign64 (IntKind.wrap .i64 (leN ((pg F1 bs).extract (32960 - f + 8 * k - bs).toNat ((32960 - f + 8 * k - bs).toNat + 8)) 0 ((pg F1 bs).extract (32960 - f + 8 * k - bs).toNat ((32960 - f + 8 * k - bs).toNat + 8)).size))
    have hadr1 : IntKind.wrap .i64 (rd (τ := .int .i64) R1 2 + 8 * k) = 32960 - f + 8 * k := by rw [h2.p, w64 (by omega) (by omega)]
    have he3 := exec_ld (R := R1) (8192 + 4 * ((i + 1 + 1 : Nat) : Int)) (memF F1 K4) (memF_len F1) (d := c) (i := 8 * k) ⟨by omega, by omega⟩ (by rw [hadr1]; exact hld) hw1
    exact go_one h2 hl hr (i + 1 + 1) (hh 2 _ rfl) he3 (.refl (h2.set c w ⟨by omega, by omega⟩ (by omega) hw2) (i + 1 + 1 + 1) 0)
  | out =>
    refine (go_addi h hl hr i (hh 0 _ rfl) (by decide) (by decide) (n := 1) (k := 1) ?_).mono (by simp)
    have h1 := h.set 17 (IntKind.wrap .i64 (rd (τ := .int .i64) R 0 + 3)) (by decide) (by decide) (i64w _)
    exact go_ecall h1 hl hr (i + 1) (hh 1 _ rfl) (.refl h1 (i + 1 + 1) 0)
  | skip n a b m hn ha hb hi =>
    have := ha.more; have := hb.more
    have hil := get_lt (hh 1 _ rfl)
    obtain ⟨t, ht, he⟩ := exec_branch (R := R) (8192 + 4 * (i : Int)) (memF F K4) (memF_len F) (n := n) (a := a) (b := b) (i := 8) hn ⟨by omega, by omega⟩ ⟨by omega, by omega⟩
    cases t with
    | true =>
      rw [if_pos rfl, w64 (by omega) (by omega), show 8192 + 4 * (i : Int) + 8 = 8192 + 4 * ((i : Int) + 2) by omega] at he
      exact ⟨R, F, 1, by simp, h, rn_of h.m hl hr h.r i (hh 0 _ rfl) he⟩
    | false =>
      rw [if_neg (by decide)] at he
      refine (go_one h hl hr i (hh 0 _ rfl) he (n := 1) (k := 1) ?_).mono (by simp)
      exact go_addi h hl hr (i + 1) (hh 1 _ rfl) ⟨by omega, by omega⟩ ⟨by omega, by omega⟩ (.refl (h.set a _ ⟨by omega, by omega⟩ (by omega) (i64w _)) (i + 1 + 1) 0)
  | turn k a b m hk ha hb hi =>
    have hw : IntKind.wrap .i64 (rd (τ := .int .i64) R 0 + k) = k := by rw [h.r.z, w64 (by omega) (by omega)]; omega
    have h1 := h.set 9 k (by decide) (by decide) ⟨by omega, by omega⟩
    have s1 := rn_next h.m hl hr h.r i (hh 0 _ rfl) (exec_addi _ _ (memF_len F) (d := 9) (a := 0) (by decide) (by decide))
    rw [hw] at s1
    have h9 : rd (τ := .int .i64) (R.set (9 : Int).toNat k) 9 = ((k.toNat : Nat) : Int) := by rw [rdR_set R 9 k h.r.n (by decide) 9 (by decide), if_pos rfl]; exact (Int.toNat_of_nonneg (by omega)).symm
    obtain ⟨R', n, hn, hB, hs⟩ := go_turn hl hr i ha hb (hh 1 _ rfl) (hh 2 _ rfl) (hh 3 _ rfl) k.toNat _ (by omega) (by omega) h1 h9
    exact ⟨R', F, 1 + n, by simp; omega, hB, s1.trans hs⟩
  | sys v x y hv hx hy =>
    refine (go_addi h hl hr i (hh 0 _ rfl) (by decide) (by decide) (n := 3) (k := 3) ?_).mono (by simp)
    have h1 := h.set 17 (IntKind.wrap .i64 (rd (τ := .int .i64) R 0 + v)) (by decide) (by decide) (i64w _)
    refine go_addi h1 hl hr (i + 1) (hh 1 _ rfl) (by decide) (by decide) (n := 2) (k := 2) ?_
    have h2 := h1.set 10 (IntKind.wrap .i64 (rd (τ := .int .i64) (R.set (17 : Int).toNat (IntKind.wrap .i64 (rd (τ := .int .i64) R 0 + v))) 0 + x)) (by decide) (by decide) (i64w _)
    generalize (R.set (17 : Int).toNat (IntKind.wrap .i64 (rd (τ := .int .i64) R 0 + v))) = R1 at *
    refine go_addi h2 hl hr (i + 1 + 1) (hh 2 _ rfl) (by decide) (by decide) (n := 1) (k := 1) ?_
    have h3 := h2.set 11 (IntKind.wrap .i64 (rd (τ := .int .i64) (R1.set (10 : Int).toNat (IntKind.wrap .i64 (rd (τ := .int .i64) R1 0 + x))) 0 + y)) (by decide) (by decide) (i64w _)
    exact go_ecall h3 hl hr (i + 1 + 1 + 1) (hh 3 _ rfl) (.refl h3 (i + 1 + 1 + 1 + 1) 0)
theorem go_body {l : List Ins} {G : Int → Int} {f : Int} (hf : FrmP f) (hl : l.length ≤ 64) (hr : ∀ x ∈ l, rightV x = true) {s : Int} {b : List Ins} (hb : Dpcs f (fun _ _ => False) (fun _ => False) s b) : ∀ (i : Nat) (R : List Int) (F : Int → Int), Has l i b → BI l G (32960 - f) R F → Goes l G (32960 - f) R F i b.length (4 * b.length) := by
  induction hb with
  | nil s => intro i R F _ h; exact .refl h i 0
  | cons s p q hp _ ih =>
    intro i R F hh h
    have hh1 : Has l i p := fun j x hx => hh j x (by rw [List.getElem?_append_left (get_lt hx)]; exact hx)
    have hh2 : Has l (i + p.length) q := fun j x hx => by
      have := hh (p.length + j) x (by rw [List.getElem?_append_right (by omega), Nat.add_sub_cancel_left]; exact hx)
      rw [Nat.add_assoc]; exact this
    obtain ⟨R1, F1, m, hm, h1, g1⟩ := go_piece hf hl hr hp i hh1 R F h
    obtain ⟨R2, F2, n, hn, h2, g2⟩ := ih (i + p.length) R1 F1 hh2 h1
    rw [show ((i + p.length : Nat) : Int) = (i : Int) + (p.length : Int) by omega] at g2
    refine ⟨R2, F2, m + n, by rw [List.length_append]; omega, h2, ?_⟩
    rw [List.length_append, show (i : Int) + ((p.length + q.length : Nat) : Int) = (i : Int) + (p.length : Int) + (q.length : Int) by omega]
    exact g1.trans g2
theorem ra_take : impl_takeLittle (bytesOf (leB 12288 8)) = some 12288 := by
  rw [impl_take_val _ (by rw [bytesOf_size, leB_length]; decide)]
  decide +kernel
/-- The whole function, from its entry to where it returns. -/
theorem go_all {G F : Int → Int} {f : Int} (hf : FrmP f) {b : List Ins} (hb : Dpcs f (fun _ _ => False) (fun _ => False) 2 b) (hbl : b.length ≤ 51) (hm : KS (funL f b) G F) {R : List Int} (hR : RegsP R) (h1 : rd (τ := .int .i64) R 1 = 12288) (h2 : rd (τ := .int .i64) R 2 = 32960) :
    ∃ (R' : List Int) (F' : Int → Int) (n : Nat), n ≤ 300 ∧ RegsP R' ∧ rd (τ := .int .i64) R' 1 = 12288 ∧ rd (τ := .int .i64) R' 2 = 32960 ∧ KS (funL f b) G F' ∧ Rn R F 0 R' F' 1024 n := by
  have hfr := hf.range
  have hlen := funL_length f b
  have hl : (funL f b).length ≤ 64 := by omega
  have hr := funL_right (fun _ h => h.elim) (fun _ _ h => h.elim) hf hb
  have hx : ∀ (i : Nat) (x : Ins), (proL f ++ b ++ epiL f)[i]? = some x → (funL f b)[i]? = some x := fun _ _ h => h
  have x0 : (funL f b)[0]? = some (22, 2, 2, 0, 0 - f) := hx 0 _ rfl
  have x1 : (funL f b)[1]? = some (21, 0, 2, 1, f - 8) := hx 1 _ rfl
  have xb : Has (funL f b) 2 b := fun j x hj => by
    refine hx _ _ ?_
    rw [List.append_assoc, List.getElem?_append_right (by simp [proL]), List.getElem?_append_left (by have := get_lt hj; simp only [proL, List.length_cons, List.length_nil]; omega)]
    simp only [proL, List.length_cons, List.length_nil]
    rw [show 2 + j - (0 + 1 + 1) = j by omega]; exact hj
  have e2 : (funL f b)[b.length + 2]? = some (14, 1, 2, 0, f - 8) ∧ (funL f b)[b.length + 2 + 1]? = some (22, 2, 2, 0, f) ∧ (funL f b)[b.length + 2 + 1 + 1]? = some (4, 0, 1, 0, 0) := by
    refine ⟨?_, ?_, ?_⟩ <;> simp [funL, proL, epiL]
  -- the prologue
  have s0 := rn_next hm hl hr hR 0 x0 (exec_addi _ _ (memF_len F) (d := 2) (a := 2) (by decide) (by decide))
  have w0 : IntKind.wrap .i64 (rd (τ := .int .i64) R 2 + (0 - f)) = 32960 - f := by rw [h2, w64 (by omega) (by omega)]; omega
  rw [w0] at s0
  have hR1 := hR.set 2 (32960 - f) (by decide) ⟨by omega, by omega⟩
  have p1 : rd (τ := .int .i64) (R.set (2 : Int).toNat (32960 - f)) 2 = 32960 - f := by rw [rdR_set R 2 _ hR.n (by decide) 2 (by decide), if_pos rfl]
  have q1 : rd (τ := .int .i64) (R.set (2 : Int).toNat (32960 - f)) 1 = 12288 := by rw [rdR_set R 2 _ hR.n (by decide) 1 (by decide), if_neg (by decide)]; exact h1
  generalize R.set (2 : Int).toNat (32960 - f) = R1 at *
  obtain ⟨kf, hkf⟩ : ∃ kf : Int, f - 8 = 8 * kf := ⟨(f - 8) / 8, by omega⟩
  have ea : 32960 - f + 8 * kf = 32952 := by omega
  have hst := stack_store hm.r f kf 12288 hfr (by omega)
  rw [ea] at hst
  have wa : IntKind.wrap .i64 (rd (τ := .int .i64) R1 2 + (f - 8)) = 32952 := by rw [p1, w64 (by omega) (by omega)]; omega
  have s1 := rn_next hm hl hr hR1 1 x1 (exec_sd (R := R1) _ (memF F K4) (b := 1) (i := f - 8) (by decide) _ (by rw [wa, q1]; exact hst))
  have hts : (bytesOf (leB 12288 8)).size = 8 := by rw [bytesOf_size, leB_length]
  have hm1 : KS (funL f b) G (updF F 32952 (bytesOf (leB 12288 8))) := hm.store hl _ _ (by decide) (by rw [hts]; decide)
  have hs1 : At (updF F 32952 (bytesOf (leB 12288 8))) 32952 (leB 12288 8) := At.self 32952 (leB 12288 8) (leB_range 8 12288)
  generalize updF F 32952 (bytesOf (leB 12288 8)) = F1 at *
  -- the body
  obtain ⟨R2, F2, n, hn, hB, g2⟩ := go_body hf hl hr hb 2 R1 F1 xb ⟨hm1, hR1, p1, hs1⟩
  -- the epilogue
  have hB' := hB
  obtain ⟨m2, r2, p2, a2⟩ := hB
  obtain ⟨bs, hb1, hb2, hld⟩ := stack_load (F := F2) f kf hfr (by omega)
  rw [ea] at hb1 hb2 hld
  have hex := a2.extract m2.r (leB_range 8 12288) (b := bs) hb1 (by rw [leB_length]; omega)
  rw [leB_length] at hex
  rw [hex, ra_take] at hld
  have wb : IntKind.wrap .i64 (rd (τ := .int .i64) R2 2 + (f - 8)) = 32952 := by rw [p2, w64 (by omega) (by omega)]; omega
  have sg : impl_signOf 12288 64 = some 12288 := by rw [signOf_val 12288 64 (by decide) (by decide)]; decide +kernel
  have s3 := rn_next m2 hl hr r2 (b.length + 2) e2.1 (exec_ld (R := R2) _ (memF F2 K4) (memF_len F2) (d := 1) (i := f - 8) (by decide) (by rw [wb]; exact hld) sg)
  have r3 := r2.set 1 12288 (by decide) ⟨by decide, by decide⟩
  have p3 : rd (τ := .int .i64) (R2.set (1 : Int).toNat 12288) 2 = 32960 - f := by rw [rdR_set R2 1 _ r2.n (by decide) 2 (by decide), if_neg (by decide)]; exact p2
  have q3 : rd (τ := .int .i64) (R2.set (1 : Int).toNat 12288) 1 = 12288 := by rw [rdR_set R2 1 _ r2.n (by decide) 1 (by decide), if_pos rfl]
  generalize R2.set (1 : Int).toNat 12288 = R3 at *
  have s4 := rn_next m2 hl hr r3 (b.length + 2 + 1) e2.2.1 (exec_addi _ _ (memF_len F2) (d := 2) (a := 2) (by decide) (by decide))
  have w4 : IntKind.wrap .i64 (rd (τ := .int .i64) R3 2 + f) = 32960 := by rw [p3, w64 (by omega) (by omega)]; omega
  rw [w4] at s4
  have r4 := r3.set 2 32960 (by decide) ⟨by decide, by decide⟩
  have p4 : rd (τ := .int .i64) (R3.set (2 : Int).toNat 32960) 2 = 32960 := by rw [rdR_set R3 2 _ r3.n (by decide) 2 (by decide), if_pos rfl]
  have q4 : rd (τ := .int .i64) (R3.set (2 : Int).toNat 32960) 1 = 12288 := by rw [rdR_set R3 2 _ r3.n (by decide) 1 (by decide), if_neg (by decide)]; exact q3
  generalize R3.set (2 : Int).toNat 32960 = R4 at *
  have he5 := exec_ret (R := R4) (8192 + 4 * ((b.length + 2 + 1 + 1 : Nat) : Int)) (memF F2 K4) (memF_len F2)
  rw [q4, show andNotI .i64 (IntKind.wrap .i64 (12288 + 0)) 1 = 8192 + 4 * 1024 by decide +kernel] at he5
  have s5 := rn_of m2 hl hr r4 (b.length + 2 + 1 + 1) e2.2.2 he5
  refine ⟨R4, F2, 1 + 1 + n + 1 + 1 + 1, by omega, r4, q4, p4, m2, ?_⟩
  have c1 : ((b.length + 2 : Nat) : Int) = 2 + (b.length : Int) := by omega
  have c2 : ((b.length + 2 + 1 : Nat) : Int) = 2 + (b.length : Int) + 1 := by omega
  have c3 : ((b.length + 2 + 1 + 1 : Nat) : Int) = 2 + (b.length : Int) + 1 + 1 := by omega
  rw [c1] at s3; rw [c2] at s4; rw [c3] at s5
  exact ((((s0.trans s1).trans g2).trans s3).trans s4).trans s5
theorem word_ok {K : Nat} {s : Src} (h : SrcOK (K + 4) s) : ∃ (v : Int) (t : Src), spec_l00Src_word s = some (v, t) ∧ 0 ≤ v ∧ v < 4294967296 ∧ SrcOK K t := by
  obtain ⟨a, s1, e1, a0, a1, h1⟩ := byte_ok (h.mono (show K + 3 + 1 ≤ K + 4 by omega))
  obtain ⟨b, s2, e2, b0, b1, h2⟩ := byte_ok (h1.mono (show K + 2 + 1 ≤ K + 3 by omega))
  obtain ⟨c, s3, e3, c0, c1, h3⟩ := byte_ok (h2.mono (show K + 1 + 1 ≤ K + 2 by omega))
  obtain ⟨d, s4, e4, d0, d1, h4⟩ := byte_ok (h3.mono (show K + 1 ≤ K + 1 by omega))
  rw [spec_l00Src_word_eq, e1]; simp only [Option.bind_some]
  rw [e2]; simp only [Option.bind_some]
  rw [e3]; simp only [Option.bind_some]
  rw [e4]; simp only [Option.bind_some]
  rw [w64 (n := 256 * b) (by omega) (by omega), w64 (n := a + 256 * b) (by omega) (by omega), w64 (n := 65536 * c) (by omega) (by omega), w64 (n := a + 256 * b + 65536 * c) (by omega) (by omega), w64 (n := 16777216 * d) (by omega) (by omega), w64 (n := a + 256 * b + 65536 * c + 16777216 * d) (by omega) (by omega)]
  exact ⟨_, _, rfl, by omega, by omega, h4⟩
theorem odd_ok {K : Nat} {s : Src} (h : SrcOK (K + 3) s) : ∃ (v : Int) (t : Src), spec_l00Src_odd s = some (v, t) ∧ I64 v ∧ SrcOK K t := by
  obtain ⟨v, t, e, v0, v1, _, ht⟩ := next_ok h 14
  have v1 := v1 (by decide)
  rw [spec_l00Src_odd_eq, e]
  simp only [Option.bind_some]
  rw [inL_true v0 (by simp; omega)]
  refine ⟨_, t, rfl, ?_, ht⟩
  have : v = 0 ∨ v = 1 ∨ v = 2 ∨ v = 3 ∨ v = 4 ∨ v = 5 ∨ v = 6 ∨ v = 7 ∨ v = 8 ∨ v = 9 ∨ v = 10 ∨ v = 11 ∨ v = 12 ∨ v = 13 := by omega
  rcases this with rfl | rfl | rfl | rfl | rfl | rfl | rfl | rfl | rfl | rfl | rfl | rfl | rfl | rfl <;> exact ⟨by decide, by decide⟩
theorem wide_ok {K : Nat} {s : Src} (h : SrcOK (K + 11) s) : ∃ (v : Int) (t : Src), spec_l00Src_wide s = some (v, t) ∧ I64 v ∧ SrcOK K t := by
  obtain ⟨v, s1, e, v0, v1, _, h1⟩ := next_ok (h.mono (show K + 8 + 3 ≤ K + 11 by omega)) 7
  have v1 := v1 (by decide)
  rw [spec_l00Src_wide_eq, e]
  simp only [Option.bind_some]
  by_cases c0 : v = 0
  · obtain ⟨a, s2, e2, _, _, h2⟩ := word_ok (h1.mono (show K + 4 + 4 ≤ K + 8 by omega))
    obtain ⟨b, s3, e3, _, _, h3⟩ := word_ok h2
    rw [decide_eq_true c0, e2]
    simp only [cond_true, Option.bind_some]
    rw [e3]
    exact ⟨_, _, rfl, ori_i64 _ _, h3⟩
  rw [decide_eq_false c0]
  by_cases c1 : v = 1
  · obtain ⟨a, s2, e2, a1, h2⟩ := odd_ok (h1.mono (show K + 3 ≤ K + 8 by omega))
    rw [decide_eq_true c1, e2]
    exact ⟨_, _, rfl, a1, h2⟩
  rw [decide_eq_false c1]
  by_cases c2 : v = 2
  · obtain ⟨a, s2, e2, _, _, _, h2⟩ := next_ok (h1.mono (show K + 3 ≤ K + 8 by omega)) 300
    rw [decide_eq_true c2, e2]
    exact ⟨_, _, rfl, i64w _, h2⟩
  rw [decide_eq_false c2]
  by_cases c3 : v = 3
  · obtain ⟨a, s2, e2, _, _, h2⟩ := word_ok (h1.mono (show K + 4 ≤ K + 8 by omega))
    rw [decide_eq_true c3, e2]
    exact ⟨_, _, rfl, i64w _, h2.mono (by omega)⟩
  rw [decide_eq_false c3]
  by_cases c4 : v = 4
  · obtain ⟨a, s2, e2, _, _, _, h2⟩ := next_ok (h1.mono (show K + 3 ≤ K + 8 by omega)) 64
    rw [decide_eq_true c4, e2]
    simp only [cond_false, cond_true, Option.bind_some]
    rw [decide_eq_false (show ¬ IntKind.wrap .u64 a < 0 by have := u64_nonneg a; omega)]
    exact ⟨_, _, rfl, shli_i64 _ _, h2⟩
  rw [decide_eq_false c4]
  obtain ⟨a, s2, e2, a0, a1, _, h2⟩ := next_ok (h1.mono (show K + 3 ≤ K + 8 by omega)) 300
  have a1 := a1 (by decide)
  rw [e2]
  exact ⟨_, _, rfl, ⟨by omega, by omega⟩, h2⟩
def zeros32 : List Int := [0, 0, 0, 0, 0, 0, 0, 0, 0, 0, 0, 0, 0, 0, 0, 0, 0, 0, 0, 0, 0, 0, 0, 0, 0, 0, 0, 0, 0, 0, 0, 0]
theorem zeros_regs : RegsP zeros32 := ⟨rfl, fun x hx => by
  have : x = 0 := by simpa [zeros32] using hx
  rw [this]; exact i640, rfl⟩
theorem hart_ok (a : List Int) (hb : BytP a) (hn : a.length ≤ 1048576) : ∃ h : List Int × Int, spec_HartDrawn a = some h ∧ RegsP h.1 := by
  obtain ⟨s, e, hs⟩ := source_ok a hb hn
  rw [spec_HartDrawn_eq, e]
  simp only [Option.bind_some, optC]
  rw [spec_l00Src_hart_eq]
  obtain ⟨v, s1, e1, v0, v1, _, h1⟩ := next_ok (K := 1000) (hs.mono (by decide)) 64
  obtain ⟨w, s2, e2, w0, w1, _, h2⟩ := next_ok (K := 900) (h1.mono (by decide)) 17
  have v1 := v1 (by decide); have w1 := w1 (by decide)
  rw [e1]; simp only [Option.bind_some]
  rw [e2]; simp only [Option.bind_some]
  rw [spec_NewHart_eq, w64 (n := 16 * w) (by omega) (by omega), w64 (n := 32768 + 16 * w) (by omega) (by omega)]
  have hz := zeros_regs.set 2 (32768 + 16 * w) (by decide) ⟨by omega, by omega⟩
  generalize IntKind.wrap .i64 (4096 + IntKind.wrap .i64 (4 * v)) = pc
  have key : ∀ (k : Nat) (i : Int) (s : Src) (R : List Int), 1 ≤ i → i + (k : Int) = 32 → SrcOK (20 * k) s → RegsP R → ∃ (h : List Int × Int) (t : Src), spec_l00Src_hart.l11010 s (zeros32, 0) (R, pc) i = some (h, t) ∧ RegsP h.1 := by
    intro k
    induction k with
    | zero =>
      intro i s R h1 h2 _ hR
      rw [spec_l00Src_hart.l11010_eq, decide_eq_false (show ¬ i < 32 by omega)]
      exact ⟨_, _, rfl, hR⟩
    | succ k ih =>
      intro i s R h1 h2 hs hR
      rw [spec_l00Src_hart.l11010_eq, decide_eq_true (show i < 32 by omega), w64 (n := i + 1) (by omega) (by omega)]
      simp only [cond_true]
      by_cases i2 : i = 2
      · rw [decide_eq_true i2]
        exact ih (i + 1) s R (by omega) (by omega) (hs.mono (by omega)) hR
      · rw [decide_eq_false i2]
        obtain ⟨x, s1, e1, _, _, _, hs1⟩ := next_ok (hs.mono (show 20 * k + 17 + 3 ≤ 20 * (k + 1) by omega)) 4
        rw [e1]
        simp only [cond_false, Option.bind_some]
        by_cases c0 : x = 0
        · obtain ⟨y, s2, e2, y0, y1, _, hs2⟩ := next_ok (hs1.mono (show 20 * k + 14 + 3 ≤ 20 * k + 17 by omega)) 34
          have y1 := y1 (by decide)
          rw [decide_eq_true c0, e2]
          simp only [cond_true, Option.bind_some]
          rw [inL_true (by omega) (by omega), w64 (n := 8 * y) (by omega) (by omega), w64 (n := 16384 + 8 * y) (by omega) (by omega)]
          exact ih (i + 1) s2 _ (by omega) (by omega) (hs2.mono (by omega)) (hR.set i _ ⟨h1, by omega⟩ ⟨by omega, by omega⟩)
        · rw [decide_eq_false c0]
          by_cases c1 : x = 1
          · obtain ⟨y, s2, e2, y1, hs2⟩ := wide_ok (hs1.mono (show 20 * k + 6 + 11 ≤ 20 * k + 17 by omega))
            rw [decide_eq_true c1, e2]
            simp only [cond_true, cond_false, Option.bind_some]
            rw [inL_true (by omega) (by omega)]
            exact ih (i + 1) s2 _ (by omega) (by omega) (hs2.mono (by omega)) (hR.set i _ ⟨h1, by omega⟩ y1)
          · rw [decide_eq_false c1]
            by_cases c2 : x = 2
            · obtain ⟨y, s2, e2, y0, y1, _, hs2⟩ := next_ok (hs1.mono (show 20 * k + 14 + 3 ≤ 20 * k + 17 by omega)) 30
              have y1 := y1 (by decide)
              rw [decide_eq_true c2, e2]
              simp only [cond_true, cond_false, Option.bind_some]
              rw [inL_true (by omega) (by omega)]
              exact ih (i + 1) s2 _ (by omega) (by omega) (hs2.mono (by omega)) (hR.set i _ ⟨h1, by omega⟩ ⟨by omega, by omega⟩)
            · rw [decide_eq_false c2]
              exact ih (i + 1) s1 R (by omega) (by omega) (hs1.mono (by omega)) hR
  obtain ⟨h, t, e3, hR⟩ := key 31 1 s2 _ (by decide) (by decide) (h2.mono (by decide)) hz
  refine ⟨h, ?_, hR⟩
  have e3' : spec_l00Src_hart.l11010 s2 ([0, 0, 0, 0, 0, 0, 0, 0, 0, 0, 0, 0, 0, 0, 0, 0, 0, 0, 0, 0, 0, 0, 0, 0, 0, 0, 0, 0, 0, 0, 0, 0], 0) (zeros32.set (2 : Int).toNat (32768 + 16 * w), pc) 1 = some (h, t) := e3
  rw [inL_true (i := 2) (by decide) (by decide)]
  show ((spec_l00Src_hart.l11010 s2 ([0, 0, 0, 0, 0, 0, 0, 0, 0, 0, 0, 0, 0, 0, 0, 0, 0, 0, 0, 0, 0, 0, 0, 0, 0, 0, 0, 0, 0, 0, 0, 0], 0) (zeros32.set (2 : Int).toNat (32768 + 16 * w), pc) 1).bind fun r3 => some r3.1) = _
  rw [e3']; rfl
theorem some_ok {K : Nat} {s : Src} (n : Nat) (hn : n ≤ 1000) (h : SrcOK (K + n) s) : ∃ (t : ByteArray) (s' : Src), spec_l00Src_some s (n : Int) = some (t, s') ∧ t.size = n ∧ SrcOK K s' := by
  rw [spec_l00Src_some_eq]
  have key : ∀ (k i : Nat) (s : Src) (xs : List Int), i + k = n → xs.length = i → SrcOK (K + k) s → ∃ (t : ByteArray) (s' : Src), spec_l00Src_some.l11010 s (n : Int) xs (i : Int) = some (t, s') ∧ t.size = n ∧ SrcOK K s' := by
    intro k
    induction k with
    | zero =>
      intro i s xs h1 h2 hs
      have : i = n := by omega
      subst this
      rw [spec_l00Src_some.l11010_eq, lt_nat, decide_eq_false (Nat.lt_irrefl _)]
      exact ⟨_, _, rfl, by rw [bytesOf_size]; exact h2, hs⟩
    | succ k ih =>
      intro i s xs h1 h2 hs
      obtain ⟨v, s1, e, _, _, hs1⟩ := byte_ok (hs.mono (show K + k + 1 ≤ K + (k + 1) by omega))
      rw [spec_l00Src_some.l11010_eq, lt_nat, decide_eq_true (show i < n by omega), e]
      simp only [cond_true, Option.bind_some]
      rw [room_le (by simp; omega) (by simp; omega), w64_succ i n (by omega) (by omega)]
      exact ih (i + 1) s1 _ (by omega) (by simp; exact h2) hs1
  exact key n 0 s [] (by omega) rfl h
theorem text_ok (a : List Int) (hb : BytP a) (hn : a.length ≤ 1048576) (n : Nat) (hn2 : n ≤ 1000) : ∃ t, spec_TextOf a (n : Int) = some t ∧ t.size = n := by
  obtain ⟨s, e, hs⟩ := source_ok a hb hn
  obtain ⟨t, s', e2, ht, _⟩ := some_ok (K := 0) n hn2 (hs.mono (by omega))
  rw [spec_TextOf_eq, e]
  simp only [Option.bind_some, optC]
  rw [e2]
  exact ⟨t, rfl, ht⟩
def G0 : Int → Int := fun _ => 0
theorem G0_r : FR G0 := fun _ => ⟨Int.le_refl 0, by show (0 : Int) ≤ 255; decide⟩
theorem add_page (L : List (Int × Int)) (b p : Int) (h1 : lOK L = true) (h2 : BasesR L) (h3 : baseV b = true) (h4 : inR p 0 15 = true) (h5 : pageAt L b = -1) (h6 : L.length < 64) (h7 : ∀ q ∈ L, q.1 < b) (hm : MidA b) : impl_AddPage (memF G0 L) b p = some (memF G0 (L ++ [(b, p)]), 0) := by
  have hml : (memF G0 L).length = L.length := by simp [memF]
  rw [impl_AddPage_eq, memory_i, memV_memF, h1, base_i, h3, perm_i, h4, impl_page G0 L h2 b hm, h5, impl_add (F := G0) L h6 b p h7 (fun _ _ _ => rfl), hml]
  simp only [Option.bind_some, joinB, Bool.not_true, cond_false, show decide ((-1 : Int) ≥ 0) = false from rfl]
  rw [decide_eq_false (show ¬ (L.length : Int) = 64 by omega)]
  rfl
theorem getV_congr {F G : Int → Int} {a : Int} {n : Nat} (h : ∀ x, a ≤ x → x < a + (n : Int) → F x = G x) : getV F a n = getV G a n := by
  unfold getV
  rw [mapB_congr n 0 fun j _ hj => h (a + (j : Int)) (by omega) (by omega)]
theorem keep_law (a0 a1 : List Int) (h0 : BytP a0) (h1 : BytP a1) : laws_FnKeep a0 a1 = some true := by
  rw [laws_FnKeep_eq]
  simp only [joinB]
  by_cases c0 : (a0.length : Int) > 1048576
  · rw [decide_eq_true c0]; rfl
  rw [decide_eq_false c0]
  simp only [cond_false]
  by_cases c1 : (a1.length : Int) > 1048576
  · rw [decide_eq_true c1]; rfl
  rw [decide_eq_false c1]
  simp only [cond_false]
  obtain ⟨f, ef, hf⟩ := frameDrawn_ok a1 h1 (by omega)
  have hfr := hf.range
  obtain ⟨b, eb, hp, hbl, hb1⟩ := bodyDrawn_ok a0 h0 (by omega) hf
  rw [ef]; simp only [Option.bind_some]
  rw [impl_pro hf]; simp only [Option.bind_some]
  rw [impl_epi hf]; simp only [Option.bind_some]
  rw [eb]; simp only [Option.bind_some]
  have hL : (proL f ++ b) ++ epiL f = funL f b := rfl
  have hlen := funL_length f b
  have hright := funL_right (fun _ h => h.elim) (fun _ _ h => h.elim) hf hp
  rw [room_le (by simp [proL]) (by simp [proL]), room_le (by simp [proL]; omega) (by simp [proL]; omega), room_le (by simp [proL, epiL]; omega) (by simp [proL, epiL]; omega), hL]
  simp only [cond_true]
  rw [words_val _ (by omega) hright]
  simp only [Option.bind_some]
  -- the pages
  have step : ∀ (L : List (Int × Int)) (i q p : Int), i < 4 ∧ 0 ≤ i → rd (τ := .int .i64) [8192, 8320, 32768, 32896] i = q → rd (τ := .int .i64) [4, 4, 11, 11] i = p → impl_AddPage (memF G0 L) q p = some (memF G0 (L ++ [(q, p)]), 0) → laws_FnKeep.l111111111010 a1 (codeOf (funL f b)) (memF G0 L) i = laws_FnKeep.l111111111010 a1 (codeOf (funL f b)) (memF G0 (L ++ [(q, p)])) (i + 1) := by
    intro L i q p hi e1 e2 e3
    rw [laws_FnKeep.l111111111010_eq, decide_eq_true hi.1, w64 (n := i + 1) (by omega) (by omega)]
    have hin : ∀ (l : List Nat), l.length = 4 → inL i l.length = true := fun l h => by rw [h]; exact inL_true hi.2 hi.1
    rw [e1, e2, e3]
    simp only [cond_true, Option.bind_some]
    rw [hin _ rfl, hin _ rfl]
    rfl
  have s0 := step [] 0 8192 4 (by decide) rfl rfl (add_page [] 8192 4 (by decide +kernel) ⟨by decide, by decide⟩ (by decide +kernel) (by decide +kernel) (by decide +kernel) (by decide) (by decide) ⟨by decide, by decide⟩)
  have s1 := step [(8192, 4)] 1 8320 4 (by decide) rfl rfl (add_page [(8192, 4)] 8320 4 (by decide +kernel) ⟨by decide, by decide⟩ (by decide +kernel) (by decide +kernel) (by decide +kernel) (by decide) (by decide) ⟨by decide, by decide⟩)
  have s2 := step [(8192, 4), (8320, 4)] 2 32768 11 (by decide) rfl rfl (add_page [(8192, 4), (8320, 4)] 32768 11 (by decide +kernel) ⟨by decide, by decide⟩ (by decide +kernel) (by decide +kernel) (by decide +kernel) (by decide) (by decide) ⟨by decide, by decide⟩)
  have s3 := step [(8192, 4), (8320, 4), (32768, 11)] 3 32896 11 (by decide) rfl rfl (add_page [(8192, 4), (8320, 4), (32768, 11)] 32896 11 (by decide +kernel) ⟨by decide, by decide⟩ (by decide +kernel) (by decide +kernel) (by decide +kernel) (by decide) (by decide) ⟨by decide, by decide⟩)
  have s : laws_FnKeep.l111111111010 a1 (codeOf (funL f b)) [] 0 = laws_FnKeep.l111111111010 a1 (codeOf (funL f b)) (memF G0 K4) 4 := ((s0.trans s1).trans s2).trans s3
  rw [s, laws_FnKeep.l111111111010_eq, show decide ((4 : Int) < 4) = false from rfl]
  simp only [cond_false]
  have hcs : (codeOf (funL f b)).size = 4 * (b.length + 5) := by rw [codeOf_size, hlen]
  rw [put_bytes G0_r K4 K4_bases K4_ok 8192 (codeOf (funL f b)) (by omega) (by decide) (by decide) (fun x hx hx' => by
    rw [page_K4]
    by_cases hq : x ≤ 8319
    · rw [if_pos (by omega)]; decide
    · rw [if_neg (by omega), if_pos (by omega)]; decide)]
  simp only [Option.bind_some]
  obtain ⟨t, et, ht⟩ := text_ok a1 h1 (by omega) 64 (by decide)
  rw [show ((64 : Nat) : Int) = 64 from rfl] at et
  rw [et]
  simp only [Option.bind_some]
  have hr1 := updF_range G0_r 8192 (codeOf (funL f b))
  have hcode1 : At (updF G0 8192 (codeOf (funL f b))) 8192 (codeL (funL f b)) := At.self 8192 _ (by
    have : ∀ (l : List Ins), ∀ x ∈ codeL l, 0 ≤ x ∧ x ≤ 255 := by
      intro l
      induction l with
      | nil => intro x hx; cases hx
      | cons y l ih =>
        intro x hx
        rcases List.mem_append.1 hx with h | h
        · exact wordL_range y x h
        · exact ih x h
    exact this _)
  generalize updF G0 8192 (codeOf (funL f b)) = F1 at *
  have hup : ∀ x, 32960 ≤ x → x < 33024 → 0 ≤ pageAt K4 x := fun x hx hx' => by
    rw [page_K4, if_neg (by omega), if_neg (by omega), if_neg (by omega), if_pos (by omega)]; decide
  rw [put_bytes hr1 K4 K4_bases K4_ok 32960 t (by omega) (by decide) (by decide) (fun x hx hx' => hup x hx (by omega))]
  simp only [Option.bind_some]
  have hr2 := updF_range hr1 32960 t
  have hcode2 : At (updF F1 32960 t) 8192 (codeL (funL f b)) := hcode1.upd t (.inl (by rw [codeL_length]; omega))
  generalize updF F1 32960 t = F2 at *
  have hg := get_bytes hr2 K4 K4_bases K4_ok 32960 64 (by decide) (by decide) (by decide) (fun x hx hx' => hup x hx (by omega))
  rw [show ((64 : Nat) : Int) = 64 from rfl] at hg
  rw [hg]
  simp only [Option.bind_some, joinB]
  obtain ⟨⟨R, pc⟩, eh, hR⟩ := hart_ok a1 h1 (by omega)
  rw [eh]
  simp only [Option.bind_some]
  rw [inL_true (i := 1) (by decide) (by decide), inL_true (i := 2) (by decide) (by decide)]
  simp only [cond_true]
  have hR1 := hR.set 1 12288 (by decide) ⟨by decide, by decide⟩
  have hR2 := hR1.set 2 32960 (by decide) ⟨by decide, by decide⟩
  have g2 : rd (τ := .int .i64) ((R.set (1 : Int).toNat 12288).set (2 : Int).toNat 32960) 2 = 32960 := by rw [rdR_set _ 2 _ hR1.n (by decide) 2 (by decide), if_pos rfl]
  have g1 : rd (τ := .int .i64) ((R.set (1 : Int).toNat 12288).set (2 : Int).toNat 32960) 1 = 12288 := by rw [rdR_set _ 2 _ hR1.n (by decide) 1 (by decide), if_neg (by decide), rdR_set R 1 _ hR.n (by decide) 1 (by decide), if_pos rfl]
  obtain ⟨R', F', n, hn, r', q1, q2, hm, hrun⟩ := go_all (G := F2) hf hp hbl ⟨hr2, hcode2, fun _ _ _ => rfl⟩ hR2 g1 g2
  have hlaw := hrun (getV F2 32960 64) 0 (by decide) (by omega)
  rw [show 8192 + 4 * (0 : Int) = 8192 from rfl, show 8192 + 4 * (1024 : Int) = 12288 from rfl] at hlaw
  refine hlaw.trans ?_
  rw [laws_FnKeep.l111111111111111111010_eq, decide_eq_true (show (0 : Int) + (n : Int) < 400 by omega)]
  simp only [joinB, cond_true, cond_false]
  have hg' := get_bytes hm.r K4 K4_bases K4_ok 32960 64 (by decide) (by decide) (by decide) (fun x hx hx' => hup x hx (by omega))
  rw [show ((64 : Nat) : Int) = 64 from rfl] at hg'
  rw [hg', inL_true (i := 2) (by decide) (by decide), inL_true (i := 1) (by decide) (by decide), q1, q2]
  simp only [Option.bind_some, cond_true, decide_true]
  rw [getV_congr (F := F') (G := F2) (fun x hx hx' => hm.up x hx (by omega)), strEq_dec, decide_eq_true rfl]
  rfl
end Go.Proofs.YtfgfhjdgmdccnaaGreat.S
