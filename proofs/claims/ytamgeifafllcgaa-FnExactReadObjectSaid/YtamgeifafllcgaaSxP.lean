/- Pure sides: what the functions come to (numbers and lists alone). -/
import Derived.Test.YtamgeifafllcgaaSxI
import Derived.IntWalk
import Derived.Lib.AtoiAllCases
import Derived.Lib.IndexBytes
import Derived.Lib.IndexLaws
import Derived.Lib.SplitLaws
namespace Go.Proofs.Ytamgeifafllcgaa.S
open Go.Ps
set_option linter.unusedVariables false
set_option maxRecDepth 100000
theorem w64 {n : Int} (h : -9223372036854775808 ≤ n) (h' : n ≤ 9223372036854775807) : IntKind.wrap .i64 n = n := IntWalk.i64_in n ⟨h, h'⟩
theorem isLetter_l00 (n : Int) : impl_isLetter n = spec_l00Letter n := by rw [impl_isLetter_eq, spec_l00Letter_eq]
theorem isDigit_l00 (n : Int) : impl_isDigit n = spec_l00Digit n := by rw [impl_isDigit_eq, spec_l00Digit_eq]
theorem name_loop (t : ByteArray) (ht : t.size ≤ 20) : ∀ (k : Nat) (i : Int), 0 ≤ i → t.size ≤ i.toNat + k → impl_NameOK.l11010 t i = spec_l00Word.l11010 t i := by
  intro k
  induction k with
  | zero =>
    intro i h0 hk
    have : decide (i < (t.size : Int)) = false := by simp; omega
    rw [impl_NameOK.l11010_eq, spec_l00Word.l11010_eq, this]; rfl
  | succ k ih =>
    intro i h0 hk
    rw [impl_NameOK.l11010_eq, spec_l00Word.l11010_eq, isLetter_l00, isDigit_l00]
    by_cases hi : i < (t.size : Int)
    · rw [w64 (n := i + 1) (by omega) (by omega), ih (i + 1) (by omega) (by omega)]
    · rw [show decide (i < (t.size : Int)) = false by simp; omega]; rfl
theorem nameOK (t : ByteArray) : impl_NameOK t = spec_l00Word t := by
  rw [impl_NameOK_eq, spec_l00Word_eq, impl_within_eq]
  by_cases h1 : (t.size : Int) < 1
  · rw [show decide ((1 : Int) ≤ (t.size : Int)) = false by simp; omega, show decide ((t.size : Int) < 1) = true by simp; omega]; rfl
  · rw [show decide ((1 : Int) ≤ (t.size : Int)) = true by simp; omega, show decide ((t.size : Int) < 1) = false by simp; omega]
    by_cases h2 : (t.size : Int) > 20
    · rw [show decide ((t.size : Int) > 20) = true by simp; omega, show decide ((t.size : Int) ≤ 20) = false by simp; omega]; rfl
    · rw [show decide ((t.size : Int) > 20) = false by simp; omega, show decide ((t.size : Int) ≤ 20) = true by simp; omega]
      simp only [cond_true, cond_false, Option.bind_some, Bool.not_true]
      rw [isLetter_l00, name_loop t (by omega) t.size 1 (by omega) (by omega)]
theorem sum_loop (t : ByteArray) (ht : t.size ≤ 1048576) : ∀ (k : Nat) (x i : Int), 0 ≤ i → t.size ≤ i.toNat + k → impl_sumOf.l11010 t x i = spec_l01Sum.l11010 t x i := by
  intro k
  induction k with
  | zero =>
    intro x i h0 hk
    have : decide (i < (t.size : Int)) = false := by simp; omega
    rw [impl_sumOf.l11010_eq, spec_l01Sum.l11010_eq, this]; rfl
  | succ k ih =>
    intro x i h0 hk
    rw [impl_sumOf.l11010_eq, spec_l01Sum.l11010_eq]
    by_cases hi : i < (t.size : Int)
    · rw [w64 (n := i + 1) (by omega) (by omega), ih _ (i + 1) (by omega) (by omega)]
    · rw [show decide (i < (t.size : Int)) = false by simp; omega]; rfl
theorem sumOf (t : ByteArray) (ht : t.size ≤ 1048576) : impl_sumOf t = spec_l01Sum t := by
  rw [impl_sumOf_eq, spec_l01Sum_eq, sum_loop t ht t.size 1 0 (by omega) (by omega)]
theorem bt_range (t : ByteArray) (i : Int) : 0 ≤ bt t i ∧ bt t i ≤ 255 := by
  unfold bt
  have := (t.data.getD i.toNat 0).toNat_lt
  omega
theorem wu64 {n : Int} (h : 0 ≤ n) (h' : n ≤ 18446744073709551615) : IntKind.wrap .u64 n = n := by
  have : IntKind.wrap .u64 n = n % 18446744073709551616 := by simp [IntKind.wrap, IntKind.bits, IntKind.signed]
  rw [this]; omega
/-- The reader of the program and that of the reference. -/
def RTk (p : ByteArray × Bool) (q : ByteArray × Int × Bool) : Prop := 0 ≤ q.2.1 ∧ q.2.1 ≤ (q.1.size : Int) ∧ q.1.size ≤ 65536 ∧ p = (q.1.extract q.2.1.toNat q.1.size, q.2.2)
theorem take_bytes {p : ByteArray × Bool} {q : ByteArray × Int × Bool} {n : Int} (h : RTk p q) (hn : 0 ≤ n) (hn' : n ≤ 4294967296) :
    ∃ o p' q', impl_taker_bytes p n = some (o, p') ∧ spec_l07In_take q n = some (o, q') ∧ RTk p' q' ∧ (q'.2.2 = false → (o.size : Int) = n) ∧ (q'.2.2 = true → o = ⟨#[]⟩) := by
  obtain ⟨t, a, s⟩ := q
  obtain ⟨h0, h1, h2, rfl⟩ := h
  simp only at h0 h1 h2
  have hsz : (t.extract a.toNat t.size).size = t.size - a.toNat := by rw [ByteArray.size_extract]; omega
  rw [impl_taker_bytes_eq, spec_l07In_take_eq]
  simp only [joinB, hsz]
  rw [w64 (n := (t.size : Int) - a) (by omega) (by omega), w64 (n := a + n) (by omega) (by omega), w64 (n := a + n - n) (by omega) (by omega)]
  cases s with
  | true => exact ⟨_, _, _, rfl, rfl, ⟨h0, h1, h2, rfl⟩, (fun h => by cases h), fun _ => rfl⟩
  | false =>
    by_cases hb : n > ((t.size - a.toNat : Nat) : Int)
    · rw [show decide (n > ((t.size - a.toNat : Nat) : Int)) = true by simp; omega, show decide (n > (t.size : Int) - a) = true by simp; omega]
      exact ⟨_, _, _, rfl, rfl, ⟨h0, h1, h2, rfl⟩, (fun h => by cases h), fun _ => rfl⟩
    · rw [show decide (n > ((t.size - a.toNat : Nat) : Int)) = false by simp; omega, show decide (n > (t.size : Int) - a) = false by simp; omega]
      have e1 : n ≤ ((t.size - a.toNat : Nat) : Int) := by omega
      have e2 : 0 ≤ a + n - n := by omega
      have e3 : a + n - n ≤ a + n := by omega
      have e4 : a + n ≤ (t.size : Int) := by omega
      simp only [cond_false, decide_eq_true hn, decide_eq_true e1, decide_eq_true e2, decide_eq_true e3, decide_eq_true e4, decide_eq_true (Int.le_refl ((t.size - a.toNat : Nat) : Int)), Bool.and_self, cond_true]
      have f1 : (t.extract a.toNat t.size).extract (Int.toNat 0) n.toNat = t.extract (a + n - n).toNat (a + n).toNat := by
        rw [ByteArray.extract_extract]
        congr 1
        · have : (Int.toNat 0) = 0 := rfl
          omega
        · omega
      have f2 : (t.extract a.toNat t.size).extract n.toNat (((t.size - a.toNat : Nat) : Int)).toNat = t.extract (a + n).toNat t.size := by
        rw [ByteArray.extract_extract]
        congr 1
        · omega
        · omega
      rw [f1, f2]
      refine ⟨_, _, _, rfl, rfl, ⟨by simp only; omega, by simp only; omega, h2, rfl⟩, fun _ => ?_, fun h => by cases h⟩
      rw [ByteArray.size_extract]; omega
/-- Both come to the same. -/
def Both {α : Type} (x y : Option α) : Prop := ∃ v, x = some v ∧ y = some v
theorem Both.mk {α : Type} (v : α) : Both (some v) (some v) := ⟨v, rfl, rfl⟩
theorem Both.bind {α β : Type} {x y : Option α} {f g : α → Option β} (h : Both x y) (k : ∀ v, x = some v → Both (f v) (g v)) : Both (x.bind f) (y.bind g) := by
  obtain ⟨v, h1, h2⟩ := h
  rw [h1, h2]; exact k v h1
theorem Both.some {α : Type} {x y : Option α} (e : x = y) (h : ∃ v, x = some v) : Both x y := by obtain ⟨v, h⟩ := h; exact ⟨v, h, e ▸ h⟩
theorem some_letter (n : Int) : ∃ v, impl_isLetter n = some v := by
  rw [impl_isLetter_eq]
  cases decide (n ≥ 97) <;> cases decide (n ≤ 122) <;> cases decide (n ≥ 65) <;> cases decide (n ≤ 90) <;> exact ⟨_, rfl⟩
theorem some_digit (n : Int) : ∃ v, impl_isDigit n = some v := by
  rw [impl_isDigit_eq]; cases decide (n ≥ 48) <;> exact ⟨_, rfl⟩
theorem some_name_loop (t : ByteArray) (ht : t.size ≤ 20) : ∀ (k : Nat) (i : Int), 0 ≤ i → t.size ≤ i.toNat + k → ∃ v, impl_NameOK.l11010 t i = some v := by
  intro k
  induction k with
  | zero =>
    intro i h0 hk
    have : decide (i < (t.size : Int)) = false := by simp; omega
    rw [impl_NameOK.l11010_eq, this]; exact ⟨_, rfl⟩
  | succ k ih =>
    intro i h0 hk
    rw [impl_NameOK.l11010_eq]
    by_cases hi : i < (t.size : Int)
    · have e : inL i t.size = true := by simp [inL]; omega
      obtain ⟨v1, h1⟩ := some_letter (bt t i)
      obtain ⟨v2, h2⟩ := some_digit (bt t i)
      obtain ⟨v3, h3⟩ := ih (i + 1) (by omega) (by omega)
      rw [w64 (n := i + 1) (by omega) (by omega), e, h1, h2, h3]
      simp only [decide_eq_true hi, cond_true, Option.bind_some]
      cases v1 <;> cases v2 <;> exact ⟨_, rfl⟩
    · rw [show decide (i < (t.size : Int)) = false by simp; omega]; exact ⟨_, rfl⟩
theorem some_name (t : ByteArray) : ∃ v, impl_NameOK t = some v := by
  rw [impl_NameOK_eq, impl_within_eq]
  by_cases h1 : (1 : Int) ≤ (t.size : Int)
  · by_cases h2 : (t.size : Int) ≤ 20
    · obtain ⟨v1, e1⟩ := some_letter (bt t 0)
      obtain ⟨v2, e2⟩ := some_name_loop t (by omega) t.size 1 (by omega) (by omega)
      have e : inL 0 t.size = true := by simp [inL]; omega
      simp only [decide_eq_true h1, decide_eq_true h2, cond_true, Option.bind_some, Bool.not_true, cond_false, e, e1, e2]
      cases v1 <;> exact ⟨_, rfl⟩
    · simp only [decide_eq_true h1, cond_true, Option.bind_some, decide_eq_false h2, Bool.not_false]; exact ⟨_, rfl⟩
  · simp only [decide_eq_false h1, cond_false, Option.bind_some, Bool.not_false, cond_true]; exact ⟨_, rfl⟩
theorem both_name (t : ByteArray) : Both (impl_NameOK t) (spec_l00Word t) := Both.some (nameOK t) (some_name t)
theorem cond_ite {α : Type} (c : Bool) (a b : α) : cond c a b = if c = true then a else b := by cases c <;> rfl
theorem wrap64_mod (n : Int) : ∃ q : Int, IntKind.wrap .i64 n = n - 18446744073709551616 * q := by
  rw [IntKind.wrap_i64]; exact ⟨(n + 9223372036854775808) / 18446744073709551616, by omega⟩
theorem bv64 (x : Int) : ((BitVec.ofInt IntKind.i64.bits x).toNat : Int) = x % 18446744073709551616 := by
  rw [BitVec.toNat_ofInt]
  have hb : ((2 ^ IntKind.i64.bits : Nat) : Int) = 18446744073709551616 := rfl
  rw [hb]; omega
theorem pow_le62 (c : Nat) (hc : c ≤ 62) : (1 : Int) ≤ 2 ^ c ∧ (2 : Int) ^ c ≤ 4611686018427387904 := by
  have h1 : 2 ^ c ≤ 2 ^ 62 := Nat.pow_le_pow_right (by decide) hc
  have h2 : 1 ≤ 2 ^ c := Nat.one_le_two_pow
  have e : ((2 ^ c : Nat) : Int) = (2 : Int) ^ c := by simp
  omega
theorem shr_div {x : Int} {k : Int} (h : 0 ≤ k) (h' : k ≤ 64) : shrI .i64 x k = x / 2 ^ k.toNat := by
  unfold shrI
  have hb : IntKind.i64.bits = 64 := rfl
  rw [show min k.toNat IntKind.i64.bits = k.toNat by omega, Int.fdiv_eq_ediv_of_nonneg]
  have := pow_le62
  exact Int.le_of_lt (Int.pow_pos (by decide))
theorem shr_div_u {x : Int} {k : Int} (h : 0 ≤ k) (h' : k ≤ 64) : shrI .u64 x k = x / 2 ^ k.toNat := by
  unfold shrI
  have hb : IntKind.u64.bits = 64 := rfl
  rw [show min k.toNat IntKind.u64.bits = k.toNat by omega, Int.fdiv_eq_ediv_of_nonneg]
  exact Int.le_of_lt (Int.pow_pos (by decide))
theorem shl_mul {x : Int} {k : Int} (h : 0 ≤ k) (h' : k ≤ 64) : shlI .i64 x k = IntKind.wrap .i64 (x * 2 ^ k.toNat) := by
  unfold shlI
  have hb : IntKind.i64.bits = 64 := rfl
  rw [show min k.toNat IntKind.i64.bits = k.toNat by omega]
/-- A number is laid into a place that is empty. -/
theorem nat_or_field (x y k c : Nat) (hy : y < 2 ^ c) (h : x / 2 ^ k % 2 ^ c = 0) : x ||| y * 2 ^ k = x + y * 2 ^ k := by
  have hk : 0 < 2 ^ k := Nat.two_pow_pos k
  have hkc : 0 < 2 ^ (k + c) := Nat.two_pow_pos _
  have e1 : x % 2 ^ (k + c) < 2 ^ k := by
    rw [Nat.pow_add]
    have : x % (2 ^ k * 2 ^ c) = x % 2 ^ k + 2 ^ k * (x / 2 ^ k % 2 ^ c) := Nat.mod_mul
    rw [this, h]
    have := Nat.mod_lt x hk
    omega
  have e2 : y * 2 ^ k + x % 2 ^ (k + c) < 2 ^ (k + c) := by
    have : (y + 1) * 2 ^ k ≤ 2 ^ c * 2 ^ k := Nat.mul_le_mul_right _ (by omega)
    rw [Nat.pow_add, Nat.mul_comm (2 ^ k) (2 ^ c)]
    rw [Nat.pow_add, Nat.mul_comm (2 ^ k) (2 ^ c)] at e1
    rw [Nat.add_mul] at this
    omega
  have hx : x = (x / 2 ^ (k + c)) <<< (k + c) ||| x % 2 ^ (k + c) := by
    rw [← Nat.shiftLeft_add_eq_or_of_lt (Nat.mod_lt x hkc), Nat.shiftLeft_eq]
    have := Nat.div_add_mod x (2 ^ (k + c))
    rw [Nat.mul_comm] at this; exact this.symm
  have h3 : x % 2 ^ (k + c) ||| y * 2 ^ k = y * 2 ^ k + x % 2 ^ (k + c) := by
    rw [Nat.or_comm, ← Nat.shiftLeft_eq y k, ← Nat.shiftLeft_add_eq_or_of_lt e1, Nat.shiftLeft_eq]
  calc
    x ||| y * 2 ^ k = (x / 2 ^ (k + c)) <<< (k + c) ||| (x % 2 ^ (k + c) ||| y * 2 ^ k) := by
        conv => lhs; rw [hx]
        rw [Nat.or_assoc]
    _ = (x / 2 ^ (k + c)) <<< (k + c) + (y * 2 ^ k + x % 2 ^ (k + c)) := by rw [h3, Nat.shiftLeft_add_eq_or_of_lt e2]
    _ = x + y * 2 ^ k := by
        rw [Nat.shiftLeft_eq]
        have := Nat.div_add_mod x (2 ^ (k + c))
        rw [Nat.mul_comm] at this; omega
theorem bit_val (v i : Int) (hv : -9223372036854775808 ≤ v) (hv' : v ≤ 9223372036854775807) (h : 0 ≤ i) (h' : i ≤ 63) : spec_l01Bit v i = some (v / 2 ^ i.toNat % 2) := by
  rw [spec_l01Bit_eq, wu64 (n := i) (by omega) (by omega), show decide (i < 0) = false by simp; omega, shr_div_u h (by omega)]
  have hu : IntKind.wrap .u64 v = v % 18446744073709551616 := by simp [IntKind.wrap, IntKind.bits, IntKind.signed]
  have h0 : 0 ≤ v % 18446744073709551616 := by omega
  have hp : (0 : Int) < 2 ^ i.toNat := Int.pow_pos (by decide)
  have hd : 0 ≤ v % 18446744073709551616 / 2 ^ i.toNat := Int.ediv_nonneg h0 (by omega)
  rw [hu, Int.tmod_eq_emod_of_nonneg hd]
  have e : v % 18446744073709551616 / 2 ^ i.toNat % 2 = v / 2 ^ i.toNat % 2 := by
    have hpe : (18446744073709551616 : Int) = 2 ^ i.toNat * (2 ^ (63 - i.toNat) * 2) := by
      rw [← Int.pow_succ, ← Int.pow_add, show i.toNat + (63 - i.toNat + 1) = 64 by omega]; rfl
    have h1 : v % 18446744073709551616 = v - 2 ^ i.toNat * (2 ^ (63 - i.toNat) * 2 * (v / 18446744073709551616)) := by
      rw [Int.emod_def, ← Int.mul_assoc, ← hpe]
    rw [h1, Int.sub_eq_add_neg, ← Int.mul_neg, Int.add_mul_ediv_left _ _ (by omega)]
    rw [Int.mul_comm (2 ^ (63 - i.toNat)) 2, Int.mul_assoc, ← Int.mul_neg, Int.add_mul_emod_self_left]
  rw [e]
  have : v / 2 ^ i.toNat % 2 = 0 ∨ v / 2 ^ i.toNat % 2 = 1 := by omega
  rcases this with h | h <;> rw [h] <;> rfl
theorem bit_low (a z : Int) (n i : Nat) (h : i < n) : (a + 2 ^ n * z) / 2 ^ i % 2 = a / 2 ^ i % 2 := by
  have e : (2 : Int) ^ n = 2 ^ i * (2 * 2 ^ (n - i - 1)) := by
    rw [← Int.mul_assoc, ← Int.pow_succ, ← Int.pow_add, show i + 1 + (n - i - 1) = n by omega]
  have hp : (0 : Int) < 2 ^ i := Int.pow_pos (by decide)
  rw [e, Int.mul_assoc, Int.add_mul_ediv_left _ _ (by omega), Int.mul_assoc, Int.add_mul_emod_self_left]
theorem bit_step (t : Int) (i : Nat) : 2 * (t / 2 ^ (i + 1)) + t / 2 ^ i % 2 = t / 2 ^ i := by
  have hp : (0 : Int) ≤ 2 ^ i := Int.le_of_lt (Int.pow_pos (by decide))
  rw [Int.pow_succ, ← Int.ediv_ediv_of_nonneg hp]; omega
/-- A number's lowest bits with a sign. -/
def signV (v : Int) (c : Nat) : Int := if v % 2 ^ c < 2 ^ (c - 1) then v % 2 ^ c else v % 2 ^ c - 2 ^ c
theorem pow_half (c : Nat) (h : 1 ≤ c) : (2 : Int) ^ c = 2 * 2 ^ (c - 1) := by
  obtain ⟨d, rfl⟩ := Nat.exists_eq_add_of_le h
  rw [Nat.add_comm, Int.pow_succ, Int.mul_comm]; rfl
theorem signV_mod (v : Int) (c : Nat) : ∃ q, signV v c = v + 2 ^ c * q := by
  unfold signV
  rw [Int.emod_def]
  split
  · exact ⟨-(v / 2 ^ c), by rw [Int.mul_neg]; omega⟩
  · exact ⟨-(v / 2 ^ c) - 1, by rw [Int.mul_sub, Int.mul_neg]; omega⟩
theorem signV_range (v : Int) (c : Nat) (h : 1 ≤ c) : -2 ^ (c - 1) ≤ signV v c ∧ signV v c < 2 ^ (c - 1) := by
  have hp := pow_half c h
  have hp1 : (0 : Int) < 2 ^ (c - 1) := Int.pow_pos (by decide)
  have a1 := Int.emod_nonneg v (show (2 : Int) ^ c ≠ 0 by omega)
  have a2 := Int.emod_lt_of_pos v (show (0 : Int) < 2 ^ c by omega)
  unfold signV
  split <;> omega
theorem pow63 (c : Nat) (h : c ≤ 63) : (2 : Int) ^ c ≤ 9223372036854775808 := by
  have h1 : 2 ^ c ≤ 2 ^ 63 := Nat.pow_le_pow_right (by decide) h
  have e : ((2 ^ c : Nat) : Int) = (2 : Int) ^ c := by simp
  omega
theorem wrap_unique {n s : Int} (q : Int) (h : n = s + 18446744073709551616 * q) (h1 : -9223372036854775808 ≤ s) (h2 : s ≤ 9223372036854775807) : IntKind.wrap .i64 n = s := by
  rw [IntKind.wrap_i64]; omega
theorem signOf_val (v count : Int) (h : 1 ≤ count) (h' : count ≤ 64) : impl_signOf v count = some (signV v count.toNat) := by
  rw [impl_signOf_eq, w64 (n := 64 - count) (by omega) (by omega), show decide (64 - count < 0) = false by simp; omega, shl_mul (by omega) (by omega), shr_div (by omega) (by omega)]
  simp only [cond_false]
  congr 1
  obtain ⟨c, rfl⟩ := Int.eq_ofNat_of_zero_le (show 0 ≤ count by omega)
  rw [show ((64 : Int) - (c : Int)).toNat = 64 - c by omega, Int.toNat_natCast]
  have hp1 : (0 : Int) < 2 ^ (c - 1) := Int.pow_pos (by decide)
  have hk : (0 : Int) < 2 ^ (64 - c) := Int.pow_pos (by decide)
  obtain ⟨q, hq⟩ := signV_mod v c
  have hr := signV_range v c (by omega)
  have e64 : (2 : Int) ^ c * 2 ^ (64 - c) = 18446744073709551616 := by rw [← Int.pow_add, show c + (64 - c) = 64 by omega]; rfl
  have e63 : (2 : Int) ^ (c - 1) * 2 ^ (64 - c) = 9223372036854775808 := by rw [← Int.pow_add, show c - 1 + (64 - c) = 63 by omega]; rfl
  have hv : v * 2 ^ (64 - c) = signV v c * 2 ^ (64 - c) + 18446744073709551616 * (-q) := by
    rw [hq, ← e64, Int.add_mul, Int.mul_neg, Int.mul_assoc, Int.mul_comm q, ← Int.mul_assoc]; omega
  have l1 : -9223372036854775808 ≤ signV v c * 2 ^ (64 - c) := by
    have := Int.mul_le_mul_of_nonneg_right hr.1 (show (0 : Int) ≤ 2 ^ (64 - c) by omega)
    rw [Int.neg_mul, e63] at this; exact this
  have l2 : signV v c * 2 ^ (64 - c) ≤ 9223372036854775807 := by
    have := Int.mul_lt_mul_of_pos_right hr.2 hk
    rw [e63] at this; omega
  rw [wrap_unique (-q) hv l1 l2, Int.mul_ediv_cancel _ (by omega)]
theorem sign_bit (v : Int) (c i : Nat) (h : 1 ≤ c) : signV v c / 2 ^ i % 2 = v / 2 ^ (min i (c - 1)) % 2 := by
  obtain ⟨q, hq⟩ := signV_mod v c
  by_cases h1 : i < c
  · rw [show min i (c - 1) = i by omega, hq, bit_low _ _ _ _ h1]
  · have hr := signV_range v c h
    rw [show min i (c - 1) = c - 1 by omega]
    have e : v / 2 ^ (c - 1) % 2 = signV v c / 2 ^ (c - 1) % 2 := by rw [hq, bit_low _ _ _ _ (by omega)]
    rw [e]
    have hp1 : (0 : Int) < 2 ^ (c - 1) := Int.pow_pos (by decide)
    have hm : (2 : Int) ^ (c - 1) ≤ 2 ^ i := by
      have h9 : 2 ^ (c - 1) ≤ 2 ^ i := Nat.pow_le_pow_right (by decide) (show c - 1 ≤ i by omega)
      have e1 : ((2 ^ (c - 1) : Nat) : Int) = (2 : Int) ^ (c - 1) := by simp
      have e2 : ((2 ^ i : Nat) : Int) = (2 : Int) ^ i := by simp
      omega
    by_cases hs : 0 ≤ signV v c
    · rw [Int.ediv_eq_zero_of_lt hs (by omega), Int.ediv_eq_zero_of_lt hs hr.2]
    · have f : ∀ P : Int, 0 < P → -P ≤ signV v c → signV v c / P = -1 := by
        intro P hP hle
        have : signV v c / P < 0 := Int.ediv_neg_of_neg_of_pos (by omega) hP
        have h2 : -1 ≤ signV v c / P := Int.le_ediv_of_mul_le hP (by omega)
        omega
      rw [f _ (by omega) (by omega), f _ hp1 hr.1]
theorem sign_loop (v : Int) (c : Nat) (h : 1 ≤ c) (h' : c ≤ 64) (hv : -9223372036854775808 ≤ v) (hv' : v ≤ 9223372036854775807) :
    ∀ k : Nat, k ≤ 64 → spec_l01Sign.l11010 v c (signV v c / 2 ^ k % 2 ^ (64 - k)) ((k : Int) - 1) = some (signV v c) := by
  have hr := signV_range v c h
  have hp := pow63 (c - 1) (by omega)
  intro k
  induction k with
  | zero =>
    intro _
    rw [spec_l01Sign.l11010_eq, show decide (((0 : Nat) : Int) - 1 ≥ 0) = false by rfl]
    simp only [cond_false, Int.pow_zero, Int.ediv_one]
    congr 1
    rw [show (2 : Int) ^ (64 - 0) = 18446744073709551616 by rfl, Int.emod_def]
    exact wrap_unique (-(signV v c / 18446744073709551616)) (by omega) (by omega) (by omega)
  | succ k ih =>
    intro hk
    have ih := ih (by omega)
    have hs : (((k + 1 : Nat) : Int) - 1) = (k : Int) := by omega
    have hmin : (if IntKind.wrap .i64 ((c : Int) - 1) < (k : Int) then IntKind.wrap .i64 ((c : Int) - 1) else (k : Int)) = ((min k (c - 1) : Nat) : Int) := by
      rw [w64 (n := (c : Int) - 1) (by omega) (by omega)]; split <;> omega
    rw [hs, spec_l01Sign.l11010_eq, show decide ((k : Int) ≥ 0) = true by simp, hmin, bit_val v _ hv hv' (by omega) (by omega), w64 (n := (k : Int) - 1) (by omega) (by omega)]
    simp only [cond_true, Option.bind_some, Int.toNat_natCast]
    rw [← sign_bit v c k h]
    have hst := bit_step (signV v c) k
    have e : (2 : Int) ^ (64 - k) = 2 * 2 ^ (64 - (k + 1)) := by
      have := pow_half (64 - k) (by omega); rw [this, show 64 - k - 1 = 64 - (k + 1) by omega]
    have hq : (0 : Int) < 2 ^ (64 - (k + 1)) := Int.pow_pos (by decide)
    have hq' := pow63 (64 - (k + 1)) (by omega)
    generalize signV v c / 2 ^ (k + 1) = z at *
    generalize signV v c / 2 ^ k = y at *
    rw [e] at ih
    have z1 := Int.emod_nonneg z (show (2 : Int) ^ (64 - (k + 1)) ≠ 0 by omega)
    have z2 := Int.emod_lt_of_pos z hq
    have ey : 2 * (z % 2 ^ (64 - (k + 1))) + y % 2 = y % (2 * 2 ^ (64 - (k + 1))) := by
      rw [Int.emod_def z, Int.emod_def y (2 * _), ← Int.ediv_ediv_of_nonneg (by decide), show y / 2 = z by omega, Int.mul_assoc]; omega
    rw [wu64 (n := 2 * _) (by omega) (by omega), wu64 (n := y % 2) (by omega) (by omega), wu64 (n := 2 * _ + y % 2) (by omega) (by omega), ey, ih]
theorem sign_val (v count : Int) (h : 1 ≤ count) (h' : count ≤ 64) (hv : -9223372036854775808 ≤ v) (hv' : v ≤ 9223372036854775807) : spec_l01Sign v count = some (signV v count.toNat) := by
  obtain ⟨c, rfl⟩ := Int.eq_ofNat_of_zero_le (show 0 ≤ count by omega)
  have := sign_loop v c (by omega) (by omega) hv hv' 64 (by omega)
  rw [show (64 - 64 : Nat) = 0 by rfl, Int.pow_zero, Int.emod_one] at this
  rw [spec_l01Sign_eq, Int.toNat_natCast]
  exact this
def shpL : List (Int × Int × Int × Int) := [(0, 0, 0, 0), (1, 55, 0, 0), (1, 23, 0, 0), (2, 111, 0, 0), (3, 103, 0, 0), (4, 99, 0, 0), (4, 99, 1, 0), (4, 99, 4, 0), (4, 99, 5, 0), (4, 99, 6, 0), (4, 99, 7, 0), (3, 3, 0, 0), (3, 3, 1, 0), (3, 3, 2, 0), (3, 3, 3, 0), (3, 3, 4, 0), (3, 3, 5, 0), (3, 3, 6, 0), (5, 35, 0, 0), (5, 35, 1, 0), (5, 35, 2, 0), (5, 35, 3, 0), (3, 19, 0, 0), (3, 19, 2, 0), (3, 19, 3, 0), (3, 19, 4, 0), (3, 19, 6, 0), (3, 19, 7, 0), (6, 19, 1, 0), (6, 19, 5, 0), (6, 19, 5, 32), (8, 51, 0, 0), (8, 51, 0, 32), (8, 51, 1, 0), (8, 51, 2, 0), (8, 51, 3, 0), (8, 51, 4, 0), (8, 51, 5, 0), (8, 51, 5, 32), (8, 51, 6, 0), (8, 51, 7, 0), (3, 27, 0, 0), (7, 27, 1, 0), (7, 27, 5, 0), (7, 27, 5, 32), (8, 59, 0, 0), (8, 59, 0, 32), (8, 59, 1, 0), (8, 59, 5, 0), (8, 59, 5, 32), (8, 51, 0, 1), (8, 51, 1, 1), (8, 51, 2, 1), (8, 51, 3, 1), (8, 51, 4, 1), (8, 51, 5, 1), (8, 51, 6, 1), (8, 51, 7, 1), (8, 59, 0, 1), (8, 59, 4, 1), (8, 59, 5, 1), (8, 59, 6, 1), (8, 59, 7, 1), (9, 115, 0, 0), (9, 115, 0, 1)]
def shp (n : Int) : Int × Int × Int × Int := shpL.getD n.toNat (0, 0, 0, 0)
theorem inL_nat (j n : Nat) : inL (j : Int) n = decide (j < n) := by
  unfold inL; rw [show decide (0 ≤ (j : Int)) = true by simp, Bool.true_and]; congr 1; simp
theorem rd_nat {τ : Ty} (xs : List τ.den) (j : Nat) (h : j < xs.length) : rd (τ := τ) xs (j : Int) = xs[j] := by
  unfold rd; rw [Int.toNat_natCast, List.getD_eq_getElem?_getD, List.getElem?_eq_getElem h]; rfl
theorem w64_succ (j n : Nat) (h : j < n) (h' : n ≤ 9223372036854775807) : IntKind.wrap .i64 ((j : Int) + 1) = ((j + 1 : Nat) : Int) := by
  rw [w64 (by omega) (by omega)]; omega
theorem lt_nat (j n : Nat) : decide ((j : Int) < (n : Int)) = decide (j < n) := by congr 1; simp
def fieldsV (f : Int) : Bool × Bool × Bool :=
  if f = 1 ∨ f = 2 then (true, false, false) else if f = 3 ∨ f = 6 ∨ f = 7 then (true, true, false) else if f = 4 ∨ f = 5 then (false, true, true) else if f = 8 then (true, true, true) else (false, false, false)
theorem spec_in_val (n a b : Int) : spec_l01In n a b = some (decide (a ≤ n) && decide (n ≤ b)) := by
  rw [spec_l01In_eq]
  by_cases h : n ≥ a <;> simp [h]
theorem within_val (n a b : Int) : impl_within n a b = some (decide (a ≤ n) && decide (n ≤ b)) := by
  rw [impl_within_eq]
  by_cases h : a ≤ n <;> simp [h]
/-- An instruction's number fits its form. -/
def immR (f i : Int) : Bool :=
  if f = 1 then decide (-2147483648 ≤ i) && decide (i ≤ 2147479552) && decide (i % 4096 = 0)
  else if f = 2 then decide (-1048576 ≤ i) && decide (i ≤ 1048574) && decide (i % 2 = 0)
  else if f = 3 ∨ f = 5 then decide (-2048 ≤ i) && decide (i ≤ 2047)
  else if f = 4 then decide (-4096 ≤ i) && decide (i ≤ 4094) && decide (i % 2 = 0)
  else if f = 6 then decide (0 ≤ i) && decide (i ≤ 63)
  else if f = 7 then decide (0 ≤ i) && decide (i ≤ 31)
  else decide (i = 0)
def rightV (x : Int × Int × Int × Int × Int) : Bool :=
  decide (1 ≤ x.1) && decide (x.1 ≤ 64) && decide (0 ≤ x.2.1) && decide (x.2.1 ≤ 31) && decide (0 ≤ x.2.2.1) && decide (x.2.2.1 ≤ 31) && decide (0 ≤ x.2.2.2.1) && decide (x.2.2.2.1 ≤ 31)
    && ((fieldsV (shp x.1).1).1 || decide (x.2.1 = 0)) && ((fieldsV (shp x.1).1).2.1 || decide (x.2.2.1 = 0)) && ((fieldsV (shp x.1).1).2.2 || decide (x.2.2.2.1 = 0)) && immR (shp x.1).1 x.2.2.2.2
theorem strEq_iff (a b : ByteArray) : (strEq a b = true) = (a = b) := by
  unfold strEq
  rw [beq_iff_eq]
  refine propext ⟨fun h => ?_, fun h => by rw [h]⟩
  have e : ∀ x : ByteArray, x.toList = x.data.toList := by
    intro x
    have : ∀ (n i : Nat) (r : List UInt8), n = x.size - i → ByteArray.toList.loop x i r = r.reverse ++ x.data.toList.drop i := by
      intro n
      induction n with
      | zero => intro i r hn
                rw [ByteArray.toList.loop, if_neg (by omega), List.drop_eq_nil_of_le (by have : x.size = x.data.size := rfl; simp; omega), List.append_nil]
      | succ n ih =>
        intro i r hn
        have hi : i < x.data.toList.length := by have : x.size = x.data.size := rfl; simp; omega
        rw [ByteArray.toList.loop, if_pos (by omega), ih (i + 1) _ (by omega), List.drop_eq_getElem_cons hi]
        have : x.get! i = x.data.toList[i] := by
          have h2 : i < x.data.size := by simpa using hi
          rw [ByteArray.get!, getElem!_pos x.data i h2]; simp
        rw [this]; simp
    have := this (x.size - 0) 0 [] rfl
    rw [ByteArray.toList, this]; simp
  rw [e, e] at h
  have : a.data = b.data := Array.toList_inj.mp h
  cases a; cases b; simp_all
theorem strEq_dec (a b : ByteArray) : strEq a b = decide (a = b) := by
  have := strEq_iff a b
  by_cases h : a = b
  · rw [decide_eq_true h, this.mpr h]
  · rw [decide_eq_false h]
    cases e : strEq a b
    · rfl
    · exact absurd (this.mp e) h
/-- The number that bytes are, the lowest first. -/
def leN (t : ByteArray) (a : Nat) : Nat → Nat
  | 0 => 0
  | n + 1 => (t.data.getD a 0).toNat + 256 * leN t (a + 1) n
theorem leN_lt (t : ByteArray) : ∀ (n a : Nat), leN t a n < 256 ^ n := by
  intro n
  induction n with
  | zero => intro a; simp [leN]
  | succ n ih =>
    intro a
    have h1 := ih (a + 1)
    have h2 := (t.data.getD a 0).toNat_lt
    rw [leN, Nat.pow_succ]; omega
theorem leN_extract (t : ByteArray) (a b : Nat) (hb : b ≤ t.size) : ∀ (n i : Nat), i + n ≤ b - a → leN (t.extract a b) i n = leN t (a + i) n := by
  intro n
  induction n with
  | zero => intro i _; rfl
  | succ n ih =>
    intro i h
    rw [leN, leN, ih (i + 1) (by omega)]
    congr 2
    rw [ByteArray.data_extract]
    have hs : t.size = t.data.size := rfl
    simp [Array.getD]
    rw [dif_pos (by omega), dif_pos (by omega)]
theorem or_byte (V b : Int) (hV : 0 ≤ V) (hb : 0 ≤ b) (hb' : b ≤ 255) : orI .i64 (shlI .i64 (IntKind.wrap .i64 V) 8) b = IntKind.wrap .i64 (256 * V + b) := by
  have h1 : shlI .i64 (IntKind.wrap .i64 V) 8 = IntKind.wrap .i64 (V * 256) := by
    rw [shl_mul (by decide) (by decide)]
    obtain ⟨q, hq⟩ := wrap64_mod V
    have e8 : (2 : Int) ^ (8 : Int).toNat = 256 := by decide
    rw [hq, e8, IntKind.wrap_i64, IntKind.wrap_i64]; omega
  rw [h1]
  obtain ⟨y, rfl⟩ := Int.eq_ofNat_of_zero_le hb
  unfold orI
  rw [BitVec.toNat_or]
  have f1 := bv64 (IntKind.wrap .i64 (V * 256))
  have f2 : (BitVec.ofInt IntKind.i64.bits (y : Int)).toNat = y := by have := bv64 (y : Int); omega
  have f3 : IntKind.wrap .i64 (V * 256) % 18446744073709551616 = V * 256 % 18446744073709551616 := by
    rw [IntKind.wrap_i64]; omega
  rw [f3] at f1
  rw [f2]
  generalize (BitVec.ofInt IntKind.i64.bits (IntKind.wrap .i64 (V * 256))).toNat = x at *
  have h0 := nat_or_field x y 0 8 (by omega) (by omega)
  simp only [Nat.pow_zero, Nat.mul_one] at h0
  rw [h0, IntKind.wrap_i64, IntKind.wrap_i64]
  omega
theorem wrap_u64 (n : Int) : IntKind.wrap .u64 n = n % 18446744073709551616 := by simp [IntKind.wrap, IntKind.bits, IntKind.signed]
theorem bt_nat (t : ByteArray) (i : Nat) : bt t (i : Int) = ((t.data.getD i 0).toNat : Int) := by unfold bt; rw [Int.toNat_natCast]
theorem impl_take_loop (t : ByteArray) (hz : t.size ≤ 9223372036854775807) : ∀ (k : Nat), k ≤ t.size → impl_takeLittle.l11010 t (IntKind.wrap .i64 (leN t k (t.size - k))) ((k : Int) - 1) = some (IntKind.wrap .i64 (leN t 0 t.size)) := by
  intro k
  induction k with
  | zero =>
    intro _
    rw [impl_takeLittle.l11010_eq]; rfl
  | succ k ih =>
    intro hk
    have hs : (((k + 1 : Nat) : Int) - 1) = (k : Int) := by omega
    have hb := bt_range t (k : Int)
    rw [hs, impl_takeLittle.l11010_eq, show decide ((k : Int) ≥ 0) = true by simp, inL_nat, decide_eq_true (show k < t.size by omega), w64 (n := bt t (k : Int)) (by omega) (by omega), or_byte _ _ (by omega) hb.1 hb.2, w64 (n := (k : Int) - 1) (by omega) (by omega)]
    simp only [cond_true]
    have e : leN t k (t.size - k) = (t.data.getD k 0).toNat + 256 * leN t (k + 1) (t.size - (k + 1)) := by
      rw [show t.size - k = (t.size - (k + 1)) + 1 by omega, leN]
    have ih := ih (by omega)
    rw [e] at ih
    rw [bt_nat, show (256 : Int) * (leN t (k + 1) (t.size - (k + 1)) : Nat) + ((t.data.getD k 0).toNat : Nat) = (((t.data.getD k 0).toNat + 256 * leN t (k + 1) (t.size - (k + 1)) : Nat) : Int) by omega]
    exact ih
theorem impl_take_val (t : ByteArray) (hz : t.size ≤ 9223372036854775807) : impl_takeLittle t = some (IntKind.wrap .i64 (leN t 0 t.size)) := by
  have := impl_take_loop t hz t.size (by omega)
  rw [Nat.sub_self, show IntKind.wrap .i64 (leN t t.size 0 : Nat) = 0 by rfl] at this
  rw [impl_takeLittle_eq, w64 (n := (t.size : Int) - 1) (by omega) (by omega)]
  exact this
theorem spec_take_loop (t : ByteArray) (a n : Nat) (hz : t.size ≤ 4611686018427387904) (han : a + n ≤ t.size) : ∀ (k : Nat), k ≤ n → spec_l01Take.l11010 t (a : Int) (((leN t (a + k) (n - k) : Nat) : Int) % 18446744073709551616) ((k : Int) - 1) = some (IntKind.wrap .i64 (leN t a n)) := by
  intro k
  induction k with
  | zero =>
    intro _
    rw [spec_l01Take.l11010_eq, show decide (((0 : Nat) : Int) - 1 ≥ 0) = false by rfl]
    simp only [cond_false, Nat.add_zero, Nat.sub_zero]
    congr 1
    rw [IntKind.wrap_i64, IntKind.wrap_i64]; omega
  | succ k ih =>
    intro hk
    have hs : (((k + 1 : Nat) : Int) - 1) = (k : Int) := by omega
    have hi : ((a : Int) + (k : Int)) = ((a + k : Nat) : Int) := by omega
    rw [hs, spec_l01Take.l11010_eq, show decide ((k : Int) ≥ 0) = true by simp, hi, w64 (n := ((a + k : Nat) : Int)) (by omega) (by omega), inL_nat, decide_eq_true (show a + k < t.size by omega), w64 (n := (k : Int) - 1) (by omega) (by omega)]
    simp only [cond_true]
    have e : leN t (a + k) (n - k) = (t.data.getD (a + k) 0).toNat + 256 * leN t (a + (k + 1)) (n - (k + 1)) := by
      rw [show n - k = (n - (k + 1)) + 1 by omega, leN]; rfl
    have ih := ih (by omega)
    rw [e] at ih
    rw [bt_nat]
    have hb := (t.data.getD (a + k) 0).toNat_lt
    refine Eq.trans ?_ ih
    congr 1
    rw [wrap_u64, wrap_u64, wrap_u64]
    generalize (t.data.getD (a + k) 0).toNat = b at *
    generalize leN t (a + (k + 1)) (n - (k + 1)) = L at *
    omega
theorem spec_take_val (t : ByteArray) (a n : Nat) (hz : t.size ≤ 4611686018427387904) (han : a + n ≤ t.size) : spec_l01Take t (a : Int) (n : Int) = some (IntKind.wrap .i64 (leN t a n)) := by
  have := spec_take_loop t a n hz han n (by omega)
  rw [Nat.sub_self, show ((leN t (a + n) 0 : Nat) : Int) % 18446744073709551616 = 0 by rfl] at this
  rw [spec_l01Take_eq, w64 (n := (n : Int) - 1) (by omega) (by omega)]
  exact this
theorem le4 (t : ByteArray) (a : Nat) : 0 ≤ ((leN t a 4 : Nat) : Int) ∧ ((leN t a 4 : Nat) : Int) < 4294967296 := by
  have := leN_lt t 4 a
  have e : 256 ^ 4 = 4294967296 := by decide
  omega
theorem room_le {n b : Nat} (h : n * b ≤ 140737488355328) (h' : n ≤ 140737488355328) : roomB n b = true := by
  simp only [roomB, Bool.and_eq_true, decide_eq_true_eq]; omega
theorem inL_iff (i : Int) (n : Nat) : (inL i n = true) = (0 ≤ i ∧ i < (n : Int)) := by simp [inL]
theorem inL_true {i : Int} {n : Nat} (h : 0 ≤ i) (h' : i < (n : Int)) : inL i n = true := by rw [inL_iff]; exact ⟨h, h'⟩
def frameV (f : Int) : Bool := bif decide (16 ≤ f) && decide (f ≤ 128) then decide (f.tmod 16 = 0) else false
theorem frame_val (f : Int) : impl_FrameOK f = some (frameV f) ∧ spec_FrameOK f = some (frameV f) := by
  rw [impl_FrameOK_eq, spec_FrameOK_eq, within_val, spec_in_val]
  simp only [Option.bind_some, frameV]
  cases (decide (16 ≤ f) && decide (f ≤ 128)) <;> exact ⟨rfl, rfl⟩
def codeSizeV (n : Nat) : Bool := bif decide ((n : Int).tmod 4 = 0) then decide ((n : Int) ≤ 256) else false
theorem codeSize_1 (t : ByteArray) : impl_isCodeSize t = some (codeSizeV t.size) := by
  rw [impl_isCodeSize_eq]
  unfold codeSizeV
  cases decide ((t.size : Int).tmod 4 = 0) <;> rfl
theorem codeSizeV_range {n : Nat} (h : codeSizeV n = true) : n % 4 = 0 ∧ n ≤ 256 := by
  unfold codeSizeV at h
  cases hb : decide ((n : Int).tmod 4 = 0) with
  | true =>
    rw [hb] at h
    simp only [cond_true, decide_eq_true_eq] at h hb
    rw [Int.tmod_eq_emod_of_nonneg (by omega)] at hb
    omega
  | false => rw [hb] at h; cases h
def funcSizeV (n : Nat) : Bool := bif codeSizeV n then decide ((n : Int) ≥ 20) else false
theorem funcSize_val (t : ByteArray) : impl_isFuncSize t = some (funcSizeV t.size) := by
  rw [impl_isFuncSize_eq, codeSize_1 t]
  simp only [Option.bind_some, funcSizeV]
  cases codeSizeV t.size <;> rfl
noncomputable def nameV (t : ByteArray) : Bool := (impl_NameOK t).getD false
theorem name_val (t : ByteArray) : impl_NameOK t = some (nameV t) ∧ spec_l00Word t = some (nameV t) := by
  obtain ⟨v, h1, h2⟩ := both_name t
  unfold nameV
  rw [h1, h2]; exact ⟨rfl, rfl⟩
/-- The lowest bytes of a number, the lowest first. -/
def leB (v : Int) : Nat → List Int
  | 0 => []
  | n + 1 => v % 256 :: leB (v / 256) n
theorem leB_length (n : Nat) : ∀ v, (leB v n).length = n := by
  induction n with
  | zero => intro v; rfl
  | succ n ih => intro v; simp [leB, ih]
theorem wrap_u8 (n : Int) : IntKind.wrap .u8 n = n % 256 := by simp [IntKind.wrap, IntKind.bits, IntKind.signed]
theorem put_little_loop (n : Nat) : ∀ (v : Int) (xs : List Int), n ≤ 1000 → xs.length + n ≤ 1000 → impl_putLittle.l1100 v n xs = some (bytesOf (xs ++ leB v n)) := by
  induction n with
  | zero => intro v xs _ _; rw [impl_putLittle.l1100_eq]; simp [leB]
  | succ n ih =>
    intro v xs hn hx
    rw [impl_putLittle.l1100_eq, show decide (((n + 1 : Nat) : Int) > 0) = true from decide_eq_true (by omega), room_le (by simp; omega) (by simp; omega), w64 (n := ((n + 1 : Nat) : Int) - 1) (by omega) (by omega), shr_div (by decide) (by decide), wrap_u8, show ((n + 1 : Nat) : Int) - 1 = (n : Int) by omega]
    simp only [cond_true]
    rw [ih _ _ (by omega) (by simp; omega), leB, List.append_assoc]
    rfl
theorem put_little (v : Int) (n : Nat) (h : n ≤ 1000) : impl_putLittle v n = some (bytesOf (leB v n)) := by
  rw [impl_putLittle_eq, put_little_loop n v [] h (by simpa using h)]; rfl
theorem bytesOf_size (xs : List Int) : (bytesOf xs).size = xs.length := by simp [bytesOf, ByteArray.size]
theorem bytesOf_getD (xs : List Int) (i : Nat) (h : ∀ x ∈ xs, 0 ≤ x ∧ x ≤ 255) (hi : i < xs.length) : (((bytesOf xs).data.getD i 0).toNat : Int) = xs[i] := by
  have hx := h _ (List.getElem_mem hi)
  unfold bytesOf
  simp [Array.getD, hi]
  omega
theorem leB_range (n : Nat) : ∀ v : Int, ∀ x ∈ leB v n, 0 ≤ x ∧ x ≤ 255 := by
  induction n with
  | zero => intro v x hx; cases hx
  | succ n ih =>
    intro v x hx
    rw [leB] at hx
    rcases List.mem_cons.mp hx with h | h
    · omega
    · exact ih _ x h
theorem leN_leB (n : Nat) : ∀ (v : Int) (pre : List Int), 0 ≤ v → (∀ x ∈ pre, 0 ≤ x ∧ x ≤ 255) → ((leN (bytesOf (pre ++ leB v n)) pre.length n : Nat) : Int) = v % 256 ^ n := by
  induction n with
  | zero => intro v pre _ _; simp [leN, Int.emod_one]
  | succ n ih =>
    intro v pre hv hp
    have h1 := ih (v / 256) (pre ++ [v % 256]) (by omega) (by
      intro x hx
      rcases List.mem_append.mp hx with h | h
      · exact hp x h
      · rw [List.mem_singleton.mp h]; omega)
    rw [List.append_assoc, List.singleton_append, List.length_append, List.length_singleton] at h1
    rw [leB, leN]
    have hr : ∀ x ∈ pre ++ v % 256 :: leB (v / 256) n, 0 ≤ x ∧ x ≤ 255 := by
      intro x hx
      rcases List.mem_append.mp hx with h | h
      · exact hp x h
      · rcases List.mem_cons.mp h with h | h
        · rw [h]; omega
        · exact leB_range n _ x h
    have h2 := bytesOf_getD (pre ++ v % 256 :: leB (v / 256) n) pre.length hr (by simp)
    rw [Int.natCast_add, Int.natCast_mul, h1, h2]
    simp
    rw [Int.pow_succ, Int.mul_comm (256 ^ n) 256]
    have hp0 : (0 : Int) ≤ 256 := by decide
    rw [Int.emod_def v (256 * 256 ^ n), Int.emod_def (v / 256) (256 ^ n), ← Int.ediv_ediv_of_nonneg hp0, Int.mul_sub, Int.mul_assoc]
    omega
theorem byte_ext {a b : ByteArray} (hs : a.size = b.size) (h : ∀ i, i < a.size → a.data.getD i 0 = b.data.getD i 0) : a = b := by
  cases a with | mk x => cases b with | mk y =>
  congr 1
  have hs : x.size = y.size := hs
  apply Array.ext hs
  intro i h1 h2
  have := h i h1
  simpa [Array.getD, h1, h2] using this
theorem leB_leN (t : ByteArray) : ∀ (n a : Nat), a + n ≤ t.size → bytesOf (leB (leN t a n) n) = t.extract a (a + n) := by
  intro n
  induction n with
  | zero => intro a h; apply byte_ext; · simp [bytesOf, leB, ByteArray.size]
            · intro i hi; simp [bytesOf, leB, ByteArray.size] at hi
  | succ n ih =>
    intro a h
    have h1 := ih (a + 1) (by omega)
    have hb := (t.data.getD a 0).toNat_lt
    have e1 : ((leN t a (n + 1) : Nat) : Int) % 256 = ((t.data.getD a 0).toNat : Int) := by rw [leN]; omega
    have e2 : ((leN t a (n + 1) : Nat) : Int) / 256 = ((leN t (a + 1) n : Nat) : Int) := by rw [leN]; omega
    rw [leB, e1, e2]
    apply byte_ext
    · rw [bytesOf_size, ByteArray.size_extract]; simp [leB_length]; omega
    · intro i hi
      rw [bytesOf_size] at hi
      simp [leB_length] at hi
      have hts : t.size = t.data.size := rfl
      cases i with
      | zero =>
        simp [bytesOf, ByteArray.data_extract, Array.getD]
        rw [dif_pos (by omega), dif_pos (by omega)]
      | succ i =>
        have h3 : (bytesOf (leB (leN t (a + 1) n) n)).data.getD i 0 = (t.extract (a + 1) (a + 1 + n)).data.getD i 0 := by rw [h1]
        have h4 : (bytesOf (((t.data.getD a 0).toNat : Int) :: leB (leN t (a + 1) n) n)).data.getD (i + 1) 0 = (bytesOf (leB (leN t (a + 1) n) n)).data.getD i 0 := by
          simp [bytesOf, Array.getD]
        rw [h4, h3, ByteArray.data_extract, ByteArray.data_extract]
        simp [Array.getD]
        rw [dif_pos (by omega), dif_pos (by omega)]
        congr 1
        omega
theorem sum_some (t : ByteArray) (ht : t.size ≤ 1048576) : ∀ (k i : Nat) (x : Int), i + k = t.size → 0 ≤ x → x < 65521 → ∃ v, spec_l01Sum.l11010 t x i = some v ∧ 0 ≤ v ∧ v < 65521 := by
  intro k
  induction k with
  | zero =>
    intro i x hi h0 h1
    rw [spec_l01Sum.l11010_eq, lt_nat, decide_eq_false (by omega)]
    exact ⟨x, rfl, h0, h1⟩
  | succ k ih =>
    intro i x hi h0 h1
    have hb := bt_range t (i : Int)
    rw [spec_l01Sum.l11010_eq, lt_nat, inL_nat, decide_eq_true (show i < t.size by omega), w64 (n := bt t (i : Int)) (by omega) (by omega), w64 (n := 31 * x) (by omega) (by omega), w64 (n := 31 * x + bt t (i : Int)) (by omega) (by omega), w64_succ i t.size (by omega) (by omega), Int.tmod_eq_emod_of_nonneg (by omega)]
    simp only [cond_true]
    exact ih (i + 1) _ (by omega) (by omega) (by omega)
theorem sum_both (t : ByteArray) (ht : t.size ≤ 1048576) : ∃ v, impl_sumOf t = some v ∧ spec_l01Sum t = some v ∧ 0 ≤ v ∧ v < 65521 := by
  obtain ⟨v, h1, h2⟩ := sum_some t ht t.size 0 1 (by omega) (by omega) (by omega)
  have e : spec_l01Sum t = some v := (spec_l01Sum_eq t).trans h1
  exact ⟨v, (sumOf t ht).trans e, e, h2⟩
theorem withSum_val (t : ByteArray) (ht : t.size ≤ 1048576) : ∃ v, spec_l01Sum t = some v ∧ 0 ≤ v ∧ v < 65521 ∧ impl_withSum t = some (t ++ bytesOf (leB v 4)) := by
  obtain ⟨v, h1, h2, h3, h4⟩ := sum_both t ht
  have hp := put_little v 4 (by omega)
  rw [show ((4 : Nat) : Int) = 4 by rfl] at hp
  refine ⟨v, h2, h3, h4, ?_⟩
  rw [impl_withSum_eq, h1]
  simp only [Option.bind_some, hp]
  rw [decide_eq_true (by rw [bytesOf_size, leB_length]; omega)]; rfl
theorem append_extract (t : ByteArray) (n : Nat) (h : n ≤ t.size) : t.extract 0 n ++ t.extract n t.size = t := by
  rw [ByteArray.extract_append_extract, Nat.min_eq_left (Nat.zero_le _), Nat.max_eq_right h, ByteArray.extract_zero_size]
theorem sum_eq (t : ByteArray) (n : Nat) (hn : n + 4 = t.size) (v : Int) (h0 : 0 ≤ v) (h1 : v < 65521) : (t.extract 0 n ++ bytesOf (leB v 4) = t) ↔ ((leN t n 4 : Nat) : Int) = v := by
  have ht := append_extract t n (by omega)
  constructor
  · intro h
    have e : bytesOf (leB v 4) = t.extract n t.size := by
      have : t.extract 0 n ++ bytesOf (leB v 4) = t.extract 0 n ++ t.extract n t.size := h.trans ht.symm
      exact (ByteArray.append_right_inj _).mp this
    have e2 := leN_leB 4 v [] h0 (by simp)
    rw [List.nil_append, e, List.length_nil, leN_extract t n t.size (by omega) 4 0 (by omega)] at e2
    rw [Nat.add_zero] at e2
    rw [e2]
    have : (256 : Int) ^ 4 = 4294967296 := by decide
    rw [this]; omega
  · intro h
    rw [← h, leB_leN t 4 n (by omega), hn, ht]
theorem take_both (t hd : ByteArray) (hh : hd.size = 4) (ht : t.size ≤ 65536) :
    (∃ (c : Int) (q : ByteArray × Int × Bool), c ≠ 0 ∧ impl_take t hd = some (none, c) ∧ spec_l07Open t hd = some (some q, c)) ∨
    (8 ≤ t.size ∧ impl_take t hd = some (some (t.extract 4 (t.size - 4), false), 0) ∧ spec_l07Open t hd = some (some (t.extract 4 (t.size - 4), 0, false), 0)) := by
  rw [impl_take_eq, spec_l07Open_eq]
  by_cases h8 : (t.size : Int) < 8
  · rw [decide_eq_true h8]
    exact Or.inl ⟨8, _, by decide, rfl, rfl⟩
  · rw [decide_eq_false h8, strings_HasPrefix_eq, internal_stringslite_HasPrefix_eq, hh, decide_eq_true (show (t.size : Int) ≥ ((4 : Nat) : Int) by omega), decide_eq_true (show (0 : Int) ≤ ((4 : Nat) : Int) by omega), decide_eq_true (show (4 : Int) ≤ (t.size : Int) by omega), w64 (n := (t.size : Int) - 4) (by omega) (by omega), decide_eq_true (show (0 : Int) ≤ (t.size : Int) - 4 by omega), decide_eq_true (show (t.size : Int) - 4 ≤ (t.size : Int) by omega), decide_eq_true (show (4 : Int) ≤ (t.size : Int) - 4 by omega)]
    simp only [Nat.le_refl, Nat.zero_le, decide_true, Bool.and_self, cond_true, cond_false, Option.bind_some, Int.toNat_natCast]
    rw [show (Int.toNat 0) = 0 by rfl, show (Int.toNat 4) = 4 by rfl, show ((t.size : Int) - 4).toNat = t.size - 4 by omega]
    cases hp : strEq (t.extract 0 4) hd with
    | false => exact Or.inl ⟨3, _, by decide, rfl, rfl⟩
    | true =>
      simp only [Bool.not_true, cond_false]
      obtain ⟨v, v1, v2, v3, v4⟩ := withSum_val (t.extract 0 (t.size - 4)) (by rw [ByteArray.size_extract]; omega)
      have hl := le4 t (t.size - 4)
      have htk : spec_l01Take t ((t.size : Int) - 4) 4 = some ((leN t (t.size - 4) 4 : Nat) : Int) := by
        rw [show (t.size : Int) - 4 = ((t.size - 4 : Nat) : Int) by omega, show (4 : Int) = ((4 : Nat) : Int) by rfl, spec_take_val t _ _ (by omega) (by omega), w64 (by omega) (by omega)]
      rw [v4, v1, htk]
      simp only [Option.bind_some]
      have hse := sum_eq t (t.size - 4) (by omega) v v2 v3
      rw [strEq_dec]
      by_cases hv : ((leN t (t.size - 4) 4 : Nat) : Int) = v
      · rw [decide_eq_true hv, decide_eq_true (hse.mpr hv)]
        exact Or.inr ⟨by omega, rfl, rfl⟩
      · rw [decide_eq_false hv, decide_eq_false (fun h => hv (hse.mp h))]
        exact Or.inl ⟨9, _, by decide, rfl, rfl⟩
theorem take_num {p : ByteArray × Bool} {q : ByteArray × Int × Bool} (n : Nat) (h : RTk p q) (hn : n ≤ 4) :
    ∃ (x : Int) (p' : ByteArray × Bool) (q' : ByteArray × Int × Bool), impl_taker_number p n = some (x, p') ∧ spec_l07In_number q n = some (x, q') ∧ RTk p' q' ∧ 0 ≤ x ∧ x < 256 ^ n ∧ (q.2.2 = true → q'.2.2 = true) := by
  obtain ⟨o, p', q', h1, h2, h3, h4, h5⟩ := take_bytes (n := (n : Int)) h (by omega) (by omega)
  have hst : q.2.2 = true → q'.2.2 = true := by
    intro hq
    rw [spec_l07In_take_eq, hq] at h2
    simp only [joinB, cond_true, Option.some.injEq, Prod.mk.injEq] at h2
    rw [← h2.2]
  have hp1 : (1 : Int) ≤ 256 ^ n := by have : (0 : Int) < 256 ^ n := Int.pow_pos (by decide); omega
  rw [impl_taker_number_eq, spec_l07In_number_eq, h1, h2]
  simp only [Option.bind_some]
  cases hs : q'.2.2 with
  | true =>
    have ho := h5 hs
    subst ho
    have hl : impl_takeLittle (⟨#[]⟩ : ByteArray) = some 0 := (impl_take_val _ (by decide)).trans rfl
    rw [hl]
    exact ⟨0, p', q', rfl, rfl, h3, by omega, by omega, fun _ => hs⟩
  | false =>
    have hz := h4 hs
    have hz' : o.size = n := by omega
    have e256 : ((256 ^ n : Nat) : Int) = (256 : Int) ^ n := by simp
    have hlt := leN_lt o n 0
    have hle : 256 ^ n ≤ 256 ^ 4 := Nat.pow_le_pow_right (by decide) hn
    have e4 : 256 ^ 4 = 4294967296 := by decide
    rw [impl_take_val o (by omega), hz', show (0 : Int) = ((0 : Nat) : Int) by rfl, spec_take_val o 0 n (by omega) (by omega), w64 (by omega) (by omega)]
    exact ⟨_, p', q', rfl, rfl, h3, by omega, by omega, fun hq => by rw [hst hq] at hs; cases hs⟩
theorem take_str {p : ByteArray × Bool} {q : ByteArray × Int × Bool} {n : Int} (h : RTk p q) (hn : 0 ≤ n) (hn' : n ≤ 4294967296) :
    ∃ o p' q', impl_taker_bytes p n = some (o, p') ∧ spec_l07In_take q n = some (o, q') ∧ RTk p' q' ∧ (q.2.2 = true → q'.2.2 = true) ∧ (o.size : Int) ≤ n := by
  obtain ⟨o, p', q', h1, h2, h3, h4, h5⟩ := take_bytes h hn hn'
  refine ⟨o, p', q', h1, h2, h3, ?_, ?_⟩
  · intro hq
    rw [spec_l07In_take_eq, hq] at h2
    simp only [joinB, cond_true, Option.some.injEq, Prod.mk.injEq] at h2
    rw [← h2.2]
  · cases hs : q'.2.2 with
    | true => rw [h5 hs]; exact hn
    | false => rw [h4 hs]; exact Int.le_refl _
/-- A text with its length ahead. -/
theorem take_text {p : ByteArray × Bool} {q : ByteArray × Int × Bool} (n : Nat) (h : RTk p q) (hn : n ≤ 4) :
    ∃ (x : Int) (q1 : ByteArray × Int × Bool) (o : ByteArray) (p' : ByteArray × Bool) (q' : ByteArray × Int × Bool), impl_taker_text p n = some (o, p') ∧ spec_l07In_number q n = some (x, q1) ∧ spec_l07In_take q1 x = some (o, q') ∧ RTk p' q' ∧ (q.2.2 = true → q'.2.2 = true) ∧ (o.size : Int) < 256 ^ n := by
  obtain ⟨x, p1, q1, a1, a2, a3, a4, a5, a6⟩ := take_num n h hn
  have e256 : (256 : Int) ^ n ≤ 4294967296 := by
    have hle : 256 ^ n ≤ 256 ^ 4 := Nat.pow_le_pow_right (by decide) hn
    have e4 : 256 ^ 4 = 4294967296 := by decide
    have e256 : ((256 ^ n : Nat) : Int) = (256 : Int) ^ n := by simp
    omega
  obtain ⟨o, p', q', b1, b2, b3, b4, b5⟩ := take_str a3 a4 (by omega)
  refine ⟨x, q1, o, p', q', ?_, a2, b2, b3, fun hq => b4 (a6 hq), by omega⟩
  rw [impl_taker_text_eq, a1]
  simp only [Option.bind_some]
  rw [b1]; rfl
theorem take_name {p : ByteArray × Bool} {q : ByteArray × Int × Bool} (h : RTk p q) :
    ∃ (o : ByteArray) (p' : ByteArray × Bool) (q' : ByteArray × Int × Bool), impl_taker_text p 1 = some (o, p') ∧ spec_l07In_name q = some (o, q') ∧ RTk p' q' ∧ (q.2.2 = true → q'.2.2 = true) ∧ (o.size : Int) < 256 := by
  obtain ⟨x, q1, o, p', q', h1, h2, h3, h4, h5, h6⟩ := take_text 1 h (by omega)
  refine ⟨o, p', q', h1, ?_, h4, h5, h6⟩
  rw [spec_l07In_name_eq, show (1 : Int) = ((1 : Nat) : Int) by rfl, h2]
  simp only [Option.bind_some]
  rw [h3]; rfl
theorem rtk_done {p : ByteArray × Bool} {q : ByteArray × Int × Bool} (h : RTk p q) : impl_taker_done p = some (if q.2.2 = true then 22 else if q.2.1 < (q.1.size : Int) then 8 else 0) := by
  obtain ⟨t, a, s⟩ := q
  obtain ⟨h0, h1, h2, rfl⟩ := h
  dsimp only at *
  rw [impl_taker_done_eq, strEq_dec]
  cases s with
  | true => rfl
  | false =>
    have hs : (t.extract a.toNat t.size).size = t.size - a.toNat := by rw [ByteArray.size_extract]; omega
    by_cases hb : a < (t.size : Int)
    · rw [decide_eq_false (fun e => by have e : t.extract a.toNat t.size = ⟨#[]⟩ := e; rw [e] at hs; have : (⟨#[]⟩ : ByteArray).size = 0 := rfl; omega)]
      simp [hb]
    · rw [decide_eq_true (by apply byte_ext; · rw [hs]; have : (⟨#[]⟩ : ByteArray).size = 0 := rfl; omega
                             · intro i hi; rw [hs] at hi; omega)]
      simp [hb]
theorem rtk_bad {p : ByteArray × Bool} {q : ByteArray × Int × Bool} (h : RTk p q) : p.2 = q.2.2 := by
  obtain ⟨h0, h1, h2, rfl⟩ := h; rfl
theorem mark_text_loop (n : Nat) : ∀ (k : Int) (t : ByteArray), 0 ≤ k → k < 10 ^ n → k ≤ 4611686018427387904 → t.size + n ≤ 1000 → ∃ v, laws_markText.l11100 k t = some v := by
  induction n with
  | zero =>
    intro k t h0 h1 _ hs
    have : k = 0 := by simp at h1; omega
    subst this
    rw [laws_markText.l11100_eq, show decide ((0 : Int) > 0) = false from rfl]
    simp only [cond_false]
    rw [decide_eq_true (by have : (⟨#[109]⟩ : ByteArray).size = 1 := rfl; omega)]
    exact ⟨_, rfl⟩
  | succ n ih =>
    intro k t h0 h1 hk hs
    rw [laws_markText.l11100_eq]
    by_cases hp : k > 0
    · rw [decide_eq_true hp, decide_eq_true (by rw [bytesOf_size]; simp; omega), Int.tdiv_eq_ediv_of_nonneg h0, w64 (n := k / 10) (by omega) (by omega)]
      simp only [cond_true]
      rw [Int.pow_succ] at h1
      exact ih _ _ (by omega) (by omega) (by omega) (by rw [ByteArray.size_append, bytesOf_size]; simp; omega)
    · rw [decide_eq_false hp]
      simp only [cond_false]
      rw [decide_eq_true (by have : (⟨#[109]⟩ : ByteArray).size = 1 := rfl; omega)]
      exact ⟨_, rfl⟩
noncomputable def mkT (k : Int) : ByteArray := (laws_markText k).getD ⟨#[]⟩
theorem mark_text (k : Int) (h : 1 ≤ k) (h' : k ≤ 4611686018427387904) : laws_markText k = some (mkT k) := by
  obtain ⟨v, hv⟩ := mark_text_loop 30 k ⟨#[]⟩ (by omega) (by omega) h' (by decide)
  have e : laws_markText k = some v := by rw [laws_markText_eq, decide_eq_false (by omega)]; exact hv
  unfold mkT
  rw [e]; rfl
/-- The marks of a list: c for each element. -/
def marksL {α : Type} (E : Int → α) (c : Nat) (m0 : Int) (n : Nat) : List α := (List.range n).map fun i : Nat => E (m0 + c * i)
theorem marksL_len {α : Type} (E : Int → α) (c : Nat) (m0 : Int) (n : Nat) : (marksL E c m0 n).length = n := by simp [marksL]
theorem marksL_get {α : Type} (E : Int → α) (c : Nat) (m0 : Int) (n i : Nat) (h : i < n) : (marksL E c m0 n)[i]? = some (E (m0 + c * i)) := by simp [marksL, h]
theorem mark_run {α : Type} (L : List α → Int → Int → Option (Int × List α)) (E : Int → α) (c n : Nat) (m0 : Int) (M : Int)
    (hm : 1 ≤ m0) (hM : m0 + c * n ≤ M)
    (step : ∀ (l : List α) (m : Int) (i : Nat), l.length = n → i < n → 1 ≤ m → m + c ≤ M → L l m i = L (l.set i (E m)) (m + c) ((i + 1 : Nat) : Int))
    (last : ∀ (l : List α) (m : Int), l.length = n → L l m n = some (m, l)) (l : List α) (hl : l.length = n) : L l m0 0 = some (m0 + c * n, marksL E c m0 n) := by
  have key : ∀ (k i : Nat) (l : List α), i + k = n → l.length = n → (∀ j, j < i → l[j]? = some (E (m0 + c * j))) → L l (m0 + c * i) i = some (m0 + c * n, marksL E c m0 n) := by
    intro k
    induction k with
    | zero =>
      intro i l hi hl hj
      have : i = n := by omega
      subst this
      rw [last l _ hl]
      congr 2
      apply List.ext_getElem?
      intro j
      by_cases h : j < i
      · rw [hj j h, marksL_get E c m0 i j h]
      · rw [List.getElem?_eq_none (by omega), List.getElem?_eq_none (by rw [marksL_len]; omega)]
    | succ k ih =>
      intro i l hi hl hj
      have hci : (c : Int) * i + c ≤ c * n := by
        have : c * i + c ≤ c * n := by
          have := Nat.mul_le_mul_left c (show i + 1 ≤ n by omega)
          rw [Nat.mul_add, Nat.mul_one] at this; exact this
        have e1 : ((c * i : Nat) : Int) = (c : Int) * i := by simp
        have e2 : ((c * n : Nat) : Int) = (c : Int) * n := by simp
        omega
      have hc0 : 0 ≤ (c : Int) * i := Int.mul_nonneg (by omega) (by omega)
      rw [step l _ i hl (by omega) (by omega) (by omega), show m0 + (c : Int) * i + c = m0 + c * ((i + 1 : Nat) : Int) by rw [Int.natCast_add, Int.mul_add]; omega]
      apply ih (i + 1) _ (by omega) (by simp [hl])
      intro j hji
      rw [List.getElem?_set]
      by_cases h : i = j
      · subst h
        rw [if_pos rfl, if_pos (by omega)]
      · rw [if_neg h]; exact hj j (by omega)
  have := key n 0 l (by omega) hl (fun j h => by omega)
  simpa using this
theorem held_run {α : Type} (H : List α → Int → Int → Option Int) (E : Int → α) (c n : Nat) (m0 : Int) (M : Int)
    (hm : 1 ≤ m0) (hM : m0 + c * n ≤ M)
    (step : ∀ (l : List α) (m : Int) (i : Nat), l.length = n → i < n → 1 ≤ m → m + c ≤ M → l[i]? = some (E m) → H l m i = H l (m + c) ((i + 1 : Nat) : Int))
    (last : ∀ (l : List α) (m : Int), l.length = n → H l m n = some m) : H (marksL E c m0 n) m0 0 = some (m0 + c * n) := by
  have key : ∀ (k i : Nat), i + k = n → H (marksL E c m0 n) (m0 + c * i) i = some (m0 + c * n) := by
    intro k
    induction k with
    | zero =>
      intro i hi
      have : i = n := by omega
      subst this
      rw [last _ _ (marksL_len ..)]
    | succ k ih =>
      intro i hi
      have hci : (c : Int) * i + c ≤ c * n := by
        have : c * i + c ≤ c * n := by
          have := Nat.mul_le_mul_left c (show i + 1 ≤ n by omega)
          rw [Nat.mul_add, Nat.mul_one] at this; exact this
        have e1 : ((c * i : Nat) : Int) = (c : Int) * i := by simp
        have e2 : ((c * n : Nat) : Int) = (c : Int) * n := by simp
        omega
      have hc0 : 0 ≤ (c : Int) * i := Int.mul_nonneg (by omega) (by omega)
      rw [step _ _ i (marksL_len ..) (by omega) (by omega) (by omega) (marksL_get E c m0 n i (by omega)), show m0 + (c : Int) * i + c = m0 + c * ((i + 1 : Nat) : Int) by rw [Int.natCast_add, Int.mul_add]; omega]
      exact ih (i + 1) (by omega)
  have := key n 0 (by omega)
  simpa using this
theorem rd_set_self {τ : Ty} (xs : List τ.den) (i : Nat) (v : τ.den) (h : i < xs.length) : rd (τ := τ) (xs.set i v) (i : Int) = v := by
  rw [rd_nat _ _ (by simpa using h)]; simp
theorem rd_some {τ : Ty} (xs : List τ.den) (i : Nat) (v : τ.den) (h : xs[i]? = some v) : rd (τ := τ) xs (i : Int) = v := by
  unfold rd; rw [Int.toNat_natCast, List.getD_eq_getElem?_getD, h]; rfl
theorem strEq_refl (a : ByteArray) : strEq a a = true := by rw [strEq_dec, decide_eq_true rfl]
def findB (p : Nat → Bool) : Nat → Nat → Int
  | _, 0 => -1
  | i, k + 1 => bif p i then (i : Int) else findB p (i + 1) k
theorem loop_find (L : Int → Option Int) (p : Nat → Bool) (n : Nat) (hend : L (n : Int) = some (-1)) (hstep : ∀ i : Nat, i < n → L (i : Int) = bif p i then some (i : Int) else L ((i + 1 : Nat) : Int)) :
    ∀ k i : Nat, i + k = n → L (i : Int) = some (findB p i k) := by
  intro k
  induction k with
  | zero => intro i h; have : i = n := by omega
            subst this; exact hend
  | succ k ih =>
    intro i h
    rw [hstep i (by omega), ih (i + 1) (by omega), findB]
    cases p i <;> rfl
theorem loop_find0 {L : Int → Option Int} (p : Nat → Bool) (n : Nat) (hend : L (n : Int) = some (-1)) (hstep : ∀ i : Nat, i < n → L (i : Int) = bif p i then some (i : Int) else L ((i + 1 : Nat) : Int)) : L 0 = some (findB p 0 n) :=
  loop_find L p n hend hstep n 0 (by omega)
theorem findB_spec (p : Nat → Bool) : ∀ k i, (findB p i k = -1 ∧ ∀ j, i ≤ j → j < i + k → p j = false) ∨ ∃ j : Nat, findB p i k = (j : Int) ∧ i ≤ j ∧ j < i + k ∧ p j = true ∧ ∀ q, i ≤ q → q < j → p q = false
  | 0, i => .inl ⟨rfl, fun j h1 h2 => by omega⟩
  | k + 1, i => by
    rw [findB]
    cases h : p i with
    | true => exact .inr ⟨i, rfl, Nat.le_refl _, by omega, h, fun q h1 h2 => by omega⟩
    | false =>
      rw [cond_false]
      rcases findB_spec p k (i + 1) with ⟨h1, h2⟩ | ⟨j, h1, h2, h3, h4, h5⟩
      · refine .inl ⟨h1, fun j h3 h4 => ?_⟩
        by_cases e : j = i
        · rw [e]; exact h
        · exact h2 j (by omega) (by omega)
      · refine .inr ⟨j, h1, by omega, by omega, h4, fun q h6 h7 => ?_⟩
        by_cases e : q = i
        · rw [e]; exact h
        · exact h5 q (by omega) (by omega)
theorem w64_pred (i : Nat) (h : 0 < i) (h' : i ≤ 1048576) : IntKind.wrap .i64 ((i : Int) - 1) = ((i - 1 : Nat) : Int) := by
  rw [w64 (by omega) (by omega)]; omega
def inR (n a b : Int) : Bool := decide (a ≤ n) && decide (n ≤ b)
theorem in_val (n a b : Int) : impl_within n a b = some (inR n a b) ∧ spec_l01In n a b = some (inR n a b) := ⟨within_val n a b, spec_in_val n a b⟩
theorem inR_iff {n a b : Int} : inR n a b = true ↔ a ≤ n ∧ n ≤ b := by simp [inR]
theorem take_drop0 {α : Type} (l : List α) (i : Nat) : (l.take (Int.toNat (i : Int))).drop (Int.toNat 0) = l.take i := by
  rw [Int.toNat_natCast, show (Int.toNat 0) = 0 from rfl, List.drop_zero]
theorem range_true (i n : Nat) (h : i ≤ n) : (decide (0 ≤ 0) && decide (0 ≤ (i : Int)) && decide ((i : Int) ≤ (n : Int))) = true := by simp; omega
theorem less2_val (a b c d : Int) : spec_l00Less [a, b] [c, d] = some (if a = c then decide (b < d) else decide (a < c)) := by
  rw [spec_l00Less_eq, spec_l00Less.l1010_eq, spec_l00Less.l1010_eq, spec_l00Less.l1010_eq]
  show (bif !decide (a = c) then some (decide (a < c)) else bif !decide (b = d) then some (decide (b < d)) else some false) = _
  by_cases h : a = c
  · by_cases h2 : b = d
    · simp [h, h2]
    · simp [h, h2]
  · simp [h]
def anyB (p : Nat → Bool) : Nat → Nat → Bool
  | _, 0 => false
  | i, k + 1 => bif p i then true else anyB p (i + 1) k
theorem anyB_iff (p : Nat → Bool) : ∀ k i, anyB p i k = true ↔ ∃ j, i ≤ j ∧ j < i + k ∧ p j = true
  | 0, i => by simp [anyB]; omega
  | k + 1, i => by
    rw [anyB, cond_ite]
    by_cases h : p i = true
    · rw [if_pos h]; simp only [true_iff]; exact ⟨i, Nat.le_refl _, by omega, h⟩
    · rw [if_neg h, anyB_iff p k (i + 1)]
      refine ⟨fun ⟨j, h1, h2, h3⟩ => ⟨j, by omega, by omega, h3⟩, fun ⟨j, h1, h2, h3⟩ => ⟨j, ?_, by omega, h3⟩⟩
      rcases Nat.lt_or_ge i j with h4 | h4
      · exact h4
      · have : j = i := by omega
        subst this; exact absurd h3 h
theorem loop_any {β : Type} (L : Int → Option β) (p : Nat → Bool) (n : Nat) (r : Option β) (hstep : ∀ i : Nat, i < n → L (i : Int) = bif p i then r else L ((i + 1 : Nat) : Int)) :
    ∀ k i : Nat, i + k = n → L (i : Int) = bif anyB p i k then r else L (n : Int) := by
  intro k
  induction k with
  | zero => intro i h; have : i = n := by omega
            subst this; rfl
  | succ k ih =>
    intro i h
    rw [hstep i (by omega), ih (i + 1) (by omega), anyB]
    cases p i <;> rfl
theorem loop_any0 {β : Type} {L : Int → Option β} (p : Nat → Bool) (n : Nat) (r : Option β) (hstep : ∀ i : Nat, i < n → L (i : Int) = bif p i then r else L ((i + 1 : Nat) : Int)) : L 0 = bif anyB p 0 n then r else L (n : Int) :=
  loop_any L p n r hstep n 0 (by omega)
theorem find_any (p : Nat → Bool) (n : Nat) : decide (findB p 0 n ≥ 0) = anyB p 0 n := by
  rcases findB_spec p n 0 with ⟨h1, h2⟩ | ⟨j, h1, h2, h3, h4, h5⟩
  · rw [h1]
    cases h : anyB p 0 n with
    | false => rfl
    | true => obtain ⟨j, h3, h4, h5⟩ := (anyB_iff p n 0).1 h; rw [h2 j h3 h4] at h5; cases h5
  · rw [h1, (anyB_iff p n 0).2 ⟨j, h2, h3, h4⟩]; simp
def mapB {α : Type} (f : Nat → α) : Nat → Nat → List α
  | _, 0 => []
  | i, k + 1 => f i :: mapB f (i + 1) k
theorem mapB_length {α : Type} (f : Nat → α) : ∀ k i, (mapB f i k).length = k
  | 0, _ => rfl
  | k + 1, i => by rw [mapB, List.length_cons, mapB_length f k]
theorem loop_map {α β : Type} (L : List α → Int → Option β) (f : Nat → α) (n A : Nat) (hstep : ∀ acc (i : Nat), i < n → acc.length = A + i → L acc (i : Int) = L (acc ++ [f i]) ((i + 1 : Nat) : Int)) :
    ∀ (k i : Nat) (acc : List α), i + k = n → acc.length = A + i → L acc (i : Int) = L (acc ++ mapB f i k) (n : Int) := by
  intro k
  induction k with
  | zero => intro i acc h _; have : i = n := by omega
            subst this; rw [mapB, List.append_nil]
  | succ k ih =>
    intro i acc h ha
    rw [hstep acc i (by omega) ha, ih (i + 1) _ (by omega) (by simp; omega), mapB, List.append_assoc]; rfl
theorem loop_map0 {α β : Type} {L : List α → Int → Option β} (f : Nat → α) (n : Nat) (acc : List α) (hstep : ∀ acc' (i : Nat), i < n → acc'.length = acc.length + i → L acc' (i : Int) = L (acc' ++ [f i]) ((i + 1 : Nat) : Int)) : L acc 0 = L (acc ++ mapB f 0 n) (n : Int) :=
  loop_map L f n acc.length hstep n 0 acc (by omega) (by omega)
def scanB (c : Nat → Int) : Nat → Nat → Int × Int
  | _, 0 => (0, 0)
  | i, k + 1 => if c i = 0 then scanB c (i + 1) k else ((i : Int), c i)
theorem loop_scan (L : Int → Option (Int × Int)) (c : Nat → Int) (n : Nat) (hstep : ∀ i : Nat, i < n → L (i : Int) = if c i = 0 then L ((i + 1 : Nat) : Int) else some ((i : Int), c i)) :
    ∀ k i : Nat, i + k = n → L (i : Int) = if (scanB c i k).2 = 0 then L (n : Int) else some (scanB c i k) := by
  intro k
  induction k with
  | zero => intro i h; have : i = n := by omega
            subst this; rfl
  | succ k ih =>
    intro i h
    rw [hstep i (by omega), ih (i + 1) (by omega), scanB]
    by_cases h : c i = 0
    · rw [if_pos h, if_pos h]
    · rw [if_neg h, if_neg h, if_neg h]
theorem loop_scan0 {L : Int → Option (Int × Int)} (c : Nat → Int) (n : Nat) (hstep : ∀ i : Nat, i < n → L (i : Int) = if c i = 0 then L ((i + 1 : Nat) : Int) else some ((i : Int), c i)) : L 0 = if (scanB c 0 n).2 = 0 then L (n : Int) else some (scanB c 0 n) :=
  loop_scan L c n hstep n 0 (by omega)
theorem scanB_zero (c : Nat → Int) : ∀ k i, (scanB c i k).2 = 0 ↔ ∀ j, i ≤ j → j < i + k → c j = 0
  | 0, i => by simp [scanB]; omega
  | k + 1, i => by
    rw [scanB]
    by_cases h : c i = 0
    · rw [if_pos h, scanB_zero c k (i + 1)]
      refine ⟨fun H j h1 h2 => ?_, fun H j h1 h2 => H j (by omega) (by omega)⟩
      by_cases e : j = i
      · rw [e]; exact h
      · exact H j (by omega) (by omega)
    · rw [if_neg h]
      exact ⟨fun H => absurd H h, fun H => absurd (H i (Nat.le_refl _) (by omega)) h⟩
abbrev TFun : Ty := .pair .str (.pair .bool (.pair (.int .i64) .str))
abbrev Fun : Type := ByteArray × Bool × Int × ByteArray
abbrev TDat : Ty := .pair .str .str
abbrev Dat : Type := ByteArray × ByteArray
abbrev TRel : Ty := .pair (.int .i64) (.pair (.int .i64) (.pair (.int .i64) (.pair .str (.int .i64))))
abbrev Rel : Type := Int × Int × Int × ByteArray × Int
abbrev TDcl : Ty := .pair (.int .i64) .bool
abbrev Dcl : Type := Int × Bool
abbrev Obj : Type := ByteArray × Int × List Fun × List Dat × List Rel × List Dcl
structure ObjSz (o : Obj) : Prop where
  f : o.2.2.1.length ≤ 4
  d : o.2.2.2.1.length ≤ 4
  r : o.2.2.2.2.1.length ≤ 32
  s : o.2.2.2.2.2.length ≤ 4
/-- The names of functions, then of data. -/
def namesV (o : Obj) : List ByteArray := mapB (fun i => (rd (τ := TFun) o.2.2.1 (i : Int)).1) 0 o.2.2.1.length ++ mapB (fun i => (rd (τ := TDat) o.2.2.2.1 (i : Int)).1) 0 o.2.2.2.1.length
def unitsV (o : Obj) : List Int := mapB (fun i => IntKind.wrap .i64 (((rd (τ := TFun) o.2.2.1 (i : Int)).2.2.2.size : Int).tdiv 4)) 0 o.2.2.1.length ++ mapB (fun i => IntKind.wrap .i64 (((rd (τ := TDat) o.2.2.2.1 (i : Int)).2.size : Int).tdiv 8)) 0 o.2.2.2.1.length
theorem room16 (n : Nat) (h : n ≤ 4096) : roomB n 16 = true := by simp [roomB]; omega
theorem room8 (n : Nat) (h : n ≤ 4096) : roomB n 8 = true := by simp [roomB]; omega
theorem names_val (o : Obj) (hz : ObjSz o) (u : Nat) (hu : u ≤ (namesV o).length) : impl_Object_names o (u : Int) = some ((namesV o).take u) := by
  obtain ⟨hf, hd, _, _⟩ := hz
  rw [impl_Object_names_eq]
  rw [loop_map0 (L := fun acc i => impl_Object_names.l11010 (u : Int) o acc o.2.2.1 (o.2.2.1.length : Int) i) (fun i => (rd (τ := TFun) o.2.2.1 (i : Int)).1) o.2.2.1.length [] fun acc i hi ha => ?_]
  · rw [impl_Object_names.l11010_eq, lt_nat, decide_eq_false (Nat.lt_irrefl _), cond_false, List.nil_append]
    rw [loop_map0 (L := fun acc i => impl_Object_names.l111010 (u : Int) acc o.2.2.2.1 (o.2.2.2.1.length : Int) i) (fun i => (rd (τ := TDat) o.2.2.2.1 (i : Int)).1) o.2.2.2.1.length (mapB (fun i => (rd (τ := TFun) o.2.2.1 (i : Int)).1) 0 o.2.2.1.length) fun acc i hi ha => ?_]
    · show impl_Object_names.l111010 (u : Int) (namesV o) o.2.2.2.1 (o.2.2.2.1.length : Int) (o.2.2.2.1.length : Int) = _
      rw [impl_Object_names.l111010_eq, lt_nat, decide_eq_false (Nat.lt_irrefl _), cond_false, range_true u _ hu, cond_true, take_drop0]
    · rw [mapB_length] at ha
      show impl_Object_names.l111010 (u : Int) acc o.2.2.2.1 (o.2.2.2.1.length : Int) (i : Int) = _
      rw [impl_Object_names.l111010_eq, lt_nat, inL_nat, decide_eq_true hi, w64_succ i _ hi (by omega), room16 _ (by simp; omega)]; rfl
  · show impl_Object_names.l11010 (u : Int) o acc o.2.2.1 (o.2.2.1.length : Int) (i : Int) = _
    rw [impl_Object_names.l11010_eq, lt_nat, inL_nat, decide_eq_true hi, w64_succ i _ hi (by omega), room16 _ (by simp at ha ⊢; omega)]; rfl
theorem units_val (o : Obj) (hz : ObjSz o) : impl_Object_units o = some (unitsV o) := by
  obtain ⟨hf, hd, _, _⟩ := hz
  rw [impl_Object_units_eq]
  rw [loop_map0 (L := fun acc i => impl_Object_units.l11010 o acc o.2.2.1 (o.2.2.1.length : Int) i) (fun i => IntKind.wrap .i64 (((rd (τ := TFun) o.2.2.1 (i : Int)).2.2.2.size : Int).tdiv 4)) o.2.2.1.length [] fun acc i hi ha => ?_]
  · rw [impl_Object_units.l11010_eq, lt_nat, decide_eq_false (Nat.lt_irrefl _), cond_false, List.nil_append]
    rw [loop_map0 (L := fun acc i => impl_Object_units.l111010 acc o.2.2.2.1 (o.2.2.2.1.length : Int) i) (fun i => IntKind.wrap .i64 (((rd (τ := TDat) o.2.2.2.1 (i : Int)).2.size : Int).tdiv 8)) o.2.2.2.1.length (mapB (fun i => IntKind.wrap .i64 (((rd (τ := TFun) o.2.2.1 (i : Int)).2.2.2.size : Int).tdiv 4)) 0 o.2.2.1.length) fun acc i hi ha => ?_]
    · rw [impl_Object_units.l111010_eq, lt_nat, decide_eq_false (Nat.lt_irrefl _), cond_false]; rfl
    · rw [mapB_length] at ha
      show impl_Object_units.l111010 acc o.2.2.2.1 (o.2.2.2.1.length : Int) (i : Int) = _
      rw [impl_Object_units.l111010_eq, lt_nat, inL_nat, decide_eq_true hi, w64_succ i _ hi (by omega), room8 _ (by simp; omega)]; rfl
  · show impl_Object_units.l11010 o acc o.2.2.1 (o.2.2.1.length : Int) (i : Int) = _
    rw [impl_Object_units.l11010_eq, lt_nat, inL_nat, decide_eq_true hi, w64_succ i _ hi (by omega), room8 _ (by simp at ha ⊢; omega)]; rfl
def hasS (l : List ByteArray) (n : ByteArray) : Bool := l.any fun y => decide (y = n)
theorem hasS_iff {l : List ByteArray} {n : ByteArray} : hasS l n = true ↔ n ∈ l := by simp [hasS]
theorem hasStr_val (l : List ByteArray) (n : ByteArray) (hl : l.length ≤ 4096) : slices_Contains_string l n = some (hasS l n) := by
  rw [slices_Contains_string_eq, slices_Index_string_eq, loop_find0 (L := slices_Index_string.l1010 l n (l.length : Int)) (fun i => decide (n = rd (τ := .str) l (i : Int))) l.length ?_ fun i hi => ?_]
  · simp only [Option.bind_some]
    rw [find_any]
    congr 1
    rw [Bool.eq_iff_iff, anyB_iff, hasS_iff, List.mem_iff_getElem]
    refine ⟨fun ⟨j, h1, h2, h3⟩ => ⟨j, by omega, ?_⟩, fun ⟨j, h1, h2⟩ => ⟨j, by omega, by omega, ?_⟩⟩
    · rw [decide_eq_true_iff, rd_nat (τ := .str) l j (by omega)] at h3; exact h3.symm
    · rw [decide_eq_true_iff, rd_nat (τ := .str) l j h1]; exact h2.symm
  · rw [slices_Index_string.l1010_eq, lt_nat]; simp
  · rw [slices_Index_string.l1010_eq, lt_nat, inL_nat, decide_eq_true hi, w64_succ i _ hi (by omega), strEq_dec]; rfl
theorem mapB_mem {α : Type} (f : Nat → α) (x : α) : ∀ k i, x ∈ mapB f i k ↔ ∃ j, i ≤ j ∧ j < i + k ∧ f j = x
  | 0, i => by simp [mapB]; omega
  | k + 1, i => by
    rw [mapB, List.mem_cons, mapB_mem f x k (i + 1)]
    constructor
    · rintro (h | ⟨j, h1, h2, h3⟩)
      · exact ⟨i, Nat.le_refl _, by omega, h.symm⟩
      · exact ⟨j, by omega, by omega, h3⟩
    · rintro ⟨j, h1, h2, h3⟩
      by_cases e : j = i
      · subst e; exact .inl h3.symm
      · exact .inr ⟨j, by omega, by omega, h3⟩
theorem mapB_take {α : Type} (f : Nat → α) : ∀ k i n, (mapB f i k).take n = mapB f i (min n k)
  | 0, i, n => by simp [mapB]
  | k + 1, i, 0 => by simp [mapB]
  | k + 1, i, n + 1 => by rw [mapB, List.take_succ_cons, mapB_take f k (i + 1) n, Nat.add_min_add_right, mapB]
theorem names_take_f (o : Obj) (i : Nat) (hi : i ≤ o.2.2.1.length) : (namesV o).take i = mapB (fun i => (rd (τ := TFun) o.2.2.1 (i : Int)).1) 0 i := by
  unfold namesV
  rw [List.take_append_of_le_length (by rw [mapB_length]; exact hi), mapB_take, Nat.min_eq_left hi]
theorem names_take_d (o : Obj) (i : Nat) (hi : i ≤ o.2.2.2.1.length) : (namesV o).take (o.2.2.1.length + i) = mapB (fun i => (rd (τ := TFun) o.2.2.1 (i : Int)).1) 0 o.2.2.1.length ++ mapB (fun i => (rd (τ := TDat) o.2.2.2.1 (i : Int)).1) 0 i := by
  unfold namesV
  rw [List.take_append, mapB_length, List.take_of_length_le (by rw [mapB_length]; omega), mapB_take, show o.2.2.1.length + i - o.2.2.1.length = i by omega, Nat.min_eq_left hi]
theorem names_len (o : Obj) : (namesV o).length = o.2.2.1.length + o.2.2.2.1.length := by unfold namesV; rw [List.length_append, mapB_length, mapB_length]
theorem hasS_mapB (f : Nat → ByteArray) (n : ByteArray) (k : Nat) : hasS (mapB f 0 k) n = anyB (fun j => decide (f j = n)) 0 k := by
  rw [Bool.eq_iff_iff, hasS_iff, mapB_mem, anyB_iff]; simp
theorem hasS_app (a b : List ByteArray) (n : ByteArray) : hasS (a ++ b) n = (hasS a n || hasS b n) := by simp [hasS]
theorem scanB_none (c : Nat → Int) : ∀ k i, (scanB c i k).2 = 0 → scanB c i k = (0, 0)
  | 0, _, _ => rfl
  | k + 1, i, h => by
    rw [scanB] at h ⊢
    by_cases e : c i = 0
    · rw [if_pos e] at h ⊢; exact scanB_none c k (i + 1) h
    · rw [if_neg e] at h; exact absurd h e
theorem scan_end (c : Nat → Int) (i k : Nat) : (if (scanB c i k).2 = 0 then some ((0, 0) : Int × Int) else some (scanB c i k)) = some (scanB c i k) := by
  by_cases h : (scanB c i k).2 = 0
  · rw [if_pos h, scanB_none c k i h]
  · rw [if_neg h]
/-- What is wrong with a function, with data. -/
noncomputable def funC (o : Obj) (i : Nat) : Int :=
  if nameV (rd (τ := TFun) o.2.2.1 (i : Int)).1 = false then 3 else if hasS ((namesV o).take i) (rd (τ := TFun) o.2.2.1 (i : Int)).1 = true then 24
  else if frameV (rd (τ := TFun) o.2.2.1 (i : Int)).2.2.1 = false then 17 else if funcSizeV (rd (τ := TFun) o.2.2.1 (i : Int)).2.2.2.size = false then 8 else 0
def datSz (n : Nat) : Bool := inR (n : Int) 8 64 && decide ((n : Int).tmod 8 = 0)
noncomputable def datC (o : Obj) (i : Nat) : Int :=
  if nameV (rd (τ := TDat) o.2.2.2.1 (i : Int)).1 = false then 3 else if hasS ((namesV o).take (o.2.2.1.length + i)) (rd (τ := TDat) o.2.2.2.1 (i : Int)).1 = true then 24
  else if datSz (rd (τ := TDat) o.2.2.2.1 (i : Int)).2.size = false then 8 else 0
theorem lintName_val (o : Obj) (hz : ObjSz o) (n : ByteArray) (u : Nat) (hu : u ≤ (namesV o).length) : impl_Object_lintName o n (u : Int) = some (if nameV n = false then 3 else if hasS ((namesV o).take u) n = true then 24 else 0) := by
  have := hz.f; have := hz.d; have := names_len o
  rw [impl_Object_lintName_eq, (name_val _).1, names_val o hz u hu]
  simp only [Option.bind_some]
  rw [hasStr_val _ _ (by simp; omega)]
  cases nameV n <;> cases hasS ((namesV o).take u) n <;> rfl
theorem code_val (t : ByteArray) : spec_l08Code t = some (funcSizeV t.size) := by
  rw [spec_l08Code_eq]
  unfold funcSizeV codeSizeV
  cases decide ((t.size : Int).tmod 4 = 0) <;> cases decide ((t.size : Int) ≥ 20) <;> cases decide ((t.size : Int) ≤ 256) <;> rfl
theorem impl_funs (o : Obj) (hz : ObjSz o) : impl_LintObject.l11010 o o.2.2.1 (o.2.2.1.length : Int) 0 = if (scanB (funC o) 0 o.2.2.1.length).2 = 0 then impl_LintObject.l111010 o o.2.2.2.1 (o.2.2.2.1.length : Int) 0 else some (scanB (funC o) 0 o.2.2.1.length) := by
  have := hz.f
  rw [loop_scan0 (L := impl_LintObject.l11010 o o.2.2.1 (o.2.2.1.length : Int)) (funC o) o.2.2.1.length fun i hi => ?_]
  · rw [impl_LintObject.l11010_eq, lt_nat, decide_eq_false (Nat.lt_irrefl _), cond_false]
  · rw [impl_LintObject.l11010_eq, lt_nat, inL_nat, decide_eq_true hi, w64_succ i _ hi (by omega), lintName_val o hz _ i (by rw [names_len]; omega), (frame_val _).1, funcSize_val]
    unfold funC
    simp only [cond_true, Option.bind_some]
    cases nameV (rd (τ := TFun) o.2.2.1 (i : Int)).1 with
    | false => rfl
    | true =>
      cases hasS ((namesV o).take i) (rd (τ := TFun) o.2.2.1 (i : Int)).1 with
      | true => rfl
      | false => cases frameV (rd (τ := TFun) o.2.2.1 (i : Int)).2.2.1 <;> cases funcSizeV (rd (τ := TFun) o.2.2.1 (i : Int)).2.2.2.size <;> rfl
theorem impl_dats (o : Obj) (hz : ObjSz o) : impl_LintObject.l111010 o o.2.2.2.1 (o.2.2.2.1.length : Int) 0 = if (scanB (datC o) 0 o.2.2.2.1.length).2 = 0 then impl_LintObject.l1111010 o (o.2.2.2.2.1.length : Int) 0 else some (scanB (datC o) 0 o.2.2.2.1.length) := by
  have h1 := hz.f
  have h2 := hz.d
  rw [loop_scan0 (L := impl_LintObject.l111010 o o.2.2.2.1 (o.2.2.2.1.length : Int)) (datC o) o.2.2.2.1.length fun i hi => ?_]
  · rw [impl_LintObject.l111010_eq, lt_nat, decide_eq_false (Nat.lt_irrefl _), cond_false]
  · rw [impl_LintObject.l111010_eq, lt_nat, inL_nat, decide_eq_true hi, w64_succ i _ hi (by omega), w64 (n := (o.2.2.1.length : Int) + (i : Int)) (by omega) (by omega), ← Int.natCast_add, lintName_val o hz _ (o.2.2.1.length + i) (by rw [names_len]; omega), (in_val _ _ _).1]
    unfold datC datSz
    simp only [cond_true, Option.bind_some]
    cases nameV (rd (τ := TDat) o.2.2.2.1 (i : Int)).1 with
    | false => rfl
    | true =>
      cases hasS ((namesV o).take (o.2.2.1.length + i)) (rd (τ := TDat) o.2.2.2.1 (i : Int)).1 with
      | true => rfl
      | false => cases inR ((rd (τ := TDat) o.2.2.2.1 (i : Int)).2.size : Int) 8 64 <;> cases decide (((rd (τ := TDat) o.2.2.2.1 (i : Int)).2.size : Int).tmod 8 = 0) <;> rfl
theorem spec_funs (o : Obj) (hz : ObjSz o) : spec_l08Funcs o = some (scanB (funC o) 0 o.2.2.1.length) := by
  have h1 := hz.f
  rw [spec_l08Funcs_eq, loop_scan0 (L := spec_l08Funcs.l1010 o) (funC o) o.2.2.1.length fun i hi => ?_]
  · rw [spec_l08Funcs.l1010_eq, lt_nat, decide_eq_false (Nat.lt_irrefl _), cond_false]
    exact scan_end _ _ _
  · rw [spec_l08Funcs.l1010_eq, lt_nat, inL_nat, decide_eq_true hi, (name_val _).2]
    unfold funC
    simp only [cond_true, Option.bind_some]
    cases nameV (rd (τ := TFun) o.2.2.1 (i : Int)).1 with
    | false => rfl
    | true =>
      rw [show (!true) = false from rfl, cond_false, loop_any0 (L := spec_l08Funcs.l1010010011010 o (i : Int) (rd (τ := TFun) o.2.2.1 (i : Int))) (fun j => decide ((rd (τ := TFun) o.2.2.1 (j : Int)).1 = (rd (τ := TFun) o.2.2.1 (i : Int)).1)) i (some ((i : Int), 24)) fun j hj => ?_]
      · rw [names_take_f o i (by omega), hasS_mapB]
        cases anyB (fun j => decide ((rd (τ := TFun) o.2.2.1 (j : Int)).1 = (rd (τ := TFun) o.2.2.1 (i : Int)).1)) 0 i with
        | true => rfl
        | false =>
          rw [spec_l08Funcs.l1010010011010_eq, lt_nat, decide_eq_false (Nat.lt_irrefl _), cond_false, cond_false, (frame_val _).2, code_val, w64_succ i _ hi (by omega)]
          simp only [Option.bind_some]
          cases frameV (rd (τ := TFun) o.2.2.1 (i : Int)).2.2.1 <;> cases funcSizeV (rd (τ := TFun) o.2.2.1 (i : Int)).2.2.2.size <;> rfl
      · rw [spec_l08Funcs.l1010010011010_eq, lt_nat, inL_nat, decide_eq_true hj, decide_eq_true (show j < o.2.2.1.length by omega), w64_succ j _ hj (by omega), strEq_dec]; rfl
theorem spec_dats (o : Obj) (hz : ObjSz o) : spec_l08Datas o = some (scanB (datC o) 0 o.2.2.2.1.length) := by
  have h1 := hz.f
  have h2 := hz.d
  rw [spec_l08Datas_eq, loop_scan0 (L := spec_l08Datas.l1010 o) (datC o) o.2.2.2.1.length fun i hi => ?_]
  · rw [spec_l08Datas.l1010_eq, lt_nat, decide_eq_false (Nat.lt_irrefl _), cond_false]
    exact scan_end _ _ _
  · rw [spec_l08Datas.l1010_eq, lt_nat, inL_nat, decide_eq_true hi, (name_val _).2]
    unfold datC datSz
    simp only [cond_true, Option.bind_some]
    cases nameV (rd (τ := TDat) o.2.2.2.1 (i : Int)).1 with
    | false => rfl
    | true =>
      rw [show (!true) = false from rfl, cond_false, loop_any0 (L := spec_l08Datas.l1010010011010 o (i : Int) (rd (τ := TDat) o.2.2.2.1 (i : Int))) (fun j => decide ((rd (τ := TFun) o.2.2.1 (j : Int)).1 = (rd (τ := TDat) o.2.2.2.1 (i : Int)).1)) o.2.2.1.length (some ((i : Int), 24)) fun j hj => ?_]
      · rw [names_take_d o i (by omega), hasS_app, hasS_mapB, hasS_mapB]
        cases anyB (fun j => decide ((rd (τ := TFun) o.2.2.1 (j : Int)).1 = (rd (τ := TDat) o.2.2.2.1 (i : Int)).1)) 0 o.2.2.1.length with
        | true => rfl
        | false =>
          rw [spec_l08Datas.l1010010011010_eq, lt_nat, decide_eq_false (Nat.lt_irrefl _), cond_false, cond_false, loop_any0 (L := spec_l08Datas.l10100100111010 o (i : Int) (rd (τ := TDat) o.2.2.2.1 (i : Int))) (fun j => decide ((rd (τ := TDat) o.2.2.2.1 (j : Int)).1 = (rd (τ := TDat) o.2.2.2.1 (i : Int)).1)) i (some ((i : Int), 24)) fun j hj => ?_]
          · cases anyB (fun j => decide ((rd (τ := TDat) o.2.2.2.1 (j : Int)).1 = (rd (τ := TDat) o.2.2.2.1 (i : Int)).1)) 0 i with
            | true => rfl
            | false =>
              rw [spec_l08Datas.l10100100111010_eq, lt_nat, decide_eq_false (Nat.lt_irrefl _), cond_false, cond_false, w64_succ i _ hi (by omega)]
              unfold inR
              generalize (rd (τ := TDat) o.2.2.2.1 (i : Int)).2.size = n
              rw [show decide ((n : Int) < 8) = !decide (8 ≤ (n : Int)) by rw [← decide_not]; congr 1; apply propext; omega, show decide ((n : Int) > 64) = !decide ((n : Int) ≤ 64) by rw [← decide_not]; congr 1; apply propext; omega]
              cases decide ((n : Int).tmod 8 = 0) <;> cases decide (8 ≤ (n : Int)) <;> cases decide ((n : Int) ≤ 64) <;> rfl
          · rw [spec_l08Datas.l10100100111010_eq, lt_nat, inL_nat, decide_eq_true hj, decide_eq_true (show j < o.2.2.2.1.length by omega), w64_succ j _ hj (by omega), strEq_dec]; rfl
      · rw [spec_l08Datas.l1010010011010_eq, lt_nat, inL_nat, decide_eq_true hj, w64_succ j _ hj (by omega), strEq_dec]; rfl
def lessR (a b c d : Int) : Bool := if a = c then decide (b < d) else decide (a < c)
def unitV (o : Obj) (u : Int) : Int :=
  if 0 ≤ u ∧ u < (o.2.2.1.length : Int) then ((rd (τ := TFun) o.2.2.1 u).2.2.2.size : Int).tdiv 4
  else if (o.2.2.1.length : Int) ≤ u ∧ u < (o.2.2.1.length : Int) + (o.2.2.2.1.length : Int) then ((rd (τ := TDat) o.2.2.2.1 (u - (o.2.2.1.length : Int))).2.size : Int).tdiv 8 else -1
structure UnitSz (o : Obj) : Prop extends ObjSz o where
  fs : ∀ i, i < o.2.2.1.length → (rd (τ := TFun) o.2.2.1 (i : Int)).2.2.2.size ≤ 256
  ds : ∀ i, i < o.2.2.2.1.length → (rd (τ := TDat) o.2.2.2.1 (i : Int)).2.size ≤ 64
theorem mapB_get {α : Type} (f : Nat → α) : ∀ k i j (h : j < (mapB f i k).length), (mapB f i k)[j] = f (i + j)
  | 0, _, _, h => by simp [mapB] at h
  | k + 1, i, 0, _ => by simp [mapB]
  | k + 1, i, j + 1, h => by
    have := mapB_get f k (i + 1) j (by rw [mapB_length] at h ⊢; omega)
    simp only [mapB, List.getElem_cons_succ]
    rw [this]; congr 1; omega
theorem wdiv (n k : Nat) (h : n ≤ 4096) : IntKind.wrap .i64 ((n : Int).tdiv (k : Int)) = (n : Int).tdiv (k : Int) := by
  rw [Int.tdiv_eq_ediv_of_nonneg (by omega)]
  have h1 : 0 ≤ (n : Int) / (k : Int) := Int.ediv_nonneg (by omega) (by omega)
  have h2 : (n : Int) / (k : Int) ≤ (n : Int) := Int.ediv_le_self _ (by omega)
  exact w64 (by omega) (by omega)
theorem units_len (o : Obj) : (unitsV o).length = o.2.2.1.length + o.2.2.2.1.length := by unfold unitsV; rw [List.length_append, mapB_length, mapB_length]
theorem units_rd (o : Obj) (hz : UnitSz o) (u : Nat) (hu : u < o.2.2.1.length + o.2.2.2.1.length) : rd (τ := .int .i64) (unitsV o) (u : Int) = unitV o (u : Int) := by
  unfold unitV
  have hl := units_len o
  rw [rd_nat (τ := .int .i64) (unitsV o) u (by omega)]
  by_cases h : u < o.2.2.1.length
  · rw [if_pos ⟨by omega, by omega⟩]
    have : (unitsV o)[u]'(by omega) = IntKind.wrap .i64 (((rd (τ := TFun) o.2.2.1 ((0 + u : Nat) : Int)).2.2.2.size : Int).tdiv 4) := by
      unfold unitsV
      rw [List.getElem_append_left (by rw [mapB_length]; exact h), mapB_get]
    rw [this, Nat.zero_add]
    exact wdiv _ 4 (by have := hz.fs u h; omega)
  · rw [if_neg (by omega), if_pos ⟨by omega, by omega⟩]
    have : (unitsV o)[u]'(by omega) = IntKind.wrap .i64 (((rd (τ := TDat) o.2.2.2.1 ((0 + (u - (mapB (fun i => IntKind.wrap .i64 (((rd (τ := TFun) o.2.2.1 (i : Int)).2.2.2.size : Int).tdiv 4)) 0 o.2.2.1.length).length) : Nat) : Int)).2.size : Int).tdiv 8) := by
      unfold unitsV
      rw [List.getElem_append_right (by rw [mapB_length]; omega), mapB_get]
    rw [mapB_length] at this
    rw [this, Nat.zero_add, show (u : Int) - (o.2.2.1.length : Int) = ((u - o.2.2.1.length : Nat) : Int) by omega]
    exact wdiv _ 8 (by have := hz.ds (u - o.2.2.1.length) (by omega); omega)
theorem unitV_range (o : Obj) (hz : UnitSz o) (u : Int) : -1 ≤ unitV o u ∧ unitV o u ≤ 256 := by
  unfold unitV
  split
  · rename_i h
    have := hz.fs u.toNat (by omega)
    rw [show ((u.toNat : Nat) : Int) = u by omega] at this
    rw [Int.tdiv_eq_ediv_of_nonneg (by omega)]
    omega
  · split
    · rename_i h
      have := hz.ds (u - (o.2.2.1.length : Int)).toNat (by omega)
      rw [show (((u - (o.2.2.1.length : Int)).toNat : Nat) : Int) = u - (o.2.2.1.length : Int) by omega] at this
      rw [Int.tdiv_eq_ediv_of_nonneg (by omega)]
      omega
    · omega
theorem spec_unit (o : Obj) (hz : UnitSz o) (u : Int) (hu : -9223372036854775808 ≤ u ∧ u ≤ 9223372036854775807) : spec_l08Unit o u = some (unitV o u) := by
  rw [spec_l08Unit_eq]
  have h1 := hz.f
  have h2 := hz.d
  unfold unitV
  by_cases h : 0 ≤ u ∧ u < (o.2.2.1.length : Int)
  · have e1 : decide (u ≥ 0) = true := decide_eq_true h.1
    have e2 : decide (u < (o.2.2.1.length : Int)) = true := decide_eq_true h.2
    simp only [joinB, e1, e2, cond_true, inL_true h.1 h.2, if_pos h]
    have := hz.fs u.toNat (by omega)
    rw [show ((u.toNat : Nat) : Int) = u by omega] at this
    rw [show (4 : Int) = ((4 : Nat) : Int) from rfl, wdiv _ 4 (by omega)]
  · have e0 : (decide (u ≥ 0) && decide (u < (o.2.2.1.length : Int))) = false := by simp; omega
    simp only [joinB, if_neg h]
    generalize decide (u ≥ 0) = b0 at *
    generalize decide (u < (o.2.2.1.length : Int)) = b1 at *
    by_cases h3 : (o.2.2.1.length : Int) ≤ u
    · rw [decide_eq_true (show u ≥ (o.2.2.1.length : Int) from h3), w64 (n := u - (o.2.2.1.length : Int)) (by omega) (by omega)]
      by_cases h4 : u < (o.2.2.1.length : Int) + (o.2.2.2.1.length : Int)
      · rw [if_pos ⟨h3, h4⟩, decide_eq_true (show u - (o.2.2.1.length : Int) < (o.2.2.2.1.length : Int) by omega), inL_true (i := u - (o.2.2.1.length : Int)) (n := o.2.2.2.1.length) (by omega) (by omega)]
        have := hz.ds (u - (o.2.2.1.length : Int)).toNat (by omega)
        rw [show (((u - (o.2.2.1.length : Int)).toNat : Nat) : Int) = u - (o.2.2.1.length : Int) by omega] at this
        rw [show (8 : Int) = ((8 : Nat) : Int) from rfl, wdiv _ 8 (by omega)]
        cases b0 <;> cases b1 <;> first | rfl | (exact absurd e0 (by decide))
      · rw [if_neg (by omega), decide_eq_false (show ¬ u - (o.2.2.1.length : Int) < (o.2.2.2.1.length : Int) by omega)]
        cases b0 <;> cases b1 <;> first | rfl | (exact absurd e0 (by decide))
    · rw [decide_eq_false (show ¬ u ≥ (o.2.2.1.length : Int) from h3), if_neg (by omega)]
      cases b0 <;> cases b1 <;> first | rfl | (exact absurd e0 (by decide))
def I64 (n : Int) : Prop := -9223372036854775808 ≤ n ∧ n ≤ 9223372036854775807
def RelsR (o : Obj) : Prop := ∀ k, k < o.2.2.2.2.1.length → I64 (rd (τ := TRel) o.2.2.2.2.1 (k : Int)).1
def relAt (o : Obj) (r : Rel) : Bool := inR r.1 0 ((o.2.2.1.length : Int) + (o.2.2.2.1.length : Int) - 1) && inR r.2.1 0 (unitV o r.1 - 1)
noncomputable def relC (o : Obj) (k : Nat) : Int :=
  if relAt o (rd (τ := TRel) o.2.2.2.2.1 (k : Int)) = false then 4
  else if (inR (rd (τ := TRel) o.2.2.2.2.1 (k : Int)).2.2.1 1 9 && (decide ((rd (τ := TRel) o.2.2.2.2.1 (k : Int)).2.2.1 = 9) == decide ((rd (τ := TRel) o.2.2.2.2.1 (k : Int)).1 ≥ (o.2.2.1.length : Int)))) = false then 26
  else if nameV (rd (τ := TRel) o.2.2.2.2.1 (k : Int)).2.2.2.1 = false then 3
  else if inR (rd (τ := TRel) o.2.2.2.2.1 (k : Int)).2.2.2.2 (-2147483648) 2147483647 = false then 4
  else if k = 0 then 0
  else if lessR (rd (τ := TRel) o.2.2.2.2.1 ((k - 1 : Nat) : Int)).1 (rd (τ := TRel) o.2.2.2.2.1 ((k - 1 : Nat) : Int)).2.1 (rd (τ := TRel) o.2.2.2.2.1 (k : Int)).1 (rd (τ := TRel) o.2.2.2.2.1 (k : Int)).2.1 = false then 24 else 0
theorem lessR_impl (pu pa u a : Int) : (bif decide (u < pu) then some (24 : Int) else bif decide (u = pu) then bif decide (a ≤ pa) then some 24 else some 0 else some 0) = some (if lessR pu pa u a = false then 24 else 0) := by
  rcases Int.lt_trichotomy u pu with h | h | h
  · rw [decide_eq_true h, show lessR pu pa u a = false by unfold lessR; rw [if_neg (show ¬ pu = u by omega)]; exact decide_eq_false (by omega)]; rfl
  · subst h
    rw [decide_eq_false (by omega), decide_eq_true rfl, cond_false, cond_true]
    have : lessR u pa u a = decide (pa < a) := by unfold lessR; rw [if_pos rfl]
    rw [this]
    by_cases h : a ≤ pa
    · rw [decide_eq_true h, decide_eq_false (show ¬ pa < a by omega)]; rfl
    · rw [decide_eq_false h, decide_eq_true (show pa < a by omega)]; rfl
  · rw [decide_eq_false (by omega), decide_eq_false (by omega), show lessR pu pa u a = true by unfold lessR; rw [if_neg (show ¬ pu = u by omega)]; exact decide_eq_true (by omega)]; rfl
theorem relAt_impl (o : Obj) (hz : UnitSz o) (r : Rel) {β : Type} (K : Bool → Option β) :
    ((impl_within r.1 0 (IntKind.wrap .i64 (((unitsV o).length : Int) - 1))).bind fun r2 => bif (!r2) then K true else (bif (inL r.1 (unitsV o).length) then ((impl_within r.2.1 0 (IntKind.wrap .i64 ((rd (τ := .int .i64) (unitsV o) r.1) - 1))).bind fun r3 => K (!r3)) else none)) = K (!relAt o r) := by
  have h1 := hz.f
  have h2 := hz.d
  rw [units_len, w64 (n := ((o.2.2.1.length + o.2.2.2.1.length : Nat) : Int) - 1) (by omega) (by omega), (in_val _ _ _).1, (in_val _ _ _).1]
  simp only [Option.bind_some]
  unfold relAt
  rw [Int.natCast_add]
  by_cases h : 0 ≤ r.1 ∧ r.1 ≤ (o.2.2.1.length : Int) + (o.2.2.2.1.length : Int) - 1
  · rw [inR_iff.2 h, inL_true (by omega) (by omega)]
    have hu := units_rd o hz r.1.toNat (by omega)
    rw [show ((r.1.toNat : Nat) : Int) = r.1 by omega] at hu
    have hr := unitV_range o hz r.1
    simp only [Bool.not_true, cond_false, cond_true, Bool.true_and]
    rw [hu, w64 (n := unitV o r.1 - 1) (by omega) (by omega)]
  · rw [show inR r.1 0 ((o.2.2.1.length : Int) + (o.2.2.2.1.length : Int) - 1) = false by cases h5 : inR r.1 0 ((o.2.2.1.length : Int) + (o.2.2.2.1.length : Int) - 1); rfl; exact absurd (inR_iff.1 h5) h]; rfl
theorem relAt_spec (o : Obj) (hz : UnitSz o) (r : Rel) (hr : I64 r.1) {β : Type} (K : Bool → Option β) :
    (bif decide (r.2.1 < 0) then K true else ((spec_l08Unit o r.1).bind fun r1 => K (decide (r.2.1 ≥ r1)))) = K (!relAt o r) := by
  rw [spec_unit o hz _ hr]
  simp only [Option.bind_some]
  have h1 := hz.f
  have h2 := hz.d
  have e : (decide (r.2.1 < 0) || decide (r.2.1 ≥ unitV o r.1)) = !relAt o r := by
    unfold relAt
    rw [Bool.eq_iff_iff]
    simp only [Bool.or_eq_true, decide_eq_true_eq, Bool.not_eq_true', Bool.and_eq_false_imp, inR_iff]
    constructor
    · intro h h3
      cases h4 : inR r.2.1 0 (unitV o r.1 - 1) with
      | false => rfl
      | true => rw [inR_iff] at h4; omega
    · intro h
      by_cases h3 : 0 ≤ r.1 ∧ r.1 ≤ (o.2.2.1.length : Int) + (o.2.2.2.1.length : Int) - 1
      · have := h h3
        by_cases h4 : 0 ≤ r.2.1 ∧ r.2.1 ≤ unitV o r.1 - 1
        · rw [inR_iff.2 h4] at this; cases this
        · omega
      · have : unitV o r.1 = -1 := by unfold unitV; rw [if_neg (by omega), if_neg (by omega)]
        omega
  rw [← e]
  cases decide (r.2.1 < 0) <;> rfl
theorem impl_rels (o : Obj) (hz : UnitSz o) : impl_LintObject.l1111010 o (o.2.2.2.2.1.length : Int) 0 = if (scanB (relC o) 0 o.2.2.2.2.1.length).2 = 0 then impl_LintObject.l11111010 o o.2.2.2.2.2 (o.2.2.2.2.2.length : Int) 0 else some (scanB (relC o) 0 o.2.2.2.2.1.length) := by
  have h3 := hz.r
  rw [loop_scan0 (L := impl_LintObject.l1111010 o (o.2.2.2.2.1.length : Int)) (relC o) o.2.2.2.2.1.length fun i hi => ?_]
  · rw [impl_LintObject.l1111010_eq, lt_nat, decide_eq_false (Nat.lt_irrefl _), cond_false]
  · have e : impl_Object_lintReloc o (i : Int) = some (relC o i) := by
      rw [impl_Object_lintReloc_eq, inL_nat, decide_eq_true hi, cond_true, units_val o hz.toObjSz]
      simp only [Option.bind_some, joinB]
      rw [relAt_impl o hz (rd (τ := TRel) o.2.2.2.2.1 (i : Int)) (fun r5 => bif r5 then some 4 else _)]
      unfold relC
      generalize hrel : relAt o (rd (τ := TRel) o.2.2.2.2.1 (i : Int)) = ra
      rw [(in_val _ _ _).1, (in_val _ _ _).1, (name_val _).1]
      simp only [Option.bind_some]
      cases ra with
      | false => rfl
      | true =>
        generalize inR (rd (τ := TRel) o.2.2.2.2.1 (i : Int)).2.2.1 1 9 = b1
        generalize (decide ((rd (τ := TRel) o.2.2.2.2.1 (i : Int)).2.2.1 = 9) == decide ((rd (τ := TRel) o.2.2.2.2.1 (i : Int)).1 ≥ (o.2.2.1.length : Int))) = b2
        cases b1 with
        | false => rfl
        | true =>
          cases b2 with
          | false => rfl
          | true =>
            generalize nameV (rd (τ := TRel) o.2.2.2.2.1 (i : Int)).2.2.2.1 = b3
            generalize inR (rd (τ := TRel) o.2.2.2.2.1 (i : Int)).2.2.2.2 (-2147483648) 2147483647 = b4
            cases b3 with
            | false => rfl
            | true =>
              cases b4 with
              | false => rfl
              | true =>
                by_cases h0 : i = 0
                · rw [show decide ((i : Int) > 0) = false by simp [h0], if_pos h0]; rfl
                · rw [show decide ((i : Int) > 0) = true by simp; omega, if_neg h0, w64_pred i (by omega) (by omega), inL_nat, decide_eq_true (show i - 1 < o.2.2.2.2.1.length by omega), lessR_impl]; rfl
    rw [impl_LintObject.l1111010_eq, lt_nat, decide_eq_true hi, w64_succ i _ hi (by omega), e]
    simp only [Option.bind_some, cond_true]
    by_cases h : relC o i = 0
    · rw [if_pos h, decide_eq_true h]; rfl
    · rw [if_neg h, decide_eq_false h]; rfl
theorem spec_rels (o : Obj) (hz : UnitSz o) (hr : RelsR o) : spec_l08Relocs o = some (scanB (relC o) 0 o.2.2.2.2.1.length) := by
  have h3 := hz.r
  rw [spec_l08Relocs_eq, loop_scan0 (L := spec_l08Relocs.l1010 o) (relC o) o.2.2.2.2.1.length fun i hi => ?_]
  · rw [spec_l08Relocs.l1010_eq, lt_nat, decide_eq_false (Nat.lt_irrefl _), cond_false]
    exact scan_end _ _ _
  · rw [spec_l08Relocs.l1010_eq, lt_nat, inL_nat, decide_eq_true hi, cond_true, cond_true]
    simp only [joinB]
    rw [relAt_spec o hz (rd (τ := TRel) o.2.2.2.2.1 (i : Int)) (hr i hi) (fun r5 => bif r5 then some ((i : Int), 4) else _)]
    unfold relC
    generalize hrel : relAt o (rd (τ := TRel) o.2.2.2.2.1 (i : Int)) = ra
    rw [(in_val _ _ _).2, (in_val _ _ _).2, (name_val _).2, w64_succ i _ hi (by omega)]
    simp only [Option.bind_some]
    cases ra with
    | false => rfl
    | true =>
      generalize inR (rd (τ := TRel) o.2.2.2.2.1 (i : Int)).2.2.1 1 9 = b1
      generalize (decide ((rd (τ := TRel) o.2.2.2.2.1 (i : Int)).2.2.1 = 9) == decide ((rd (τ := TRel) o.2.2.2.2.1 (i : Int)).1 ≥ (o.2.2.1.length : Int))) = b2
      cases b1 with
      | false => rfl
      | true =>
        cases b2 with
        | false => rfl
        | true =>
          generalize nameV (rd (τ := TRel) o.2.2.2.2.1 (i : Int)).2.2.2.1 = b3
          generalize inR (rd (τ := TRel) o.2.2.2.2.1 (i : Int)).2.2.2.2 (-2147483648) 2147483647 = b4
          cases b3 with
          | false => rfl
          | true =>
            cases b4 with
            | false => rfl
            | true =>
              by_cases h0 : i = 0
              · rw [show decide ((i : Int) > 0) = false by simp [h0], if_pos h0]; rfl
              · rw [show decide ((i : Int) > 0) = true by simp; omega, if_neg h0, w64_pred i (by omega) (by omega), inL_nat, decide_eq_true (show i - 1 < o.2.2.2.2.1.length by omega), less2_val]
                unfold lessR
                simp only [Option.bind_some, cond_true, Bool.not_true, cond_false, Bool.and_self]
                generalize (if (rd (τ := TRel) o.2.2.2.2.1 ((i - 1 : Nat) : Int)).1 = (rd (τ := TRel) o.2.2.2.2.1 (i : Int)).1 then decide ((rd (τ := TRel) o.2.2.2.2.1 ((i - 1 : Nat) : Int)).2.1 < (rd (τ := TRel) o.2.2.2.2.1 (i : Int)).2.1) else decide ((rd (τ := TRel) o.2.2.2.2.1 ((i - 1 : Nat) : Int)).1 < (rd (τ := TRel) o.2.2.2.2.1 (i : Int)).1)) = b5
                cases b5 <;> rfl
def dclC (o : Obj) (k : Nat) : Int :=
  if inR (rd (τ := TDcl) o.2.2.2.2.2 (k : Int)).1 0 255 = false then 4 else if k = 0 then 0
  else if decide ((rd (τ := TDcl) o.2.2.2.2.2 (k : Int)).1 ≤ (rd (τ := TDcl) o.2.2.2.2.2 ((k - 1 : Nat) : Int)).1) = true then 24 else 0
theorem impl_dcls (o : Obj) (hz : ObjSz o) : impl_LintObject.l11111010 o o.2.2.2.2.2 (o.2.2.2.2.2.length : Int) 0 = some (scanB (dclC o) 0 o.2.2.2.2.2.length) := by
  have h3 := hz.s
  rw [loop_scan0 (L := impl_LintObject.l11111010 o o.2.2.2.2.2 (o.2.2.2.2.2.length : Int)) (dclC o) o.2.2.2.2.2.length fun i hi => ?_]
  · rw [impl_LintObject.l11111010_eq, lt_nat, decide_eq_false (Nat.lt_irrefl _), cond_false]
    exact scan_end _ _ _
  · rw [impl_LintObject.l11111010_eq, lt_nat, inL_nat, decide_eq_true hi, w64_succ i _ hi (by omega), (in_val _ _ _).1]
    unfold dclC
    simp only [Option.bind_some, cond_true]
    by_cases h0 : i = 0
    · rw [show decide ((i : Int) > 0) = false by simp [h0], if_pos h0]
      cases inR (rd (τ := TDcl) o.2.2.2.2.2 (i : Int)).1 0 255 <;> rfl
    · rw [show decide ((i : Int) > 0) = true by simp; omega, if_neg h0, w64_pred i (by omega) (by omega), inL_nat, decide_eq_true (show i - 1 < o.2.2.2.2.2.length by omega)]
      cases inR (rd (τ := TDcl) o.2.2.2.2.2 (i : Int)).1 0 255 <;> cases decide ((rd (τ := TDcl) o.2.2.2.2.2 (i : Int)).1 ≤ (rd (τ := TDcl) o.2.2.2.2.2 ((i - 1 : Nat) : Int)).1) <;> rfl
theorem spec_dcls (o : Obj) (hz : ObjSz o) : spec_l08Decls o = some (scanB (dclC o) 0 o.2.2.2.2.2.length) := by
  have h3 := hz.s
  rw [spec_l08Decls_eq, loop_scan0 (L := spec_l08Decls.l1010 o) (dclC o) o.2.2.2.2.2.length fun i hi => ?_]
  · rw [spec_l08Decls.l1010_eq, lt_nat, decide_eq_false (Nat.lt_irrefl _), cond_false]
    exact scan_end _ _ _
  · rw [spec_l08Decls.l1010_eq, lt_nat, inL_nat, decide_eq_true hi, w64_succ i _ hi (by omega), (in_val _ _ _).2]
    unfold dclC
    simp only [Option.bind_some, cond_true]
    by_cases h0 : i = 0
    · rw [show decide ((i : Int) > 0) = false by simp [h0], if_pos h0]
      cases inR (rd (τ := TDcl) o.2.2.2.2.2 (i : Int)).1 0 255 <;> rfl
    · rw [show decide ((i : Int) > 0) = true by simp; omega, if_neg h0, w64_pred i (by omega) (by omega), inL_nat, decide_eq_true (show i - 1 < o.2.2.2.2.2.length by omega)]
      cases inR (rd (τ := TDcl) o.2.2.2.2.2 (i : Int)).1 0 255 <;> cases decide ((rd (τ := TDcl) o.2.2.2.2.2 (i : Int)).1 ≤ (rd (τ := TDcl) o.2.2.2.2.2 ((i - 1 : Nat) : Int)).1) <;> rfl
/-- What the check of an object comes to. -/
noncomputable def lintO (o : Obj) : Int × Int :=
  if nameV o.1 = false then (0, 3) else if inR o.2.1 0 5 = false then (0, 27) else if o.2.2.1.length = 0 then (0, 5)
  else if ¬ (o.2.2.1.length ≤ 4 ∧ o.2.2.2.1.length ≤ 4 ∧ o.2.2.2.2.1.length ≤ 32 ∧ o.2.2.2.2.2.length ≤ 4) then (0, 6)
  else if (scanB (funC o) 0 o.2.2.1.length).2 ≠ 0 then scanB (funC o) 0 o.2.2.1.length
  else if (scanB (datC o) 0 o.2.2.2.1.length).2 ≠ 0 then scanB (datC o) 0 o.2.2.2.1.length
  else if (scanB (relC o) 0 o.2.2.2.2.1.length).2 ≠ 0 then scanB (relC o) 0 o.2.2.2.2.1.length
  else scanB (dclC o) 0 o.2.2.2.2.2.length
theorem funSz_range {n : Nat} (h : funcSizeV n = true) : n ≤ 256 := by
  unfold funcSizeV at h
  cases h1 : codeSizeV n with
  | false => rw [h1] at h; cases h
  | true => exact (codeSizeV_range h1).2
theorem funC_zero {o : Obj} {i : Nat} (h : funC o i = 0) : nameV (rd (τ := TFun) o.2.2.1 (i : Int)).1 = true ∧ hasS ((namesV o).take i) (rd (τ := TFun) o.2.2.1 (i : Int)).1 = false ∧ frameV (rd (τ := TFun) o.2.2.1 (i : Int)).2.2.1 = true ∧ funcSizeV (rd (τ := TFun) o.2.2.1 (i : Int)).2.2.2.size = true := by
  unfold funC at h
  cases h1 : nameV (rd (τ := TFun) o.2.2.1 (i : Int)).1 <;> cases h2 : hasS ((namesV o).take i) (rd (τ := TFun) o.2.2.1 (i : Int)).1 <;> cases h3 : frameV (rd (τ := TFun) o.2.2.1 (i : Int)).2.2.1 <;> cases h4 : funcSizeV (rd (τ := TFun) o.2.2.1 (i : Int)).2.2.2.size <;> simp [h1, h2, h3, h4] at h ⊢
theorem datC_zero {o : Obj} {i : Nat} (h : datC o i = 0) : nameV (rd (τ := TDat) o.2.2.2.1 (i : Int)).1 = true ∧ hasS ((namesV o).take (o.2.2.1.length + i)) (rd (τ := TDat) o.2.2.2.1 (i : Int)).1 = false ∧ datSz (rd (τ := TDat) o.2.2.2.1 (i : Int)).2.size = true := by
  unfold datC at h
  cases h1 : nameV (rd (τ := TDat) o.2.2.2.1 (i : Int)).1 <;> cases h2 : hasS ((namesV o).take (o.2.2.1.length + i)) (rd (τ := TDat) o.2.2.2.1 (i : Int)).1 <;> cases h4 : datSz (rd (τ := TDat) o.2.2.2.1 (i : Int)).2.size <;> simp [h1, h2, h4] at h ⊢
theorem datSz_range {n : Nat} (h : datSz n = true) : 8 ≤ n ∧ n ≤ 64 ∧ n % 8 = 0 := by
  unfold datSz at h
  rw [Bool.and_eq_true, inR_iff, decide_eq_true_eq, Int.tmod_eq_emod_of_nonneg (by omega)] at h
  omega
theorem unitSz_of {o : Obj} (hz : ObjSz o) (h1 : (scanB (funC o) 0 o.2.2.1.length).2 = 0) (h2 : (scanB (datC o) 0 o.2.2.2.1.length).2 = 0) : UnitSz o :=
  ⟨hz, fun i hi => funSz_range (funC_zero ((scanB_zero _ _ _).1 h1 i (Nat.zero_le _) (by omega))).2.2.2, fun i hi => (datSz_range (datC_zero ((scanB_zero _ _ _).1 h2 i (Nat.zero_le _) (by omega))).2.2).2.1⟩
theorem lintO_val (o : Obj) (hr : RelsR o) : impl_LintObject o = some (lintO o) ∧ spec_l08Lint o = some (lintO o) := by
  rw [impl_LintObject_eq, spec_l08Lint_eq, (name_val _).1, (name_val _).2, (in_val _ _ _).1, (in_val _ _ _).2]
  unfold lintO
  simp only [Option.bind_some, joinB]
  cases nameV o.1 with
  | false => exact ⟨rfl, rfl⟩
  | true =>
    cases inR o.2.1 0 5 with
    | false => exact ⟨rfl, rfl⟩
    | true =>
      by_cases h0 : o.2.2.1.length = 0
      · rw [if_pos h0, decide_eq_true (show (o.2.2.1.length : Int) = 0 by omega)]; exact ⟨rfl, rfl⟩
      rw [if_neg h0, decide_eq_false (show ¬ (o.2.2.1.length : Int) = 0 by omega)]
      rcases Classical.em (o.2.2.1.length ≤ 4 ∧ o.2.2.2.1.length ≤ 4 ∧ o.2.2.2.2.1.length ≤ 32 ∧ o.2.2.2.2.2.length ≤ 4) with hz | hz
      · rw [if_neg (not_not_intro hz), decide_eq_false (show ¬ (o.2.2.1.length : Int) > 4 by omega), decide_eq_false (show ¬ (o.2.2.2.1.length : Int) > 4 by omega), decide_eq_false (show ¬ (o.2.2.2.2.1.length : Int) > 32 by omega), decide_eq_false (show ¬ (o.2.2.2.2.2.length : Int) > 4 by omega)]
        have hz' : ObjSz o := ⟨hz.1, hz.2.1, hz.2.2.1, hz.2.2.2⟩
        simp only [Bool.not_true, cond_false]
        rw [impl_funs o hz', spec_funs o hz']
        simp only [Option.bind_some]
        by_cases h1 : (scanB (funC o) 0 o.2.2.1.length).2 = 0
        · rw [if_pos h1, if_neg (not_not_intro h1), decide_eq_true h1, impl_dats o hz', spec_dats o hz']
          simp only [Option.bind_some, Bool.not_true, cond_false]
          by_cases h2 : (scanB (datC o) 0 o.2.2.2.1.length).2 = 0
          · have hu := unitSz_of hz' h1 h2
            rw [if_pos h2, if_neg (not_not_intro h2), decide_eq_true h2, impl_rels o hu, spec_rels o hu hr]
            simp only [Option.bind_some, Bool.not_true, cond_false]
            by_cases h3 : (scanB (relC o) 0 o.2.2.2.2.1.length).2 = 0
            · rw [if_pos h3, if_neg (not_not_intro h3), decide_eq_true h3, impl_dcls o hz', spec_dcls o hz']; exact ⟨rfl, rfl⟩
            · rw [if_neg h3, if_pos h3, decide_eq_false h3]; exact ⟨rfl, rfl⟩
          · rw [if_neg h2, if_pos h2, decide_eq_false h2]; exact ⟨rfl, rfl⟩
        · rw [if_neg h1, if_pos h1, decide_eq_false h1]; exact ⟨rfl, rfl⟩
      · rw [if_pos hz]
        have e : (decide ((o.2.2.1.length : Int) > 4) || decide ((o.2.2.2.1.length : Int) > 4) || decide ((o.2.2.2.2.1.length : Int) > 32) || decide ((o.2.2.2.2.2.length : Int) > 4)) = true := by simp; omega
        generalize decide ((o.2.2.1.length : Int) > 4) = b1 at *
        generalize decide ((o.2.2.2.1.length : Int) > 4) = b2 at *
        generalize decide ((o.2.2.2.2.1.length : Int) > 32) = b3 at *
        generalize decide ((o.2.2.2.2.2.length : Int) > 4) = b4 at *
        cases b1 <;> cases b2 <;> cases b3 <;> cases b4 <;> first | exact ⟨rfl, rfl⟩ | (exact absurd e (by decide))
noncomputable def objV (o : Obj) : Bool := decide ((lintO o).2 = 0)
theorem object_val (o : Obj) (hr : RelsR o) : impl_ObjectOK o = some (objV o) ∧ spec_ObjectOK o = some (objV o) := by
  rw [impl_ObjectOK_eq, spec_ObjectOK_eq, (lintO_val o hr).1, (lintO_val o hr).2]; exact ⟨rfl, rfl⟩
theorem m2 (a : Int) : 0 ≤ a % 2 ∧ a % 2 < 2 := by omega
/-- The pages of an area. -/
def arL (b p : Int) (n : Nat) : List (Int × Int) := mapB (fun i => (b + 128 * (i : Int), p)) 0 n
def L1 : List (Int × Int) := arL 4096 4 8
def L2 : List (Int × Int) := L1 ++ arL 8192 4 8
def L3 : List (Int × Int) := L2 ++ arL 16384 3 2
def L4 : List (Int × Int) := L3 ++ arL 20480 3 2
def L5 : List (Int × Int) := L4 ++ arL 32768 11 4
def bOK (L : List (Int × Int)) (m : Int) : Bool := decide (L.length ≤ 64) && L.all fun q => decide (0 ≤ q.1) && decide (q.1 ≤ 1048575) && decide (q.1 < m)
theorem b1 : bOK L1 8192 = true := by decide
theorem b2 : bOK L2 16384 = true := by decide
theorem b3 : bOK L3 20480 = true := by decide
theorem b4 : bOK L4 32768 = true := by decide
theorem b5 : bOK L5 33792 = true := by decide
theorem rd_mem_list {τ : Ty} (l : List τ.den) (i : Nat) (h : i < l.length) : rd (τ := τ) l (i : Int) ∈ l := by rw [rd_nat l i h]; exact List.getElem_mem h
abbrev TObj : Ty := .pair .str (.pair (.int .i64) (.pair (.list TFun) (.pair (.list TDat) (.pair (.list TRel) (.list TDcl)))))
/-- Short lists. -/
def bdT : (τ : Ty) → τ.den → Prop
  | .list e, l => List.length l ≤ 1048576 ∧ ∀ x ∈ l, bdT e x
  | .pair a b, x => bdT a x.1 ∧ bdT b x.2
  | _, _ => True
/-- A comparison of like with like. -/
def EqP (τ : Ty) (f : τ.den → τ.den → Option Bool) : Prop := ∀ x, wfT τ x → bdT τ x → f x x = some true
theorem eq_loop (L : Int → Option Bool) (n : Nat) (hstep : ∀ i : Nat, i < n → L (i : Int) = L ((i + 1 : Nat) : Int)) (hend : L (n : Int) = some true) : L 0 = some true := by
  have : ∀ k i : Nat, i + k = n → L (i : Int) = some true := by
    intro k
    induction k with
    | zero => intro i h; have : i = n := by omega
              rw [this]; exact hend
    | succ k ih => intro i h; rw [hstep i (by omega)]; exact ih (i + 1) (by omega)
  exact this n 0 (by omega)
theorem eq_PatchFunc : EqP TFun laws_eqPatchFunc := by
  intro x _ _
  show laws_eqPatchFunc x x = _
  rw [laws_eqPatchFunc_eq]
  simp [strEq_dec]
theorem eq_PatchFuncS : EqP (.list TFun) laws_eqPatchFuncS := by
  intro x hw hb
  show laws_eqPatchFuncS x x = _
  have h1 : List.length x ≤ 1048576 := hb.1
  rw [laws_eqPatchFuncS_eq, decide_eq_true (rfl : (List.length x : Int) = (List.length x : Int)), Bool.not_true, cond_false]
  refine eq_loop (laws_eqPatchFuncS.l11010 x x) (List.length x) (fun i hi => ?_) ?_
  · rw [laws_eqPatchFuncS.l11010_eq, lt_nat, inL_nat, decide_eq_true hi, w64_succ i _ hi (by omega), eq_PatchFunc _ (hw.2 _ (rd_mem_list (τ := TFun) x i hi)) (hb.2 _ (rd_mem_list (τ := TFun) x i hi))]; rfl
  · rw [laws_eqPatchFuncS.l11010_eq, lt_nat, decide_eq_false (Nat.lt_irrefl _), cond_false]
theorem eq_PatchData : EqP TDat laws_eqPatchData := by
  intro x _ _
  show laws_eqPatchData x x = _
  rw [laws_eqPatchData_eq]
  simp [strEq_dec]
theorem eq_PatchDataS : EqP (.list TDat) laws_eqPatchDataS := by
  intro x hw hb
  show laws_eqPatchDataS x x = _
  have h1 : List.length x ≤ 1048576 := hb.1
  rw [laws_eqPatchDataS_eq, decide_eq_true (rfl : (List.length x : Int) = (List.length x : Int)), Bool.not_true, cond_false]
  refine eq_loop (laws_eqPatchDataS.l11010 x x) (List.length x) (fun i hi => ?_) ?_
  · rw [laws_eqPatchDataS.l11010_eq, lt_nat, inL_nat, decide_eq_true hi, w64_succ i _ hi (by omega), eq_PatchData _ (hw.2 _ (rd_mem_list (τ := TDat) x i hi)) (hb.2 _ (rd_mem_list (τ := TDat) x i hi))]; rfl
  · rw [laws_eqPatchDataS.l11010_eq, lt_nat, decide_eq_false (Nat.lt_irrefl _), cond_false]
theorem eq_Reloc : EqP TRel laws_eqReloc := by
  intro x _ _
  show laws_eqReloc x x = _
  rw [laws_eqReloc_eq]
  simp [strEq_dec]
theorem eq_RelocS : EqP (.list TRel) laws_eqRelocS := by
  intro x hw hb
  show laws_eqRelocS x x = _
  have h1 : List.length x ≤ 1048576 := hb.1
  rw [laws_eqRelocS_eq, decide_eq_true (rfl : (List.length x : Int) = (List.length x : Int)), Bool.not_true, cond_false]
  refine eq_loop (laws_eqRelocS.l11010 x x) (List.length x) (fun i hi => ?_) ?_
  · rw [laws_eqRelocS.l11010_eq, lt_nat, inL_nat, decide_eq_true hi, w64_succ i _ hi (by omega), eq_Reloc _ (hw.2 _ (rd_mem_list (τ := TRel) x i hi)) (hb.2 _ (rd_mem_list (τ := TRel) x i hi))]; rfl
  · rw [laws_eqRelocS.l11010_eq, lt_nat, decide_eq_false (Nat.lt_irrefl _), cond_false]
theorem eq_ShadowDecl : EqP TDcl laws_eqShadowDecl := by
  intro x _ _
  show laws_eqShadowDecl x x = _
  rw [laws_eqShadowDecl_eq]
  simp []
theorem eq_ShadowDeclS : EqP (.list TDcl) laws_eqShadowDeclS := by
  intro x hw hb
  show laws_eqShadowDeclS x x = _
  have h1 : List.length x ≤ 1048576 := hb.1
  rw [laws_eqShadowDeclS_eq, decide_eq_true (rfl : (List.length x : Int) = (List.length x : Int)), Bool.not_true, cond_false]
  refine eq_loop (laws_eqShadowDeclS.l11010 x x) (List.length x) (fun i hi => ?_) ?_
  · rw [laws_eqShadowDeclS.l11010_eq, lt_nat, inL_nat, decide_eq_true hi, w64_succ i _ hi (by omega), eq_ShadowDecl _ (hw.2 _ (rd_mem_list (τ := TDcl) x i hi)) (hb.2 _ (rd_mem_list (τ := TDcl) x i hi))]; rfl
  · rw [laws_eqShadowDeclS.l11010_eq, lt_nat, decide_eq_false (Nat.lt_irrefl _), cond_false]
theorem eq_Object : EqP TObj laws_eqObject := by
  intro x hw hb
  show laws_eqObject x x = _
  rw [laws_eqObject_eq, eq_PatchFuncS x.2.2.1 hw.2.2.1 hb.2.2.1, eq_PatchDataS x.2.2.2.1 hw.2.2.2.1 hb.2.2.2.1, eq_RelocS x.2.2.2.2.1 hw.2.2.2.2.1 hb.2.2.2.2.1, eq_ShadowDeclS x.2.2.2.2.2 hw.2.2.2.2.2 hb.2.2.2.2.2]
  simp [strEq_dec]
theorem right_of {n d a b i : Int} (f : Int) (hf : (shp n).1 = f) (hn : 1 ≤ n ∧ n ≤ 64) (hd : 0 ≤ d ∧ d ≤ 31) (ha : 0 ≤ a ∧ a ≤ 31) (hb : 0 ≤ b ∧ b ≤ 31) (g1 : (fieldsV f).1 = true ∨ d = 0) (g2 : (fieldsV f).2.1 = true ∨ a = 0) (g3 : (fieldsV f).2.2 = true ∨ b = 0) (hi : immR f i = true) : rightV (n, d, a, b, i) = true := by
  simp only [rightV, Bool.and_eq_true, Bool.or_eq_true, decide_eq_true_eq, hf]
  exact ⟨⟨⟨⟨⟨⟨⟨⟨⟨⟨⟨hn.1, hn.2⟩, hd.1⟩, hd.2⟩, ha.1⟩, ha.2⟩, hb.1⟩, hb.2⟩, g1⟩, g2⟩, g3⟩, hi⟩
theorem imm1 {i : Int} (h : -2147483648 ≤ i ∧ i ≤ 2147479552 ∧ i % 4096 = 0) : immR 1 i = true := by simp [immR]; omega
theorem r1 {a i : Int} (ha : 0 ≤ a ∧ a ≤ 31) (h : -2147483648 ≤ i ∧ i ≤ 2147479552 ∧ i % 4096 = 0) : rightV (1, a, 0, 0, i) = true := right_of 1 rfl (by decide) ha (by decide) (by decide) (.inl rfl) (.inr rfl) (.inr rfl) (imm1 h)
noncomputable def funM (m : Int) : Fun := (mkT m, decide ((m + 1).tmod 3 = 0), m + 2, mkT (m + 3))
noncomputable def datM (m : Int) : Dat := (mkT m, mkT (m + 1))
noncomputable def relM (m : Int) : Rel := (m, m + 1, m + 2, mkT (m + 3), m + 4)
noncomputable def dclM (m : Int) : Int × Bool := (m, decide ((m + 1).tmod 3 = 0))
theorem mark_funs (m0 : Int) (hm0 : 1 ≤ m0) (l : List Fun) (hM0 : m0 + 4 * (l.length : Int) ≤ 9000000) : laws_markPatchFuncS l m0 = some (m0 + 4 * (l.length : Int), marksL funM 4 m0 l.length) ∧ laws_heldPatchFuncS (marksL funM 4 m0 l.length) m0 = some (m0 + 4 * (l.length : Int)) := by
  constructor
  · rw [laws_markPatchFuncS_eq]
    refine mark_run laws_markPatchFuncS.l1010 funM 4 l.length m0 9000000 hm0 (by omega) ?_ ?_ l rfl
    · intro x m i hx hi hm hM
      have hi' : i < x.length := by omega
      rw [laws_markPatchFuncS.l1010_eq, lt_nat, decide_eq_true hi', mark_text m hm (by omega), w64 (n := m + 1) (by omega) (by omega), w64 (n := m + 1 + 1) (by omega) (by omega), w64 (n := m + 1 + 1 + 1) (by omega) (by omega), mark_text (m + 1 + 1 + 1) (by omega) (by omega), w64 (n := m + 1 + 1 + 1 + 1) (by omega) (by omega), w64_succ i x.length hi' (by omega), Int.toNat_natCast]
      simp only [cond_true, Option.bind_some, letB, inL_nat, List.length_set, decide_eq_true hi']
      repeat rw [rd_set_self (τ := TFun) _ _ _ (by simpa using hi')]
      simp only [List.set_set]
      have e : ((mkT m, decide ((m + 1).tmod 3 = 0), m + 1 + 1, mkT (m + 1 + 1 + 1)) : Fun) = funM m := by unfold funM; rw [show m + 1 + 1 = m + 2 by omega, show m + 2 + 1 = m + 3 by omega]
      rw [show m + 1 + 1 + 1 + 1 = m + ((4 : Nat) : Int) by omega]
      exact congrArg (fun z => laws_markPatchFuncS.l1010 (x.set i z) (m + ((4 : Nat) : Int)) ((i + 1 : Nat) : Int)) e
    · intro x m hx
      rw [laws_markPatchFuncS.l1010_eq, lt_nat, decide_eq_false (by omega)]; rfl
  · rw [laws_heldPatchFuncS_eq]
    refine held_run laws_heldPatchFuncS.l1010 funM 4 l.length m0 9000000 hm0 (by omega) ?_ ?_
    · intro x m i hx hi hm hM he
      have hi' : i < x.length := by omega
      rw [laws_heldPatchFuncS.l1010_eq, lt_nat, inL_nat, decide_eq_true hi', mark_text m hm (by omega), w64 (n := m + 1) (by omega) (by omega), w64 (n := m + 1 + 1) (by omega) (by omega), w64 (n := m + 1 + 1 + 1) (by omega) (by omega), mark_text (m + 1 + 1 + 1) (by omega) (by omega), w64 (n := m + 1 + 1 + 1 + 1) (by omega) (by omega), w64_succ i x.length hi' (by omega), rd_some (τ := TFun) x i _ he]
      have e0 : strEq (funM m).1 (mkT m) = true := strEq_refl _
      have e1 : ((funM m).2.1 == decide ((m + 1).tmod 3 = 0)) = true := by show (decide ((m + 1).tmod 3 = 0) == decide ((m + 1).tmod 3 = 0)) = true; simp
      have e2 : decide ((funM m).2.2.1 = m + 1 + 1) = true := decide_eq_true (by show m + 2 = _; omega)
      have e3 : strEq (funM m).2.2.2 (mkT (m + 1 + 1 + 1)) = true := by show strEq (mkT (m + 3)) _ = _; rw [show m + 1 + 1 + 1 = m + 3 by omega]; exact strEq_refl _
      simp only [cond_true, Option.bind_some, e0, e1, e2, e3, Bool.not_true, cond_false]
      rw [show m + 1 + 1 + 1 + 1 = m + ((4 : Nat) : Int) by omega]
    · intro x m hx
      rw [laws_heldPatchFuncS.l1010_eq, lt_nat, decide_eq_false (by omega)]; rfl
theorem mark_dats (m0 : Int) (hm0 : 1 ≤ m0) (l : List Dat) (hM0 : m0 + 2 * (l.length : Int) ≤ 9000000) : laws_markPatchDataS l m0 = some (m0 + 2 * (l.length : Int), marksL datM 2 m0 l.length) ∧ laws_heldPatchDataS (marksL datM 2 m0 l.length) m0 = some (m0 + 2 * (l.length : Int)) := by
  constructor
  · rw [laws_markPatchDataS_eq]
    refine mark_run laws_markPatchDataS.l1010 datM 2 l.length m0 9000000 hm0 (by omega) ?_ ?_ l rfl
    · intro x m i hx hi hm hM
      have hi' : i < x.length := by omega
      rw [laws_markPatchDataS.l1010_eq, lt_nat, decide_eq_true hi', mark_text m hm (by omega), w64 (n := m + 1) (by omega) (by omega), mark_text (m + 1) (by omega) (by omega), w64 (n := m + 1 + 1) (by omega) (by omega), w64_succ i x.length hi' (by omega), Int.toNat_natCast]
      simp only [cond_true, Option.bind_some, letB, inL_nat, List.length_set, decide_eq_true hi']
      repeat rw [rd_set_self (τ := TDat) _ _ _ (by simpa using hi')]
      simp only [List.set_set]
      rw [show m + 1 + 1 = m + ((2 : Nat) : Int) by omega]
      rfl
    · intro x m hx
      rw [laws_markPatchDataS.l1010_eq, lt_nat, decide_eq_false (by omega)]; rfl
  · rw [laws_heldPatchDataS_eq]
    refine held_run laws_heldPatchDataS.l1010 datM 2 l.length m0 9000000 hm0 (by omega) ?_ ?_
    · intro x m i hx hi hm hM he
      have hi' : i < x.length := by omega
      rw [laws_heldPatchDataS.l1010_eq, lt_nat, inL_nat, decide_eq_true hi', mark_text m hm (by omega), w64 (n := m + 1) (by omega) (by omega), mark_text (m + 1) (by omega) (by omega), w64 (n := m + 1 + 1) (by omega) (by omega), w64_succ i x.length hi' (by omega), rd_some (τ := TDat) x i _ he]
      have e0 : strEq (datM m).1 (mkT m) = true := strEq_refl _
      have e1 : strEq (datM m).2 (mkT (m + 1)) = true := strEq_refl _
      simp only [cond_true, Option.bind_some, e0, e1, Bool.not_true, cond_false]
      rw [show m + 1 + 1 = m + ((2 : Nat) : Int) by omega]
    · intro x m hx
      rw [laws_heldPatchDataS.l1010_eq, lt_nat, decide_eq_false (by omega)]; rfl
theorem mark_rels (m0 : Int) (hm0 : 1 ≤ m0) (l : List Rel) (hM0 : m0 + 5 * (l.length : Int) ≤ 9000000) : laws_markRelocS l m0 = some (m0 + 5 * (l.length : Int), marksL relM 5 m0 l.length) ∧ laws_heldRelocS (marksL relM 5 m0 l.length) m0 = some (m0 + 5 * (l.length : Int)) := by
  constructor
  · rw [laws_markRelocS_eq]
    refine mark_run laws_markRelocS.l1010 relM 5 l.length m0 9000000 hm0 (by omega) ?_ ?_ l rfl
    · intro x m i hx hi hm hM
      have hi' : i < x.length := by omega
      rw [laws_markRelocS.l1010_eq, lt_nat, decide_eq_true hi', w64 (n := m + 1) (by omega) (by omega), w64 (n := m + 1 + 1) (by omega) (by omega), w64 (n := m + 1 + 1 + 1) (by omega) (by omega), mark_text (m + 1 + 1 + 1) (by omega) (by omega), w64 (n := m + 1 + 1 + 1 + 1) (by omega) (by omega), w64 (n := m + 1 + 1 + 1 + 1 + 1) (by omega) (by omega), w64_succ i x.length hi' (by omega), Int.toNat_natCast]
      simp only [cond_true, Option.bind_some, letB, inL_nat, List.length_set, decide_eq_true hi']
      repeat rw [rd_set_self (τ := TRel) _ _ _ (by simpa using hi')]
      simp only [List.set_set]
      have e : ((m, m + 1, m + 1 + 1, mkT (m + 1 + 1 + 1), m + 1 + 1 + 1 + 1) : Rel) = relM m := by unfold relM; rw [show m + 1 + 1 = m + 2 by omega, show m + 2 + 1 = m + 3 by omega, show m + 3 + 1 = m + 4 by omega]
      rw [show m + 1 + 1 + 1 + 1 + 1 = m + ((5 : Nat) : Int) by omega]
      exact congrArg (fun z => laws_markRelocS.l1010 (x.set i z) (m + ((5 : Nat) : Int)) ((i + 1 : Nat) : Int)) e
    · intro x m hx
      rw [laws_markRelocS.l1010_eq, lt_nat, decide_eq_false (by omega)]; rfl
  · rw [laws_heldRelocS_eq]
    refine held_run laws_heldRelocS.l1010 relM 5 l.length m0 9000000 hm0 (by omega) ?_ ?_
    · intro x m i hx hi hm hM he
      have hi' : i < x.length := by omega
      rw [laws_heldRelocS.l1010_eq, lt_nat, inL_nat, decide_eq_true hi', w64 (n := m + 1) (by omega) (by omega), w64 (n := m + 1 + 1) (by omega) (by omega), w64 (n := m + 1 + 1 + 1) (by omega) (by omega), mark_text (m + 1 + 1 + 1) (by omega) (by omega), w64 (n := m + 1 + 1 + 1 + 1) (by omega) (by omega), w64 (n := m + 1 + 1 + 1 + 1 + 1) (by omega) (by omega), w64_succ i x.length hi' (by omega), rd_some (τ := TRel) x i _ he]
      have e0 : decide ((relM m).1 = m) = true := decide_eq_true rfl
      have e1 : decide ((relM m).2.1 = m + 1) = true := decide_eq_true rfl
      have e2 : decide ((relM m).2.2.1 = m + 1 + 1) = true := decide_eq_true (by show m + 2 = _; omega)
      have e3 : strEq (relM m).2.2.2.1 (mkT (m + 1 + 1 + 1)) = true := by show strEq (mkT (m + 3)) _ = _; rw [show m + 1 + 1 + 1 = m + 3 by omega]; exact strEq_refl _
      have e4 : decide ((relM m).2.2.2.2 = m + 1 + 1 + 1 + 1) = true := decide_eq_true (by show m + 4 = _; omega)
      simp only [cond_true, Option.bind_some, e0, e1, e2, e3, e4, Bool.not_true, cond_false]
      rw [show m + 1 + 1 + 1 + 1 + 1 = m + ((5 : Nat) : Int) by omega]
    · intro x m hx
      rw [laws_heldRelocS.l1010_eq, lt_nat, decide_eq_false (by omega)]; rfl
theorem mark_dcls (m0 : Int) (hm0 : 1 ≤ m0) (l : List (Int × Bool)) (hM0 : m0 + 2 * (l.length : Int) ≤ 9000000) : laws_markShadowDeclS l m0 = some (m0 + 2 * (l.length : Int), marksL dclM 2 m0 l.length) ∧ laws_heldShadowDeclS (marksL dclM 2 m0 l.length) m0 = some (m0 + 2 * (l.length : Int)) := by
  constructor
  · rw [laws_markShadowDeclS_eq]
    refine mark_run laws_markShadowDeclS.l1010 dclM 2 l.length m0 9000000 hm0 (by omega) ?_ ?_ l rfl
    · intro x m i hx hi hm hM
      have hi' : i < x.length := by omega
      rw [laws_markShadowDeclS.l1010_eq, lt_nat, decide_eq_true hi', w64 (n := m + 1) (by omega) (by omega), w64 (n := m + 1 + 1) (by omega) (by omega), w64_succ i x.length hi' (by omega), Int.toNat_natCast]
      simp only [cond_true, letB, inL_nat, List.length_set, decide_eq_true hi']
      repeat rw [rd_set_self (τ := TDcl) _ _ _ (by simpa using hi')]
      simp only [List.set_set]
      rw [show m + 1 + 1 = m + ((2 : Nat) : Int) by omega]
      rfl
    · intro x m hx
      rw [laws_markShadowDeclS.l1010_eq, lt_nat, decide_eq_false (by omega)]; rfl
  · rw [laws_heldShadowDeclS_eq]
    refine held_run laws_heldShadowDeclS.l1010 dclM 2 l.length m0 9000000 hm0 (by omega) ?_ ?_
    · intro x m i hx hi hm hM he
      have hi' : i < x.length := by omega
      rw [laws_heldShadowDeclS.l1010_eq, lt_nat, inL_nat, decide_eq_true hi', w64 (n := m + 1) (by omega) (by omega), w64 (n := m + 1 + 1) (by omega) (by omega), w64_succ i x.length hi' (by omega), rd_some (τ := TDcl) x i _ he]
      have e0 : decide ((dclM m).1 = m) = true := decide_eq_true rfl
      have e1 : ((dclM m).2 == decide ((m + 1).tmod 3 = 0)) = true := by show (decide ((m + 1).tmod 3 = 0) == decide ((m + 1).tmod 3 = 0)) = true; simp
      simp only [cond_true, e0, e1, Bool.not_true, cond_false]
      rw [show m + 1 + 1 = m + ((2 : Nat) : Int) by omega]
    · intro x m hx
      rw [laws_heldShadowDeclS.l1010_eq, lt_nat, decide_eq_false (by omega)]; rfl
/-- An object's marks, and that they are held. -/
theorem mark_obj (o : Obj) (h : o.2.2.1.length ≤ 1000 ∧ o.2.2.2.1.length ≤ 1000 ∧ o.2.2.2.2.1.length ≤ 1000 ∧ o.2.2.2.2.2.length ≤ 1000) :
    ∃ m x, 0 ≤ m ∧ laws_markObject o 1 = some (m, (), (), x) ∧ laws_heldObject (o.1, o.2.1, x) 1 = some m := by
  obtain ⟨h1, h2, h3, h4⟩ := h
  obtain ⟨a1, b1⟩ := mark_funs 1 (by omega) o.2.2.1 (by omega)
  obtain ⟨a2, b2⟩ := mark_dats (1 + 4 * (o.2.2.1.length : Int)) (by omega) o.2.2.2.1 (by omega)
  obtain ⟨a3, b3⟩ := mark_rels (1 + 4 * (o.2.2.1.length : Int) + 2 * (o.2.2.2.1.length : Int)) (by omega) o.2.2.2.2.1 (by omega)
  obtain ⟨a4, b4⟩ := mark_dcls (1 + 4 * (o.2.2.1.length : Int) + 2 * (o.2.2.2.1.length : Int) + 5 * (o.2.2.2.2.1.length : Int)) (by omega) o.2.2.2.2.2 (by omega)
  refine ⟨1 + 4 * (o.2.2.1.length : Int) + 2 * (o.2.2.2.1.length : Int) + 5 * (o.2.2.2.2.1.length : Int) + 2 * (o.2.2.2.2.2.length : Int), (marksL funM 4 1 o.2.2.1.length, marksL datM 2 (1 + 4 * (o.2.2.1.length : Int)) o.2.2.2.1.length, marksL relM 5 (1 + 4 * (o.2.2.1.length : Int) + 2 * (o.2.2.2.1.length : Int)) o.2.2.2.2.1.length, marksL dclM 2 (1 + 4 * (o.2.2.1.length : Int) + 2 * (o.2.2.2.1.length : Int) + 5 * (o.2.2.2.2.1.length : Int)) o.2.2.2.2.2.length), by omega, ?_, ?_⟩
  · rw [laws_markObject_eq, a1]
    simp only [Option.bind_some]
    rw [a2]
    simp only [Option.bind_some]
    rw [a3]
    simp only [Option.bind_some]
    rw [a4]
    rfl
  · rw [laws_heldObject_eq, b1]
    simp only [Option.bind_some]
    rw [decide_eq_false (by omega), b2]
    simp only [Option.bind_some, cond_false]
    rw [decide_eq_false (by omega), b3]
    simp only [Option.bind_some, cond_false]
    rw [decide_eq_false (by omega), b4]
    simp only [Option.bind_some, cond_false]
    rw [decide_eq_false (by omega)]
    rfl
abbrev zO : Obj := ((⟨#[]⟩ : ByteArray), 0, [], [], [], [])
/-- What the reference makes of what was taken. -/
noncomputable def endO (r : Obj × Int × ByteArray × Int × Bool) : Option (Obj × Int) :=
  bif r.2.2.2.2 then some (zO, 22) else (bif (decide (r.2.2.2.1 < (r.2.2.1.size : Int))) then some (zO, 8) else (bif (decide (r.2.1 > 1)) then some (zO, 3) else ((spec_ObjectOK r.1).bind fun r4 => bif (!r4) then some (zO, 1) else some (r.1, 0))))
/-- An object under way. -/
structure OIn (o : Obj) : Prop where
  n : o.1.size ≤ 300
  d : 0 ≤ o.2.1 ∧ o.2.1 < 256
  f : ∀ x ∈ o.2.2.1, wfT TFun x
  t : ∀ x ∈ o.2.2.2.1, wfT TDat x
  r : ∀ x ∈ o.2.2.2.2.1, wfT TRel x
  s : ∀ x ∈ o.2.2.2.2.2, wfT TDcl x
/-- What reading comes to. -/
def ReadO (v : Obj × Int) : Prop := OIn v.1 ∧ v.1.2.2.1.length ≤ 300 ∧ v.1.2.2.2.1.length ≤ 300 ∧ v.1.2.2.2.2.1.length ≤ 300 ∧ v.1.2.2.2.2.2.length ≤ 300
theorem oin_z : OIn zO := ⟨by decide, by decide, by simp, by simp, by simp, by simp⟩
theorem readO_z (c : Int) : ReadO (zO, c) := ⟨oin_z, by simp, by simp, by simp, by simp⟩
theorem rels_in {o : Obj} (h : OIn o) : RelsR o := by
  intro k hk
  rw [rd_nat _ _ hk]
  exact (h.r _ (List.getElem_mem hk)).1
theorem num_bad {p : ByteArray × Bool} {q : ByteArray × Int × Bool} (h : RTk p q) (hb : q.2.2 = true) : ∃ x p' q', impl_taker_number p 1 = some (x, p') ∧ spec_l07In_number q 1 = some (x, q') ∧ RTk p' q' ∧ q'.2.2 = true ∧ 0 ≤ x ∧ x < 256 := by
  obtain ⟨x, p', q', a, b, c, d, e, f⟩ := take_num 1 h (by omega)
  exact ⟨x, p', q', a, b, c, f hb, d, by simpa using e⟩
theorem num1 {p : ByteArray × Bool} {q : ByteArray × Int × Bool} (h : RTk p q) : ∃ x p' q', impl_taker_number p 1 = some (x, p') ∧ spec_l07In_number q 1 = some (x, q') ∧ RTk p' q' ∧ 0 ≤ x ∧ x < 256 ∧ (q.2.2 = true → q'.2.2 = true) := by
  obtain ⟨x, p', q', a, b, c, d, e, f⟩ := take_num 1 h (by omega)
  exact ⟨x, p', q', a, b, c, d, by simpa using e, f⟩
theorem ibad4 (z : Obj) {p : ByteArray × Bool} {q : ByteArray × Int × Bool} (h : RTk p q) (hb : q.2.2 = true) (w : Bool) (o : Obj) (n : Int) : impl_ReadObject.l1111111111010 z p w o n = some (zO, 22) := by
  have hf : joinB (fun kr38 : Bool → Option (Obj × Int) => bif (decide (n > 0)) then kr38 (!p.2) else kr38 false) = fun K => K false := by
    funext K; unfold joinB; rw [rtk_bad h, hb]; cases decide (n > 0) <;> rfl
  rw [impl_ReadObject.l1111111111010_eq, hf, rtk_done h, hb]
  rfl
theorem ibad3 (z : Obj) {p : ByteArray × Bool} {q : ByteArray × Int × Bool} (h : RTk p q) (hb : q.2.2 = true) (w : Bool) (o : Obj) (n : Int) : impl_ReadObject.l111111111010 z p w o n = some (zO, 22) := by
  have hf : joinB (fun kr38 : Bool → Option (Obj × Int) => bif (decide (n > 0)) then kr38 (!p.2) else kr38 false) = fun K => K false := by
    funext K; unfold joinB; rw [rtk_bad h, hb]; cases decide (n > 0) <;> rfl
  obtain ⟨x, p', q', a, b, c, d, _, _⟩ := num_bad h hb
  rw [impl_ReadObject.l111111111010_eq, hf, a]
  exact ibad4 z c d w o x
theorem ibad2 (z : Obj) {p : ByteArray × Bool} {q : ByteArray × Int × Bool} (h : RTk p q) (hb : q.2.2 = true) (w : Bool) (o : Obj) (n : Int) : impl_ReadObject.l11111111010 z p w o n = some (zO, 22) := by
  have hf : joinB (fun kr38 : Bool → Option (Obj × Int) => bif (decide (n > 0)) then kr38 (!p.2) else kr38 false) = fun K => K false := by
    funext K; unfold joinB; rw [rtk_bad h, hb]; cases decide (n > 0) <;> rfl
  obtain ⟨x, p', q', a, b, c, d, _, _⟩ := num_bad h hb
  rw [impl_ReadObject.l11111111010_eq, hf, a]
  exact ibad3 z c d w o x
theorem ibad1 (z : Obj) {p : ByteArray × Bool} {q : ByteArray × Int × Bool} (h : RTk p q) (hb : q.2.2 = true) (w : Bool) (o : Obj) (n : Int) : impl_ReadObject.l1111111010 z p w o n = some (zO, 22) := by
  have hf : joinB (fun kr38 : Bool → Option (Obj × Int) => bif (decide (n > 0)) then kr38 (!p.2) else kr38 false) = fun K => K false := by
    funext K; unfold joinB; rw [rtk_bad h, hb]; cases decide (n > 0) <;> rfl
  obtain ⟨x, p', q', a, b, c, d, _, _⟩ := num_bad h hb
  rw [impl_ReadObject.l1111111010_eq, hf, a]
  exact ibad2 z c d w o x
abbrev Short (r : Option (Obj × Int × ByteArray × Int × Bool)) : Prop := ∃ v, r = some v ∧ v.2.2.2.2 = true
theorem sbad4 (z : Obj) : ∀ (k : Nat) (p : ByteArray × Bool) (q : ByteArray × Int × Bool) (o : Obj) (g : Int), RTk p q → q.2.2 = true → k + o.2.2.2.2.2.length ≤ 1000 → Short (spec_l08Take.l1111111010 q z o g k)
  | 0, p, q, o, g, h, hb, hl => by
    rw [spec_l08Take.l1111111010_eq]
    exact ⟨_, rfl, hb⟩
  | k + 1, p, q, o, g, h, hb, hl => by
    obtain ⟨x1, p1, q1, _, a1, c1, d1, _, _⟩ := num_bad h hb
    obtain ⟨x2, p2, q2, _, a2, c2, d2, _, _⟩ := num_bad c1 d1
    rw [spec_l08Take.l1111111010_eq, decide_eq_true (by omega), a1]
    simp only [cond_true, Option.bind_some, a2]
    rw [room_le (by simp; omega) (by simp; omega), w64 (by omega) (by omega), show ((k + 1 : Nat) : Int) - 1 = (k : Int) by omega]
    exact sbad4 z k p2 q2 _ _ c2 d2 (by simp; omega)
theorem sbad3 (z : Obj) : ∀ (k : Nat) (p : ByteArray × Bool) (q : ByteArray × Int × Bool) (o : Obj) (g : Int), RTk p q → q.2.2 = true → k + o.2.2.2.2.1.length ≤ 1000 → o.2.2.2.2.2 = [] → Short (spec_l08Take.l111111010 q z o g k)
  | 0, p, q, o, g, h, hb, hl, e4 => by
    obtain ⟨x1, p1, q1, _, a1, c1, d1, f1, f2⟩ := num_bad h hb
    rw [spec_l08Take.l111111010_eq, a1]
    have := sbad4 z x1.toNat p1 q1 o g c1 d1 (by rw [e4]; simp; omega)
    rw [show ((x1.toNat : Nat) : Int) = x1 by omega] at this
    exact this
  | k + 1, p, q, o, g, h, hb, hl, e4 => by
    obtain ⟨x1, p1, q1, _, a1, c1, d1, _, _⟩ := num_bad h hb
    obtain ⟨x2, p2, q2, _, a2, c2, d2, _, _⟩ := num_bad c1 d1
    obtain ⟨x3, p3, q3, _, a3, c3, d3, _, _⟩ := num_bad c2 d2
    obtain ⟨o4, p4, q4, _, a4, c4, d4, _⟩ := take_name c3
    obtain ⟨x5, p5, q5, _, a5, c5, h5, h5', d5⟩ := take_num 4 c4 (by omega)
    rw [show ((4 : Nat) : Int) = 4 by rfl] at a5
    have h5' : x5 < 4294967296 := by simpa using h5'
    rw [spec_l08Take.l111111010_eq, decide_eq_true (by omega), a1]
    simp only [cond_true, Option.bind_some, a2, a3, a4, a5]
    rw [sign_val x5 32 (by omega) (by omega) (by omega) (by omega)]
    simp only [Option.bind_some]
    rw [room_le (by simp; omega) (by simp; omega), w64 (by omega) (by omega), show ((k + 1 : Nat) : Int) - 1 = (k : Int) by omega]
    exact sbad3 z k p5 q5 _ _ c5 (d5 (d4 d3)) (by simp; omega) e4
theorem sbad2 (z : Obj) : ∀ (k : Nat) (p : ByteArray × Bool) (q : ByteArray × Int × Bool) (o : Obj) (g : Int), RTk p q → q.2.2 = true → k + o.2.2.2.1.length ≤ 1000 → o.2.2.2.2.1 = [] → o.2.2.2.2.2 = [] → Short (spec_l08Take.l11111010 q z o g k)
  | 0, p, q, o, g, h, hb, hl, e3, e4 => by
    obtain ⟨x1, p1, q1, _, a1, c1, d1, f1, f2⟩ := num_bad h hb
    rw [spec_l08Take.l11111010_eq, a1]
    have := sbad3 z x1.toNat p1 q1 o g c1 d1 (by rw [e3]; simp; omega) e4
    rw [show ((x1.toNat : Nat) : Int) = x1 by omega] at this
    exact this
  | k + 1, p, q, o, g, h, hb, hl, e3, e4 => by
    obtain ⟨o1, p1, q1, _, a1, c1, d1, _⟩ := take_name h
    obtain ⟨o2, p2, q2, _, a2, c2, d2, _⟩ := take_name c1
    rw [spec_l08Take.l11111010_eq, decide_eq_true (by omega), a1]
    simp only [cond_true, Option.bind_some, a2]
    rw [room_le (by simp; omega) (by simp; omega), w64 (by omega) (by omega), show ((k + 1 : Nat) : Int) - 1 = (k : Int) by omega]
    exact sbad2 z k p2 q2 _ _ c2 (d2 (d1 hb)) (by simp; omega) e3 e4
theorem sbad1 (z : Obj) : ∀ (k : Nat) (p : ByteArray × Bool) (q : ByteArray × Int × Bool) (o : Obj) (g : Int), RTk p q → q.2.2 = true → k + o.2.2.1.length ≤ 1000 → o.2.2.2.1 = [] → o.2.2.2.2.1 = [] → o.2.2.2.2.2 = [] → Short (spec_l08Take.l1111010 q z o g k)
  | 0, p, q, o, g, h, hb, hl, e2, e3, e4 => by
    obtain ⟨x1, p1, q1, _, a1, c1, d1, f1, f2⟩ := num_bad h hb
    rw [spec_l08Take.l1111010_eq, a1]
    have := sbad2 z x1.toNat p1 q1 o g c1 d1 (by rw [e2]; simp; omega) e3 e4
    rw [show ((x1.toNat : Nat) : Int) = x1 by omega] at this
    exact this
  | k + 1, p, q, o, g, h, hb, hl, e2, e3, e4 => by
    obtain ⟨o1, p1, q1, _, a1, c1, d1, _⟩ := take_name h
    obtain ⟨x2, p2, q2, _, a2, c2, d2, _, _⟩ := num_bad c1 (d1 hb)
    obtain ⟨x3, p3, q3, _, a3, c3, d3, _, _⟩ := num_bad c2 d2
    obtain ⟨x4, p4, q4, _, a4, c4, d4, f1, f2⟩ := num_bad c3 d3
    obtain ⟨o5, p5, q5, _, a5, c5, d5, _⟩ := take_str (n := 4 * x4) c4 (by omega) (by omega)
    rw [spec_l08Take.l1111010_eq, decide_eq_true (by omega), a1]
    simp only [cond_true, Option.bind_some, a2, a3, a4]
    rw [w64 (n := 4 * x4) (by omega) (by omega), a5]
    simp only [Option.bind_some]
    rw [room_le (by simp; omega) (by simp; omega), w64 (by omega) (by omega), show ((k + 1 : Nat) : Int) - 1 = (k : Int) by omega]
    exact sbad1 z k p5 q5 _ _ c5 (d5 d4) (by simp; omega) e2 e3 e4
theorem end_short {r : Option (Obj × Int × ByteArray × Int × Bool)} (h : Short r) : r.bind endO = some (zO, 22) := by
  obtain ⟨v, rfl, hv⟩ := h
  show endO v = _
  unfold endO; rw [hv]; rfl
theorem bool_1 {p : ByteArray × Bool} {q : ByteArray × Int × Bool} (h : RTk p q) (g : Int) : ∃ x p' q', impl_ReadObject_1 p (decide (g > 1)) = some (decide (x = 1), p', decide ((if x > g then x else g) > 1)) ∧ spec_l07In_number q 1 = some (x, q') ∧ RTk p' q' ∧ 0 ≤ x ∧ x < 256 ∧ (q.2.2 = true → q'.2.2 = true) := by
  obtain ⟨x, p', q', a, b, c, d, e, f⟩ := num1 h
  refine ⟨x, p', q', ?_, b, c, d, e, f⟩
  rw [impl_ReadObject_1_eq, a]
  simp only [Option.bind_some]
  by_cases hg : g > 1
  · rw [decide_eq_true hg, decide_eq_true (show (if x > g then x else g) > 1 by split <;> omega)]; rfl
  · rw [decide_eq_false hg]
    by_cases hx : x > 1
    · rw [decide_eq_true hx, decide_eq_true (show (if x > g then x else g) > 1 by split <;> omega)]; rfl
    · rw [decide_eq_false hx, decide_eq_false (show ¬ (if x > g then x else g) > 1 by split <;> omega)]; rfl
theorem joinO (c b : Bool) : (joinB (fun kr38 : Bool → Option (Obj × Int) => bif c then kr38 b else kr38 false)) = fun K => K (c && b) := by
  funext K; unfold joinB; cases c <;> rfl
theorem lp4 (z : Obj) : ∀ (k : Nat) (p : ByteArray × Bool) (q : ByteArray × Int × Bool) (o : Obj) (g : Int), RTk p q → OIn o → o.2.2.1.length ≤ 300 → o.2.2.2.1.length ≤ 300 → o.2.2.2.2.1.length ≤ 300 → k + o.2.2.2.2.2.length ≤ 300 →
    ∃ v, impl_ReadObject.l1111111111010 z p (decide (g > 1)) o k = some v ∧ (spec_l08Take.l1111111010 q z o g k).bind endO = some v ∧ ReadO v := by
  intro k
  induction k with
  | zero =>
    intro p q o g hR ho h1 h2 h3 h4
    have hi := object_val o (rels_in ho)
    rw [impl_ReadObject.l1111111111010_eq, spec_l08Take.l1111111010_eq, joinO, decide_eq_false (show ¬ ((0 : Nat) : Int) > 0 by omega), rtk_done hR, hi.1]
    simp only [Bool.false_and, cond_false, Option.bind_some, endO, hi.2]
    cases hs : q.2.2 with
    | true => exact ⟨_, rfl, rfl, readO_z 22⟩
    | false =>
      by_cases hb : q.2.1 < (q.1.size : Int)
      · rw [decide_eq_true hb]
        simp only [Bool.false_eq_true, if_false, if_pos hb]
        exact ⟨_, rfl, rfl, readO_z 8⟩
      · rw [decide_eq_false hb]
        simp only [Bool.false_eq_true, if_false, if_neg hb]
        cases decide (g > 1) with
        | true => exact ⟨_, rfl, rfl, readO_z 3⟩
        | false =>
          cases objV o with
          | false => exact ⟨_, rfl, rfl, readO_z 1⟩
          | true => exact ⟨_, rfl, rfl, ho, h1, h2, h3, by simp only; omega⟩
  | succ k ih =>
    intro p q o g hR ho h1 h2 h3 h4
    cases hs : q.2.2 with
    | true => exact ⟨_, ibad4 z hR hs _ _ _, end_short (sbad4 z (k + 1) p q o g hR hs (by omega)), readO_z 22⟩
    | false =>
      obtain ⟨x1, p1, q1, a1, b1, c1, d1, e1, _⟩ := num1 hR
      obtain ⟨x2, p2, q2, a2, b2, c2, d2, e2, _⟩ := bool_1 c1 g
      rw [impl_ReadObject.l1111111111010_eq, spec_l08Take.l1111111010_eq, joinO, decide_eq_true (show ((k + 1 : Nat) : Int) > 0 by omega), rtk_bad hR, hs, b1]
      simp only [Bool.not_false, Bool.and_self, cond_true, Option.bind_some, a1, a2, b2]
      rw [room_le (by simp; omega) (by simp; omega), w64 (n := ((k + 1 : Nat) : Int) - 1) (by omega) (by omega), show ((k + 1 : Nat) : Int) - 1 = (k : Int) by omega]
      simp only [cond_true]
      exact ih p2 q2 _ _ c2 ⟨ho.n, ho.d, ho.f, ho.t, ho.r, fun x hx => by
        rcases List.mem_append.1 hx with hx | hx
        · exact ho.s x hx
        · rw [List.mem_singleton] at hx; subst hx; exact ⟨⟨by show _ ≤ x1; omega, by show x1 ≤ _; omega⟩, trivial⟩⟩ h1 h2 h3 (by simp; omega)
theorem lp3 (z : Obj) : ∀ (k : Nat) (p : ByteArray × Bool) (q : ByteArray × Int × Bool) (o : Obj) (g : Int), RTk p q → OIn o → o.2.2.1.length ≤ 300 → o.2.2.2.1.length ≤ 300 → k + o.2.2.2.2.1.length ≤ 300 → o.2.2.2.2.2 = [] →
    ∃ v, impl_ReadObject.l111111111010 z p (decide (g > 1)) o k = some v ∧ (spec_l08Take.l111111010 q z o g k).bind endO = some v ∧ ReadO v := by
  intro k
  induction k with
  | zero =>
    intro p q o g hR ho h1 h2 h3 e4
    obtain ⟨x, p1, q1, a1, b1, c1, d1, f1, _⟩ := num1 hR
    rw [impl_ReadObject.l111111111010_eq, spec_l08Take.l111111010_eq, joinO, decide_eq_false (show ¬ ((0 : Nat) : Int) > 0 by omega), a1, b1]
    simp only [Bool.false_and, cond_false, Option.bind_some]
    have := lp4 z x.toNat p1 q1 o g c1 ho h1 h2 (by omega) (by rw [e4]; simp; omega)
    rwa [show ((x.toNat : Nat) : Int) = x by omega] at this
  | succ k ih =>
    intro p q o g hR ho h1 h2 h3 e4
    cases hs : q.2.2 with
    | true => exact ⟨_, ibad3 z hR hs _ _ _, end_short (sbad3 z (k + 1) p q o g hR hs (by omega) e4), readO_z 22⟩
    | false =>
      obtain ⟨x1, p1, q1, a1, b1, c1, d1, e1, _⟩ := num1 hR
      obtain ⟨x2, p2, q2, a2, b2, c2, d2, e2, _⟩ := num1 c1
      obtain ⟨x3, p3, q3, a3, b3, c3, d3, e3, _⟩ := num1 c2
      obtain ⟨o4, p4, q4, a4, b4, c4, _, d4⟩ := take_name c3
      obtain ⟨x5, p5, q5, a5, b5, c5, d5, e5, _⟩ := take_num 4 c4 (by omega)
      rw [show ((4 : Nat) : Int) = 4 by rfl] at a5 b5
      have e5 : x5 < 4294967296 := by simpa using e5
      have hsr := signV_range x5 32 (by decide)
      have hsr1 : -2147483648 ≤ signV x5 32 ∧ signV x5 32 < 2147483648 := by simpa using hsr
      rw [impl_ReadObject.l111111111010_eq, spec_l08Take.l111111010_eq, joinO, decide_eq_true (show ((k + 1 : Nat) : Int) > 0 by omega), rtk_bad hR, hs, b1]
      simp only [Bool.not_false, Bool.and_self, cond_true, Option.bind_some, a1, a2, b2, a3, b3, a4, b4, a5, b5]
      rw [signOf_val x5 32 (by decide) (by decide), sign_val x5 32 (by decide) (by decide) (by omega) (by omega)]
      simp only [Option.bind_some]
      rw [room_le (by simp; omega) (by simp; omega), w64 (n := ((k + 1 : Nat) : Int) - 1) (by omega) (by omega), show ((k + 1 : Nat) : Int) - 1 = (k : Int) by omega]
      simp only [cond_true]
      exact ih p5 q5 _ _ c5 ⟨ho.n, ho.d, ho.f, ho.t, fun x hx => by
        rcases List.mem_append.1 hx with hx | hx
        · exact ho.r x hx
        · rw [List.mem_singleton] at hx; subst hx
          exact ⟨⟨by show _ ≤ x1; omega, by show x1 ≤ _; omega⟩, ⟨by show _ ≤ x2; omega, by show x2 ≤ _; omega⟩, ⟨by show _ ≤ x3; omega, by show x3 ≤ _; omega⟩, by show o4.size ≤ _; omega, by show _ ≤ signV x5 32; omega, by show signV x5 32 ≤ _; omega⟩, ho.s⟩ h1 h2 (by simp; omega) e4
theorem lp2 (z : Obj) : ∀ (k : Nat) (p : ByteArray × Bool) (q : ByteArray × Int × Bool) (o : Obj) (g : Int), RTk p q → OIn o → o.2.2.1.length ≤ 300 → k + o.2.2.2.1.length ≤ 300 → o.2.2.2.2.1 = [] → o.2.2.2.2.2 = [] →
    ∃ v, impl_ReadObject.l11111111010 z p (decide (g > 1)) o k = some v ∧ (spec_l08Take.l11111010 q z o g k).bind endO = some v ∧ ReadO v := by
  intro k
  induction k with
  | zero =>
    intro p q o g hR ho h1 h2 e3 e4
    obtain ⟨x, p1, q1, a1, b1, c1, d1, f1, _⟩ := num1 hR
    rw [impl_ReadObject.l11111111010_eq, spec_l08Take.l11111010_eq, joinO, decide_eq_false (show ¬ ((0 : Nat) : Int) > 0 by omega), a1, b1]
    simp only [Bool.false_and, cond_false, Option.bind_some]
    have := lp3 z x.toNat p1 q1 o g c1 ho h1 (by omega) (by rw [e3]; simp; omega) e4
    rwa [show ((x.toNat : Nat) : Int) = x by omega] at this
  | succ k ih =>
    intro p q o g hR ho h1 h2 e3 e4
    cases hs : q.2.2 with
    | true => exact ⟨_, ibad2 z hR hs _ _ _, end_short (sbad2 z (k + 1) p q o g hR hs (by omega) e3 e4), readO_z 22⟩
    | false =>
      obtain ⟨o1, p1, q1, a1, b1, c1, _, d1⟩ := take_name hR
      obtain ⟨o2, p2, q2, a2, b2, c2, _, d2⟩ := take_name c1
      rw [impl_ReadObject.l11111111010_eq, spec_l08Take.l11111010_eq, joinO, decide_eq_true (show ((k + 1 : Nat) : Int) > 0 by omega), rtk_bad hR, hs, b1]
      simp only [Bool.not_false, Bool.and_self, cond_true, Option.bind_some, a1, a2, b2]
      rw [room_le (by simp; omega) (by simp; omega), w64 (n := ((k + 1 : Nat) : Int) - 1) (by omega) (by omega), show ((k + 1 : Nat) : Int) - 1 = (k : Int) by omega]
      simp only [cond_true]
      exact ih p2 q2 _ _ c2 ⟨ho.n, ho.d, ho.f, fun x hx => by
        rcases List.mem_append.1 hx with hx | hx
        · exact ho.t x hx
        · rw [List.mem_singleton] at hx; subst hx; exact ⟨by show o1.size ≤ _; omega, by show o2.size ≤ _; omega⟩, ho.r, ho.s⟩ h1 (by simp; omega) e3 e4
theorem lp1 (z : Obj) : ∀ (k : Nat) (p : ByteArray × Bool) (q : ByteArray × Int × Bool) (o : Obj) (g : Int), RTk p q → OIn o → k + o.2.2.1.length ≤ 300 → o.2.2.2.1 = [] → o.2.2.2.2.1 = [] → o.2.2.2.2.2 = [] →
    ∃ v, impl_ReadObject.l1111111010 z p (decide (g > 1)) o k = some v ∧ (spec_l08Take.l1111010 q z o g k).bind endO = some v ∧ ReadO v := by
  intro k
  induction k with
  | zero =>
    intro p q o g hR ho h1 e2 e3 e4
    obtain ⟨x, p1, q1, a1, b1, c1, d1, f1, _⟩ := num1 hR
    rw [impl_ReadObject.l1111111010_eq, spec_l08Take.l1111010_eq, joinO, decide_eq_false (show ¬ ((0 : Nat) : Int) > 0 by omega), a1, b1]
    simp only [Bool.false_and, cond_false, Option.bind_some]
    have := lp2 z x.toNat p1 q1 o g c1 ho (by omega) (by rw [e2]; simp; omega) e3 e4
    rwa [show ((x.toNat : Nat) : Int) = x by omega] at this
  | succ k ih =>
    intro p q o g hR ho h1 e2 e3 e4
    cases hs : q.2.2 with
    | true => exact ⟨_, ibad1 z hR hs _ _ _, end_short (sbad1 z (k + 1) p q o g hR hs (by omega) e2 e3 e4), readO_z 22⟩
    | false =>
      obtain ⟨o1, p1, q1, a1, b1, c1, _, d1⟩ := take_name hR
      obtain ⟨x2, p2, q2, a2, b2, c2, d2, e2', _⟩ := bool_1 c1 g
      obtain ⟨x3, p3, q3, a3, b3, c3, d3, e3', _⟩ := num1 c2
      obtain ⟨x4, p4, q4, a4, b4, c4, d4, e4', _⟩ := num1 c3
      obtain ⟨o5, p5, q5, a5, b5, c5, _, d5⟩ := take_str (n := 4 * x4) c4 (by omega) (by omega)
      rw [impl_ReadObject.l1111111010_eq, spec_l08Take.l1111010_eq, joinO, decide_eq_true (show ((k + 1 : Nat) : Int) > 0 by omega), rtk_bad hR, hs, b1]
      simp only [Bool.not_false, Bool.and_self, cond_true, Option.bind_some, a1, a2, b2, a3, b3, a4, b4]
      rw [w64 (n := 4 * x4) (by omega) (by omega), a5, b5]
      simp only [Option.bind_some]
      rw [room_le (by simp; omega) (by simp; omega), w64 (n := ((k + 1 : Nat) : Int) - 1) (by omega) (by omega), show ((k + 1 : Nat) : Int) - 1 = (k : Int) by omega]
      simp only [cond_true]
      exact ih p5 q5 _ _ c5 ⟨ho.n, ho.d, fun x hx => by
        rcases List.mem_append.1 hx with hx | hx
        · exact ho.f x hx
        · rw [List.mem_singleton] at hx; subst hx
          exact ⟨by show o1.size ≤ _; omega, trivial, ⟨by show _ ≤ x3; omega, by show x3 ≤ _; omega⟩, by show o5.size ≤ _; omega⟩, ho.t, ho.r, ho.s⟩ (by simp; omega) e2 e3 e4
theorem read_objB (t : ByteArray) : ∃ v, impl_ReadObject t = some v ∧ spec_ReadObject t = some v ∧ ReadO v := by
  rw [impl_ReadObject_eq, spec_ReadObject_eq, impl_isLong_eq, spec_l08Read_eq]
  simp only [Option.bind_some]
  by_cases hl : (t.size : Int) > 65536
  · rw [decide_eq_true hl]; exact ⟨_, rfl, rfl, readO_z 2⟩
  · rw [decide_eq_false hl]
    simp only [cond_false]
    rcases take_both t ⟨#[80, 79, 66, 49]⟩ rfl (by omega) with ⟨c, q, hc, h1, h2⟩ | ⟨h8, h1, h2⟩
    · rw [h1, h2]
      simp only [Option.bind_some, optC]
      rw [decide_eq_false hc]
      exact ⟨_, rfl, rfl, readO_z c⟩
    · rw [h1, h2]
      simp only [Option.bind_some, optC]
      have hsz : (t.extract 4 (t.size - 4)).size ≤ 65536 := by rw [ByteArray.size_extract]; omega
      have hR : RTk (t.extract 4 (t.size - 4), false) (t.extract 4 (t.size - 4), 0, false) := by
        refine ⟨by simp, by simp, hsz, ?_⟩
        show (t.extract 4 (t.size - 4), false) = ((t.extract 4 (t.size - 4)).extract (Int.toNat 0) (t.extract 4 (t.size - 4)).size, false)
        rw [show (Int.toNat 0) = 0 by rfl, ByteArray.extract_zero_size]
      obtain ⟨o1, p1, q1, a1, b1, c1, _, d1⟩ := take_name hR
      obtain ⟨x2, p2, q2, a2, b2, c2, d2, e2, _⟩ := num1 c1
      obtain ⟨x3, p3, q3, a3, b3, c3, d3, e3, _⟩ := num1 c2
      obtain ⟨v, v1, v2, v3⟩ := lp1 zO x3.toNat p3 q3 (o1, x2, [], [], [], []) 0 c3 ⟨by simp only; omega, ⟨d2, e2⟩, by simp, by simp, by simp, by simp⟩ (by simp; omega) rfl rfl rfl
      rw [show ((x3.toNat : Nat) : Int) = x3 by omega] at v1 v2
      refine ⟨v, ?_, ?_, v3⟩
      · rw [a1]
        simp only [decide_true, Bool.not_true, cond_false, Option.bind_some, a2, a3]
        exact v1
      · rw [spec_l08Take_eq, b1]
        simp only [decide_true, Bool.not_true, cond_false, Option.bind_some, b2, b3]
        rw [← v2, Option.bind_assoc]
        cases spec_l08Take.l1111010 q3 zO (o1, x2, [], [], [], []) 0 x3 with
        | none => rfl
        | some r =>
          show Option.bind (endO r) _ = endO r
          cases endO r <;> rfl
theorem wf_obj {o : Obj} (h : OIn o) (h1 : o.2.2.1.length ≤ 300) (h2 : o.2.2.2.1.length ≤ 300) (h3 : o.2.2.2.2.1.length ≤ 300) (h4 : o.2.2.2.2.2.length ≤ 300) : wfT TObj o ∧ bdT TObj o := by
  have hn := h.n
  have hd := h.d
  refine ⟨⟨by show o.1.size ≤ _; omega, ⟨by show _ ≤ o.2.1; omega, by show o.2.1 ≤ _; omega⟩, ⟨by show o.2.2.1.length ≤ _; omega, h.f⟩, ⟨by show o.2.2.2.1.length ≤ _; omega, h.t⟩, ⟨by show o.2.2.2.2.1.length ≤ _; omega, h.r⟩, ⟨by show o.2.2.2.2.2.length ≤ _; omega, h.s⟩⟩, ?_⟩
  exact ⟨trivial, trivial, ⟨by show o.2.2.1.length ≤ _; omega, fun _ _ => ⟨trivial, trivial, trivial, trivial⟩⟩, ⟨by show o.2.2.2.1.length ≤ _; omega, fun _ _ => ⟨trivial, trivial⟩⟩, ⟨by show o.2.2.2.2.1.length ≤ _; omega, fun _ _ => ⟨trivial, trivial, trivial, trivial, trivial⟩⟩, ⟨by show o.2.2.2.2.2.length ≤ _; omega, fun _ _ => ⟨trivial, trivial⟩⟩⟩
theorem readObject_law (t : ByteArray) : laws_FnExactReadObject t = some true := by
  rw [laws_FnExactReadObject_eq]
  by_cases hz : (t.size : Int) > 1048576
  · rw [decide_eq_true hz]; rfl
  · rw [decide_eq_false hz]
    obtain ⟨v, v1, v2, ho, h1, h2, h3, h4⟩ := read_objB t
    obtain ⟨hw, hb⟩ := wf_obj ho h1 h2 h3 h4
    obtain ⟨m, x, hm, m1, m2⟩ := mark_obj v.1 ⟨by omega, by omega, by omega, by omega⟩
    have he : laws_eqObject v.1 v.1 = some true := eq_Object v.1 hw hb
    rw [v1, v2]
    simp only [cond_false, Option.bind_some, joinB, he, m1, m2, decide_true, Bool.not_true]
    rw [decide_eq_false (show ¬ (m < 0) by omega)]
    rfl
end Go.Proofs.Ytamgeifafllcgaa.S
