import Derived.Test.YtaplgfojdekgkaaGreatSxI
import Derived.IntWalk
namespace Go.Proofs.YtaplgfojdekgkaaGreat.S
open Go.Ps
set_option linter.unusedVariables false
set_option maxRecDepth 100000
theorem w64 {n : Int} (h : -9223372036854775808 ≤ n) (h' : n ≤ 9223372036854775807) : IntKind.wrap .i64 n = n := IntWalk.i64_in n ⟨h, h'⟩
theorem isLetter_l00 (n : Int) : Z65 n = Z2q n := by rw [Z65_eq, Z2q_eq]
theorem isDigit_l00 (n : Int) : Z66 n = Z2r n := by rw [Z66_eq, Z2r_eq]
theorem name_loop (t : ByteArray) (ht : t.size ≤ 20) : ∀ (k : Nat) (i : Int), 0 ≤ i → t.size ≤ i.toNat + k → Z67.a t i = Z2s.a t i := by
  intro k
  induction k with
  | zero =>
    intro i h0 hk
    have : decide (i < (t.size : Int)) = false := by simp; omega
    rw [Z67.a_eq, Z2s.a_eq, this]; rfl
  | succ k ih =>
    intro i h0 hk
    rw [Z67.a_eq, Z2s.a_eq, isLetter_l00, isDigit_l00]
    by_cases hi : i < (t.size : Int)
    · rw [w64 (n := i + 1) (by omega) (by omega), ih (i + 1) (by omega) (by omega)]
    · rw [show decide (i < (t.size : Int)) = false by simp; omega]; rfl
theorem nameOK (t : ByteArray) : Z67 t = Z2s t := by
  rw [Z67_eq, Z2s_eq, Z64_eq]
  by_cases h1 : (t.size : Int) < 1
  · rw [show decide ((1 : Int) ≤ (t.size : Int)) = false by simp; omega, show decide ((t.size : Int) < 1) = true by simp; omega]; rfl
  · rw [show decide ((1 : Int) ≤ (t.size : Int)) = true by simp; omega, show decide ((t.size : Int) < 1) = false by simp; omega]
    by_cases h2 : (t.size : Int) > 20
    · rw [show decide ((t.size : Int) > 20) = true by simp; omega, show decide ((t.size : Int) ≤ 20) = false by simp; omega]; rfl
    · rw [show decide ((t.size : Int) > 20) = false by simp; omega, show decide ((t.size : Int) ≤ 20) = true by simp; omega]
      simp only [cond_true, cond_false, Option.bind_some, Bool.not_true]
      rw [isLetter_l00, name_loop t (by omega) t.size 1 (by omega) (by omega)]
theorem bt_range (t : ByteArray) (i : Int) : 0 ≤ bt t i ∧ bt t i ≤ 255 := by
  unfold bt
  have := (t.data.getD i.toNat 0).toNat_lt
  omega
theorem wu64 {n : Int} (h : 0 ≤ n) (h' : n ≤ 18446744073709551615) : IntKind.wrap .u64 n = n := by
  have : IntKind.wrap .u64 n = n % 18446744073709551616 := by simp [IntKind.wrap, IntKind.bits, IntKind.signed]
  rw [this]; omega
def Both {α : Type} (x y : Option α) : Prop := ∃ v, x = some v ∧ y = some v
theorem Both.mk {α : Type} (v : α) : Both (some v) (some v) := ⟨v, rfl, rfl⟩
theorem Both.bind {α β : Type} {x y : Option α} {f g : α → Option β} (h : Both x y) (k : ∀ v, x = some v → Both (f v) (g v)) : Both (x.bind f) (y.bind g) := by
  obtain ⟨v, h1, h2⟩ := h
  rw [h1, h2]; exact k v h1
theorem Both.some {α : Type} {x y : Option α} (e : x = y) (h : ∃ v, x = some v) : Both x y := by obtain ⟨v, h⟩ := h; exact ⟨v, h, e ▸ h⟩
theorem some_letter (n : Int) : ∃ v, Z65 n = some v := by
  rw [Z65_eq]
  cases decide (n ≥ 97) <;> cases decide (n ≤ 122) <;> cases decide (n ≥ 65) <;> cases decide (n ≤ 90) <;> exact ⟨_, rfl⟩
theorem some_digit (n : Int) : ∃ v, Z66 n = some v := by
  rw [Z66_eq]; cases decide (n ≥ 48) <;> exact ⟨_, rfl⟩
theorem some_name_loop (t : ByteArray) (ht : t.size ≤ 20) : ∀ (k : Nat) (i : Int), 0 ≤ i → t.size ≤ i.toNat + k → ∃ v, Z67.a t i = some v := by
  intro k
  induction k with
  | zero =>
    intro i h0 hk
    have : decide (i < (t.size : Int)) = false := by simp; omega
    rw [Z67.a_eq, this]; exact ⟨_, rfl⟩
  | succ k ih =>
    intro i h0 hk
    rw [Z67.a_eq]
    by_cases hi : i < (t.size : Int)
    · have e : inL i t.size = true := by simp [inL]; omega
      obtain ⟨v1, h1⟩ := some_letter (bt t i)
      obtain ⟨v2, h2⟩ := some_digit (bt t i)
      obtain ⟨v3, h3⟩ := ih (i + 1) (by omega) (by omega)
      rw [w64 (n := i + 1) (by omega) (by omega), e, h1, h2, h3]
      simp only [decide_eq_true hi, cond_true, Option.bind_some]
      cases v1 <;> cases v2 <;> exact ⟨_, rfl⟩
    · rw [show decide (i < (t.size : Int)) = false by simp; omega]; exact ⟨_, rfl⟩
theorem both_name (t : ByteArray) : Both (Z67 t) (Z2s t) := by
  refine Both.some (nameOK t) ?_
  rw [Z67_eq, Z64_eq]
  by_cases h1 : (1 : Int) ≤ (t.size : Int)
  · by_cases h2 : (t.size : Int) ≤ 20
    · obtain ⟨v1, e1⟩ := some_letter (bt t 0)
      obtain ⟨v2, e2⟩ := some_name_loop t (by omega) t.size 1 (by omega) (by omega)
      have e : inL 0 t.size = true := by simp [inL]; omega
      simp only [decide_eq_true h1, decide_eq_true h2, cond_true, Option.bind_some, Bool.not_true, cond_false, e, e1, e2]
      cases v1 <;> exact ⟨_, rfl⟩
    · simp only [decide_eq_true h1, cond_true, Option.bind_some, decide_eq_false h2, Bool.not_false]; exact ⟨_, rfl⟩
  · simp only [decide_eq_false h1, cond_false, Option.bind_some, Bool.not_false, cond_true]; exact ⟨_, rfl⟩
theorem cond_ite {α : Type} (c : Bool) (a b : α) : cond c a b = if c = true then a else b := by cases c <;> rfl
theorem wrap64_mod (n : Int) : ∃ q : Int, IntKind.wrap .i64 n = n - 18446744073709551616 * q := by
  rw [IntKind.wrap_i64]; exact ⟨(n + 9223372036854775808) / 18446744073709551616, by omega⟩
theorem bv64 (x : Int) : ((BitVec.ofInt IntKind.i64.bits x).toNat : Int) = x % 18446744073709551616 := by
  rw [BitVec.toNat_ofInt]
  have hb : ((2 ^ IntKind.i64.bits : Nat) : Int) = 18446744073709551616 := rfl
  rw [hb]; omega
theorem mod_pow_mod (x : Int) (c : Nat) (hc : c ≤ 62) : x % 18446744073709551616 % 2 ^ c = x % 2 ^ c := by
  apply Int.emod_emod_of_dvd
  exact ⟨2 ^ (64 - c), by rw [← Int.pow_add, show c + (64 - c) = 64 by omega]; rfl⟩
theorem pow_le62 (c : Nat) (hc : c ≤ 62) : (1 : Int) ≤ 2 ^ c ∧ (2 : Int) ^ c ≤ 4611686018427387904 := by
  have h1 : 2 ^ c ≤ 2 ^ 62 := Nat.pow_le_pow_right (by decide) hc
  have h2 : 1 ≤ 2 ^ c := Nat.one_le_two_pow
  have e : ((2 ^ c : Nat) : Int) = (2 : Int) ^ c := by simp
  omega
theorem and_mask (x : Int) (c : Nat) (hc : c ≤ 62) : andI .i64 x (2 ^ c - 1) = x % 2 ^ c := by
  have hp := pow_le62 c hc
  have e : ((2 ^ c : Nat) : Int) = (2 : Int) ^ c := by simp
  unfold andI
  have h1 : (BitVec.ofInt IntKind.i64.bits x &&& BitVec.ofInt IntKind.i64.bits ((2 : Int) ^ c - 1)).toNat = (BitVec.ofInt IntKind.i64.bits x).toNat % 2 ^ c := by
    rw [BitVec.toNat_and]
    have : (BitVec.ofInt IntKind.i64.bits ((2 : Int) ^ c - 1)).toNat = 2 ^ c - 1 := by
      have := bv64 ((2 : Int) ^ c - 1); omega
    rw [this, Nat.and_two_pow_sub_one_eq_mod]
  rw [h1]
  have h2 : (((BitVec.ofInt IntKind.i64.bits x).toNat % 2 ^ c : Nat) : Int) = x % 2 ^ c := by
    rw [Int.natCast_emod, bv64, e, mod_pow_mod x c hc]
  rw [h2]
  have h3 : 0 ≤ x % 2 ^ c := Int.emod_nonneg _ (by omega)
  have h4 : x % 2 ^ c < 2 ^ c := Int.emod_lt_of_pos _ (by omega)
  exact w64 (by omega) (by omega)
theorem shr_div {x : Int} {k : Int} (h : 0 ≤ k) (h' : k ≤ 64) : shrI .i64 x k = x / 2 ^ k.toNat := by
  unfold shrI
  have hb : IntKind.i64.bits = 64 := rfl
  rw [show min k.toNat IntKind.i64.bits = k.toNat by omega, Int.fdiv_eq_ediv_of_nonneg]
  have := pow_le62
  exact Int.le_of_lt (Int.pow_pos (by decide))
theorem shr_div_u {x : Int} {k : Int} (h : 0 ≤ k) (h' : k ≤ 64) : shrI .u64 x k = x / 2 ^ k.toNat := by
  unfold shrI
  have hb : IntKind.u64.bits = 64 := rfl
  rw [show min k.toNat IntKind.u64.bits = k.toNat by omega, Int.fdiv_eq_ediv_of_nonneg]
  exact Int.le_of_lt (Int.pow_pos (by decide))
theorem shl_mul {x : Int} {k : Int} (h : 0 ≤ k) (h' : k ≤ 64) : shlI .i64 x k = IntKind.wrap .i64 (x * 2 ^ k.toNat) := by
  unfold shlI
  have hb : IntKind.i64.bits = 64 := rfl
  rw [show min k.toNat IntKind.i64.bits = k.toNat by omega]
theorem bitsOf_val (v low count : Int) (h : 0 ≤ low) (h' : low ≤ 64) (hc : 0 ≤ count) (hc' : count ≤ 62) : Z6j v low count = some (v / 2 ^ low.toNat % 2 ^ count.toNat) := by
  rw [Z6j_eq]
  have hp := pow_le62 count.toNat (by omega)
  rw [show decide (low < 0) = false by simp; omega, show decide (count < 0) = false by simp; omega, shl_mul hc (by omega), shr_div h h', Int.one_mul, w64 (n := 2 ^ count.toNat) (by omega) (by omega), w64 (n := 2 ^ count.toNat - 1) (by omega) (by omega), and_mask _ _ (by omega)]
  rfl
theorem nat_or_field (x y k c : Nat) (hy : y < 2 ^ c) (h : x / 2 ^ k % 2 ^ c = 0) : x ||| y * 2 ^ k = x + y * 2 ^ k := by
  have hk : 0 < 2 ^ k := Nat.two_pow_pos k
  have hkc : 0 < 2 ^ (k + c) := Nat.two_pow_pos _
  have e1 : x % 2 ^ (k + c) < 2 ^ k := by
    rw [Nat.pow_add]
    have : x % (2 ^ k * 2 ^ c) = x % 2 ^ k + 2 ^ k * (x / 2 ^ k % 2 ^ c) := Nat.mod_mul
    rw [this, h]
    have := Nat.mod_lt x hk
    omega
  have e2 : y * 2 ^ k + x % 2 ^ (k + c) < 2 ^ (k + c) := by
    have : (y + 1) * 2 ^ k ≤ 2 ^ c * 2 ^ k := Nat.mul_le_mul_right _ (by omega)
    rw [Nat.pow_add, Nat.mul_comm (2 ^ k) (2 ^ c)]
    rw [Nat.pow_add, Nat.mul_comm (2 ^ k) (2 ^ c)] at e1
    rw [Nat.add_mul] at this
    omega
  have hx : x = (x / 2 ^ (k + c)) <<< (k + c) ||| x % 2 ^ (k + c) := by
    rw [← Nat.shiftLeft_add_eq_or_of_lt (Nat.mod_lt x hkc), Nat.shiftLeft_eq]
    have := Nat.div_add_mod x (2 ^ (k + c))
    rw [Nat.mul_comm] at this; exact this.symm
  have h3 : x % 2 ^ (k + c) ||| y * 2 ^ k = y * 2 ^ k + x % 2 ^ (k + c) := by
    rw [Nat.or_comm, ← Nat.shiftLeft_eq y k, ← Nat.shiftLeft_add_eq_or_of_lt e1, Nat.shiftLeft_eq]
  calc x ||| y * 2 ^ k = (x / 2 ^ (k + c)) <<< (k + c) ||| (x % 2 ^ (k + c) ||| y * 2 ^ k) := by
        conv => lhs; rw [hx]
        rw [Nat.or_assoc]
    _ = (x / 2 ^ (k + c)) <<< (k + c) + (y * 2 ^ k + x % 2 ^ (k + c)) := by rw [h3, Nat.shiftLeft_add_eq_or_of_lt e2]
    _ = x + y * 2 ^ k := by
        rw [Nat.shiftLeft_eq]
        have := Nat.div_add_mod x (2 ^ (k + c))
        rw [Nat.mul_comm] at this; omega
theorem or_field {x y P Q : Int} (k c : Nat) (hP : P = 2 ^ k) (hQ : Q = 2 ^ c) (hkc : k + c ≤ 62) (hx : 0 ≤ x) (hx' : x < 4611686018427387904) (hy : 0 ≤ y) (hy' : y < Q) (h : x / P % Q = 0) : orI .i64 x (y * P) = x + y * P := by
  subst hP hQ
  obtain ⟨a, rfl⟩ := Int.eq_ofNat_of_zero_le hx
  obtain ⟨b, rfl⟩ := Int.eq_ofNat_of_zero_le hy
  have hp := pow_le62 k (by omega)
  have ek : ((2 ^ k : Nat) : Int) = (2 : Int) ^ k := by simp
  have ec : ((2 ^ c : Nat) : Int) = (2 : Int) ^ c := by simp
  have hb : b < 2 ^ c := by omega
  have hlt : b * 2 ^ k < 4611686018427387904 := by
    have h1 : b * 2 ^ k < 2 ^ c * 2 ^ k := Nat.mul_lt_mul_of_pos_right hb (Nat.two_pow_pos k)
    rw [← Nat.pow_add] at h1
    have h2 : 2 ^ (c + k) ≤ 2 ^ 62 := Nat.pow_le_pow_right (by decide) (by omega)
    omega
  have h0 : a / 2 ^ k % 2 ^ c = 0 := by
    have : ((a / 2 ^ k % 2 ^ c : Nat) : Int) = (a : Int) / 2 ^ k % 2 ^ c := by
      rw [Int.natCast_emod, Int.natCast_ediv, ek, ec]
    omega
  have em : ((b * 2 ^ k : Nat) : Int) = (b : Int) * 2 ^ k := by rw [Int.natCast_mul, ek]
  unfold orI
  rw [BitVec.toNat_or]
  have f1 : (BitVec.ofInt IntKind.i64.bits (a : Int)).toNat = a := by have := bv64 (a : Int); omega
  have f2 : (BitVec.ofInt IntKind.i64.bits ((b : Int) * 2 ^ k)).toNat = b * 2 ^ k := by have := bv64 ((b : Int) * 2 ^ k); omega
  rw [f1, f2, nat_or_field a b k c hb h0, Int.natCast_add, em]
  exact w64 (by omega) (by omega)
theorem bit_val (v i : Int) (hv : -9223372036854775808 ≤ v) (hv' : v ≤ 9223372036854775807) (h : 0 ≤ i) (h' : i ≤ 63) : Z31 v i = some (v / 2 ^ i.toNat % 2) := by
  rw [Z31_eq, wu64 (n := i) (by omega) (by omega), show decide (i < 0) = false by simp; omega, shr_div_u h (by omega)]
  have hu : IntKind.wrap .u64 v = v % 18446744073709551616 := by simp [IntKind.wrap, IntKind.bits, IntKind.signed]
  have h0 : 0 ≤ v % 18446744073709551616 := by omega
  have hp : (0 : Int) < 2 ^ i.toNat := Int.pow_pos (by decide)
  have hd : 0 ≤ v % 18446744073709551616 / 2 ^ i.toNat := Int.ediv_nonneg h0 (by omega)
  rw [hu, Int.tmod_eq_emod_of_nonneg hd]
  have e : v % 18446744073709551616 / 2 ^ i.toNat % 2 = v / 2 ^ i.toNat % 2 := by
    have hpe : (18446744073709551616 : Int) = 2 ^ i.toNat * (2 ^ (63 - i.toNat) * 2) := by
      rw [← Int.pow_succ, ← Int.pow_add, show i.toNat + (63 - i.toNat + 1) = 64 by omega]; rfl
    have h1 : v % 18446744073709551616 = v - 2 ^ i.toNat * (2 ^ (63 - i.toNat) * 2 * (v / 18446744073709551616)) := by
      rw [Int.emod_def, ← Int.mul_assoc, ← hpe]
    rw [h1, Int.sub_eq_add_neg, ← Int.mul_neg, Int.add_mul_ediv_left _ _ (by omega)]
    rw [Int.mul_comm (2 ^ (63 - i.toNat)) 2, Int.mul_assoc, ← Int.mul_neg, Int.add_mul_emod_self_left]
  rw [e]
  have : v / 2 ^ i.toNat % 2 = 0 ∨ v / 2 ^ i.toNat % 2 = 1 := by omega
  rcases this with h | h <;> rw [h] <;> rfl
theorem field_loop (w low : Int) (hw : -9223372036854775808 ≤ w) (hw' : w ≤ 9223372036854775807) (h : 0 ≤ low) : ∀ (k : Nat) (x : Int), low + k ≤ 63 → k ≤ 62 → 0 ≤ x → (x + 1) * 2 ^ k ≤ 4611686018427387904 → Z37.a w low x ((k : Int) - 1) = some (x * 2 ^ k + w / 2 ^ low.toNat % 2 ^ k) := by
  intro k
  induction k with
  | zero =>
    intro x _ _ _ _
    rw [Z37.a_eq, show decide (((0 : Nat) : Int) - 1 ≥ 0) = false by rfl]
    simp only [cond_false, Int.pow_zero, Int.emod_one, Int.mul_one, Int.add_zero]
  | succ k ih =>
    intro x h1 h2 h3 h4
    have hpk := pow_le62 k (by omega)
    have hx : 2 * x + 2 ≤ 4611686018427387904 := by
      rw [Int.pow_succ] at h4
      have : (x + 1) * 2 ≤ (x + 1) * (2 ^ k * 2) := Int.mul_le_mul_of_nonneg_left (by omega) (by omega)
      omega
    have hs : (((k + 1 : Nat) : Int) - 1) = (k : Int) := by omega
    rw [hs, Z37.a_eq, show decide ((k : Int) ≥ 0) = true by simp, w64 (n := low + k) (by omega) (by omega), bit_val w (low + k) hw hw' (by omega) (by omega)]
    have hb : 0 ≤ w / 2 ^ (low + k).toNat % 2 ∧ w / 2 ^ (low + k).toNat % 2 ≤ 1 := by omega
    simp only [cond_true, Option.bind_some]
    rw [w64 (n := 2 * x) (by omega) (by omega), w64 (n := 2 * x + _) (by omega) (by omega), w64 (n := (k : Int) - 1) (by omega) (by omega)]
    rw [ih _ (by omega) (by omega) (by omega) (by
      rw [Int.pow_succ, Int.mul_comm (2 ^ k) 2, ← Int.mul_assoc] at h4
      exact Int.le_trans (Int.mul_le_mul_of_nonneg_right (by omega) (by omega)) h4)]
    congr 1
    have e1 : (low + k).toNat = low.toNat + k := by omega
    have e2 : w / 2 ^ low.toNat % 2 ^ (k + 1) = w / 2 ^ low.toNat % 2 ^ k + 2 ^ k * (w / 2 ^ (low.toNat + k) % 2) := by
      rw [Int.pow_succ, Int.pow_add, ← Int.ediv_ediv_of_nonneg (Int.le_of_lt (Int.pow_pos (by decide)))]
      generalize w / 2 ^ low.toNat = z
      have hk : (0 : Int) ≤ 2 ^ k := by omega
      rw [Int.emod_def z (2 ^ k * 2), ← Int.ediv_ediv_of_nonneg hk, Int.emod_def (z / 2 ^ k) 2, Int.emod_def z (2 ^ k), Int.mul_sub]
      rw [Int.mul_assoc (2 ^ k) 2]; omega
    rw [e1, e2, Int.add_mul, Int.pow_succ, Int.mul_comm (2 ^ k) 2, ← Int.mul_assoc, Int.mul_comm x 2, Int.mul_comm (2 ^ k) (w / 2 ^ (low.toNat + k) % 2)]
    omega
theorem field_val (w low count : Int) (hw : -9223372036854775808 ≤ w) (hw' : w ≤ 9223372036854775807) (h : 0 ≤ low) (hc : 0 ≤ count) (hlc : low + count ≤ 62) : Z37 w low count = some (w / 2 ^ low.toNat % 2 ^ count.toNat) := by
  have hp := pow_le62 count.toNat (by omega)
  rw [Z37_eq, w64 (n := count - 1) (by omega) (by omega), show count - 1 = (count.toNat : Int) - 1 by omega, field_loop w low hw hw' h count.toNat 0 (by omega) (by omega) (by omega) (by omega)]
  rw [Int.zero_mul, Int.zero_add]
theorem bit_low (a z : Int) (n i : Nat) (h : i < n) : (a + 2 ^ n * z) / 2 ^ i % 2 = a / 2 ^ i % 2 := by
  have e : (2 : Int) ^ n = 2 ^ i * (2 * 2 ^ (n - i - 1)) := by
    rw [← Int.mul_assoc, ← Int.pow_succ, ← Int.pow_add, show i + 1 + (n - i - 1) = n by omega]
  have hp : (0 : Int) < 2 ^ i := Int.pow_pos (by decide)
  rw [e, Int.mul_assoc, Int.add_mul_ediv_left _ _ (by omega), Int.mul_assoc, Int.add_mul_emod_self_left]
theorem bit_step (t : Int) (i : Nat) : 2 * (t / 2 ^ (i + 1)) + t / 2 ^ i % 2 = t / 2 ^ i := by
  have hp : (0 : Int) ≤ 2 ^ i := Int.le_of_lt (Int.pow_pos (by decide))
  rw [Int.pow_succ, ← Int.ediv_ediv_of_nonneg hp]; omega
def putV (w low count v : Int) : Int := w % 2 ^ low.toNat + 2 ^ low.toNat * (v % 2 ^ count.toNat + 2 ^ count.toNat * (w / 2 ^ (low.toNat + count.toNat)))
theorem putV_bit (w low count v : Int) (h : 0 ≤ low) (hc : 0 ≤ count) (i : Nat) : putV w low count v / 2 ^ i % 2 = if low ≤ i ∧ (i : Int) < low + count then v / 2 ^ (i - low.toNat) % 2 else w / 2 ^ i % 2 := by
  obtain ⟨l, rfl⟩ := Int.eq_ofNat_of_zero_le h
  obtain ⟨c, rfl⟩ := Int.eq_ofNat_of_zero_le hc
  have hl : (0 : Int) < 2 ^ l := Int.pow_pos (by decide)
  have hcc : (0 : Int) < 2 ^ c := Int.pow_pos (by decide)
  simp only [putV, Int.toNat_natCast]
  by_cases h1 : i < l
  · rw [bit_low _ _ _ _ h1, if_neg (by omega)]
    conv => rhs; rw [← Int.emod_add_mul_ediv w (2 ^ l)]
    rw [bit_low _ _ _ _ h1]
  · have e : (2 : Int) ^ i = 2 ^ l * 2 ^ (i - l) := by rw [← Int.pow_add, show l + (i - l) = i by omega]
    rw [e, ← Int.ediv_ediv_of_nonneg (by omega : (0 : Int) ≤ 2 ^ l), Int.add_mul_ediv_left _ _ (by omega), Int.ediv_eq_zero_of_lt (Int.emod_nonneg _ (by omega)) (Int.emod_lt_of_pos _ hl), Int.zero_add]
    by_cases h2 : i < l + c
    · rw [if_pos (by omega), bit_low _ _ _ _ (show i - l < c by omega)]
      conv => rhs; rw [← Int.emod_add_mul_ediv v (2 ^ c)]
      rw [bit_low _ _ _ _ (show i - l < c by omega)]
    · have e2 : (2 : Int) ^ (i - l) = 2 ^ c * 2 ^ (i - l - c) := by rw [← Int.pow_add, show c + (i - l - c) = i - l by omega]
      rw [if_neg (by omega), e2, ← Int.ediv_ediv_of_nonneg (by omega : (0 : Int) ≤ 2 ^ c), Int.add_mul_ediv_left _ _ (by omega), Int.ediv_eq_zero_of_lt (Int.emod_nonneg _ (by omega)) (Int.emod_lt_of_pos _ hcc), Int.zero_add, Int.pow_add, ← Int.ediv_ediv_of_nonneg (by omega : (0 : Int) ≤ 2 ^ l), Int.ediv_ediv_of_nonneg (by omega : (0 : Int) ≤ 2 ^ c), ← e2, Int.ediv_ediv_of_nonneg (by omega : (0 : Int) ≤ 2 ^ l)]
theorem putV_range (w low count v : Int) (h : 0 ≤ low) (hc : 0 ≤ count) (hlc : low + count ≤ 32) (hw : 0 ≤ w) (hw' : w < 4294967296) : 0 ≤ putV w low count v ∧ putV w low count v < 4294967296 := by
  obtain ⟨l, rfl⟩ := Int.eq_ofNat_of_zero_le h
  obtain ⟨c, rfl⟩ := Int.eq_ofNat_of_zero_le hc
  have hl : (0 : Int) < 2 ^ l := Int.pow_pos (by decide)
  have hcc : (0 : Int) < 2 ^ c := Int.pow_pos (by decide)
  simp only [putV, Int.toNat_natCast]
  have a1 := Int.emod_nonneg w (show (2 : Int) ^ l ≠ 0 by omega)
  have a2 := Int.emod_lt_of_pos w hl
  have b1 := Int.emod_nonneg v (show (2 : Int) ^ c ≠ 0 by omega)
  have b2 := Int.emod_lt_of_pos v hcc
  have hlcp : (0 : Int) < 2 ^ (l + c) := Int.pow_pos (by decide)
  have c1 : 0 ≤ w / 2 ^ (l + c) := Int.ediv_nonneg hw (by omega)
  have c2 : w / 2 ^ (l + c) + 1 ≤ 2 ^ (32 - l - c) := by
    have : w / 2 ^ (l + c) < 2 ^ (32 - l - c) := by
      apply Int.ediv_lt_of_lt_mul hlcp
      rw [← Int.pow_add, show 32 - l - c + (l + c) = 32 by omega]; exact hw'
    omega
  generalize w / 2 ^ (l + c) = z at *
  generalize w % 2 ^ l = x at *
  generalize v % 2 ^ c = y at *
  have d1 : 0 ≤ 2 ^ c * z := Int.mul_nonneg (by omega) c1
  have d2 : 2 ^ c * z + 2 ^ c ≤ 2 ^ c * 2 ^ (32 - l - c) := by
    have := Int.mul_le_mul_of_nonneg_left c2 (show (0 : Int) ≤ 2 ^ c by omega)
    rw [Int.mul_add, Int.mul_one] at this; exact this
  rw [← Int.pow_add, show c + (32 - l - c) = 32 - l by omega] at d2
  have d3 : 0 ≤ 2 ^ l * (y + 2 ^ c * z) := Int.mul_nonneg (by omega) (by omega)
  have d4 : 2 ^ l * (y + 2 ^ c * z) + 2 ^ l ≤ 2 ^ l * 2 ^ (32 - l) := by
    have := Int.mul_le_mul_of_nonneg_left (show y + 2 ^ c * z + 1 ≤ 2 ^ (32 - l) by omega) (show (0 : Int) ≤ 2 ^ l by omega)
    rw [Int.mul_add (2 ^ l) _ 1, Int.mul_one] at this; exact this
  rw [← Int.pow_add, show l + (32 - l) = 32 by omega, show (2 : Int) ^ 32 = 4294967296 by rfl] at d4
  omega
theorem put_loop (w low count v : Int) (h : 0 ≤ low) (hc : 0 ≤ count) (hlc : low + count ≤ 32) (hw : 0 ≤ w) (hw' : w < 4294967296) (hv : -9223372036854775808 ≤ v) (hv' : v ≤ 9223372036854775807) :
    ∀ (k : Nat), k ≤ 32 → Z32.a w low count v (putV w low count v / 2 ^ k) ((k : Int) - 1) = some (putV w low count v) := by
  have hr := putV_range w low count v h hc hlc hw hw'
  intro k
  induction k with
  | zero =>
    intro _
    rw [Z32.a_eq, show decide (((0 : Nat) : Int) - 1 ≥ 0) = false by rfl]
    simp only [cond_false, Int.pow_zero, Int.ediv_one]
  | succ k ih =>
    intro hk
    have ih := ih (by omega)
    have hb := putV_bit w low count v h hc k
    have hst := bit_step (putV w low count v) k
    generalize ht : putV w low count v = T at *
    have hp : (0 : Int) < 2 ^ (k + 1) := Int.pow_pos (by decide)
    have q0 : 0 ≤ T / 2 ^ (k + 1) := Int.ediv_nonneg hr.1 (by omega)
    have q1 : T / 2 ^ (k + 1) ≤ T := Int.ediv_le_self _ hr.1
    have hs : (((k + 1 : Nat) : Int) - 1) = (k : Int) := by omega
    rw [hs, Z32.a_eq, show decide ((k : Int) ≥ 0) = true by simp, bit_val w k (by omega) (by omega) (by omega) (by omega), w64 (n := low + count) (by omega) (by omega), w64 (n := 2 * (T / 2 ^ (k + 1))) (by omega) (by omega), w64 (n := (k : Int) - 1) (by omega) (by omega)]
    simp only [cond_true, Option.bind_some, Int.toNat_natCast]
    by_cases h1 : low ≤ (k : Int)
    · by_cases h2 : (k : Int) < low + count
      · rw [show decide ((k : Int) ≥ low) = true by simp; omega, show decide ((k : Int) < low + count) = true by simp; omega, w64 (n := (k : Int) - low) (by omega) (by omega), bit_val v _ hv hv' (by omega) (by omega)]
        rw [if_pos ⟨h1, h2⟩] at hb
        simp only [cond_true, Option.bind_some]
        rw [show ((k : Int) - low).toNat = k - low.toNat by omega, ← hb, w64 (by omega) (by omega), hst, ih]
      · rw [show decide ((k : Int) ≥ low) = true by simp; omega, show decide ((k : Int) < low + count) = false by simp; omega]
        rw [if_neg (by omega)] at hb
        simp only [cond_true, cond_false]
        rw [← hb, w64 (by omega) (by omega), hst, ih]
    · rw [show decide ((k : Int) ≥ low) = false by simp; omega]
      rw [if_neg (by omega)] at hb
      simp only [cond_false]
      rw [← hb, w64 (by omega) (by omega), hst, ih]
theorem put_val (w low count v : Int) (h : 0 ≤ low) (hc : 0 ≤ count) (hlc : low + count ≤ 32) (hw : 0 ≤ w) (hw' : w < 4294967296) (hv : -9223372036854775808 ≤ v) (hv' : v ≤ 9223372036854775807) :
    Z32 w low count v = some (putV w low count v) := by
  have hr := putV_range w low count v h hc hlc hw hw'
  have := put_loop w low count v h hc hlc hw hw' hv hv' 32 (by omega)
  rw [Z32_eq]
  rw [Int.ediv_eq_zero_of_lt hr.1 (by rw [show (2 : Int) ^ 32 = 4294967296 by rfl]; exact hr.2)] at this
  exact this
def signV (v : Int) (c : Nat) : Int := if v % 2 ^ c < 2 ^ (c - 1) then v % 2 ^ c else v % 2 ^ c - 2 ^ c
theorem pow_half (c : Nat) (h : 1 ≤ c) : (2 : Int) ^ c = 2 * 2 ^ (c - 1) := by
  obtain ⟨d, rfl⟩ := Nat.exists_eq_add_of_le h
  rw [Nat.add_comm, Int.pow_succ, Int.mul_comm]; rfl
theorem signV_mod (v : Int) (c : Nat) : ∃ q, signV v c = v + 2 ^ c * q := by
  unfold signV
  rw [Int.emod_def]
  split
  · exact ⟨-(v / 2 ^ c), by rw [Int.mul_neg]; omega⟩
  · exact ⟨-(v / 2 ^ c) - 1, by rw [Int.mul_sub, Int.mul_neg]; omega⟩
theorem signV_range (v : Int) (c : Nat) (h : 1 ≤ c) : -2 ^ (c - 1) ≤ signV v c ∧ signV v c < 2 ^ (c - 1) := by
  have hp := pow_half c h
  have hp1 : (0 : Int) < 2 ^ (c - 1) := Int.pow_pos (by decide)
  have a1 := Int.emod_nonneg v (show (2 : Int) ^ c ≠ 0 by omega)
  have a2 := Int.emod_lt_of_pos v (show (0 : Int) < 2 ^ c by omega)
  unfold signV
  split <;> omega
theorem pow63 (c : Nat) (h : c ≤ 63) : (2 : Int) ^ c ≤ 9223372036854775808 := by
  have h1 : 2 ^ c ≤ 2 ^ 63 := Nat.pow_le_pow_right (by decide) h
  have e : ((2 ^ c : Nat) : Int) = (2 : Int) ^ c := by simp
  omega
theorem wrap_unique {n s : Int} (q : Int) (h : n = s + 18446744073709551616 * q) (h1 : -9223372036854775808 ≤ s) (h2 : s ≤ 9223372036854775807) : IntKind.wrap .i64 n = s := by
  rw [IntKind.wrap_i64]; omega
theorem signOf_val (v count : Int) (h : 1 ≤ count) (h' : count ≤ 64) : Z6n v count = some (signV v count.toNat) := by
  rw [Z6n_eq, w64 (n := 64 - count) (by omega) (by omega), show decide (64 - count < 0) = false by simp; omega, shl_mul (by omega) (by omega), shr_div (by omega) (by omega)]
  simp only [cond_false]
  congr 1
  obtain ⟨c, rfl⟩ := Int.eq_ofNat_of_zero_le (show 0 ≤ count by omega)
  rw [show ((64 : Int) - (c : Int)).toNat = 64 - c by omega, Int.toNat_natCast]
  have hp1 : (0 : Int) < 2 ^ (c - 1) := Int.pow_pos (by decide)
  have hk : (0 : Int) < 2 ^ (64 - c) := Int.pow_pos (by decide)
  obtain ⟨q, hq⟩ := signV_mod v c
  have hr := signV_range v c (by omega)
  have e64 : (2 : Int) ^ c * 2 ^ (64 - c) = 18446744073709551616 := by rw [← Int.pow_add, show c + (64 - c) = 64 by omega]; rfl
  have e63 : (2 : Int) ^ (c - 1) * 2 ^ (64 - c) = 9223372036854775808 := by rw [← Int.pow_add, show c - 1 + (64 - c) = 63 by omega]; rfl
  have hv : v * 2 ^ (64 - c) = signV v c * 2 ^ (64 - c) + 18446744073709551616 * (-q) := by
    rw [hq, ← e64, Int.add_mul, Int.mul_neg, Int.mul_assoc, Int.mul_comm q, ← Int.mul_assoc]; omega
  have l1 : -9223372036854775808 ≤ signV v c * 2 ^ (64 - c) := by
    have := Int.mul_le_mul_of_nonneg_right hr.1 (show (0 : Int) ≤ 2 ^ (64 - c) by omega)
    rw [Int.neg_mul, e63] at this; exact this
  have l2 : signV v c * 2 ^ (64 - c) ≤ 9223372036854775807 := by
    have := Int.mul_lt_mul_of_pos_right hr.2 hk
    rw [e63] at this; omega
  rw [wrap_unique (-q) hv l1 l2, Int.mul_ediv_cancel _ (by omega)]
theorem sign_bit (v : Int) (c i : Nat) (h : 1 ≤ c) : signV v c / 2 ^ i % 2 = v / 2 ^ (min i (c - 1)) % 2 := by
  obtain ⟨q, hq⟩ := signV_mod v c
  by_cases h1 : i < c
  · rw [show min i (c - 1) = i by omega, hq, bit_low _ _ _ _ h1]
  · have hr := signV_range v c h
    rw [show min i (c - 1) = c - 1 by omega]
    have e : v / 2 ^ (c - 1) % 2 = signV v c / 2 ^ (c - 1) % 2 := by rw [hq, bit_low _ _ _ _ (by omega)]
    rw [e]
    have hp1 : (0 : Int) < 2 ^ (c - 1) := Int.pow_pos (by decide)
    have hm : (2 : Int) ^ (c - 1) ≤ 2 ^ i := by
      have h9 : 2 ^ (c - 1) ≤ 2 ^ i := Nat.pow_le_pow_right (by decide) (show c - 1 ≤ i by omega)
      have e1 : ((2 ^ (c - 1) : Nat) : Int) = (2 : Int) ^ (c - 1) := by simp
      have e2 : ((2 ^ i : Nat) : Int) = (2 : Int) ^ i := by simp
      omega
    by_cases hs : 0 ≤ signV v c
    · rw [Int.ediv_eq_zero_of_lt hs (by omega), Int.ediv_eq_zero_of_lt hs hr.2]
    · have f : ∀ P : Int, 0 < P → -P ≤ signV v c → signV v c / P = -1 := by
        intro P hP hle
        have : signV v c / P < 0 := Int.ediv_neg_of_neg_of_pos (by omega) hP
        have h2 : -1 ≤ signV v c / P := Int.le_ediv_of_mul_le hP (by omega)
        omega
      rw [f _ (by omega) (by omega), f _ hp1 hr.1]
theorem sign_loop (v : Int) (c : Nat) (h : 1 ≤ c) (h' : c ≤ 64) (hv : -9223372036854775808 ≤ v) (hv' : v ≤ 9223372036854775807) :
    ∀ k : Nat, k ≤ 64 → Z38.a v c (signV v c / 2 ^ k % 2 ^ (64 - k)) ((k : Int) - 1) = some (signV v c) := by
  have hr := signV_range v c h
  have hp := pow63 (c - 1) (by omega)
  intro k
  induction k with
  | zero =>
    intro _
    rw [Z38.a_eq, show decide (((0 : Nat) : Int) - 1 ≥ 0) = false by rfl]
    simp only [cond_false, Int.pow_zero, Int.ediv_one]
    congr 1
    rw [show (2 : Int) ^ (64 - 0) = 18446744073709551616 by rfl, Int.emod_def]
    exact wrap_unique (-(signV v c / 18446744073709551616)) (by omega) (by omega) (by omega)
  | succ k ih =>
    intro hk
    have ih := ih (by omega)
    have hs : (((k + 1 : Nat) : Int) - 1) = (k : Int) := by omega
    have hmin : (if IntKind.wrap .i64 ((c : Int) - 1) < (k : Int) then IntKind.wrap .i64 ((c : Int) - 1) else (k : Int)) = ((min k (c - 1) : Nat) : Int) := by
      rw [w64 (n := (c : Int) - 1) (by omega) (by omega)]; split <;> omega
    rw [hs, Z38.a_eq, show decide ((k : Int) ≥ 0) = true by simp, hmin, bit_val v _ hv hv' (by omega) (by omega), w64 (n := (k : Int) - 1) (by omega) (by omega)]
    simp only [cond_true, Option.bind_some, Int.toNat_natCast]
    rw [← sign_bit v c k h]
    have hst := bit_step (signV v c) k
    have e : (2 : Int) ^ (64 - k) = 2 * 2 ^ (64 - (k + 1)) := by
      have := pow_half (64 - k) (by omega); rw [this, show 64 - k - 1 = 64 - (k + 1) by omega]
    have hq : (0 : Int) < 2 ^ (64 - (k + 1)) := Int.pow_pos (by decide)
    have hq' := pow63 (64 - (k + 1)) (by omega)
    generalize signV v c / 2 ^ (k + 1) = z at *
    generalize signV v c / 2 ^ k = y at *
    rw [e] at ih
    have z1 := Int.emod_nonneg z (show (2 : Int) ^ (64 - (k + 1)) ≠ 0 by omega)
    have z2 := Int.emod_lt_of_pos z hq
    have ey : 2 * (z % 2 ^ (64 - (k + 1))) + y % 2 = y % (2 * 2 ^ (64 - (k + 1))) := by
      rw [Int.emod_def z, Int.emod_def y (2 * _), ← Int.ediv_ediv_of_nonneg (by decide), show y / 2 = z by omega, Int.mul_assoc]; omega
    rw [wu64 (n := 2 * _) (by omega) (by omega), wu64 (n := y % 2) (by omega) (by omega), wu64 (n := 2 * _ + y % 2) (by omega) (by omega), ey, ih]
theorem sign_val (v count : Int) (h : 1 ≤ count) (h' : count ≤ 64) (hv : -9223372036854775808 ≤ v) (hv' : v ≤ 9223372036854775807) : Z38 v count = some (signV v count.toNat) := by
  obtain ⟨c, rfl⟩ := Int.eq_ofNat_of_zero_le (show 0 ≤ count by omega)
  have := sign_loop v c (by omega) (by omega) hv hv' 64 (by omega)
  rw [show (64 - 64 : Nat) = 0 by rfl, Int.pow_zero, Int.emod_one] at this
  rw [Z38_eq, Int.toNat_natCast]
  exact this
def shpL : List (Int × Int × Int × Int) := [(0, 0, 0, 0), (1, 55, 0, 0), (1, 23, 0, 0), (2, 111, 0, 0), (3, 103, 0, 0), (4, 99, 0, 0), (4, 99, 1, 0), (4, 99, 4, 0), (4, 99, 5, 0), (4, 99, 6, 0), (4, 99, 7, 0), (3, 3, 0, 0), (3, 3, 1, 0), (3, 3, 2, 0), (3, 3, 3, 0), (3, 3, 4, 0), (3, 3, 5, 0), (3, 3, 6, 0), (5, 35, 0, 0), (5, 35, 1, 0), (5, 35, 2, 0), (5, 35, 3, 0), (3, 19, 0, 0), (3, 19, 2, 0), (3, 19, 3, 0), (3, 19, 4, 0), (3, 19, 6, 0), (3, 19, 7, 0), (6, 19, 1, 0), (6, 19, 5, 0), (6, 19, 5, 32), (8, 51, 0, 0), (8, 51, 0, 32), (8, 51, 1, 0), (8, 51, 2, 0), (8, 51, 3, 0), (8, 51, 4, 0), (8, 51, 5, 0), (8, 51, 5, 32), (8, 51, 6, 0), (8, 51, 7, 0), (3, 27, 0, 0), (7, 27, 1, 0), (7, 27, 5, 0), (7, 27, 5, 32), (8, 59, 0, 0), (8, 59, 0, 32), (8, 59, 1, 0), (8, 59, 5, 0), (8, 59, 5, 32), (8, 51, 0, 1), (8, 51, 1, 1), (8, 51, 2, 1), (8, 51, 3, 1), (8, 51, 4, 1), (8, 51, 5, 1), (8, 51, 6, 1), (8, 51, 7, 1), (8, 59, 0, 1), (8, 59, 4, 1), (8, 59, 5, 1), (8, 59, 6, 1), (8, 59, 7, 1), (9, 115, 0, 0), (9, 115, 0, 1)]
def shp (n : Int) : Int × Int × Int × Int := shpL.getD n.toNat (0, 0, 0, 0)
theorem fin65 {n : Int} (h : 0 ≤ n) (h' : n ≤ 64) : ∃ k : Fin 65, n = (k.val : Int) := ⟨⟨n.toNat, by omega⟩, by simp; omega⟩
theorem impl_shape (n : Int) (h : 0 ≤ n) (h' : n ≤ 64) : Z6h n = some (shp n) := by
  rw [Z6h_eq, Z6g_eq]
  simp only [Option.bind_some]
  obtain ⟨k, rfl⟩ := fin65 h h'
  clear h h'; revert k
  decide +kernel
theorem spec_shape (n : Int) (h : 0 ≤ n) (h' : n ≤ 64) : Z30 n = some (shp n) := by
  rw [Z30_eq]
  obtain ⟨k, rfl⟩ := fin65 h h'
  clear h h'; revert k
  decide +kernel
def ShpOK (s : Int × Int × Int × Int) : Bool := decide (1 ≤ s.1) && decide (s.1 ≤ 9) && decide (0 ≤ s.2.1) && decide (s.2.1 < 128) && decide (0 ≤ s.2.2.1) && decide (s.2.2.1 < 8) && decide (0 ≤ s.2.2.2) && decide (s.2.2.2 < 64) && (!decide (s.1 = 6) || decide (s.2.2.2 % 2 = 0)) && (!decide (s.1 = 9) || (decide (s.2.2.2 < 2) && decide (s.2.2.1 = 0)))
theorem shp_ok (n : Int) (h : 1 ≤ n) (h' : n ≤ 64) : ShpOK (shp n) = true := by
  obtain ⟨k, rfl⟩ := fin65 (show 0 ≤ n by omega) h'
  clear h'; revert k
  decide +kernel
theorem or_7_1 {x y : Int} (hx : 0 ≤ x) (hx' : x < 4611686018427387904) (hy : 0 ≤ y) (hy' : y < 2) (h : x / 128 % 2 = 0) : orI .i64 x (y * 128) = x + y * 128 := or_field 7 1 rfl rfl (by decide) hx hx' hy hy' h
theorem or_7_5 {x y : Int} (hx : 0 ≤ x) (hx' : x < 4611686018427387904) (hy : 0 ≤ y) (hy' : y < 32) (h : x / 128 % 32 = 0) : orI .i64 x (y * 128) = x + y * 128 := or_field 7 5 rfl rfl (by decide) hx hx' hy hy' h
theorem or_8_4 {x y : Int} (hx : 0 ≤ x) (hx' : x < 4611686018427387904) (hy : 0 ≤ y) (hy' : y < 16) (h : x / 256 % 16 = 0) : orI .i64 x (y * 256) = x + y * 256 := or_field 8 4 rfl rfl (by decide) hx hx' hy hy' h
theorem or_12_3 {x y : Int} (hx : 0 ≤ x) (hx' : x < 4611686018427387904) (hy : 0 ≤ y) (hy' : y < 8) (h : x / 4096 % 8 = 0) : orI .i64 x (y * 4096) = x + y * 4096 := or_field 12 3 rfl rfl (by decide) hx hx' hy hy' h
theorem or_12_8 {x y : Int} (hx : 0 ≤ x) (hx' : x < 4611686018427387904) (hy : 0 ≤ y) (hy' : y < 256) (h : x / 4096 % 256 = 0) : orI .i64 x (y * 4096) = x + y * 4096 := or_field 12 8 rfl rfl (by decide) hx hx' hy hy' h
theorem or_12_20 {x y : Int} (hx : 0 ≤ x) (hx' : x < 4611686018427387904) (hy : 0 ≤ y) (hy' : y < 1048576) (h : x / 4096 % 1048576 = 0) : orI .i64 x (y * 4096) = x + y * 4096 := or_field 12 20 rfl rfl (by decide) hx hx' hy hy' h
theorem or_20_1 {x y : Int} (hx : 0 ≤ x) (hx' : x < 4611686018427387904) (hy : 0 ≤ y) (hy' : y < 2) (h : x / 1048576 % 2 = 0) : orI .i64 x (y * 1048576) = x + y * 1048576 := or_field 20 1 rfl rfl (by decide) hx hx' hy hy' h
theorem or_20_5 {x y : Int} (hx : 0 ≤ x) (hx' : x < 4611686018427387904) (hy : 0 ≤ y) (hy' : y < 32) (h : x / 1048576 % 32 = 0) : orI .i64 x (y * 1048576) = x + y * 1048576 := or_field 20 5 rfl rfl (by decide) hx hx' hy hy' h
theorem or_20_6 {x y : Int} (hx : 0 ≤ x) (hx' : x < 4611686018427387904) (hy : 0 ≤ y) (hy' : y < 64) (h : x / 1048576 % 64 = 0) : orI .i64 x (y * 1048576) = x + y * 1048576 := or_field 20 6 rfl rfl (by decide) hx hx' hy hy' h
theorem or_20_12 {x y : Int} (hx : 0 ≤ x) (hx' : x < 4611686018427387904) (hy : 0 ≤ y) (hy' : y < 4096) (h : x / 1048576 % 4096 = 0) : orI .i64 x (y * 1048576) = x + y * 1048576 := or_field 20 12 rfl rfl (by decide) hx hx' hy hy' h
theorem or_21_10 {x y : Int} (hx : 0 ≤ x) (hx' : x < 4611686018427387904) (hy : 0 ≤ y) (hy' : y < 1024) (h : x / 2097152 % 1024 = 0) : orI .i64 x (y * 2097152) = x + y * 2097152 := or_field 21 10 rfl rfl (by decide) hx hx' hy hy' h
theorem or_25_6 {x y : Int} (hx : 0 ≤ x) (hx' : x < 4611686018427387904) (hy : 0 ≤ y) (hy' : y < 64) (h : x / 33554432 % 64 = 0) : orI .i64 x (y * 33554432) = x + y * 33554432 := or_field 25 6 rfl rfl (by decide) hx hx' hy hy' h
theorem or_25_7 {x y : Int} (hx : 0 ≤ x) (hx' : x < 4611686018427387904) (hy : 0 ≤ y) (hy' : y < 128) (h : x / 33554432 % 128 = 0) : orI .i64 x (y * 33554432) = x + y * 33554432 := or_field 25 7 rfl rfl (by decide) hx hx' hy hy' h
theorem or_26_6 {x y : Int} (hx : 0 ≤ x) (hx' : x < 4611686018427387904) (hy : 0 ≤ y) (hy' : y < 64) (h : x / 67108864 % 64 = 0) : orI .i64 x (y * 67108864) = x + y * 67108864 := or_field 26 6 rfl rfl (by decide) hx hx' hy hy' h
theorem or_31_1 {x y : Int} (hx : 0 ≤ x) (hx' : x < 4611686018427387904) (hy : 0 ≤ y) (hy' : y < 2) (h : x / 2147483648 % 2 = 0) : orI .i64 x (y * 2147483648) = x + y * 2147483648 := or_field 31 1 rfl rfl (by decide) hx hx' hy hy' h
theorem or_1_4 {x y : Int} (hx : 0 ≤ x) (hx' : x < 4611686018427387904) (hy : 0 ≤ y) (hy' : y < 16) (h : x / 2 % 16 = 0) : orI .i64 x (y * 2) = x + y * 2 := or_field 1 4 rfl rfl (by decide) hx hx' hy hy' h
theorem or_1_10 {x y : Int} (hx : 0 ≤ x) (hx' : x < 4611686018427387904) (hy : 0 ≤ y) (hy' : y < 1024) (h : x / 2 % 1024 = 0) : orI .i64 x (y * 2) = x + y * 2 := or_field 1 10 rfl rfl (by decide) hx hx' hy hy' h
theorem or_5_6 {x y : Int} (hx : 0 ≤ x) (hx' : x < 4611686018427387904) (hy : 0 ≤ y) (hy' : y < 64) (h : x / 32 % 64 = 0) : orI .i64 x (y * 32) = x + y * 32 := or_field 5 6 rfl rfl (by decide) hx hx' hy hy' h
theorem or_5_7 {x y : Int} (hx : 0 ≤ x) (hx' : x < 4611686018427387904) (hy : 0 ≤ y) (hy' : y < 128) (h : x / 32 % 128 = 0) : orI .i64 x (y * 32) = x + y * 32 := or_field 5 7 rfl rfl (by decide) hx hx' hy hy' h
theorem or_11_1 {x y : Int} (hx : 0 ≤ x) (hx' : x < 4611686018427387904) (hy : 0 ≤ y) (hy' : y < 2) (h : x / 2048 % 2 = 0) : orI .i64 x (y * 2048) = x + y * 2048 := or_field 11 1 rfl rfl (by decide) hx hx' hy hy' h
theorem or_12_1 {x y : Int} (hx : 0 ≤ x) (hx' : x < 4611686018427387904) (hy : 0 ≤ y) (hy' : y < 2) (h : x / 4096 % 2 = 0) : orI .i64 x (y * 4096) = x + y * 4096 := or_field 12 1 rfl rfl (by decide) hx hx' hy hy' h
theorem or_rs {w a b : Int} (hw : 0 ≤ w) (hw' : w < 4611686018427387904) (ha : 0 ≤ a) (ha' : a < 32) (hb : 0 ≤ b) (hb' : b < 8) (h : w / 4096 % 256 = 0) : orI .i64 w (a * 32768 + b * 4096) = w + (a * 32768 + b * 4096) := by
  have := or_field (x := w) (y := a * 8 + b) (P := 4096) (Q := 256) 12 8 rfl rfl (by decide) hw hw' (by omega) (by omega) h
  rw [show a * 32768 + b * 4096 = (a * 8 + b) * 4096 by omega]; exact this
def encV (s : Int × Int × Int × Int) (x : Int × Int × Int × Int × Int) : Int :=
  if s.1 = 1 then s.2.1 + x.2.1 * 128 + x.2.2.2.2 / 4096 % 1048576 * 4096
  else if s.1 = 2 then s.2.1 + x.2.1 * 128 + x.2.2.2.2 / 4096 % 256 * 4096 + x.2.2.2.2 / 2048 % 2 * 1048576 + x.2.2.2.2 / 2 % 1024 * 2097152 + x.2.2.2.2 / 1048576 % 2 * 2147483648
  else if s.1 = 3 then s.2.1 + x.2.1 * 128 + s.2.2.1 * 4096 + x.2.2.1 * 32768 + x.2.2.2.2 % 4096 * 1048576
  else if s.1 = 4 then s.2.1 + x.2.2.2.2 / 2048 % 2 * 128 + x.2.2.2.2 / 2 % 16 * 256 + s.2.2.1 * 4096 + x.2.2.1 * 32768 + x.2.2.2.1 * 1048576 + x.2.2.2.2 / 32 % 64 * 33554432 + x.2.2.2.2 / 4096 % 2 * 2147483648
  else if s.1 = 5 then s.2.1 + x.2.2.2.2 % 32 * 128 + s.2.2.1 * 4096 + x.2.2.1 * 32768 + x.2.2.2.1 * 1048576 + x.2.2.2.2 / 32 % 128 * 33554432
  else if s.1 = 6 then s.2.1 + x.2.1 * 128 + s.2.2.1 * 4096 + x.2.2.1 * 32768 + x.2.2.2.2 % 64 * 1048576 + s.2.2.2 / 2 * 67108864
  else if s.1 = 7 then s.2.1 + x.2.1 * 128 + s.2.2.1 * 4096 + x.2.2.1 * 32768 + x.2.2.2.2 % 32 * 1048576 + s.2.2.2 * 33554432
  else if s.1 = 8 then s.2.1 + x.2.1 * 128 + s.2.2.1 * 4096 + x.2.2.1 * 32768 + x.2.2.2.1 * 1048576 + s.2.2.2 * 33554432
  else s.2.1 + s.2.2.2 * 1048576
structure RegsOK (x : Int × Int × Int × Int × Int) : Prop where
  d : 0 ≤ x.2.1 ∧ x.2.1 ≤ 31
  a : 0 ≤ x.2.2.1 ∧ x.2.2.1 ≤ 31
  b : 0 ≤ x.2.2.2.1 ∧ x.2.2.2.1 ≤ 31
  i : -9223372036854775808 ≤ x.2.2.2.2 ∧ x.2.2.2.2 ≤ 9223372036854775807
theorem shp_facts {f c f3 f7 : Int} (h : ShpOK (f, c, f3, f7) = true) : (1 ≤ f ∧ f ≤ 9) ∧ (0 ≤ c ∧ c < 128) ∧ (0 ≤ f3 ∧ f3 < 8) ∧ (0 ≤ f7 ∧ f7 < 64) ∧ (f = 6 → f7 % 2 = 0) ∧ (f = 9 → f7 < 2 ∧ f3 = 0) := by
  simp only [ShpOK, Bool.and_eq_true, Bool.or_eq_true, Bool.not_eq_true', decide_eq_true_eq, decide_eq_false_iff_not] at h
  omega
theorem forms {f : Int} (h : 1 ≤ f ∧ f ≤ 9) : f = 1 ∨ f = 2 ∨ f = 3 ∨ f = 4 ∨ f = 5 ∨ f = 6 ∨ f = 7 ∨ f = 8 ∨ f = 9 := by omega
theorem inL_nat (j n : Nat) : inL (j : Int) n = decide (j < n) := by
  unfold inL; rw [show decide (0 ≤ (j : Int)) = true by simp, Bool.true_and]; congr 1; simp
theorem rd_nat {τ : Ty} (xs : List τ.den) (j : Nat) (h : j < xs.length) : rd (τ := τ) xs (j : Int) = xs[j] := by
  unfold rd; rw [Int.toNat_natCast, List.getD_eq_getElem?_getD, List.getElem?_eq_getElem h]; rfl
theorem w64_succ (j n : Nat) (h : j < n) (h' : n ≤ 9223372036854775807) : IntKind.wrap .i64 ((j : Int) + 1) = ((j + 1 : Nat) : Int) := by
  rw [w64 (by omega) (by omega)]; omega
theorem lt_nat (j n : Nat) : decide ((j : Int) < (n : Int)) = decide (j < n) := by congr 1; simp
def putP (imm : Int) (w : Int) (p : Int × Int × Int) : Int := orI .i64 w (shlI .i64 (imm / 2 ^ p.1.toNat % 2 ^ p.2.1.toNat) p.2.2)
def PiecesOK (ps : List (Int × Int × Int)) : Prop := ps.length ≤ 4 ∧ ∀ p ∈ ps, 0 ≤ p.1 ∧ p.1 ≤ 62 ∧ 0 ≤ p.2.1 ∧ p.2.1 ≤ 62 ∧ 0 ≤ p.2.2 ∧ p.2.2 ≤ 62
theorem enc_loop (x : Int × Int × Int × Int × Int) (s : Int × Int × Int × Int) (ps : List (Int × Int × Int)) (hp : PiecesOK ps) :
    ∀ (k j : Nat) (w : Int), j + k = ps.length → Z6l.a x s w ps (ps.length : Int) (j : Int) = Z6l.a x s ((ps.drop j).foldl (putP x.2.2.2.2) w) ps (ps.length : Int) (ps.length : Int) := by
  intro k
  induction k with
  | zero => intro j w h; have : j = ps.length := by omega
            subst this; simp
  | succ k ih =>
    intro j w h
    have hj : j < ps.length := by omega
    obtain ⟨p1, p2, p3, p4, p5, p6⟩ := hp.2 ps[j] (List.getElem_mem hj)
    have e := rd_nat (τ := .pair (.int .i64) (.pair (.int .i64) (.int .i64))) ps j hj
    rw [Z6l.a_eq, lt_nat, inL_nat, e, w64_succ j ps.length hj (by have := hp.1; omega)]
    simp only [decide_eq_true hj, cond_true]
    rw [bitsOf_val _ _ _ (by omega) (by omega) (by omega) (by omega)]
    simp only [Option.bind_some]
    rw [show decide (ps[j].2.2 < 0) = false by simp; omega]
    simp only [cond_false]
    rw [ih (j + 1) _ (by omega), List.drop_eq_getElem_cons hj, List.foldl_cons]
    rfl
def piecesV (f : Int) : List (Int × Int × Int) :=
  if f = 1 then [(12, 20, 12)] else if f = 2 then [(12, 8, 12), (11, 1, 20), (1, 10, 21), (20, 1, 31)] else if f = 3 then [(0, 12, 20)] else if f = 4 then [(11, 1, 7), (1, 4, 8), (5, 6, 25), (12, 1, 31)]
  else if f = 5 then [(0, 5, 7), (5, 7, 25)] else if f = 6 then [(0, 6, 20)] else if f = 7 then [(0, 5, 20)] else []
theorem pieces_val {f : Int} (h : 1 ≤ f ∧ f ≤ 9) : Z6i f = some (piecesV f) ∧ PiecesOK (piecesV f) := by
  rw [Z6i_eq]
  rcases forms h with rfl | rfl | rfl | rfl | rfl | rfl | rfl | rfl | rfl <;> exact ⟨rfl, by unfold PiecesOK; decide⟩
theorem shl_val {y : Int} (k : Nat) (P : Int) (hP : P = 2 ^ k) (hk : k ≤ 62) (h0 : 0 ≤ y) (h : y * P ≤ 9223372036854775807) : shlI .i64 y (k : Int) = y * P := by
  rw [shl_mul (by omega) (by omega), Int.toNat_natCast, ← hP]
  have : 0 ≤ y * P := Int.mul_nonneg h0 (by rw [hP]; exact Int.le_of_lt (Int.pow_pos (by decide)))
  exact w64 (by omega) (by omega)
theorem shl_7 {y : Int} (h0 : 0 ≤ y) (h : y ≤ 2147483647) : shlI .i64 y 7 = y * 128 := shl_val 7 128 rfl (by decide) h0 (by omega)
theorem shl_8 {y : Int} (h0 : 0 ≤ y) (h : y ≤ 2147483647) : shlI .i64 y 8 = y * 256 := shl_val 8 256 rfl (by decide) h0 (by omega)
theorem shl_12 {y : Int} (h0 : 0 ≤ y) (h : y ≤ 2147483647) : shlI .i64 y 12 = y * 4096 := shl_val 12 4096 rfl (by decide) h0 (by omega)
theorem shl_15 {y : Int} (h0 : 0 ≤ y) (h : y ≤ 2147483647) : shlI .i64 y 15 = y * 32768 := shl_val 15 32768 rfl (by decide) h0 (by omega)
theorem shl_20 {y : Int} (h0 : 0 ≤ y) (h : y ≤ 2147483647) : shlI .i64 y 20 = y * 1048576 := shl_val 20 1048576 rfl (by decide) h0 (by omega)
theorem shl_21 {y : Int} (h0 : 0 ≤ y) (h : y ≤ 2147483647) : shlI .i64 y 21 = y * 2097152 := shl_val 21 2097152 rfl (by decide) h0 (by omega)
theorem shl_25 {y : Int} (h0 : 0 ≤ y) (h : y ≤ 2147483647) : shlI .i64 y 25 = y * 33554432 := shl_val 25 33554432 rfl (by decide) h0 (by omega)
theorem shl_26 {y : Int} (h0 : 0 ≤ y) (h : y ≤ 2147483647) : shlI .i64 y 26 = y * 67108864 := shl_val 26 67108864 rfl (by decide) h0 (by omega)
theorem shl_31 {y : Int} (h0 : 0 ≤ y) (h : y ≤ 2147483647) : shlI .i64 y 31 = y * 2147483648 := shl_val 31 2147483648 rfl (by decide) h0 (by omega)
theorem shr_one {x : Int} : shrI .i64 x 1 = x / 2 := by rw [shr_div (by decide) (by decide)]; rfl
def fieldsV (f : Int) : Bool × Bool × Bool :=
  if f = 1 ∨ f = 2 then (true, false, false) else if f = 3 ∨ f = 6 ∨ f = 7 then (true, true, false) else if f = 4 ∨ f = 5 then (false, true, true) else if f = 8 then (true, true, true) else (false, false, false)
theorem fields_val {f : Int} (h : 1 ≤ f ∧ f ≤ 9) : Z6k f = some (fieldsV f) := by
  rw [Z6k_eq]
  rcases forms h with rfl | rfl | rfl | rfl | rfl | rfl | rfl | rfl | rfl <;> rfl
theorem impl_encode_val (x : Int × Int × Int × Int × Int) (h : 1 ≤ x.1) (h' : x.1 ≤ 64) (hr : RegsOK x) : Z6l x = some (encV (shp x.1) x) := by
  rw [Z6l_eq, impl_shape _ (by omega) h']
  have hs := shp_ok x.1 h h'
  generalize shp x.1 = s at *
  obtain ⟨n, rd', rs1, rs2, imm⟩ := x
  obtain ⟨f, c, f3, f7⟩ := s
  obtain ⟨⟨d1, d2⟩, ⟨a1, a2⟩, ⟨b1, b2⟩, ⟨i1, i2⟩⟩ := hr
  obtain ⟨s1, ⟨s2, s2'⟩, ⟨s3, s3'⟩, ⟨s4, s4'⟩, s5, s6⟩ := shp_facts hs
  clear hs
  dsimp only at *
  obtain ⟨hp, hpo⟩ := pieces_val s1
  have hf := fields_val s1
  simp only [Option.bind_some, hp]
  rw [show (0 : Int) = ((0 : Nat) : Int) by rfl, enc_loop _ _ _ hpo (piecesV f).length 0 _ (by omega), Z6l.a_eq, lt_nat]
  simp only [Nat.lt_irrefl, decide_false, cond_false, hf, List.drop_zero, Option.bind_some, joinB]
  clear hp hpo hf
  rcases forms s1 with rfl | rfl | rfl | rfl | rfl | rfl | rfl | rfl | rfl
  · simp [piecesV, fieldsV, putP, encV]
    have hb0 : 0 ≤ imm / 4096 % 1048576 ∧ imm / 4096 % 1048576 < 1048576 := by omega
    generalize imm / 4096 % 1048576 = y0 at *
    simp (disch := omega) only [shl_12, shl_7, or_12_20, or_7_5]
    try omega
  · simp [piecesV, fieldsV, putP, encV]
    have hb0 : 0 ≤ imm / 4096 % 256 ∧ imm / 4096 % 256 < 256 := by omega
    generalize imm / 4096 % 256 = y0 at *
    have hb1 : 0 ≤ imm / 2048 % 2 ∧ imm / 2048 % 2 < 2 := by omega
    generalize imm / 2048 % 2 = y1 at *
    have hb2 : 0 ≤ imm / 2 % 1024 ∧ imm / 2 % 1024 < 1024 := by omega
    generalize imm / 2 % 1024 = y2 at *
    have hb3 : 0 ≤ imm / 1048576 % 2 ∧ imm / 1048576 % 2 < 2 := by omega
    generalize imm / 1048576 % 2 = y3 at *
    simp (disch := omega) only [shl_12, shl_20, shl_21, shl_31, shl_7, or_12_8, or_20_1, or_21_10, or_31_1, or_7_5]
    try omega
  · simp [piecesV, fieldsV, putP, encV]
    have hb0 : 0 ≤ imm % 4096 ∧ imm % 4096 < 4096 := by omega
    generalize imm % 4096 = y0 at *
    simp (disch := omega) only [shl_20, shl_7, shl_15, shl_12, or_20_12, or_7_5, or_12_3, or_rs]
    try omega
  · simp [piecesV, fieldsV, putP, encV]
    have hb0 : 0 ≤ imm / 2048 % 2 ∧ imm / 2048 % 2 < 2 := by omega
    generalize imm / 2048 % 2 = y0 at *
    have hb1 : 0 ≤ imm / 2 % 16 ∧ imm / 2 % 16 < 16 := by omega
    generalize imm / 2 % 16 = y1 at *
    have hb2 : 0 ≤ imm / 32 % 64 ∧ imm / 32 % 64 < 64 := by omega
    generalize imm / 32 % 64 = y2 at *
    have hb3 : 0 ≤ imm / 4096 % 2 ∧ imm / 4096 % 2 < 2 := by omega
    generalize imm / 4096 % 2 = y3 at *
    simp (disch := omega) only [shl_7, shl_8, shl_25, shl_31, shl_15, shl_12, shl_20, or_7_1, or_8_4, or_25_6, or_31_1, or_12_3, or_rs, or_20_5]
    try omega
  · simp [piecesV, fieldsV, putP, encV]
    have hb0 : 0 ≤ imm % 32 ∧ imm % 32 < 32 := by omega
    generalize imm % 32 = y0 at *
    have hb1 : 0 ≤ imm / 32 % 128 ∧ imm / 32 % 128 < 128 := by omega
    generalize imm / 32 % 128 = y1 at *
    simp (disch := omega) only [shl_7, shl_25, shl_15, shl_12, shl_20, or_7_5, or_25_7, or_12_3, or_rs, or_20_5]
    try omega
  · simp [piecesV, fieldsV, putP, encV, shr_one]
    have hb0 : 0 ≤ imm % 64 ∧ imm % 64 < 64 := by omega
    generalize imm % 64 = y0 at *
    have hs : 0 ≤ f7 / 2 ∧ f7 / 2 < 64 := by omega
    generalize f7 / 2 = z at *
    simp (disch := omega) only [shl_20, shl_7, shl_15, shl_12, shl_26, or_20_6, or_7_5, or_12_3, or_rs, or_26_6]
    try omega
  · simp [piecesV, fieldsV, putP, encV]
    have hb0 : 0 ≤ imm % 32 ∧ imm % 32 < 32 := by omega
    generalize imm % 32 = y0 at *
    simp (disch := omega) only [shl_20, shl_7, shl_15, shl_12, shl_25, or_20_5, or_7_5, or_12_3, or_rs, or_25_7]
    try omega
  · simp [piecesV, fieldsV, encV]
    simp (disch := omega) only [shl_7, shl_15, shl_12, shl_20, shl_25, or_7_5, or_12_3, or_rs, or_20_5, or_25_7]
    try omega
  · simp [piecesV, fieldsV, encV]
    simp (disch := omega) only [shl_20, or_20_1]
    try omega
theorem bits_ext {a b : Int} (ha : 0 ≤ a ∧ a < 4294967296) (hb : 0 ≤ b ∧ b < 4294967296) (h : ∀ i : Nat, i < 32 → a / 2 ^ i % 2 = b / 2 ^ i % 2) : a = b := by
  have : ∀ k : Nat, k ≤ 32 → a / 2 ^ (32 - k) = b / 2 ^ (32 - k) := by
    intro k
    induction k with
    | zero => intro _; rw [show (2 : Int) ^ (32 - 0) = 4294967296 by rfl]; omega
    | succ k ih =>
      intro hk
      have ih := ih (by omega)
      have h1 := h (32 - (k + 1)) (by omega)
      have e : 32 - k = 32 - (k + 1) + 1 := by omega
      rw [e] at ih
      have ea := bit_step a (32 - (k + 1))
      have eb := bit_step b (32 - (k + 1))
      omega
  have := this 32 (by omega)
  simpa using this
theorem putV_more (w low v : Int) (c : Nat) (h : 0 ≤ low) (hlc : low + c + 1 ≤ 32) (hw : 0 ≤ w) (hw' : w < 4294967296) : putV (putV w low c v) (low + c) 1 (v / 2 ^ c % 2) = putV w low ((c + 1 : Nat) : Int) v := by
  have r1 := putV_range w low c v h (by omega) (by omega) hw hw'
  apply bits_ext (putV_range _ _ _ _ (by omega) (by omega) (by omega) r1.1 r1.2) (putV_range _ _ _ _ h (by omega) (by omega) hw hw')
  intro i hi
  rw [putV_bit _ _ _ _ (by omega) (by omega), putV_bit _ _ _ _ h (by omega), putV_bit _ _ _ _ h (by omega)]
  by_cases h1 : low + c ≤ (i : Int) ∧ (i : Int) < low + c + 1
  · rw [if_pos h1, if_pos (by omega), show i - (low + (c : Int)).toNat = 0 by omega, show i - low.toNat = c by omega, Int.pow_zero, Int.ediv_one]; omega
  · rw [if_neg h1]
    by_cases h2 : low ≤ (i : Int) ∧ (i : Int) < low + c
    · rw [if_pos h2, if_pos (by omega)]
    · rw [if_neg h2, if_neg (by omega)]
theorem putV_zero (w low v : Int) (h : 0 ≤ low) (hl : low ≤ 31) (hw : 0 ≤ w) (hw' : w < 4294967296) : putV w low 0 v = w := by
  apply bits_ext (putV_range _ _ _ _ h (by omega) (by omega) hw hw') ⟨hw, hw'⟩
  intro i hi
  rw [putV_bit _ _ _ _ h (by omega), if_neg (by omega)]
theorem putV_empty {w v : Int} (k c : Nat) (P Q : Int) (hP : P = 2 ^ k) (hQ : Q = 2 ^ c) (h : w / P % Q = 0) : putV w (k : Int) (c : Int) v = w + v % Q * P := by
  subst hP hQ
  simp only [putV, Int.toNat_natCast]
  have hk : (0 : Int) < 2 ^ k := Int.pow_pos (by decide)
  have hc : (0 : Int) < 2 ^ c := Int.pow_pos (by decide)
  have e1 := Int.emod_add_mul_ediv w (2 ^ k)
  have e2 := Int.emod_add_mul_ediv (w / 2 ^ k) (2 ^ c)
  rw [h, Int.zero_add, Int.ediv_ediv_of_nonneg (by omega), ← Int.pow_add] at e2
  rw [e2, Int.mul_add]
  rw [Int.mul_comm (v % 2 ^ c)]
  omega
theorem jump_step (x : Int × Int × Int × Int × Int) (hx : -9223372036854775808 ≤ x.2.2.2.2) (hx' : x.2.2.2.2 ≤ 9223372036854775807) (w : Int) (hw : 0 ≤ w) (hw' : w < 4294967296) (i : Nat) (h : 1 ≤ i) (h' : i ≤ 20) :
    Z33.a x w (i : Int) = Z33.a x (putV w (if i = 20 then 31 else if 11 < i then i else if 10 < i then 9 + i else 20 + i : Nat) 1 (x.2.2.2.2 / 2 ^ i % 2)) ((i + 1 : Nat) : Int) := by
  rw [Z33.a_eq, show decide ((i : Int) < 21) = true by simp; omega, bit_val _ _ hx hx' (by omega) (by omega), w64 (n := 9 + (i : Int)) (by omega) (by omega), w64 (n := 20 + (i : Int)) (by omega) (by omega), w64 (n := (i : Int) + 1) (by omega) (by omega)]
  simp only [joinB, cond_true, Int.toNat_natCast, Option.bind_some]
  have e0 : ((i + 1 : Nat) : Int) = (i : Int) + 1 := by omega
  rw [e0]
  by_cases h1 : i = 20
  · subst h1; rw [show decide (((20 : Nat) : Int) = 20) = true by rfl, put_val _ _ _ _ (by omega) (by omega) (by omega) hw hw' (by omega) (by omega)]; rfl
  · by_cases h2 : 11 < i
    · rw [show decide ((i : Int) = 20) = false by simp; omega, show decide ((i : Int) > 11) = true by simp; omega, show decide ((i : Int) > 10) = true by simp; omega, if_neg h1, if_pos h2]
      simp only [cond_true, cond_false]
      rw [put_val _ _ _ _ (by omega) (by omega) (by omega) hw hw' (by omega) (by omega)]; rfl
    · by_cases h3 : 10 < i
      · rw [show decide ((i : Int) = 20) = false by simp; omega, show decide ((i : Int) > 11) = false by simp; omega, show decide ((i : Int) > 10) = true by simp; omega, if_neg h1, if_neg h2, if_pos h3]
        simp only [cond_true, cond_false]
        rw [put_val _ _ _ _ (by omega) (by omega) (by omega) hw hw' (by omega) (by omega), show ((9 + i : Nat) : Int) = 9 + (i : Int) by omega]; rfl
      · rw [show decide ((i : Int) = 20) = false by simp; omega, show decide ((i : Int) > 11) = false by simp; omega, show decide ((i : Int) > 10) = false by simp; omega, if_neg h1, if_neg h2, if_neg h3]
        simp only [cond_false]
        rw [put_val _ _ _ _ (by omega) (by omega) (by omega) hw hw' (by omega) (by omega), show ((20 + i : Nat) : Int) = 20 + (i : Int) by omega]; rfl
theorem bits_run (L : Int → Nat → Option Int) (v : Int) (pl : Nat → Nat) (lo hi : Nat) (step : ∀ (w : Int) (i : Nat), 0 ≤ w → w < 4294967296 → lo ≤ i → i < hi → L w i = L (putV w (pl i : Nat) 1 (v / 2 ^ i % 2)) (i + 1))
    (a p : Nat) (ha : lo ≤ a) (w : Int) (hw : 0 ≤ w) (hw' : w < 4294967296) (n : Nat) (hn : a + n ≤ hi) (hp1 : p ≤ 31) (hpn : p + n ≤ 32) (hp : ∀ c : Nat, c < n → pl (a + c) = p + c) :
    ∀ c : Nat, c ≤ n → L w a = L (putV w (p : Int) (c : Int) (v / 2 ^ a)) (a + c) := by
  intro c
  induction c with
  | zero => intro _; rw [show ((0 : Nat) : Int) = 0 by rfl, putV_zero _ _ _ (by omega) (by omega) hw hw', Nat.add_zero]
  | succ c ih =>
    intro hc
    have r := putV_range w p c (v / 2 ^ a) (by omega) (by omega) (by omega) hw hw'
    rw [ih (by omega), step _ (a + c) r.1 r.2 (by omega) (by omega), hp c (by omega)]
    have e : v / 2 ^ (a + c) = v / 2 ^ a / 2 ^ c := by rw [Int.pow_add, Int.ediv_ediv_of_nonneg (Int.le_of_lt (Int.pow_pos (by decide)))]
    rw [e, show ((p + c : Nat) : Int) = (p : Int) + (c : Int) by omega, putV_more _ _ _ _ (by omega) (by omega) hw hw']
    rfl
def jumpPl (i : Nat) : Nat := if i = 20 then 31 else if 11 < i then i else if 10 < i then 9 + i else 20 + i
def branchPl (i : Nat) : Nat := if i = 12 then 31 else if i = 11 then 7 else if 4 < i then 20 + i else 7 + i
theorem jump_run (x : Int × Int × Int × Int × Int) (hx : -9223372036854775808 ≤ x.2.2.2.2) (hx' : x.2.2.2.2 ≤ 9223372036854775807) (w : Int) (hw : 0 ≤ w) (hw' : w < 4294967296) :
    Z33.a x w 1 = some (putV (putV (putV (putV w 21 10 (x.2.2.2.2 / 2)) 20 1 (x.2.2.2.2 / 2048)) 12 8 (x.2.2.2.2 / 4096)) 31 1 (x.2.2.2.2 / 1048576)) := by
  have st := bits_run (fun w i => Z33.a x w (i : Int)) x.2.2.2.2 jumpPl 1 21 (fun w i h1 h2 h3 h4 => jump_step x hx hx' w h1 h2 i h3 (by omega))
  have r1 := putV_range w 21 10 (x.2.2.2.2 / 2) (by decide) (by decide) (by decide) hw hw'
  have r2 := putV_range _ 20 1 (x.2.2.2.2 / 2048) (by decide) (by decide) (by decide) r1.1 r1.2
  have r3 := putV_range _ 12 8 (x.2.2.2.2 / 4096) (by decide) (by decide) (by decide) r2.1 r2.2
  refine (st 1 21 (by decide) w hw hw' 10 (by decide) (by decide) (by decide) (by decide) 10 (by decide)).trans ?_
  refine (st 11 20 (by decide) _ r1.1 r1.2 1 (by decide) (by decide) (by decide) (by decide) 1 (by decide)).trans ?_
  refine (st 12 12 (by decide) _ r2.1 r2.2 8 (by decide) (by decide) (by decide) (by decide) 8 (by decide)).trans ?_
  refine (st 20 31 (by decide) _ r3.1 r3.2 1 (by decide) (by decide) (by decide) (by decide) 1 (by decide)).trans ?_
  exact Z33.a_eq _ _ _
theorem branch_step (x : Int × Int × Int × Int × Int) (hx : -9223372036854775808 ≤ x.2.2.2.2) (hx' : x.2.2.2.2 ≤ 9223372036854775807) (w : Int) (hw : 0 ≤ w) (hw' : w < 4294967296) (i : Nat) (h : 1 ≤ i) (h' : i ≤ 12) :
    Z33.b x w (i : Int) = Z33.b x (putV w (branchPl i : Nat) 1 (x.2.2.2.2 / 2 ^ i % 2)) ((i + 1 : Nat) : Int) := by
  rw [Z33.b_eq, show decide ((i : Int) < 13) = true by simp; omega, bit_val _ _ hx hx' (by omega) (by omega), w64 (n := 7 + (i : Int)) (by omega) (by omega), w64 (n := 20 + (i : Int)) (by omega) (by omega), w64 (n := (i : Int) + 1) (by omega) (by omega)]
  simp only [joinB, cond_true, Int.toNat_natCast, Option.bind_some, branchPl]
  have e0 : ((i + 1 : Nat) : Int) = (i : Int) + 1 := by omega
  rw [e0]
  by_cases h1 : i = 12
  · subst h1; rw [show decide (((12 : Nat) : Int) = 12) = true by rfl, put_val _ _ _ _ (by omega) (by omega) (by omega) hw hw' (by omega) (by omega)]; rfl
  · by_cases h2 : i = 11
    · subst h2
      rw [show decide (((11 : Nat) : Int) = 12) = false by rfl, show decide (((11 : Nat) : Int) > 4) = true by rfl, show decide (((11 : Nat) : Int) = 11) = true by rfl]
      simp only [cond_true, cond_false]
      rw [put_val _ _ _ _ (by omega) (by omega) (by omega) hw hw' (by omega) (by omega)]; rfl
    · by_cases h3 : 4 < i
      · rw [show decide ((i : Int) = 12) = false by simp; omega, show decide ((i : Int) = 11) = false by simp; omega, show decide ((i : Int) > 4) = true by simp; omega, if_neg h1, if_neg h2, if_pos h3]
        simp only [cond_true, cond_false]
        rw [put_val _ _ _ _ (by omega) (by omega) (by omega) hw hw' (by omega) (by omega), show ((20 + i : Nat) : Int) = 20 + (i : Int) by omega]; rfl
      · rw [show decide ((i : Int) = 12) = false by simp; omega, show decide ((i : Int) = 11) = false by simp; omega, show decide ((i : Int) > 4) = false by simp; omega, if_neg h1, if_neg h2, if_neg h3]
        simp only [cond_false]
        rw [put_val _ _ _ _ (by omega) (by omega) (by omega) hw hw' (by omega) (by omega), show ((7 + i : Nat) : Int) = 7 + (i : Int) by omega]; rfl
theorem branch_run (x : Int × Int × Int × Int × Int) (hx : -9223372036854775808 ≤ x.2.2.2.2) (hx' : x.2.2.2.2 ≤ 9223372036854775807) (w : Int) (hw : 0 ≤ w) (hw' : w < 4294967296) :
    Z33.b x w 1 = some (putV (putV (putV (putV w 8 4 (x.2.2.2.2 / 2)) 25 6 (x.2.2.2.2 / 32)) 7 1 (x.2.2.2.2 / 2048)) 31 1 (x.2.2.2.2 / 4096)) := by
  have st := bits_run (fun w i => Z33.b x w (i : Int)) x.2.2.2.2 branchPl 1 13 (fun w i h1 h2 h3 h4 => branch_step x hx hx' w h1 h2 i h3 (by omega))
  have r1 := putV_range w 8 4 (x.2.2.2.2 / 2) (by decide) (by decide) (by decide) hw hw'
  have r2 := putV_range _ 25 6 (x.2.2.2.2 / 32) (by decide) (by decide) (by decide) r1.1 r1.2
  have r3 := putV_range _ 7 1 (x.2.2.2.2 / 2048) (by decide) (by decide) (by decide) r2.1 r2.2
  refine (st 1 8 (by decide) w hw hw' 4 (by decide) (by decide) (by decide) (by decide) 4 (by decide)).trans ?_
  refine (st 5 25 (by decide) _ r1.1 r1.2 6 (by decide) (by decide) (by decide) (by decide) 6 (by decide)).trans ?_
  refine (st 11 7 (by decide) _ r2.1 r2.2 1 (by decide) (by decide) (by decide) (by decide) 1 (by decide)).trans ?_
  refine (st 12 31 (by decide) _ r3.1 r3.2 1 (by decide) (by decide) (by decide) (by decide) 1 (by decide)).trans ?_
  exact Z33.b_eq _ _ _
theorem store_step (x : Int × Int × Int × Int × Int) (hx : -9223372036854775808 ≤ x.2.2.2.2) (hx' : x.2.2.2.2 ≤ 9223372036854775807) (w : Int) (hw : 0 ≤ w) (hw' : w < 4294967296) (i : Nat) (h : 5 ≤ i) (h' : i ≤ 11) :
    Z33.c x w (i : Int) = Z33.c x (putV w (20 + i : Nat) 1 (x.2.2.2.2 / 2 ^ i % 2)) ((i + 1 : Nat) : Int) := by
  rw [Z33.c_eq, show decide ((i : Int) < 12) = true by simp; omega, bit_val _ _ hx hx' (by omega) (by omega), w64 (n := 20 + (i : Int)) (by omega) (by omega), w64 (n := (i : Int) + 1) (by omega) (by omega)]
  simp only [cond_true, Int.toNat_natCast, Option.bind_some]
  rw [put_val _ _ _ _ (by omega) (by omega) (by omega) hw hw' (by omega) (by omega), show ((20 + i : Nat) : Int) = 20 + (i : Int) by omega]; rfl
theorem store_run (x : Int × Int × Int × Int × Int) (hx : -9223372036854775808 ≤ x.2.2.2.2) (hx' : x.2.2.2.2 ≤ 9223372036854775807) (w : Int) (hw : 0 ≤ w) (hw' : w < 4294967296) :
    Z33.c x w 5 = some (putV w 25 7 (x.2.2.2.2 / 32)) := by
  have st := bits_run (fun w i => Z33.c x w (i : Int)) x.2.2.2.2 (fun i => 20 + i) 5 12 (fun w i h1 h2 h3 h4 => store_step x hx hx' w h1 h2 i h3 (by omega))
  refine (st 5 25 (by decide) w hw hw' 7 (by decide) (by decide) (by decide) (by decide) 7 (by decide)).trans ?_
  exact Z33.c_eq _ _ _
theorem put_7_5 {w v : Int} (hw : 0 ≤ w) (hw' : w < 4294967296) (h : w / 128 % 32 = 0) (hv : -9223372036854775808 ≤ v) (hv' : v ≤ 9223372036854775807) : Z32 w 7 5 v = some (w + v % 32 * 128) :=
  (put_val w 7 5 v (by decide) (by decide) (by decide) hw hw' hv hv').trans (congrArg some (putV_empty 7 5 128 32 rfl rfl h))
theorem put_12_20 {w v : Int} (hw : 0 ≤ w) (hw' : w < 4294967296) (h : w / 4096 % 1048576 = 0) (hv : -9223372036854775808 ≤ v) (hv' : v ≤ 9223372036854775807) : Z32 w 12 20 v = some (w + v % 1048576 * 4096) :=
  (put_val w 12 20 v (by decide) (by decide) (by decide) hw hw' hv hv').trans (congrArg some (putV_empty 12 20 4096 1048576 rfl rfl h))
theorem put_12_3 {w v : Int} (hw : 0 ≤ w) (hw' : w < 4294967296) (h : w / 4096 % 8 = 0) (hv : -9223372036854775808 ≤ v) (hv' : v ≤ 9223372036854775807) : Z32 w 12 3 v = some (w + v % 8 * 4096) :=
  (put_val w 12 3 v (by decide) (by decide) (by decide) hw hw' hv hv').trans (congrArg some (putV_empty 12 3 4096 8 rfl rfl h))
theorem put_15_5 {w v : Int} (hw : 0 ≤ w) (hw' : w < 4294967296) (h : w / 32768 % 32 = 0) (hv : -9223372036854775808 ≤ v) (hv' : v ≤ 9223372036854775807) : Z32 w 15 5 v = some (w + v % 32 * 32768) :=
  (put_val w 15 5 v (by decide) (by decide) (by decide) hw hw' hv hv').trans (congrArg some (putV_empty 15 5 32768 32 rfl rfl h))
theorem put_20_12 {w v : Int} (hw : 0 ≤ w) (hw' : w < 4294967296) (h : w / 1048576 % 4096 = 0) (hv : -9223372036854775808 ≤ v) (hv' : v ≤ 9223372036854775807) : Z32 w 20 12 v = some (w + v % 4096 * 1048576) :=
  (put_val w 20 12 v (by decide) (by decide) (by decide) hw hw' hv hv').trans (congrArg some (putV_empty 20 12 1048576 4096 rfl rfl h))
theorem put_20_5 {w v : Int} (hw : 0 ≤ w) (hw' : w < 4294967296) (h : w / 1048576 % 32 = 0) (hv : -9223372036854775808 ≤ v) (hv' : v ≤ 9223372036854775807) : Z32 w 20 5 v = some (w + v % 32 * 1048576) :=
  (put_val w 20 5 v (by decide) (by decide) (by decide) hw hw' hv hv').trans (congrArg some (putV_empty 20 5 1048576 32 rfl rfl h))
theorem put_20_6 {w v : Int} (hw : 0 ≤ w) (hw' : w < 4294967296) (h : w / 1048576 % 64 = 0) (hv : -9223372036854775808 ≤ v) (hv' : v ≤ 9223372036854775807) : Z32 w 20 6 v = some (w + v % 64 * 1048576) :=
  (put_val w 20 6 v (by decide) (by decide) (by decide) hw hw' hv hv').trans (congrArg some (putV_empty 20 6 1048576 64 rfl rfl h))
theorem put_25_7 {w v : Int} (hw : 0 ≤ w) (hw' : w < 4294967296) (h : w / 33554432 % 128 = 0) (hv : -9223372036854775808 ≤ v) (hv' : v ≤ 9223372036854775807) : Z32 w 25 7 v = some (w + v % 128 * 33554432) :=
  (put_val w 25 7 v (by decide) (by decide) (by decide) hw hw' hv hv').trans (congrArg some (putV_empty 25 7 33554432 128 rfl rfl h))
theorem putV_21_10 {w v : Int} (h : w / 2097152 % 1024 = 0) : putV w 21 10 v = w + v % 1024 * 2097152 := putV_empty 21 10 2097152 1024 rfl rfl h
theorem putV_20_1 {w v : Int} (h : w / 1048576 % 2 = 0) : putV w 20 1 v = w + v % 2 * 1048576 := putV_empty 20 1 1048576 2 rfl rfl h
theorem putV_12_8 {w v : Int} (h : w / 4096 % 256 = 0) : putV w 12 8 v = w + v % 256 * 4096 := putV_empty 12 8 4096 256 rfl rfl h
theorem putV_31_1 {w v : Int} (h : w / 2147483648 % 2 = 0) : putV w 31 1 v = w + v % 2 * 2147483648 := putV_empty 31 1 2147483648 2 rfl rfl h
theorem putV_8_4 {w v : Int} (h : w / 256 % 16 = 0) : putV w 8 4 v = w + v % 16 * 256 := putV_empty 8 4 256 16 rfl rfl h
theorem putV_25_6 {w v : Int} (h : w / 33554432 % 64 = 0) : putV w 25 6 v = w + v % 64 * 33554432 := putV_empty 25 6 33554432 64 rfl rfl h
theorem putV_7_1 {w v : Int} (h : w / 128 % 2 = 0) : putV w 7 1 v = w + v % 2 * 128 := putV_empty 7 1 128 2 rfl rfl h
theorem putV_25_7 {w v : Int} (h : w / 33554432 % 128 = 0) : putV w 25 7 v = w + v % 128 * 33554432 := putV_empty 25 7 33554432 128 rfl rfl h
theorem spec_encode_val (x : Int × Int × Int × Int × Int) (h : 1 ≤ x.1) (h' : x.1 ≤ 64) (hr : RegsOK x) (hu : (shp x.1).1 = 1 → x.2.2.2.2 % 4096 = 0) : Z33 x = some (encV (shp x.1) x) := by
  rw [Z33_eq, spec_shape _ (by omega) h']
  have hs := shp_ok x.1 h h'
  generalize shp x.1 = s at *
  obtain ⟨n, rd', rs1, rs2, imm⟩ := x
  obtain ⟨f, c, f3, f7⟩ := s
  obtain ⟨⟨d1, d2⟩, ⟨a1, a2⟩, ⟨b1, b2⟩, ⟨i1, i2⟩⟩ := hr
  obtain ⟨s1, ⟨s2, s2'⟩, ⟨s3, s3'⟩, ⟨s4, s4'⟩, s5, s6⟩ := shp_facts hs
  clear hs
  dsimp only at *
  simp only [Option.bind_some, joinB]
  rcases forms s1 with rfl | rfl | rfl | rfl | rfl | rfl | rfl | rfl | rfl
  · have hu := hu rfl
    have ht : imm.tdiv 4096 = imm / 4096 := by
      rw [Int.tdiv_eq_ediv_of_dvd]; exact Int.dvd_of_emod_eq_zero hu
    simp only [cond_ite, ↓reduceIte, decide_true, ht]
    rw [w64 (n := imm / 4096) (by omega) (by omega), put_7_5 (by omega) (by omega) (by omega) (by omega) (by omega)]
    simp only [Option.bind_some]
    rw [put_12_20 (by omega) (by omega) (by omega) (by omega) (by omega)]
    simp [encV]; omega
  · simp (disch := omega) [put_7_5, jump_run, encV]
    rw [putV_21_10 (by omega)]
    have hb0 : 0 ≤ imm / 2 % 1024 ∧ imm / 2 % 1024 < 1024 := by omega
    generalize imm / 2 % 1024 = y0 at *
    rw [putV_20_1 (by omega)]
    have hb1 : 0 ≤ imm / 2048 % 2 ∧ imm / 2048 % 2 < 2 := by omega
    generalize imm / 2048 % 2 = y1 at *
    rw [putV_12_8 (by omega)]
    have hb2 : 0 ≤ imm / 4096 % 256 ∧ imm / 4096 % 256 < 256 := by omega
    generalize imm / 4096 % 256 = y2 at *
    rw [putV_31_1 (by omega)]
    have hb3 : 0 ≤ imm / 1048576 % 2 ∧ imm / 1048576 % 2 < 2 := by omega
    generalize imm / 1048576 % 2 = y3 at *
    omega
  · simp (disch := omega) [put_7_5, put_12_3, put_15_5, put_20_12, encV]
    omega
  · simp (disch := omega) [put_12_3, put_15_5, put_20_5, branch_run, encV]
    rw [putV_8_4 (by omega)]
    have hb0 : 0 ≤ imm / 2 % 16 ∧ imm / 2 % 16 < 16 := by omega
    generalize imm / 2 % 16 = y0 at *
    rw [putV_25_6 (by omega)]
    have hb1 : 0 ≤ imm / 32 % 64 ∧ imm / 32 % 64 < 64 := by omega
    generalize imm / 32 % 64 = y1 at *
    rw [putV_7_1 (by omega)]
    have hb2 : 0 ≤ imm / 2048 % 2 ∧ imm / 2048 % 2 < 2 := by omega
    generalize imm / 2048 % 2 = y2 at *
    rw [putV_31_1 (by omega)]
    have hb3 : 0 ≤ imm / 4096 % 2 ∧ imm / 4096 % 2 < 2 := by omega
    generalize imm / 4096 % 2 = y3 at *
    omega
  · simp (disch := omega) [put_7_5, put_12_3, put_15_5, put_20_5, store_run, encV]
    have hb0 : 0 ≤ imm % 32 ∧ imm % 32 < 32 := by omega
    generalize imm % 32 = y0 at *
    rw [putV_25_7 (by omega)]
    have hb1 : 0 ≤ imm / 32 % 128 ∧ imm / 32 % 128 < 128 := by omega
    generalize imm / 32 % 128 = y1 at *
    omega
  · have hf := s5 rfl
    simp (disch := omega) [put_7_5, put_12_3, put_15_5, put_25_7, put_20_6, encV]
    omega
  · simp (disch := omega) [put_7_5, put_12_3, put_15_5, put_25_7, put_20_5, encV]
    omega
  · simp (disch := omega) [put_7_5, put_12_3, put_15_5, put_25_7, put_20_5, encV]
    omega
  · simp (disch := omega) [put_20_12, encV]
    omega
def immU (f w : Int) : Int :=
  if f = 1 then w / 4096 % 1048576 * 4096
  else if f = 2 then w / 4096 % 256 * 4096 + w / 1048576 % 2 * 2048 + w / 2097152 % 1024 * 2 + w / 2147483648 % 2 * 1048576
  else if f = 3 then w / 1048576 % 4096
  else if f = 4 then w / 128 % 2 * 2048 + w / 256 % 16 * 2 + w / 33554432 % 64 * 32 + w / 2147483648 % 2 * 4096
  else if f = 5 then w / 128 % 32 + w / 33554432 % 128 * 32
  else if f = 6 then w / 1048576 % 64
  else if f = 7 then w / 1048576 % 32
  else 0
def bitsV (f : Int) : Nat := if f = 1 then 32 else if f = 2 then 21 else if f = 3 ∨ f = 5 then 12 else if f = 4 then 13 else 0
def immS (f w : Int) : Int := if 0 < bitsV f then signV (immU f w) (bitsV f) else immU f w
def decV (n f w : Int) : Int × Int × Int × Int × Int :=
  (n, (if (fieldsV f).1 then w / 128 % 32 else 0), (if (fieldsV f).2.1 then w / 32768 % 32 else 0), (if (fieldsV f).2.2 then w / 1048576 % 32 else 0), immS f w)
theorem immBits_val {f : Int} (h : 1 ≤ f ∧ f ≤ 9) : Z6m f = some ((bitsV f : Nat) : Int) := by
  rw [Z6m_eq]
  rcases forms h with rfl | rfl | rfl | rfl | rfl | rfl | rfl | rfl | rfl <;> rfl
theorem immS_range {f w : Int} (hf : 1 ≤ f ∧ f ≤ 9) (h : 0 ≤ w) (h' : w < 4294967296) : -2147483648 ≤ immS f w ∧ immS f w ≤ 2147483647 := by
  rcases forms hf with rfl | rfl | rfl | rfl | rfl | rfl | rfl | rfl | rfl <;> simp [immS, bitsV, immU, signV] <;> omega
theorem dec_regs {n f w : Int} (hf : 1 ≤ f ∧ f ≤ 9) (h : 0 ≤ w) (h' : w < 4294967296) : RegsOK (decV n f w) := by
  have hi := immS_range hf h h'
  refine ⟨?_, ?_, ?_, ?_⟩
  · simp only [decV]; split <;> omega
  · simp only [decV]; split <;> omega
  · simp only [decV]; split <;> omega
  · simp only [decV]; omega
def takeP (w : Int) (i : Int) (p : Int × Int × Int) : Int := orI .i64 i (shlI .i64 (w / 2 ^ p.2.2.toNat % 2 ^ p.2.1.toNat) p.1)
theorem dec_loop (w : Int) (z : Int × Int × Int × Int × Int) (s : Int × Int × Int × Int) (os : List (ByteArray × Int × Int × Int × Int)) (ln n : Int) (op rd' r1 r2 : Int) (ps : List (Int × Int × Int)) (hp : PiecesOK ps) :
    ∀ (k j : Nat) (i : Int), j + k = ps.length → Z6o.b w z s (op, rd', r1, r2, i) os ln n ps (ps.length : Int) (j : Int) = Z6o.b w z s (op, rd', r1, r2, (ps.drop j).foldl (takeP w) i) os ln n ps (ps.length : Int) (ps.length : Int) := by
  intro k
  induction k with
  | zero => intro j i h; have : j = ps.length := by omega
            subst this; simp
  | succ k ih =>
    intro j i h
    have hj : j < ps.length := by omega
    obtain ⟨p1, p2, p3, p4, p5, p6⟩ := hp.2 ps[j] (List.getElem_mem hj)
    have e := rd_nat (τ := .pair (.int .i64) (.pair (.int .i64) (.int .i64))) ps j hj
    rw [Z6o.b_eq, lt_nat, inL_nat, e, w64_succ j ps.length hj (by have := hp.1; omega)]
    simp only [decide_eq_true hj, cond_true]
    rw [bitsOf_val _ _ _ (by omega) (by omega) (by omega) (by omega)]
    simp only [Option.bind_some]
    rw [show decide (ps[j].1 < 0) = false by simp; omega]
    simp only [cond_false]
    rw [ih (j + 1) _ (by omega), List.drop_eq_getElem_cons hj, List.foldl_cons]
    rfl
theorem shl_11 {y : Int} (h0 : 0 ≤ y) (h : y ≤ 2147483647) : shlI .i64 y 11 = y * 2048 := shl_val 11 2048 rfl (by decide) h0 (by omega)
theorem shl_1 {y : Int} (h0 : 0 ≤ y) (h : y ≤ 2147483647) : shlI .i64 y 1 = y * 2 := shl_val 1 2 rfl (by decide) h0 (by omega)
theorem shl_5 {y : Int} (h0 : 0 ≤ y) (h : y ≤ 2147483647) : shlI .i64 y 5 = y * 32 := shl_val 5 32 rfl (by decide) h0 (by omega)
theorem shl_0 {y : Int} (h0 : 0 ≤ y) (h : y ≤ 2147483647) : shlI .i64 y 0 = y := by
  rw [shl_mul (by decide) (by decide)]; simp; exact w64 (by omega) (by omega)
theorem or_zero {y : Int} (h0 : 0 ≤ y) (h : y ≤ 2147483647) : orI .i64 0 y = y := by
  have := or_field (x := 0) (y := y) (P := 1) (Q := 2147483648) 0 31 rfl rfl (by decide) (by decide) (by decide) h0 (by omega) (by omega)
  simpa using this
theorem take_pieces {f w : Int} (hf : 1 ≤ f ∧ f ≤ 9) (h : 0 ≤ w) (h' : w < 4294967296) : (piecesV f).foldl (takeP w) 0 = immU f w := by
  rcases forms hf with rfl | rfl | rfl | rfl | rfl | rfl | rfl | rfl | rfl
  · simp [piecesV, takeP, immU]
    have hb0 : 0 ≤ w / 4096 % 1048576 ∧ w / 4096 % 1048576 < 1048576 := by omega
    generalize w / 4096 % 1048576 = y0 at *
    simp (disch := omega) only [shl_12, or_12_20]
    omega
  · simp [piecesV, takeP, immU]
    have hb0 : 0 ≤ w / 4096 % 256 ∧ w / 4096 % 256 < 256 := by omega
    generalize w / 4096 % 256 = y0 at *
    have hb1 : 0 ≤ w / 1048576 % 2 ∧ w / 1048576 % 2 < 2 := by omega
    generalize w / 1048576 % 2 = y1 at *
    have hb2 : 0 ≤ w / 2097152 % 1024 ∧ w / 2097152 % 1024 < 1024 := by omega
    generalize w / 2097152 % 1024 = y2 at *
    have hb3 : 0 ≤ w / 2147483648 % 2 ∧ w / 2147483648 % 2 < 2 := by omega
    generalize w / 2147483648 % 2 = y3 at *
    simp (disch := omega) only [shl_12, shl_11, shl_1, shl_20, or_12_8, or_11_1, or_1_10, or_20_1]
    omega
  · simp [piecesV, takeP, immU]
    have hb0 : 0 ≤ w / 1048576 % 4096 ∧ w / 1048576 % 4096 < 4096 := by omega
    generalize w / 1048576 % 4096 = y0 at *
    simp (disch := omega) only [shl_0, or_zero]
  · simp [piecesV, takeP, immU]
    have hb0 : 0 ≤ w / 128 % 2 ∧ w / 128 % 2 < 2 := by omega
    generalize w / 128 % 2 = y0 at *
    have hb1 : 0 ≤ w / 256 % 16 ∧ w / 256 % 16 < 16 := by omega
    generalize w / 256 % 16 = y1 at *
    have hb2 : 0 ≤ w / 33554432 % 64 ∧ w / 33554432 % 64 < 64 := by omega
    generalize w / 33554432 % 64 = y2 at *
    have hb3 : 0 ≤ w / 2147483648 % 2 ∧ w / 2147483648 % 2 < 2 := by omega
    generalize w / 2147483648 % 2 = y3 at *
    simp (disch := omega) only [shl_11, shl_1, shl_5, shl_12, or_11_1, or_1_4, or_5_6, or_12_1]
    omega
  · simp [piecesV, takeP, immU]
    have hb0 : 0 ≤ w / 128 % 32 ∧ w / 128 % 32 < 32 := by omega
    generalize w / 128 % 32 = y0 at *
    have hb1 : 0 ≤ w / 33554432 % 128 ∧ w / 33554432 % 128 < 128 := by omega
    generalize w / 33554432 % 128 = y1 at *
    simp (disch := omega) only [shl_0, shl_5, or_zero, or_5_7]
  · simp [piecesV, takeP, immU]
    have hb0 : 0 ≤ w / 1048576 % 64 ∧ w / 1048576 % 64 < 64 := by omega
    generalize w / 1048576 % 64 = y0 at *
    simp (disch := omega) only [shl_0, or_zero]
  · simp [piecesV, takeP, immU]
    have hb0 : 0 ≤ w / 1048576 % 32 ∧ w / 1048576 % 32 < 32 := by omega
    generalize w / 1048576 % 32 = y0 at *
    simp (disch := omega) only [shl_0, or_zero]
  · rfl
  · rfl
theorem dec_imm {f w : Int} (hf : 1 ≤ f ∧ f ≤ 9) : (if 0 < bitsV f then Z6n (immU f w) ((bitsV f : Nat) : Int) else some (immU f w)) = some (immS f w) := by
  unfold immS
  rcases forms hf with rfl | rfl | rfl | rfl | rfl | rfl | rfl | rfl | rfl <;> simp [bitsV] <;> rw [signOf_val _ _ (by decide) (by decide)] <;> rfl
theorem ops_rd (n : Int) (h : 0 ≤ n) (h' : n ≤ 64) : ∃ os : List (ByteArray × Int × Int × Int × Int), Z6g = some os ∧ os.length = 65 ∧ ∀ m : Nat, m ≤ 64 → ((rd (τ := (.pair .str (.pair (.int .i64) (.pair (.int .i64) (.pair (.int .i64) (.int .i64)))))) os m).2) = shp m := by
  refine ⟨_, Z6g_eq, rfl, fun m hm => ?_⟩
  obtain ⟨k, rfl⟩ : ∃ k : Fin 65, m = k.val := ⟨⟨m, by omega⟩, rfl⟩
  clear hm; revert k
  decide +kernel
theorem impl_dec_step (w : Int) (h : 0 ≤ w) (h' : w < 4294967296) (z : Int × Int × Int × Int × Int) (os : List (ByteArray × Int × Int × Int × Int)) (ho : os.length = 65) (hs : ∀ m : Nat, m ≤ 64 → ((rd (τ := (.pair .str (.pair (.int .i64) (.pair (.int .i64) (.pair (.int .i64) (.int .i64)))))) os m).2) = shp m) (n : Nat) (h1 : 1 ≤ n) (hn : n ≤ 64) :
    Z6o.a w z os 65 n = if (shp n).2.1 = w % 128 ∧ encV (shp n) (decV n (shp n).1 w) = w then some (decV n (shp n).1 w, true) else Z6o.a w z os 65 ((n + 1 : Nat) : Int) := by
  have hsf := shp_ok n (by omega) (by omega)
  rw [Z6o.a_eq, show decide ((n : Int) < 65) = true by simp; omega, ho, show inL (n : Int) 65 = true by rw [inL_nat]; simp; omega, hs n hn, show decide ((n : Int) = 0) = false by simp; omega, bitsOf_val w 0 7 (by decide) (by decide) (by decide) (by decide), w64 (n := (n : Int) + 1) (by omega) (by omega)]
  have e0 : ((n + 1 : Nat) : Int) = (n : Int) + 1 := by omega
  rw [e0]
  simp only [cond_true, cond_false, joinB, Option.bind_some]
  rw [show w / 2 ^ (0 : Int).toNat % 2 ^ (7 : Int).toNat = w % 128 by simp]
  by_cases hc : (shp n).2.1 = w % 128
  · have henc : ∀ x : Int × Int × Int × Int × Int, x.1 = (n : Int) → RegsOK x → Z6l x = some (encV (shp n) x) := fun x hx hr => by rw [← hx]; exact impl_encode_val x (by omega) (by omega) hr
    generalize hS : shp n = s at *
    obtain ⟨f, c, f3, f7⟩ := s
    obtain ⟨s1, ⟨s2, s2'⟩, ⟨s3, s3'⟩, ⟨s4, s4'⟩, s5, s6⟩ := shp_facts hsf
    obtain ⟨hp, hpo⟩ := pieces_val s1
    dsimp only at *
    rw [decide_eq_true hc, hp]
    simp only [eq_true hc, true_and, Bool.not_true, cond_false, Option.bind_some]
    clear hc
    rw [show (0 : Int) = ((0 : Nat) : Int) by rfl, dec_loop _ _ _ _ _ _ _ _ _ _ _ hpo (piecesV f).length 0 _ (by omega), List.drop_zero, show (((0 : Nat) : Int)) = 0 by rfl, take_pieces s1 h h', Z6o.b_eq, lt_nat]
    simp only [Nat.lt_irrefl, decide_false, cond_false, immBits_val s1, fields_val s1, Option.bind_some, joinB]
    have hi := dec_imm (w := w) s1
    have he := henc (decV n f w) rfl (dec_regs s1 h h')
    have b1 : Z6j w 7 5 = some (w / 128 % 32) := bitsOf_val w 7 5 (by decide) (by decide) (by decide) (by decide)
    have b2 : Z6j w 15 5 = some (w / 32768 % 32) := bitsOf_val w 15 5 (by decide) (by decide) (by decide) (by decide)
    have b3 : Z6j w 20 5 = some (w / 1048576 % 32) := bitsOf_val w 20 5 (by decide) (by decide) (by decide) (by decide)
    rw [w64 (n := (n : Int) + 1) (by omega) (by omega)]
    clear henc hS hs ho hp hpo s5 s6 hsf
    unfold decV at he ⊢
    generalize Z6o.a w z os 65 (↑n + 1) = nx
    generalize immU f w = iu at *
    generalize immS f w = im at *
    simp only [b1, b2, b3, Option.bind_some]
    rcases forms s1 with rfl | rfl | rfl | rfl | rfl | rfl | rfl | rfl | rfl <;> simp [bitsV, fieldsV] at hi he ⊢ <;> first | (rw [hi, Option.bind_some, he]; simp [cond_ite]) | (rw [hi, he]; simp [cond_ite])
  · rw [if_neg (fun hh => hc hh.1), show decide ((shp n).2.1 = w % 128) = false by simpa using hc]
    rfl
theorem spec_op_val (n : Int) : Z34 n = some (decide (1 ≤ n) && decide (n ≤ 64)) := by
  rw [Z34_eq, Z2w_eq]
  by_cases h : n ≥ 1 <;> simp [h]
theorem spec_reg_val (n : Int) : Z35 n = some (decide (0 ≤ n) && decide (n ≤ 31)) := by
  rw [Z35_eq, Z2w_eq]
  by_cases h : n ≥ 0 <;> simp [h]
theorem spec_in_val (n a b : Int) : Z2w n a b = some (decide (a ≤ n) && decide (n ≤ b)) := by
  rw [Z2w_eq]
  by_cases h : n ≥ a <;> simp [h]
theorem within_val (n a b : Int) : Z64 n a b = some (decide (a ≤ n) && decide (n ≤ b)) := by
  rw [Z64_eq]
  by_cases h : a ≤ n <;> simp [h]
def immR (f i : Int) : Bool :=
  if f = 1 then decide (-2147483648 ≤ i) && decide (i ≤ 2147479552) && decide (i % 4096 = 0)
  else if f = 2 then decide (-1048576 ≤ i) && decide (i ≤ 1048574) && decide (i % 2 = 0)
  else if f = 3 ∨ f = 5 then decide (-2048 ≤ i) && decide (i ≤ 2047)
  else if f = 4 then decide (-4096 ≤ i) && decide (i ≤ 4094) && decide (i % 2 = 0)
  else if f = 6 then decide (0 ≤ i) && decide (i ≤ 63)
  else if f = 7 then decide (0 ≤ i) && decide (i ≤ 31)
  else decide (i = 0)
def rightV (x : Int × Int × Int × Int × Int) : Bool :=
  decide (1 ≤ x.1) && decide (x.1 ≤ 64) && decide (0 ≤ x.2.1) && decide (x.2.1 ≤ 31) && decide (0 ≤ x.2.2.1) && decide (x.2.2.1 ≤ 31) && decide (0 ≤ x.2.2.2.1) && decide (x.2.2.2.1 ≤ 31)
    && ((fieldsV (shp x.1).1).1 || decide (x.2.1 = 0)) && ((fieldsV (shp x.1).1).2.1 || decide (x.2.2.1 = 0)) && ((fieldsV (shp x.1).1).2.2 || decide (x.2.2.2.1 = 0)) && immR (shp x.1).1 x.2.2.2.2
theorem spec_right_val (x : Int × Int × Int × Int × Int) : Z36 x = some (rightV x) := by
  rw [Z36_eq]
  obtain ⟨n, d, a, b, i⟩ := x
  simp only [joinB, spec_op_val, spec_reg_val, spec_in_val, Option.bind_some, rightV]
  by_cases hn : 1 ≤ n ∧ n ≤ 64
  · by_cases hd : 0 ≤ d ∧ d ≤ 31
    · by_cases ha : 0 ≤ a ∧ a ≤ 31
      · by_cases hb : 0 ≤ b ∧ b ≤ 31
        · have hs := shp_ok n hn.1 hn.2
          rw [spec_shape n (by omega) hn.2]
          generalize shp n = s at *
          obtain ⟨f, c, f3, f7⟩ := s
          have s1 := (shp_facts hs).1
          simp only [hn, hd, ha, hb, decide_true, Bool.and_self, Bool.not_true, cond_false, Option.bind_some, Bool.true_and]
          clear hs
          have t1 : decide (i.tmod 4096 = 0) = decide (i % 4096 = 0) := by
            congr 1; exact propext ⟨fun h => by rw [← Int.dvd_iff_tmod_eq_zero] at h; omega, fun h => by rw [← Int.dvd_iff_tmod_eq_zero]; omega⟩
          have t2 : decide (i.tmod 2 = 0) = decide (i % 2 = 0) := by
            congr 1; exact propext ⟨fun h => by rw [← Int.dvd_iff_tmod_eq_zero] at h; omega, fun h => by rw [← Int.dvd_iff_tmod_eq_zero]; omega⟩
          rw [t1, t2]
          rcases forms s1 with rfl | rfl | rfl | rfl | rfl | rfl | rfl | rfl | rfl <;> simp [fieldsV, immR] <;> by_cases e1 : d = 0 <;> by_cases e2 : a = 0 <;> by_cases e3 : b = 0 <;> simp [e1, e2, e3, cond_ite] <;> (first | done | (split <;> first | (simp_all; done) | (simp; intro q1 q2; omega)))
        · have : (decide (0 ≤ b) && decide (b ≤ 31)) = false := by simpa using hb
          have h2 : ¬ (0 ≤ b ∧ b ≤ 31) := hb
          rw [this]
          simp [hn, hd, ha]
          by_cases q : 0 ≤ b <;> simp [q] <;> intros <;> omega
      · have : (decide (0 ≤ a) && decide (a ≤ 31)) = false := by simpa using ha
        rw [this]
        simp [hn, hd]
        by_cases q : 0 ≤ a <;> simp [q] <;> intros <;> omega
    · have : (decide (0 ≤ d) && decide (d ≤ 31)) = false := by simpa using hd
      rw [this]
      simp [hn]
      by_cases q : 0 ≤ d <;> simp [q] <;> intros <;> omega
  · have : (decide (1 ≤ n) && decide (n ≤ 64)) = false := by simpa using hn
    rw [this]
    simp
theorem shp_form {n : Int} (h : 1 ≤ n) (h' : n ≤ 64) : 1 ≤ (shp n).1 ∧ (shp n).1 ≤ 9 := by
  have := shp_ok n h h'
  generalize shp n = s at *
  exact (shp_facts this).1
theorem dec_right {n f w : Int} (hn : 1 ≤ n) (hn' : n ≤ 64) (hf : f = (shp n).1) (h : 0 ≤ w) (h' : w < 4294967296) : rightV (decV n f w) = true := by
  have s1 := shp_form hn hn'
  obtain ⟨⟨d1, d2⟩, ⟨a1, a2⟩, ⟨b1, b2⟩, ⟨i1, i2⟩⟩ := dec_regs (n := n) (hf ▸ s1) h h'
  have hi : immR f (immS f w) = true := by
    subst hf
    rcases forms s1 with e | e | e | e | e | e | e | e | e <;> rw [e] <;> simp [immR, immS, bitsV, immU, signV] <;> omega
  subst hf
  unfold rightV
  simp only [Bool.and_eq_true, Bool.or_eq_true, decide_eq_true_eq]
  simp only [decV] at d1 d2 a1 a2 b1 b2 ⊢
  refine ⟨⟨⟨⟨⟨⟨⟨⟨⟨⟨⟨hn, hn'⟩, d1⟩, d2⟩, a1⟩, a2⟩, b1⟩, b2⟩, ?_⟩, ?_⟩, ?_⟩, hi⟩
  · cases (fieldsV (shp n).1).1 <;> simp
  · cases (fieldsV (shp n).1).2.1 <;> simp
  · cases (fieldsV (shp n).1).2.2 <;> simp
theorem spec_taken_val (w : Int) (h : 0 ≤ w) (h' : w < 4294967296) (n : Int) (h1 : 1 ≤ n) (hn : n ≤ 64) : Z39 n w = some (decV n (shp n).1 w) := by
  have s1 := shp_form h1 hn
  have fv : ∀ l c : Int, 0 ≤ l → 0 ≤ c → l + c ≤ 62 → Z37 w l c = some (w / 2 ^ l.toNat % 2 ^ c.toNat) := fun l c a b d => field_val w l c (by omega) (by omega) a b d
  have bv : ∀ l : Int, 0 ≤ l → l ≤ 63 → Z31 w l = some (w / 2 ^ l.toNat % 2) := fun l a b => bit_val w l (by omega) (by omega) a b
  rw [Z39_eq, fv 7 5 (by decide) (by decide) (by decide), fv 15 5 (by decide) (by decide) (by decide), fv 20 5 (by decide) (by decide) (by decide), fv 12 20 (by decide) (by decide) (by decide), fv 21 10 (by decide) (by decide) (by decide), fv 12 8 (by decide) (by decide) (by decide), fv 20 12 (by decide) (by decide) (by decide), fv 8 4 (by decide) (by decide) (by decide), fv 25 6 (by decide) (by decide) (by decide), fv 25 7 (by decide) (by decide) (by decide), fv 20 6 (by decide) (by decide) (by decide), bv 20 (by decide) (by decide), bv 31 (by decide) (by decide), bv 7 (by decide) (by decide), spec_shape n (by omega) hn]
  generalize shp n = s at *
  obtain ⟨f, c, f3, f7⟩ := s
  dsimp only at *
  simp only [Option.bind_some, decV, immS]
  rcases forms s1 with rfl | rfl | rfl | rfl | rfl | rfl | rfl | rfl | rfl
  · simp [fieldsV, bitsV, immU]
    rw [sign_val _ 20 (by decide) (by decide) (by omega) (by omega)]
    simp [signV]
    rw [w64 (by omega) (by omega)]
    omega
  · simp [fieldsV, bitsV, immU]
    rw [w64 (n := w / 2097152 % 1024 * 2) (by omega) (by omega), w64 (n := w / 1048576 % 2 * 2048) (by omega) (by omega), w64 (n := w / 4096 % 256 * 4096) (by omega) (by omega), w64 (n := w / 2147483648 % 2 * 1048576) (by omega) (by omega), w64 (n := w / 2097152 % 1024 * 2 + w / 1048576 % 2 * 2048) (by omega) (by omega), w64 (n := w / 2097152 % 1024 * 2 + w / 1048576 % 2 * 2048 + w / 4096 % 256 * 4096) (by omega) (by omega), w64 (by omega) (by omega), sign_val _ 21 (by decide) (by decide) (by omega) (by omega)]
    simp
    congr 1; omega
  · simp [fieldsV, bitsV, immU]
    rw [sign_val _ 12 (by decide) (by decide) (by omega) (by omega)]
    simp
  · simp [fieldsV, bitsV, immU]
    rw [w64 (n := w / 256 % 16 * 2) (by omega) (by omega), w64 (n := w / 33554432 % 64 * 32) (by omega) (by omega), w64 (n := w / 128 % 2 * 2048) (by omega) (by omega), w64 (n := w / 2147483648 % 2 * 4096) (by omega) (by omega), w64 (n := w / 256 % 16 * 2 + w / 33554432 % 64 * 32) (by omega) (by omega), w64 (n := w / 256 % 16 * 2 + w / 33554432 % 64 * 32 + w / 128 % 2 * 2048) (by omega) (by omega), w64 (by omega) (by omega), sign_val _ 13 (by decide) (by decide) (by omega) (by omega)]
    simp
    congr 1; omega
  · simp [fieldsV, bitsV, immU]
    rw [w64 (n := w / 33554432 % 128 * 32) (by omega) (by omega), w64 (by omega) (by omega), sign_val _ 12 (by decide) (by decide) (by omega) (by omega)]
    simp
  · simp [fieldsV, bitsV, immU]
  · simp [fieldsV, bitsV, immU]
  · simp [fieldsV, bitsV, immU]
  · simp [fieldsV, bitsV, immU]
theorem dec_f3 {n f c f3 f7 w : Int} (hs : ShpOK (f, c, f3, f7) = true) (h : 0 ≤ w) (h' : w < 4294967296) (hc : c = w % 128) (h3 : 3 ≤ f) (h8 : f ≤ 8) (he : encV (f, c, f3, f7) (decV n f w) = w) : f3 = w / 4096 % 8 := by
  obtain ⟨s1, ⟨s2, s2'⟩, ⟨s3, s3'⟩, ⟨s4, s4'⟩, s5, s6⟩ := shp_facts hs
  clear hs
  have hd := (dec_regs (n := n) s1 h h').d
  have ha := (dec_regs (n := n) s1 h h').a
  have hb := (dec_regs (n := n) s1 h h').b
  have : f = 3 ∨ f = 4 ∨ f = 5 ∨ f = 6 ∨ f = 7 ∨ f = 8 := by omega
  generalize decV n f w = x at *
  obtain ⟨n', d, a, b, i⟩ := x
  dsimp only at *
  rcases this with rfl | rfl | rfl | rfl | rfl | rfl <;> simp only [encV, Int.reduceEq, ↓reduceIte] at he
  · have hb0 : 0 ≤ i % 4096 ∧ i % 4096 < 4096 := by omega
    generalize i % 4096 = y0 at *; omega
  · have hb0 : 0 ≤ i / 2048 % 2 ∧ i / 2048 % 2 < 2 := by omega
    generalize i / 2048 % 2 = y0 at *
    have hb1 : 0 ≤ i / 2 % 16 ∧ i / 2 % 16 < 16 := by omega
    generalize i / 2 % 16 = y1 at *
    have hb2 : 0 ≤ i / 32 % 64 ∧ i / 32 % 64 < 64 := by omega
    generalize i / 32 % 64 = y2 at *
    have hb3 : 0 ≤ i / 4096 % 2 ∧ i / 4096 % 2 < 2 := by omega
    generalize i / 4096 % 2 = y3 at *; omega
  · have hb0 : 0 ≤ i % 32 ∧ i % 32 < 32 := by omega
    generalize i % 32 = y0 at *
    have hb1 : 0 ≤ i / 32 % 128 ∧ i / 32 % 128 < 128 := by omega
    generalize i / 32 % 128 = y1 at *; omega
  · have hb0 : 0 ≤ i % 64 ∧ i % 64 < 64 := by omega
    generalize i % 64 = y0 at *; omega
  · have hb0 : 0 ≤ i % 32 ∧ i % 32 < 32 := by omega
    generalize i % 32 = y0 at *; omega
  · omega
theorem spec_dec_step (w : Int) (h : 0 ≤ w) (h' : w < 4294967296) (z : Int × Int × Int × Int × Int) (n : Nat) (h1 : 1 ≤ n) (hn : n ≤ 64) :
    Z3a.a w z n = if (shp n).2.1 = w % 128 ∧ encV (shp n) (decV n (shp n).1 w) = w then some (decV n (shp n).1 w, true) else Z3a.a w z ((n + 1 : Nat) : Int) := by
  have hsf := shp_ok n (by omega) (by omega)
  have s1 := shp_form (n := n) (by omega) (by omega)
  have hr := dec_right (n := n) (by omega) (by omega) rfl h h'
  have he : Z33 (decV n (shp n).1 w) = some (encV (shp n) (decV n (shp n).1 w)) := spec_encode_val (decV n (shp n).1 w) (by simp only [decV]; omega) (by simp only [decV]; omega) (dec_regs s1 h h') (fun hf => by
    have hf : (shp n).1 = 1 := hf
    show immS (shp n).1 w % 4096 = 0
    rw [hf]; simp [immS, bitsV, immU, signV]; omega)
  have e0 : ((n + 1 : Nat) : Int) = (n : Int) + 1 := by omega
  rw [Z3a.a_eq, show decide ((n : Int) ≤ 64) = true by simp; omega, spec_shape n (by omega) (by omega), w64 (n := (n : Int) + 1) (by omega) (by omega), e0]
  simp only [cond_true, joinB, Option.bind_some, spec_in_val, spec_taken_val w h h' n (by omega) (by omega), spec_right_val, hr, he]
  have t1 : w.tmod 128 = w % 128 := Int.tmod_eq_emod_of_nonneg h
  have t2 : (w.tdiv 4096).tmod 8 = w / 4096 % 8 := by rw [Int.tdiv_eq_ediv_of_nonneg h, Int.tmod_eq_emod_of_nonneg (by omega)]
  have w1 : IntKind.wrap .i64 (w.tdiv 4096) = w.tdiv 4096 := by rw [Int.tdiv_eq_ediv_of_nonneg h]; exact w64 (by omega) (by omega)
  rw [w1, t1, t2]
  have h3 := fun (hc : (shp n).2.1 = w % 128) (h3 : 3 ≤ (shp n).1) (h8 : (shp n).1 ≤ 8) (he : encV (shp n) (decV n (shp n).1 w) = w) => dec_f3 (n := n) (f := (shp n).1) (c := (shp n).2.1) (f3 := (shp n).2.2.1) (f7 := (shp n).2.2.2) hsf h h' hc h3 h8 he
  clear hsf hr he
  generalize shp n = s at *
  by_cases hc : s.2.1 = w % 128
  · by_cases hf : 3 ≤ s.1 ∧ s.1 ≤ 8
    · by_cases hg : s.2.2.1 = w / 4096 % 8
      · simp [hc, hf, hg, cond_ite]
      · have : ¬ encV s (decV n s.1 w) = w := fun he => hg (h3 hc hf.1 hf.2 he)
        simp [hc, hf, hg, this]
    · have : (decide (3 ≤ s.1) && decide (s.1 ≤ 8)) = false := by simpa using hf
      simp [hc, this, cond_ite]
  · simp [hc]
def DecR (w : Int) (v : (Int × Int × Int × Int × Int) × Bool) : Prop := (v.2 = true → 1 ≤ v.1.1 ∧ v.1.1 ≤ 64 ∧ v.1 = decV v.1.1 (shp v.1.1).1 w ∧ encV (shp v.1.1) v.1 = w) ∧ (v.2 = false → v.1 = (0, 0, 0, 0, 0))
theorem decode_both (w : Int) (h : 0 ≤ w) (h' : w < 4294967296) : ∃ v, Z6o w = some v ∧ Z3a w = some v ∧ DecR w v := by
  obtain ⟨os, ho, hl, hs⟩ := ops_rd 0 (by decide) (by decide)
  rw [Z6o_eq, Z3a_eq, ho]
  simp only [Option.bind_some, hl]
  have hz : Z6o.a w (0, 0, 0, 0, 0) os 65 0 = Z6o.a w (0, 0, 0, 0, 0) os 65 1 := by
    rw [Z6o.a_eq, hl]; rfl
  have key : ∀ (k n : Nat), n + k = 65 → 1 ≤ n → ∃ v, Z6o.a w (0, 0, 0, 0, 0) os 65 (n : Int) = some v ∧ Z3a.a w (0, 0, 0, 0, 0) (n : Int) = some v ∧ DecR w v := by
    intro k
    induction k with
    | zero =>
      intro n hn h1
      have : n = 65 := by omega
      subst this
      rw [Z6o.a_eq, Z3a.a_eq]
      exact ⟨_, rfl, rfl, (fun hh => by cases hh), fun _ => rfl⟩
    | succ k ih =>
      intro n hn h1
      obtain ⟨v, e1, e2, e3⟩ := ih (n + 1) (by omega) (by omega)
      rw [impl_dec_step w h h' _ os hl hs n h1 (by omega), spec_dec_step w h h' _ n h1 (by omega), e1, e2]
      by_cases hc : (shp n).2.1 = w % 128 ∧ encV (shp n) (decV n (shp n).1 w) = w
      · rw [if_pos hc]
        exact ⟨_, rfl, rfl, fun _ => ⟨by simp only [decV]; omega, by simp only [decV]; omega, rfl, hc.2⟩, (fun hh => by cases hh)⟩
      · rw [if_neg hc]
        exact ⟨v, rfl, rfl, e3⟩
  rw [show (((65 : Nat)) : Int) = 65 by rfl, hz]
  exact key 64 1 (by omega) (by omega)
abbrev TIns : Ty := .pair (.int .i64) (.pair (.int .i64) (.pair (.int .i64) (.pair (.int .i64) (.int .i64))))
abbrev Ins : Type := Int × Int × Int × Int × Int
theorem strEq_iff (a b : ByteArray) : (strEq a b = true) = (a = b) := by
  unfold strEq
  rw [beq_iff_eq]
  refine propext ⟨fun h => ?_, fun h => by rw [h]⟩
  have e : ∀ x : ByteArray, x.toList = x.data.toList := by
    intro x
    have : ∀ (n i : Nat) (r : List UInt8), n = x.size - i → ByteArray.toList.loop x i r = r.reverse ++ x.data.toList.drop i := by
      intro n
      induction n with
      | zero => intro i r hn
                rw [ByteArray.toList.loop, if_neg (by omega), List.drop_eq_nil_of_le (by have : x.size = x.data.size := rfl; simp; omega), List.append_nil]
      | succ n ih =>
        intro i r hn
        have hi : i < x.data.toList.length := by have : x.size = x.data.size := rfl; simp; omega
        rw [ByteArray.toList.loop, if_pos (by omega), ih (i + 1) _ (by omega), List.drop_eq_getElem_cons hi]
        have : x.get! i = x.data.toList[i] := by
          have h2 : i < x.data.size := by simpa using hi
          rw [ByteArray.get!, getElem!_pos x.data i h2]; simp
        rw [this]; simp
    have := this (x.size - 0) 0 [] rfl
    rw [ByteArray.toList, this]; simp
  rw [e, e] at h
  have : a.data = b.data := Array.toList_inj.mp h
  cases a; cases b; simp_all
theorem strEq_dec (a b : ByteArray) : strEq a b = decide (a = b) := by
  have := strEq_iff a b
  by_cases h : a = b
  · rw [decide_eq_true h, this.mpr h]
  · rw [decide_eq_false h]
    cases e : strEq a b
    · rfl
    · exact absurd (this.mp e) h
theorem eqD_ins (a b : Ins) : eqD TIns a b = decide (a = b) := by
  obtain ⟨a1, a2, a3, a4, a5⟩ := a
  obtain ⟨b1, b2, b3, b4, b5⟩ := b
  simp [eqD]
def leN (t : ByteArray) (a : Nat) : Nat → Nat
  | 0 => 0
  | n + 1 => (t.data.getD a 0).toNat + 256 * leN t (a + 1) n
theorem leN_lt (t : ByteArray) : ∀ (n a : Nat), leN t a n < 256 ^ n := by
  intro n
  induction n with
  | zero => intro a; simp [leN]
  | succ n ih =>
    intro a
    have h1 := ih (a + 1)
    have h2 := (t.data.getD a 0).toNat_lt
    rw [leN, Nat.pow_succ]; omega
theorem leN_extract (t : ByteArray) (a b : Nat) (hb : b ≤ t.size) : ∀ (n i : Nat), i + n ≤ b - a → leN (t.extract a b) i n = leN t (a + i) n := by
  intro n
  induction n with
  | zero => intro i _; rfl
  | succ n ih =>
    intro i h
    rw [leN, leN, ih (i + 1) (by omega)]
    congr 2
    rw [ByteArray.data_extract]
    have hs : t.size = t.data.size := rfl
    simp [Array.getD]
    rw [dif_pos (by omega), dif_pos (by omega)]
theorem or_byte (V b : Int) (hV : 0 ≤ V) (hb : 0 ≤ b) (hb' : b ≤ 255) : orI .i64 (shlI .i64 (IntKind.wrap .i64 V) 8) b = IntKind.wrap .i64 (256 * V + b) := by
  have h1 : shlI .i64 (IntKind.wrap .i64 V) 8 = IntKind.wrap .i64 (V * 256) := by
    rw [shl_mul (by decide) (by decide)]
    obtain ⟨q, hq⟩ := wrap64_mod V
    have e8 : (2 : Int) ^ (8 : Int).toNat = 256 := by decide
    rw [hq, e8, IntKind.wrap_i64, IntKind.wrap_i64]; omega
  rw [h1]
  obtain ⟨y, rfl⟩ := Int.eq_ofNat_of_zero_le hb
  unfold orI
  rw [BitVec.toNat_or]
  have f1 := bv64 (IntKind.wrap .i64 (V * 256))
  have f2 : (BitVec.ofInt IntKind.i64.bits (y : Int)).toNat = y := by have := bv64 (y : Int); omega
  have f3 : IntKind.wrap .i64 (V * 256) % 18446744073709551616 = V * 256 % 18446744073709551616 := by
    rw [IntKind.wrap_i64]; omega
  rw [f3] at f1
  rw [f2]
  generalize (BitVec.ofInt IntKind.i64.bits (IntKind.wrap .i64 (V * 256))).toNat = x at *
  have h0 := nat_or_field x y 0 8 (by omega) (by omega)
  simp only [Nat.pow_zero, Nat.mul_one] at h0
  rw [h0, IntKind.wrap_i64, IntKind.wrap_i64]
  omega
theorem wrap_u64 (n : Int) : IntKind.wrap .u64 n = n % 18446744073709551616 := by simp [IntKind.wrap, IntKind.bits, IntKind.signed]
theorem bt_nat (t : ByteArray) (i : Nat) : bt t (i : Int) = ((t.data.getD i 0).toNat : Int) := by unfold bt; rw [Int.toNat_natCast]
theorem impl_take_loop (t : ByteArray) (hz : t.size ≤ 9223372036854775807) : ∀ (k : Nat), k ≤ t.size → Z6f.a t (IntKind.wrap .i64 (leN t k (t.size - k))) ((k : Int) - 1) = some (IntKind.wrap .i64 (leN t 0 t.size)) := by
  intro k
  induction k with
  | zero =>
    intro _
    rw [Z6f.a_eq]; rfl
  | succ k ih =>
    intro hk
    have hs : (((k + 1 : Nat) : Int) - 1) = (k : Int) := by omega
    have hb := bt_range t (k : Int)
    rw [hs, Z6f.a_eq, show decide ((k : Int) ≥ 0) = true by simp, inL_nat, decide_eq_true (show k < t.size by omega), w64 (n := bt t (k : Int)) (by omega) (by omega), or_byte _ _ (by omega) hb.1 hb.2, w64 (n := (k : Int) - 1) (by omega) (by omega)]
    simp only [cond_true]
    have e : leN t k (t.size - k) = (t.data.getD k 0).toNat + 256 * leN t (k + 1) (t.size - (k + 1)) := by
      rw [show t.size - k = (t.size - (k + 1)) + 1 by omega, leN]
    have ih := ih (by omega)
    rw [e] at ih
    rw [bt_nat, show (256 : Int) * (leN t (k + 1) (t.size - (k + 1)) : Nat) + ((t.data.getD k 0).toNat : Nat) = (((t.data.getD k 0).toNat + 256 * leN t (k + 1) (t.size - (k + 1)) : Nat) : Int) by omega]
    exact ih
theorem impl_take_val (t : ByteArray) (hz : t.size ≤ 9223372036854775807) : Z6f t = some (IntKind.wrap .i64 (leN t 0 t.size)) := by
  have := impl_take_loop t hz t.size (by omega)
  rw [Nat.sub_self, show IntKind.wrap .i64 (leN t t.size 0 : Nat) = 0 by rfl] at this
  rw [Z6f_eq, w64 (n := (t.size : Int) - 1) (by omega) (by omega)]
  exact this
theorem spec_take_loop (t : ByteArray) (a n : Nat) (hz : t.size ≤ 4611686018427387904) (han : a + n ≤ t.size) : ∀ (k : Nat), k ≤ n → Z2z.a t (a : Int) (((leN t (a + k) (n - k) : Nat) : Int) % 18446744073709551616) ((k : Int) - 1) = some (IntKind.wrap .i64 (leN t a n)) := by
  intro k
  induction k with
  | zero =>
    intro _
    rw [Z2z.a_eq, show decide (((0 : Nat) : Int) - 1 ≥ 0) = false by rfl]
    simp only [cond_false, Nat.add_zero, Nat.sub_zero]
    congr 1
    rw [IntKind.wrap_i64, IntKind.wrap_i64]; omega
  | succ k ih =>
    intro hk
    have hs : (((k + 1 : Nat) : Int) - 1) = (k : Int) := by omega
    have hi : ((a : Int) + (k : Int)) = ((a + k : Nat) : Int) := by omega
    rw [hs, Z2z.a_eq, show decide ((k : Int) ≥ 0) = true by simp, hi, w64 (n := ((a + k : Nat) : Int)) (by omega) (by omega), inL_nat, decide_eq_true (show a + k < t.size by omega), w64 (n := (k : Int) - 1) (by omega) (by omega)]
    simp only [cond_true]
    have e : leN t (a + k) (n - k) = (t.data.getD (a + k) 0).toNat + 256 * leN t (a + (k + 1)) (n - (k + 1)) := by
      rw [show n - k = (n - (k + 1)) + 1 by omega, leN]; rfl
    have ih := ih (by omega)
    rw [e] at ih
    rw [bt_nat]
    have hb := (t.data.getD (a + k) 0).toNat_lt
    refine Eq.trans ?_ ih
    congr 1
    rw [wrap_u64, wrap_u64, wrap_u64]
    generalize (t.data.getD (a + k) 0).toNat = b at *
    generalize leN t (a + (k + 1)) (n - (k + 1)) = L at *
    omega
theorem spec_take_val (t : ByteArray) (a n : Nat) (hz : t.size ≤ 4611686018427387904) (han : a + n ≤ t.size) : Z2z t (a : Int) (n : Int) = some (IntKind.wrap .i64 (leN t a n)) := by
  have := spec_take_loop t a n hz han n (by omega)
  rw [Nat.sub_self, show ((leN t (a + n) 0 : Nat) : Int) % 18446744073709551616 = 0 by rfl] at this
  rw [Z2z_eq, w64 (n := (n : Int) - 1) (by omega) (by omega)]
  exact this
theorem le4 (t : ByteArray) (a : Nat) : 0 ≤ ((leN t a 4 : Nat) : Int) ∧ ((leN t a 4 : Nat) : Int) < 4294967296 := by
  have := leN_lt t 4 a
  have e : 256 ^ 4 = 4294967296 := by decide
  omega
def InsR (x : Ins) : Prop := 1 ≤ x.1 ∧ x.1 ≤ 64 ∧ RegsOK x ∧ rightV x = true
theorem DecR.ins {w : Int} (h : 0 ≤ w) (h' : w < 4294967296) {v : Ins × Bool} (hv : DecR w v) (hb : v.2 = true) : InsR v.1 := by
  obtain ⟨h1, h2, h3, h4⟩ := hv.1 hb
  refine ⟨h1, h2, ?_, ?_⟩
  · rw [h3]; exact dec_regs (shp_form h1 h2) h h'
  · rw [h3]; exact dec_right h1 h2 rfl h h'
theorem room_le {n b : Nat} (h : n * b ≤ 140737488355328) (h' : n ≤ 140737488355328) : roomB n b = true := by
  simp only [roomB, Bool.and_eq_true, decide_eq_true_eq]; omega
inductive InsOf (code : ByteArray) : Prop where
  | ok (l : List Ins) (hi : Z6p code = some (l, 0, true)) (hs : Z3b code = some (l, -1)) (hl : 4 * l.length = code.size) (hr : ∀ x ∈ l, InsR x)
  | bad (k : Int) (hi : Z6p code = some ([], k, false)) (hs : Z3b code = some ([], k)) (h0 : 0 ≤ k)
theorem instrs_both (code : ByteArray) (h4 : code.size % 4 = 0) (hz : code.size ≤ 1048576) : InsOf code := by
  have key : ∀ (k i : Nat) (l : List Ins), 4 * (i + k) = code.size → l.length = i → (∀ x ∈ l, InsR x) →
      (∃ l', Z6p.a code l (4 * i : Nat) = some (l', 0, true) ∧ Z3b.a code l (i : Int) = some (l', -1) ∧ 4 * l'.length = code.size ∧ ∀ x ∈ l', InsR x) ∨
      (∃ b : Int, Z6p.a code l (4 * i : Nat) = some ([], b, false) ∧ Z3b.a code l (i : Int) = some ([], b) ∧ 0 ≤ b) := by
    intro k
    induction k with
    | zero =>
      intro i l hk hl hr
      rw [Z6p.a_eq, Z3b.a_eq, w64 (n := 4 * (i : Int)) (by omega) (by omega), show decide (((4 * i : Nat) : Int) < (code.size : Int)) = false by simp; omega, show decide (4 * (i : Int) < (code.size : Int)) = false by simp; omega]
      exact Or.inl ⟨l, rfl, rfl, by omega, hr⟩
    | succ k ih =>
      intro i l hk hl hr
      have hw := le4 code (4 * i)
      obtain ⟨v, e1, e2, e3⟩ := decode_both _ hw.1 hw.2
      have t1 : Z6f (code.extract (4 * i) (4 * i + 4)) = some ((leN code (4 * i) 4 : Nat) : Int) := by
        have hsz : (code.extract (4 * i) (4 * i + 4)).size = 4 := by rw [ByteArray.size_extract]; omega
        rw [impl_take_val _ (by omega), hsz, leN_extract code (4 * i) (4 * i + 4) (by omega) 4 0 (by omega), Nat.add_zero, w64 (by omega) (by omega)]
      have t2 : Z2z code ((4 * i : Nat) : Int) 4 = some ((leN code (4 * i) 4 : Nat) : Int) := by
        rw [show (4 : Int) = ((4 : Nat) : Int) by rfl, spec_take_val _ _ _ (by omega) (by omega), w64 (by omega) (by omega)]
      rw [Z6p.a_eq, Z3b.a_eq, w64 (n := 4 * (i : Int)) (by omega) (by omega), w64 (n := (i : Int) + 1) (by omega) (by omega), w64 (n := ((4 * i : Nat) : Int) + 4) (by omega) (by omega), show 4 * (i : Int) = ((4 * i : Nat) : Int) by omega, Int.toNat_natCast, show (((4 * i : Nat) : Int) + 4).toNat = 4 * i + 4 by omega, t1, t2]
      rw [show decide (((4 * i : Nat) : Int) < (code.size : Int)) = true by simp; omega, show decide ((0 : Int) ≤ ((4 * i : Nat) : Int)) = true by simp; omega, show decide (((4 * i : Nat) : Int) ≤ ((4 * i : Nat) : Int) + 4) = true by simp; omega, show decide (((4 * i : Nat) : Int) + 4 ≤ (code.size : Int)) = true by simp; omega]
      simp only [cond_true, Bool.and_self, Option.bind_some, e1, e2]
      cases hb : v.2 with
      | false =>
        refine Or.inr ⟨(i : Int), ?_, rfl, by omega⟩
        rw [show (((4 * i : Nat) : Int)).tdiv 4 = (i : Int) by rw [Int.tdiv_eq_ediv_of_nonneg (by omega)]; omega, w64 (by omega) (by omega)]; rfl
      | true =>
        have hx := DecR.ins hw.1 hw.2 e3 hb
        rw [room_le (by simp; omega) (by simp; omega)]
        simp only [Bool.not_true, cond_false, cond_true]
        have ih := ih (i + 1) (l ++ [v.1]) (by omega) (by simp; omega) (by
          intro x hx'
          rcases List.mem_append.mp hx' with h | h
          · exact hr x h
          · rw [List.mem_singleton.mp h]; exact hx)
        rw [show ((4 * (i + 1) : Nat) : Int) = ((4 * i : Nat) : Int) + 4 by omega, show ((i + 1 : Nat) : Int) = (i : Int) + 1 by omega] at ih
        exact ih
  rcases key (code.size / 4) 0 [] (by omega) rfl (by simp) with ⟨l, a1, a2, a3, a4⟩ | ⟨b, a1, a2, a3⟩
  · exact .ok l ((Z6p_eq code).trans a1) ((Z3b_eq code).trans a2) a3 a4
  · exact .bad b ((Z6p_eq code).trans a1) ((Z3b_eq code).trans a2) a3
theorem pair_eta {α β : Type} (p : α × β) : (p.1, p.2) = p := rfl
theorem ite_iff {α : Type} {c d : Prop} [Decidable c] [Decidable d] {a b b' : α} (h : c ↔ d) (hb : b = b') : (if c then a else b) = (if d then a else b') := by
  subst hb
  by_cases hc : c
  · rw [if_pos hc, if_pos (h.mp hc)]
  · rw [if_neg hc, if_neg (fun hd => hc (h.mpr hd))]
theorem epi_eq (f : Int) (h : 16 ≤ f ∧ f ≤ 128) : Z6s f = some [(14, 1, 2, 0, f - 8), (22, 2, 2, 0, f), (4, 0, 1, 0, 0)] ∧ Z3e f = some [(14, 1, 2, 0, f - 8), (22, 2, 2, 0, f), (4, 0, 1, 0, 0)] := by
  rw [Z6s_eq, Z3e_eq, w64 (n := f - 8) (by omega) (by omega)]; exact ⟨rfl, rfl⟩
def endsI (l : List Ins) (f k : Int) : Bool :=
  decide (2 ≤ k) && decide (k + 2 < (l.length : Int)) && decide (rd (τ := TIns) l k = ((14, 1, 2, 0, f - 8) : Ins)) && decide (rd (τ := TIns) l (k + 1) = ((22, 2, 2, 0, f) : Ins)) && decide (rd (τ := TIns) l (k + 2) = ((4, 0, 1, 0, 0) : Ins))
theorem inL_iff (i : Int) (n : Nat) : (inL i n = true) = (0 ≤ i ∧ i < (n : Int)) := by simp [inL]
theorem inL_true {i : Int} {n : Nat} (h : 0 ≤ i) (h' : i < (n : Int)) : inL i n = true := by rw [inL_iff]; exact ⟨h, h'⟩
theorem spec_ends_val (l : List Ins) (f k : Int) (hf : 16 ≤ f ∧ f ≤ 128) (hl : l.length ≤ 1048576) (hk : -4611686018427387904 ≤ k) (hk' : k ≤ 4611686018427387904) : Z3f l k f = some (endsI l f k) := by
  rw [Z3f_eq, (epi_eq f hf).2, w64 (n := k + 1) (by omega) (by omega), w64 (n := k + 2) (by omega) (by omega)]
  simp only [Option.bind_some]
  unfold endsI
  by_cases h1 : 2 ≤ k
  · by_cases h2 : k + 2 < (l.length : Int)
    · rw [inL_true (i := k) (by omega) (by omega), inL_true (i := k + 1) (by omega) (by omega), inL_true (i := k + 2) (by omega) (by omega), eqD_ins, eqD_ins, eqD_ins]
      simp only [h1, h2, decide_true, cond_true, Bool.true_and]
      have e0 : ∀ a b c : Ins, rd (τ := TIns) [a, b, c] 0 = a := fun _ _ _ => rfl
      have e1 : ∀ a b c : Ins, rd (τ := TIns) [a, b, c] 1 = b := fun _ _ _ => rfl
      have e2 : ∀ a b c : Ins, rd (τ := TIns) [a, b, c] 2 = c := fun _ _ _ => rfl
      rw [e0, e1, e2]
      show (bif true then bif decide _ then (bif true then bif decide _ then (bif true then some (decide _) else none) else some false else none) else some false else none) = _
      cases decide (rd (τ := TIns) l k = ((14, 1, 2, 0, f - 8) : Ins)) <;> cases decide (rd (τ := TIns) l (k + 1) = ((22, 2, 2, 0, f) : Ins)) <;> rfl
    · simp [h1, h2]
  · simp [h1]
theorem ends_ex (l : List Ins) (f k : Int) : (endsI l f k = true → endsI l f (k - 1) = false) ∧ (endsI l f k = true → endsI l f (k - 2) = false) ∧ (endsI l f (k - 1) = true → endsI l f (k - 2) = false) := by
  have e1 : k - 1 + 1 = k := by omega
  have e2 : k - 2 + 2 = k := by omega
  have e3 : k - 2 + 1 = k - 1 := by omega
  have e4 : k - 1 + 2 = k + 1 := by omega
  unfold endsI
  rw [e1, e2, e3, e4]
  simp only [Bool.and_eq_true, decide_eq_true_eq]
  refine ⟨?_, ?_, ?_⟩
  · rintro ⟨⟨⟨_, h⟩, _⟩, _⟩
    rw [h]; simp
  · rintro ⟨⟨⟨_, h⟩, _⟩, _⟩
    rw [h]; simp
  · rintro ⟨⟨⟨_, h⟩, h2⟩, _⟩
    rw [h2]; simp
def endV (l : List Ins) (f : Int) (n j : Int) : Int :=
  if j < n ∧ endsI l f j = true then 1 else if j - 1 < n ∧ endsI l f (j - 1) = true then 2 else if j - 2 < n ∧ endsI l f (j - 2) = true then 3 else 0
def EndsAre (l : List Ins) (f : Int) (n : Int) (E : List Int) : Prop := E.length = l.length ∧ ∀ j : Nat, j < l.length → E[j]? = some (endV l f n (j : Int))
theorem equal_loop (a b : List Ins) (hl : a.length = b.length) (hz : a.length ≤ 1048576) : ∀ (k j : Nat), j + k = a.length → Z6r.a a b (a.length : Int) (j : Int) = some (decide (a.drop j = b.drop j)) := by
  intro k
  induction k with
  | zero =>
    intro j hj
    rw [Z6r.a_eq, lt_nat, show decide (j < a.length) = false by simp; omega, List.drop_eq_nil_of_le (by omega), List.drop_eq_nil_of_le (by omega)]; rfl
  | succ k ih =>
    intro j hj
    have h1 : j < a.length := by omega
    have h2 : j < b.length := by omega
    rw [Z6r.a_eq, lt_nat, inL_nat, inL_nat, decide_eq_true h1, decide_eq_true h2, w64_succ j a.length h1 (by omega), ih (j + 1) (by omega)]
    simp only [cond_true]
    rw [rd_nat (τ := TIns) a j h1, rd_nat (τ := TIns) b j h2, eqD_ins, List.drop_eq_getElem_cons h1, List.drop_eq_getElem_cons h2]
    simp only [List.cons.injEq]
    by_cases h : a[j] = b[j] <;> simp [h]
theorem equal_val (a b : List Ins) (hz : a.length ≤ 1048576) : Z6r a b = some (decide (a = b)) := by
  rw [Z6r_eq]
  by_cases h : a.length = b.length
  · rw [show decide ((a.length : Int) = (b.length : Int)) = true by simp [h]]
    have := equal_loop a b h hz a.length 0 (by omega)
    rw [show ((0 : Nat) : Int) = 0 by rfl] at this
    simp only [Bool.not_true, cond_false, this, List.drop_zero]
  · rw [show decide ((a.length : Int) = (b.length : Int)) = false by simp; omega]
    simp only [Bool.not_false, cond_true]
    rw [decide_eq_false]; rintro rfl; exact h rfl
theorem three_eq (l : List Ins) (k : Nat) (hk : k + 3 ≤ l.length) (a b c : Ins) : decide ((l.take (k + 3)).drop k = [a, b, c]) = (decide (rd (τ := TIns) l k = a) && decide (rd (τ := TIns) l ((k : Int) + 1) = b) && decide (rd (τ := TIns) l ((k : Int) + 2) = c)) := by
  rw [show (k : Int) + 1 = ((k + 1 : Nat) : Int) by omega, show (k : Int) + 2 = ((k + 2 : Nat) : Int) by omega, rd_nat (τ := TIns) l k (by omega), rd_nat (τ := TIns) l (k + 1) (by omega), rd_nat (τ := TIns) l (k + 2) (by omega)]
  rw [List.drop_take, show k + 3 - k = 3 by omega, List.drop_eq_getElem_cons (show k < l.length by omega), List.drop_eq_getElem_cons (show k + 1 < l.length by omega), List.drop_eq_getElem_cons (show k + 1 + 1 < l.length by omega)]
  simp [List.take]
  rw [Bool.and_assoc]
theorem lint_ends (at_ : Int) (calls : List Int) (l : List Ins) (f : Int) (hf : 16 ≤ f ∧ f ≤ 128) (hl : l.length ≤ 1048576) (h2 : 2 ≤ l.length) :
    ∀ (k i : Nat) (E : List Int), 2 ≤ i → i + k + 2 = l.length → EndsAre l f i E → ∃ E', EndsAre l f l.length E' ∧ Z71.b f l (l, f, at_, calls, E) i = Z71.c l (l, f, at_, calls, E') 2 := by
  intro k
  induction k with
  | zero =>
    intro i E h2i hk hE
    refine ⟨E, ⟨hE.1, fun j hj => ?_⟩, ?_⟩
    · rw [hE.2 j hj]
      congr 1
      have out : ∀ m : Int, (i : Int) ≤ m → endsI l f m = false := by
        intro m hm
        unfold endsI
        rw [show decide (m + 2 < (l.length : Int)) = false by simp; omega]; simp
      have r : ∀ m : Int, m < (l.length : Int) → ((m < (i : Int) ∧ endsI l f m = true) ↔ (m < (l.length : Int) ∧ endsI l f m = true)) := by
        intro m hm
        constructor
        · rintro ⟨_, h⟩; exact ⟨hm, h⟩
        · rintro ⟨_, h⟩
          refine ⟨?_, h⟩
          by_cases hmi : m < (i : Int)
          · exact hmi
          · rw [out m (by omega)] at h; cases h
      unfold endV
      exact ite_iff (r j (by omega)) (ite_iff (r (j - 1) (by omega)) (ite_iff (r (j - 2) (by omega)) rfl))
    · rw [Z71.b_eq, w64 (n := (i : Int) + 3) (by omega) (by omega), show decide ((i : Int) + 3 ≤ (l.length : Int)) = false by simp; omega]
      rfl
  | succ k ih =>
    intro i E h2i hk hE
    have hstep : ∀ E' : List Int, E'.length = l.length → (∀ j : Nat, j < l.length → E'[j]? = some (endV l f ((i : Int) + 1) j)) → ∃ E'', EndsAre l f l.length E'' ∧ Z71.b f l (l, f, at_, calls, E') (((i + 1 : Nat)) : Int) = Z71.c l (l, f, at_, calls, E'') 2 := by
      intro E' h1 h2'
      exact ih (i + 1) E' (by omega) (by omega) ⟨h1, fun j hj => by rw [h2' j hj]; rfl⟩
    have hEl := hE.1
    rw [Z71.b_eq, w64 (n := (i : Int) + 3) (by omega) (by omega), w64 (n := (i : Int) + 1) (by omega) (by omega), w64 (n := (i : Int) + 2) (by omega) (by omega), (epi_eq f hf).1, show decide ((i : Int) + 3 ≤ (l.length : Int)) = true by simp; omega, show decide ((0 : Int) ≤ (i : Int)) = true by simp, show decide ((i : Int) ≤ (i : Int) + 3) = true by simp; omega, show ((i : Int) + 3).toNat = i + 3 by omega, Int.toNat_natCast, show ((i : Int) + 1).toNat = i + 1 by omega, show ((i : Int) + 2).toNat = i + 2 by omega]
    simp only [cond_true, Bool.and_self, Option.bind_some]
    rw [equal_val _ _ (by simp; omega), three_eq l i (by omega)]
    have hB : endsI l f i = (decide (rd (τ := TIns) l i = ((14, 1, 2, 0, f - 8) : Ins)) && decide (rd (τ := TIns) l ((i : Int) + 1) = ((22, 2, 2, 0, f) : Ins)) && decide (rd (τ := TIns) l ((i : Int) + 2) = ((4, 0, 1, 0, 0) : Ins))) := by
      unfold endsI
      rw [show decide (2 ≤ (i : Int)) = true by simp; omega, show decide ((i : Int) + 2 < (l.length : Int)) = true by simp; omega]; simp
    rw [← hB]
    simp only [Option.bind_some]
    cases hb : endsI l f i with
    | true =>
      simp only [cond_true, letB]
      rw [inL_true (by omega) (by rw [hEl]; omega), inL_true (by omega) (by rw [List.length_set, hEl]; omega), inL_true (by omega) (by rw [List.length_set, List.length_set, hEl]; omega)]
      simp only [cond_true]
      rw [show (i : Int) + 1 = ((i + 1 : Nat) : Int) by omega]
      refine hstep _ (by simp [hEl]) (fun j hj => ?_)
      have hj' := hE.2 j hj
      rw [List.getElem?_set, List.getElem?_set, List.getElem?_set]
      simp only [List.length_set, hEl]
      unfold endV
      by_cases c2 : i + 2 = j
      · rw [if_pos c2, if_pos (by omega), if_neg (by omega), if_neg (by omega), if_pos ⟨by omega, by rw [show (j : Int) - 2 = (i : Int) by omega]; exact hb⟩]
      · rw [if_neg c2]
        by_cases c1 : i + 1 = j
        · rw [if_pos c1, if_pos (by omega), if_neg (by omega), if_pos ⟨by omega, by rw [show (j : Int) - 1 = (i : Int) by omega]; exact hb⟩]
        · rw [if_neg c1]
          by_cases c0 : i = j
          · rw [if_pos c0, if_pos (by omega), if_pos ⟨by omega, by rw [show (j : Int) = (i : Int) by omega]; exact hb⟩]
          · rw [if_neg c0, hj']
            unfold endV
            congr 1
            have r : ∀ m : Int, m ≠ (i : Int) → ((m < (i : Int) ∧ endsI l f m = true) ↔ (m < (i : Int) + 1 ∧ endsI l f m = true)) := by
              intro m hm
              constructor
              · rintro ⟨_, h⟩; exact ⟨by omega, h⟩
              · rintro ⟨_, h⟩; exact ⟨by omega, h⟩
            exact ite_iff (r j (by omega)) (ite_iff (r (j - 1) (by omega)) (ite_iff (r (j - 2) (by omega)) rfl))
    | false =>
      simp only [cond_false]
      rw [show (i : Int) + 1 = ((i + 1 : Nat) : Int) by omega]
      refine hstep _ hEl (fun j hj => ?_)
      rw [hE.2 j hj]
      unfold endV
      congr 1
      have r : ∀ m : Int, ((m < (i : Int) ∧ endsI l f m = true) ↔ (m < (i : Int) + 1 ∧ endsI l f m = true)) := by
        intro m
        constructor
        · rintro ⟨_, h⟩; exact ⟨by omega, h⟩
        · rintro ⟨_, h⟩
          refine ⟨?_, h⟩
          by_cases hmi : m = (i : Int)
          · rw [hmi, hb] at h; cases h
          · omega
      exact ite_iff (r j) (ite_iff (r (j - 1)) (ite_iff (r (j - 2)) rfl))
theorem index_loop (l : List Int) (n : Int) (hz : l.length ≤ 1048576) : ∀ (k j : Nat), j + k = l.length → ∃ r : Int, Z6t.a l n (l.length : Int) (j : Int) = some r ∧ decide (r ≥ 0) = decide (n ∈ l.drop j) ∧ Z3g.a l n (j : Int) = some (decide (n ∈ l.drop j)) := by
  intro k
  induction k with
  | zero =>
    intro j hj
    rw [Z6t.a_eq, Z3g.a_eq, lt_nat, show decide (j < l.length) = false by simp; omega, List.drop_eq_nil_of_le (by omega)]
    exact ⟨-1, rfl, by simp, by simp⟩
  | succ k ih =>
    intro j hj
    have h1 : j < l.length := by omega
    obtain ⟨r, i1, i2, i3⟩ := ih (j + 1) (by omega)
    rw [Z6t.a_eq, Z3g.a_eq, lt_nat, inL_nat, decide_eq_true h1, w64_succ j l.length h1 (by omega), rd_nat (τ := .int .i64) l j h1, List.drop_eq_getElem_cons h1]
    simp only [cond_true]
    by_cases h : n = l[j]
    · rw [decide_eq_true h, decide_eq_true h.symm, decide_eq_true (show n ∈ l[j] :: l.drop (j + 1) by rw [h]; exact List.mem_cons_self)]
      exact ⟨(j : Int), rfl, by simp, rfl⟩
    · have e : decide (n ∈ l[j] :: l.drop (j + 1)) = decide (n ∈ l.drop (j + 1)) := by simp only [List.mem_cons, h, false_or]
      rw [e, decide_eq_false h, decide_eq_false (fun q : l[j] = n => h q.symm)]
      exact ⟨r, i1, i2, i3⟩
theorem has_val (l : List Int) (n : Int) (hz : l.length ≤ 1048576) : Z6u l n = some (decide (n ∈ l)) ∧ Z3g l n = some (decide (n ∈ l)) := by
  obtain ⟨r, i1, i2, i3⟩ := index_loop l n hz l.length 0 (by omega)
  rw [show ((0 : Nat) : Int) = 0 by rfl] at i1 i3
  rw [Z6u_eq, Z6t_eq, i1, Z3g_eq, i3]
  rw [Option.bind_some, i2, List.drop_zero]
  exact ⟨rfl, rfl⟩
theorem branch_val (n : Int) : Z6w n = some (decide (5 ≤ n) && decide (n ≤ 10)) := by rw [Z6w_eq, within_val]; rfl
theorem load_val (n : Int) : Z6x n = some (decide (11 ≤ n) && decide (n ≤ 17)) := by rw [Z6x_eq, within_val]; rfl
theorem store_val (n : Int) : Z6y n = some (decide (18 ≤ n) && decide (n ≤ 21)) := by rw [Z6y_eq, within_val]; rfl
def widV (n : Int) : Int × Bool :=
  if n = 11 then (1, true) else if n = 12 then (2, true) else if n = 13 then (4, true) else if n = 14 then (8, true) else if n = 15 then (1, false) else if n = 16 then (2, false) else if n = 17 then (4, false)
  else if n = 18 then (1, false) else if n = 19 then (2, false) else if n = 20 then (4, false) else if n = 21 then (8, false) else (0, false)
theorem spec_wid (n : Int) (h : 1 ≤ n) (h' : n ≤ 64) : Z3d n = some (widV n) := by
  rw [Z3d_eq]
  obtain ⟨k, rfl⟩ := fin65 (show 0 ≤ n by omega) h'
  clear h h'; revert k
  decide +kernel
theorem impl_wid (n : Int) (h : 11 ≤ n) (h' : n ≤ 21) : Z6z n = some (widV n) := by
  rw [Z6z_eq, store_val]
  have : n = 11 ∨ n = 12 ∨ n = 13 ∨ n = 14 ∨ n = 15 ∨ n = 16 ∨ n = 17 ∨ n = 18 ∨ n = 19 ∨ n = 20 ∨ n = 21 := by omega
  rcases this with rfl | rfl | rfl | rfl | rfl | rfl | rfl | rfl | rfl | rfl | rfl <;> decide +kernel
theorem wid_pos (n : Int) (h : 11 ≤ n) (h' : n ≤ 21) : 1 ≤ (widV n).1 ∧ (widV n).1 ≤ 8 := by
  have : n = 11 ∨ n = 12 ∨ n = 13 ∨ n = 14 ∨ n = 15 ∨ n = 16 ∨ n = 17 ∨ n = 18 ∨ n = 19 ∨ n = 20 ∨ n = 21 := by omega
  rcases this with rfl | rfl | rfl | rfl | rfl | rfl | rfl | rfl | rfl | rfl | rfl <;> decide
theorem wid_zero (n : Int) (h : ¬ (11 ≤ n ∧ n ≤ 21)) : (widV n).1 = 0 := by
  unfold widV
  repeat rw [if_neg (by omega)]
theorem branch_form (n : Int) (h : 1 ≤ n) (h' : n ≤ 64) : decide ((shp n).1 = 4) = (decide (5 ≤ n) && decide (n ≤ 10)) := by
  obtain ⟨k, rfl⟩ := fin65 (show 0 ≤ n by omega) h'
  clear h'; revert k
  decide +kernel
theorem ends_rd {l : List Ins} {f : Int} {E : List Int} (hE : EndsAre l f l.length E) (i : Int) (h : 0 ≤ i) (h' : i < (l.length : Int)) : rd (τ := .int .i64) E i = endV l f l.length i := by
  obtain ⟨j, rfl⟩ := Int.eq_ofNat_of_zero_le h
  have := hE.2 j (by omega)
  unfold rd
  rw [Int.toNat_natCast, List.getD_eq_getElem?_getD, this]; rfl
theorem endV_full (l : List Ins) (f i : Int) (h : i < (l.length : Int)) : endV l f l.length i = if endsI l f i = true then 1 else if endsI l f (i - 1) = true then 2 else if endsI l f (i - 2) = true then 3 else 0 := by
  unfold endV
  exact ite_iff ⟨fun h => h.2, fun hh => ⟨h, hh⟩⟩ (ite_iff ⟨fun h => h.2, fun hh => ⟨by omega, hh⟩⟩ (ite_iff ⟨fun h => h.2, fun hh => ⟨by omega, hh⟩⟩ rfl))
theorem ends_bits {l : List Ins} {f : Int} {E : List Int} (hE : EndsAre l f l.length E) (i : Int) (h : 0 ≤ i) (h' : i < (l.length : Int)) :
    decide (rd (τ := .int .i64) E i = 1) = endsI l f i ∧ decide (rd (τ := .int .i64) E i = 2) = endsI l f (i - 1) ∧ decide (rd (τ := .int .i64) E i = 3) = endsI l f (i - 2) ∧ decide (rd (τ := .int .i64) E i < 2) = (!endsI l f (i - 1) && !endsI l f (i - 2)) := by
  have hx := ends_ex l f i
  rw [ends_rd hE i h h', endV_full l f i h']
  cases h0 : endsI l f i <;> cases h1 : endsI l f (i - 1) <;> cases h2 : endsI l f (i - 2) <;> simp_all
theorem wrap_four (n : Int) (h : -9223372036854775808 ≤ n) (h' : n ≤ 9223372036854775807) : IntKind.wrap .i64 (n.tdiv 4) = n.tdiv 4 := by
  have : -9223372036854775808 ≤ n.tdiv 4 ∧ n.tdiv 4 ≤ 9223372036854775807 := by
    rcases Int.le_total 0 n with h0 | h0
    · rw [Int.tdiv_eq_ediv_of_nonneg h0]; omega
    · have : n.tdiv 4 = -((-n).tdiv 4) := by rw [Int.neg_tdiv, Int.neg_neg]
      rw [this, Int.tdiv_eq_ediv_of_nonneg (by omega)]; omega
  exact w64 this.1 this.2
theorem tdiv4 (n : Int) (h : n.tmod 4 = 0) : n.tdiv 4 = n / 4 := by
  rw [Int.tdiv_eq_ediv_of_dvd]; exact Int.dvd_iff_tmod_eq_zero.mpr h
theorem InsR.imm {x : Ins} (h : InsR x) : -2147483648 ≤ x.2.2.2.2 ∧ x.2.2.2.2 ≤ 2147483647 := by
  have hrv := h.2.2.2
  have hsf := shp_form h.1 h.2.1
  unfold rightV at hrv
  simp only [Bool.and_eq_true] at hrv
  have hrv := hrv.2
  generalize (shp x.1).1 = ff at *
  unfold immR at hrv
  rcases forms hsf with rfl | rfl | rfl | rfl | rfl | rfl | rfl | rfl | rfl <;> simp at hrv <;> omega
theorem goes_both (l : List Ins) (f at_ : Int) (calls E : List Int) (hE : EndsAre l f l.length E) (hf : 16 ≤ f ∧ f ≤ 128) (hl : l.length ≤ 1048576) (i : Int) (h : 0 ≤ i) (h' : i < (l.length : Int)) (hr : InsR (rd (τ := TIns) l i)) :
    ∃ b, Z6v (l, f, at_, calls, E) i = some b ∧ Z3h l i (rd (τ := TIns) l i).2.2.2.2 f = some b := by
  have hi := hr.imm
  rw [Z6v_eq, Z3h_eq]
  dsimp only
  rw [inL_true h h']
  generalize (rd (τ := TIns) l i).2.2.2.2 = m at *
  rw [wrap_four m (by omega) (by omega)]
  by_cases h4 : m.tmod 4 = 0
  · rw [tdiv4 m h4, w64 (n := i + m / 4) (by omega) (by omega), w64 (n := (l.length : Int) - 1) (by omega) (by omega), w64 (n := i + m / 4 - 1) (by omega) (by omega), w64 (n := i + m / 4 - 2) (by omega) (by omega), within_val, spec_ends_val l f _ hf hl (by omega) (by omega), spec_ends_val l f _ hf hl (by omega) (by omega)]
    simp only [h4, decide_true, cond_true, Option.bind_some]
    by_cases ha : 2 ≤ i + m / 4
    · by_cases hb : i + m / 4 < (l.length : Int)
      · have he := ends_bits hE (i + m / 4) (by omega) hb
        rw [inL_true (by omega) (by rw [hE.1]; exact hb), he.2.2.2, decide_eq_true ha, show decide (i + m / 4 ≤ (l.length : Int) - 1) = true by simp; omega, decide_eq_true hb]
        simp only [Bool.and_self, cond_true]
        cases endsI l f (i + m / 4 - 1) <;> exact ⟨_, rfl, rfl⟩
      · rw [show decide (i + m / 4 ≤ (l.length : Int) - 1) = false by simp; omega, decide_eq_false hb]
        rw [decide_eq_true ha]
        exact ⟨_, rfl, rfl⟩
    · rw [decide_eq_false ha]
      exact ⟨_, rfl, rfl⟩
  · rw [decide_eq_false h4]
    exact ⟨_, rfl, rfl⟩
theorem fault_both (l : List Ins) (f at_ : Int) (calls E : List Int) (hE : EndsAre l f l.length E) (hf : 16 ≤ f ∧ f ≤ 128) (ha : 0 ≤ at_ ∧ at_ ≤ 1048575) (hl : l.length ≤ 1048576) (hc : calls.length ≤ 1048576) (i : Int) (h : 2 ≤ i) (h' : i < (l.length : Int)) (hr : InsR (rd (τ := TIns) l i)) :
    ∃ b, Z70 (l, f, at_, calls, E) i = some b ∧ Z3i l i at_ f calls = some b := by
  obtain ⟨g, g1, g2⟩ := goes_both l f at_ calls E hE hf hl i (by omega) h' hr
  have he := ends_bits hE i (by omega) h'
  rw [Z70_eq, Z3i_eq]
  dsimp only
  rw [inL_true (by omega) h', inL_true (by omega) (by rw [hE.1]; exact h'), g1, g2, he.1, he.2.1, he.2.2.1, w64 (n := i - 2) (by omega) (by omega), w64 (n := i - 1) (by omega) (by omega), spec_ends_val l f i hf hl (by omega) (by omega), spec_ends_val l f (i - 1) hf hl (by omega) (by omega), spec_ends_val l f (i - 2) hf hl (by omega) (by omega), (has_val calls _ hc).1, (has_val calls _ hc).2, spec_wid _ hr.1 hr.2.1, spec_shape _ (by have := hr.1; omega) hr.2.1, branch_val, load_val, store_val]
  have hbf := branch_form _ hr.1 hr.2.1
  simp only [Option.bind_some, cond_true, joinB, hbf, within_val]
  clear g1 g2 he hr hE hbf
  generalize endsI l f i = B0 at *
  generalize endsI l f (i - 1) = B1 at *
  generalize endsI l f (i - 2) = B2 at *
  obtain ⟨x, hx⟩ : ∃ x : Ins, rd (τ := TIns) l i = x := ⟨_, rfl⟩
  rw [hx] at *
  clear hx
  obtain ⟨n, d, a, b, m⟩ := x
  dsimp only at *
  have hw := impl_wid n
  have hwp := wid_pos n
  have hwz := wid_zero n
  by_cases h4 : n = 4
  · subst h4
    simp only [decide_true, cond_true]
    cases B2 <;> exact ⟨_, rfl, rfl⟩
  · rw [decide_eq_false h4]
    simp only [cond_false]
    by_cases h3 : n = 3
    · subst h3
      simp only [decide_true, cond_true]
      by_cases hd : d = 1
      · rw [decide_eq_true hd]
        cases decide (IntKind.wrap .i64 (IntKind.wrap .i64 (at_ + IntKind.wrap .i64 (4 * i)) + m) ∈ calls) <;> exact ⟨_, rfl, rfl⟩
      · rw [decide_eq_false hd]
        cases decide (d = 0) <;> cases g <;> exact ⟨_, rfl, rfl⟩
    · rw [decide_eq_false h3]
      simp only [cond_false]
      cases hb : (decide (5 ≤ n) && decide (n ≤ 10)) with
      | true => cases g <;> exact ⟨_, rfl, rfl⟩
      | false =>
        simp only [cond_false]
        have hm : 0 ≤ (widV n).1 ∧ (widV n).1 ≤ 8 := by
          by_cases q : 11 ≤ n ∧ n ≤ 21
          · have := hwp q.1 q.2; omega
          · rw [hwz q]; decide
        rw [w64 (n := f - 8) (by omega) (by omega), w64 (n := f - 8 - (widV n).1) (by omega) (by omega)]
        by_cases q : 11 ≤ n ∧ n ≤ 21
        · have hwn := hwp q.1 q.2
          rw [hw q.1 q.2]
          simp only [Option.bind_some]
          rw [w64 (n := f - 8 - (widV n).1) (by omega) (by omega), show decide ((widV n).1 > 0) = true by simp; omega, show decide ((widV n).1 = 0) = false by simp; omega]
          have hls : (bif (decide (11 ≤ n) && decide (n ≤ 17)) then true else (decide (18 ≤ n) && decide (n ≤ 21))) = true := by
            by_cases q2 : n ≤ 17
            · simp [q.1, q2]
            · rw [decide_eq_false q2, show decide (18 ≤ n) = true by simp; omega, decide_eq_true q.2]; simp
          have hm2 : (decide (0 ≤ m) && decide (m ≤ f - 8 - (widV n).1)) = (!decide (m < 0) && !decide (m > f - 8 - (widV n).1)) := by
            by_cases z1 : m < 0 <;> by_cases z2 : m > f - 8 - (widV n).1 <;> simp [z1, z2] <;> omega
          rw [hm2]
          clear hm hw hwp hwz hwn hm2 hb
          generalize (decide (11 ≤ n) && decide (n ≤ 17)) = L at *
          generalize (decide (18 ≤ n) && decide (n ≤ 21)) = S at *
          generalize decide (m < 0) = z1
          generalize decide (m > f - 8 - (widV n).1) = z2
          generalize decide (m.tmod (widV n).1 = 0) = z3
          generalize decide (d = 1) = z4
          generalize decide (d = 2) = z5
          generalize decide (a = 2) = z6
          cases L <;> cases S <;> first | (cases hls; done) | (cases z4 <;> cases z5 <;> cases B0 <;> cases B1 <;> first | exact ⟨_, rfl, rfl⟩ | (cases z6 <;> first | exact ⟨_, rfl, rfl⟩ | (cases z1 <;> cases z2 <;> cases z3 <;> exact ⟨_, rfl, rfl⟩)))
        · have hls1 : (decide (11 ≤ n) && decide (n ≤ 17)) = false := by
            by_cases q1 : 11 ≤ n
            · rw [show decide (n ≤ 17) = false by simp; omega]; simp
            · simp [q1]
          have hls2 : (decide (18 ≤ n) && decide (n ≤ 21)) = false := by
            by_cases q1 : 18 ≤ n
            · rw [show decide (n ≤ 21) = false by simp; omega]; simp
            · simp [q1]
          rw [hls1, hls2, hwz q]
          cases decide (d = 1) <;> cases decide (d = 2) <;> cases B0 <;> cases B1 <;> exact ⟨_, rfl, rfl⟩
def frameV (f : Int) : Bool := bif decide (16 ≤ f) && decide (f ≤ 128) then decide (f.tmod 16 = 0) else false
theorem frame_val (f : Int) : Z6b f = some (frameV f) ∧ Z2x f = some (frameV f) := by
  rw [Z6b_eq, Z2x_eq, within_val, spec_in_val]
  simp only [Option.bind_some, frameV]
  cases (decide (16 ≤ f) && decide (f ≤ 128)) <;> exact ⟨rfl, rfl⟩
theorem frameV_range {f : Int} (h : frameV f = true) : 16 ≤ f ∧ f ≤ 128 := by
  unfold frameV at h
  cases hb : (decide (16 ≤ f) && decide (f ≤ 128)) with
  | true => simpa using hb
  | false => rw [hb] at h; cases h
def codeAtV (a : Int) : Bool := bif decide (0 ≤ a) && decide (a ≤ 1048575) then decide (a.tmod 4 = 0) else false
theorem codeAt_val (a : Int) : Z6e a = some (codeAtV a) := by
  rw [Z6e_eq, within_val]
  simp only [Option.bind_some, codeAtV]
  cases (decide (0 ≤ a) && decide (a ≤ 1048575)) <;> rfl
theorem codeAtV_range {a : Int} (h : codeAtV a = true) : 0 ≤ a ∧ a ≤ 1048575 := by
  unfold codeAtV at h
  cases hb : (decide (0 ≤ a) && decide (a ≤ 1048575)) with
  | true => simpa using hb
  | false => rw [hb] at h; cases h
def codeSizeV (n : Nat) : Bool := bif decide ((n : Int).tmod 4 = 0) then decide ((n : Int) ≤ 256) else false
theorem codeSize_val (t : ByteArray) : Z6c t = some (codeSizeV t.size) ∧ Z2y t = some (codeSizeV t.size) := by
  rw [Z6c_eq, Z2y_eq]
  unfold codeSizeV
  cases decide ((t.size : Int).tmod 4 = 0) <;> exact ⟨rfl, rfl⟩
theorem codeSizeV_range {n : Nat} (h : codeSizeV n = true) : n % 4 = 0 ∧ n ≤ 256 := by
  unfold codeSizeV at h
  cases hb : decide ((n : Int).tmod 4 = 0) with
  | true =>
    rw [hb] at h
    simp only [cond_true, decide_eq_true_eq] at h hb
    rw [Int.tmod_eq_emod_of_nonneg (by omega)] at hb
    omega
  | false => rw [hb] at h; cases h
def funcSizeV (n : Nat) : Bool := bif codeSizeV n then decide ((n : Int) ≥ 20) else false
theorem funcSize_val (t : ByteArray) : Z6d t = some (funcSizeV t.size) := by
  rw [Z6d_eq, (codeSize_val t).1]
  simp only [Option.bind_some, funcSizeV]
  cases codeSizeV t.size <;> rfl
theorem rules_both (l : List Ins) (f at_ : Int) (calls E : List Int) (hE : EndsAre l f l.length E) (hf : 16 ≤ f ∧ f ≤ 128) (ha : 0 ≤ at_ ∧ at_ ≤ 1048575) (hl : l.length ≤ 1048576) (hc : calls.length ≤ 1048576) (hr : ∀ x ∈ l, InsR x) :
    ∀ (k i : Nat), 2 ≤ i → i + k = l.length → ∃ v, Z71.c l (l, f, at_, calls, E) i = some v ∧ Z3j.b at_ f calls l ((l.length : Int) - 1) i = some v := by
  intro k
  induction k with
  | zero =>
    intro i h2 hk
    rw [Z71.c_eq, Z3j.b_eq, lt_nat, show decide (i < l.length) = false by simp; omega, show decide ((i : Int) ≤ (l.length : Int) - 1) = false by simp; omega]
    exact ⟨_, rfl, rfl⟩
  | succ k ih =>
    intro i h2 hk
    obtain ⟨v, v1, v2⟩ := ih (i + 1) (by omega) (by omega)
    have hi : i < l.length := by omega
    obtain ⟨b, b1, b2⟩ := fault_both l f at_ calls E hE hf ha hl hc i (by omega) (by omega) (by rw [rd_nat (τ := TIns) l i hi]; exact hr _ (List.getElem_mem hi))
    rw [Z71.c_eq, Z3j.b_eq, lt_nat, decide_eq_true hi, show decide ((i : Int) ≤ (l.length : Int) - 1) = true by simp; omega, b1, b2, w64_succ i l.length hi (by omega), v1, v2]
    simp only [cond_true, Option.bind_some]
    cases decide (b = 0) <;> exact ⟨_, rfl, rfl⟩
theorem lint_both (code : ByteArray) (at_ f : Int) (calls : List Int) (hz : code.size ≤ 1048576) (hc : calls.length ≤ 1048576) : ∃ v, Z71 code at_ f calls = some v ∧ Z3j code at_ f calls = some v := by
  rw [Z71_eq, Z3j_eq, codeAt_val, spec_in_val, (frame_val f).1, (frame_val f).2, funcSize_val, (codeSize_val code).2]
  simp only [Option.bind_some, joinB]
  have ec : (bif !(decide (0 ≤ at_) && decide (at_ ≤ 1048575)) then true else !decide (at_.tmod 4 = 0)) = !codeAtV at_ := by
    unfold codeAtV; cases (decide (0 ≤ at_) && decide (at_ ≤ 1048575)) <;> rfl
  cases hA : codeAtV at_ with
  | false =>
    unfold codeAtV at hA
    cases hq : (decide (0 ≤ at_) && decide (at_ ≤ 1048575)) with
    | false => exact ⟨_, rfl, rfl⟩
    | true => rw [hq] at hA; simp only [cond_true] at hA; rw [hA]; exact ⟨_, rfl, rfl⟩
  | true =>
    have ha := codeAtV_range hA
    have hq : (decide (0 ≤ at_) && decide (at_ ≤ 1048575)) = true := by simp [ha]
    have h4 : decide (at_.tmod 4 = 0) = true := by unfold codeAtV at hA; rw [hq] at hA; exact hA
    rw [hq, h4]
    simp only [Bool.not_true, cond_false]
    cases hF : frameV f with
    | false => exact ⟨_, rfl, rfl⟩
    | true =>
      have hf := frameV_range hF
      simp only [Bool.not_true, cond_false]
      cases hS : codeSizeV code.size with
      | false => unfold funcSizeV; rw [hS]; exact ⟨_, rfl, rfl⟩
      | true =>
        have hs := codeSizeV_range hS
        unfold funcSizeV
        rw [hS]
        simp only [Bool.not_true, cond_false, cond_true]
        by_cases h20 : (code.size : Int) ≥ 20
        · rw [decide_eq_true h20, show decide ((code.size : Int) < 20) = false by simp; omega]
          simp only [Bool.not_true, cond_false]
          cases instrs_both code hs.1 (by omega) with
          | bad k hi hsp h0 =>
            rw [hi, hsp]
            simp only [Option.bind_some, Bool.not_false, cond_true]
            rw [decide_eq_true (show k ≥ 0 from h0)]
            exact ⟨_, rfl, rfl⟩
          | ok l hi hsp hll hr =>
            rw [hi, hsp, Z6q_eq]
            simp only [Option.bind_some, Bool.not_true, cond_false]
            rw [show decide ((-1 : Int) ≥ 0) = false by rfl]
            simp only [cond_false]
            have hl5 : 5 ≤ l.length := by omega
            have hl64 : l.length ≤ 64 := by omega
            have last : ∃ v, Z71.a at_ f calls l [(22, 2, 2, 0, (IntKind.wrap .i64 (0 - f))), (21, 0, 2, 1, (IntKind.wrap .i64 (f - 8)))] 2 2 = some v ∧ Z3j.a at_ f calls l 2 = some v := by
              rw [Z71.a_eq, Z3j.a_eq]
              rw [show decide ((2 : Int) < 2) = false by rfl]
              simp only [cond_false, joinB]
              rw [w64 (n := (l.length : Int) - 1) (by omega) (by omega), inL_true (by omega) (by omega), room_le (by rw [Int.toNat_natCast]; omega) (by rw [Int.toNat_natCast]; omega), show decide ((0 : Int) ≤ (l.length : Int)) = true by simp, Int.toNat_natCast]
              simp only [cond_true, Bool.and_self]
              obtain ⟨E, hE, e⟩ := lint_ends at_ calls l f hf (by omega) (by omega) (l.length - 4) 2 (List.replicate l.length 0) (by omega) (by omega) ⟨by simp, fun j hj => by
                rw [List.getElem?_replicate, if_pos hj]
                unfold endV
                have z : ∀ m : Int, m < ((2 : Nat) : Int) → endsI l f m = false := by
                  intro m hm
                  unfold endsI
                  rw [show decide (2 ≤ m) = false by simp; omega]; simp
                rw [if_neg (fun h => by rw [z _ h.1] at h; cases h.2), if_neg (fun h => by rw [z _ h.1] at h; cases h.2), if_neg (fun h => by rw [z _ h.1] at h; cases h.2)]⟩
              rw [show ((2 : Nat) : Int) = 2 by rfl] at e
              rw [e]
              obtain ⟨v, v1, v2⟩ := rules_both l f at_ calls E hE hf ha (by omega) (by omega) hr (l.length - 2) 2 (by omega) (by omega)
              rw [show ((2 : Nat) : Int) = 2 by rfl] at v1 v2
              rw [v1, v2]
              cases decide ((rd (τ := TIns) l ((l.length : Int) - 1)).1 = 4) <;> cases decide ((rd (τ := TIns) l ((l.length : Int) - 1)).1 = 3) <;> cases decide ((rd (τ := TIns) l ((l.length : Int) - 1)).2.1 = 0) <;> exact ⟨_, rfl, rfl⟩
            have step : ∀ (j : Nat), j < 2 → (∃ v, Z71.a at_ f calls l [(22, 2, 2, 0, (IntKind.wrap .i64 (0 - f))), (21, 0, 2, 1, (IntKind.wrap .i64 (f - 8)))] 2 ((j + 1 : Nat) : Int) = some v ∧ Z3j.a at_ f calls l ((j + 1 : Nat) : Int) = some v) →
                ∃ v, Z71.a at_ f calls l [(22, 2, 2, 0, (IntKind.wrap .i64 (0 - f))), (21, 0, 2, 1, (IntKind.wrap .i64 (f - 8)))] 2 (j : Int) = some v ∧ Z3j.a at_ f calls l (j : Int) = some v := by
              rintro j hj ⟨v, v1, v2⟩
              rw [Z71.a_eq, Z3j.a_eq, show decide ((j : Int) < 2) = true by simp; omega, inL_true (i := (j : Int)) (by omega) (by simp; omega), inL_true (i := (j : Int)) (by omega) (by omega), w64 (n := (j : Int) + 1) (by omega) (by omega), show (j : Int) + 1 = ((j + 1 : Nat) : Int) by omega, v1, v2, Z3c_eq]
              simp only [cond_true, Option.bind_some]
              rw [inL_true (i := (j : Int)) (by omega) (by simp; omega)]
              simp only [cond_true]
              cases eqD TIns (rd (τ := TIns) l (j : Int)) (rd (τ := TIns) [(22, 2, 2, 0, (IntKind.wrap .i64 (0 - f))), (21, 0, 2, 1, (IntKind.wrap .i64 (f - 8)))] (j : Int)) <;> exact ⟨_, rfl, rfl⟩
            exact step 0 (by omega) (step 1 (by omega) last)
        · rw [decide_eq_false h20, show decide ((code.size : Int) < 20) = true by simp; omega]
          exact ⟨_, rfl, rfl⟩
abbrev TSym : Ty := .pair .str (.pair (.int .i64) (.pair (.int .i64) (.pair (.int .i64) (.int .i64))))
abbrev Sym : Type := ByteArray × Int × Int × Int × Int
abbrev Img : Type := ByteArray × ByteArray × List Sym
noncomputable def nameV (t : ByteArray) : Bool := (Z67 t).getD false
theorem name_val (t : ByteArray) : Z67 t = some (nameV t) ∧ Z2s t = some (nameV t) := by
  obtain ⟨v, h1, h2⟩ := both_name t
  unfold nameV
  rw [h1, h2]; exact ⟨rfl, rfl⟩
def dupV (l : List Sym) (name : ByteArray) : Bool := l.any fun y => decide (y.1 = name)
theorem dupV_pos {y : Sym} {l : List Sym} {n : ByteArray} (h : y.1 = n) : dupV (y :: l) n = true := by simp [dupV, h]
theorem dupV_neg {y : Sym} {l : List Sym} {n : ByteArray} (h : ¬ y.1 = n) : dupV (y :: l) n = dupV l n := by simp [dupV, h]
theorem impl_dup (e : Int × Int) (im : Img) (s : Sym) (l : List Sym) (hl : l.length ≤ 16) : ∀ (k j : Nat), j + k = l.length → Z68.a e im s l (l.length : Int) (j : Int) = if dupV (l.drop j) s.1 = true then some (24, e) else Z68.a e im s l (l.length : Int) (l.length : Int) := by
  intro k
  induction k with
  | zero => intro j h; have : j = l.length := by omega
            subst this; simp [dupV]
  | succ k ih =>
    intro j h
    have hj : j < l.length := by omega
    rw [Z68.a_eq, lt_nat, inL_nat, decide_eq_true hj, w64_succ j l.length hj (by omega), ih (j + 1) (by omega), rd_nat (τ := TSym) l j hj, strEq_dec, List.drop_eq_getElem_cons hj]
    by_cases hn : l[j].1 = s.1
    · rw [dupV_pos hn, decide_eq_true hn]; rfl
    · rw [dupV_neg hn, decide_eq_false hn]; rfl
theorem spec_dup (im : Img) (c d : Int) (i : Nat) (s : Sym) (hi : i ≤ im.2.2.length) (hl : im.2.2.length ≤ 16) : ∀ (k j : Nat), j + k = i → Z2t.b im c d (i : Int) s (j : Int) = if dupV ((im.2.2.take i).drop j) s.1 = true then some ((i : Int), 24) else Z2t.b im c d (i : Int) s (i : Int) := by
  intro k
  induction k with
  | zero => intro j h; have : j = i := by omega
            subst this; simp [dupV]
  | succ k ih =>
    intro j h
    have hj : j < i := by omega
    rw [Z2t.b_eq, lt_nat, inL_nat, decide_eq_true hj, decide_eq_true (show j < im.2.2.length by omega), w64_succ j i hj (by omega), ih (j + 1) (by omega), rd_nat (τ := TSym) im.2.2 j (by omega), strEq_dec, List.drop_eq_getElem_cons (show j < (im.2.2.take i).length by simp; omega)]
    have hg : (im.2.2.take i)[j]'(by simp; omega) = im.2.2[j] := List.getElem_take
    rw [hg]
    by_cases hn : im.2.2[j].1 = s.1
    · rw [dupV_pos hn, decide_eq_true hn]; rfl
    · rw [dupV_neg hn, decide_eq_false hn]; rfl
noncomputable def lintS (im : Img) (i : Nat) (s : Sym) (e : Int × Int) : Int × Int × Int :=
  if nameV s.1 = false then (3, e)
  else if dupV (im.2.2.take i) s.1 = true then (24, e)
  else if s.2.1 = 1 then
    if s.2.2.1 = e.1 ∧ 1 ≤ s.2.2.2.1 ∧ s.2.2.2.1 ≤ (im.1.size : Int) - e.1 then (0, s.2.2.1 + s.2.2.2.1, e.2) else (4, e)
  else if s.2.1 = 2 then
    if e.2 ≤ s.2.2.1 ∧ s.2.2.1 ≤ (im.2.1.size : Int) ∧ s.2.2.1 % 8 = 0 ∧ s.2.2.2.1 % 8 = 0 ∧ 1 ≤ s.2.2.2.1 ∧ s.2.2.2.1 ≤ (im.2.1.size : Int) - s.2.2.1 then
      if s.2.2.2.2 = 0 then (0, e.1, s.2.2.1 + s.2.2.2.1) else (17, e.1, s.2.2.1 + s.2.2.2.1)
    else (4, e)
  else (26, e)
structure EndsR (im : Img) (e : Int × Int) : Prop where
  c : 0 ≤ e.1 ∧ e.1 ≤ (im.1.size : Int)
  d : 0 ≤ e.2 ∧ e.2 ≤ (im.2.1.size : Int)
structure ImgSz (im : Img) : Prop where
  n : im.2.2.length ≤ 16
  c : im.1.size ≤ 1024
  d : im.2.1.size ≤ 256
theorem tmod8 {n : Int} : decide (n.tmod 8 = 0) = decide (n % 8 = 0) := by
  congr 1; exact propext ⟨fun h => by rw [← Int.dvd_iff_tmod_eq_zero] at h; omega, fun h => by rw [← Int.dvd_iff_tmod_eq_zero]; omega⟩
theorem impl_lintS (im : Img) (hz : ImgSz im) (i : Nat) (hi : i < im.2.2.length) (e : Int × Int) (he : EndsR im e) : Z68 im i e = some (lintS im i im.2.2[i] e) := by
  obtain ⟨hn, hc, hd⟩ := hz
  rw [Z68_eq, inL_nat, decide_eq_true hi, rd_nat (τ := TSym) im.2.2 i hi, (name_val _).1, Int.toNat_natCast, show (Int.toNat 0) = 0 by rfl, List.drop_zero, show decide ((0 : Int) ≤ (i : Int)) = true by simp, show decide ((i : Int) ≤ (im.2.2.length : Int)) = true by simp; omega]
  simp only [cond_true, Bool.and_self, Nat.le_refl, decide_true, Option.bind_some]
  have hlt : (im.2.2.take i).length = i := by simp; omega
  have hd' := impl_dup e im im.2.2[i] (im.2.2.take i) (by omega) i 0 (by omega)
  rw [hlt, show ((0 : Nat) : Int) = 0 by rfl, List.drop_zero] at hd'
  rw [hlt, hd', Z68.a_eq, show decide ((i : Int) < (i : Int)) = false by simp]
  obtain ⟨s, hs⟩ : ∃ s : Sym, im.2.2[i] = s := ⟨_, rfl⟩
  rw [hs]
  obtain ⟨nm, kd, at_, sz, fr⟩ := s
  obtain ⟨ec, ed⟩ := e
  obtain ⟨⟨hc1, hc2⟩, ⟨hd1, hd2⟩⟩ := he
  dsimp only at *
  unfold lintS
  dsimp only
  simp only [cond_false, within_val, Option.bind_some, joinB]
  cases nameV nm with
  | false => rfl
  | true =>
    simp only [Bool.not_true, cond_false, Bool.true_eq_false, ↓reduceIte]
    by_cases hdup : dupV (im.2.2.take i) nm = true
    · rw [if_pos hdup, if_pos hdup]
    · rw [if_neg hdup, if_neg hdup]
      by_cases k1 : kd = 1
      · rw [decide_eq_true k1, if_pos k1]
        simp only [cond_true]
        by_cases h1 : at_ = ec
        · subst h1
          rw [w64 (n := (im.1.size : Int) - at_) (by omega) (by omega)]
          simp only [decide_true, Bool.not_true, cond_false]
          by_cases h2 : 1 ≤ sz ∧ sz ≤ (im.1.size : Int) - at_
          · rw [if_pos ⟨trivial, h2⟩, decide_eq_true h2.1, decide_eq_true h2.2, w64 (n := at_ + sz) (by omega) (by omega)]; rfl
          · rw [if_neg (fun hh => h2 hh.2), show (decide (1 ≤ sz) && decide (sz ≤ (im.1.size : Int) - at_)) = false by simpa using h2]; rfl
        · rw [decide_eq_false h1, if_neg (fun hh => h1 hh.1)]; rfl
      · rw [decide_eq_false k1, if_neg k1]
        simp only [cond_false]
        by_cases k2 : kd = 2
        · rw [decide_eq_true k2, if_pos k2, tmod8, tmod8]
          simp only [cond_true]
          by_cases h1 : ed ≤ at_ ∧ at_ ≤ (im.2.1.size : Int)
          · rw [w64 (n := (im.2.1.size : Int) - at_) (by omega) (by omega), decide_eq_true h1.1, decide_eq_true h1.2]
            simp only [Bool.and_self, Bool.not_true, cond_false]
            by_cases h2 : at_ % 8 = 0
            · by_cases h3 : sz % 8 = 0
              · by_cases h4 : 1 ≤ sz ∧ sz ≤ (im.2.1.size : Int) - at_
                · rw [if_pos ⟨h1.1, h1.2, h2, h3, h4⟩, decide_eq_true h2, decide_eq_true h3, decide_eq_true h4.1, decide_eq_true h4.2, w64 (n := at_ + sz) (by omega) (by omega)]
                  by_cases h5 : fr = 0
                  · rw [decide_eq_true h5, if_pos h5]; rfl
                  · rw [decide_eq_false h5, if_neg h5]; rfl
                · rw [if_neg (fun hh => h4 hh.2.2.2.2), decide_eq_true h2, decide_eq_true h3, show (decide (1 ≤ sz) && decide (sz ≤ (im.2.1.size : Int) - at_)) = false by simpa using h4]; rfl
              · rw [if_neg (fun hh => h3 hh.2.2.2.1), decide_eq_true h2, decide_eq_false h3]; rfl
            · rw [if_neg (fun hh => h2 hh.2.2.1), decide_eq_false h2]; rfl
          · rw [if_neg (fun hh => h1 ⟨hh.1, hh.2.1⟩), show (decide (ed ≤ at_) && decide (at_ ≤ (im.2.1.size : Int))) = false by simpa using h1]; rfl
        · rw [decide_eq_false k2, if_neg k2]; rfl
theorem spec_lintS (im : Img) (hz : ImgSz im) (i : Nat) (hi : i < im.2.2.length) (e : Int × Int) (he : EndsR im e) : Z2t.a im e.1 e.2 i = if (lintS im i im.2.2[i] e).1 = 0 then Z2t.a im (lintS im i im.2.2[i] e).2.1 (lintS im i im.2.2[i] e).2.2 ((i + 1 : Nat) : Int) else some ((i : Int), (lintS im i im.2.2[i] e).1) := by
  obtain ⟨hn, hc, hd⟩ := hz
  rw [Z2t.a_eq, inL_nat, lt_nat, decide_eq_true hi, rd_nat (τ := TSym) im.2.2 i hi, (name_val _).2]
  simp only [cond_true, Option.bind_some]
  have hd' := spec_dup im e.1 e.2 i im.2.2[i] (by omega) hn i 0 (by omega)
  rw [show ((0 : Nat) : Int) = 0 by rfl, List.drop_zero] at hd'
  rw [hd', Z2t.b_eq, show decide ((i : Int) < (i : Int)) = false by simp, w64_succ i im.2.2.length hi (by omega)]
  obtain ⟨s, hs⟩ : ∃ s : Sym, im.2.2[i] = s := ⟨_, rfl⟩
  rw [hs]
  obtain ⟨nm, kd, at_, sz, fr⟩ := s
  obtain ⟨ec, ed⟩ := e
  obtain ⟨⟨hc1, hc2⟩, ⟨hd1, hd2⟩⟩ := he
  dsimp only at *
  unfold lintS
  dsimp only
  simp only [cond_false]
  cases nameV nm with
  | false => rfl
  | true =>
    simp only [Bool.not_true, cond_false]
    by_cases hdup : dupV (im.2.2.take i) nm = true
    · simp [hdup]
    · simp only [hdup, if_false, Bool.false_eq_true]
      by_cases k1 : kd = 1
      · simp only [k1, decide_true, cond_true, if_true]
        by_cases h1 : at_ = ec
        · rw [← h1, w64 (n := (im.1.size : Int) - at_) (by omega) (by omega)]
          by_cases h2 : 1 ≤ sz
          · by_cases h3 : sz ≤ (im.1.size : Int) - at_
            · rw [w64 (n := at_ + sz) (by omega) (by omega)]
              simp [h2, h3, show ¬ sz < 1 by omega, show ¬ (im.1.size : Int) - at_ < sz by omega]
            · simp [h3, show ¬ sz < 1 by omega, show (im.1.size : Int) - at_ < sz by omega]
          · simp [h2, show sz < 1 by omega]
        · simp [h1]
      · simp only [k1, decide_false, cond_false, if_false]
        by_cases k2 : kd = 2
        · simp only [k2, decide_true, cond_true, if_true, tmod8]
          by_cases h1 : ed ≤ at_
          · by_cases h1' : at_ ≤ (im.2.1.size : Int)
            · rw [w64 (n := (im.2.1.size : Int) - at_) (by omega) (by omega), show decide (at_ < ed) = false by simp; omega, show decide (at_ > (im.2.1.size : Int)) = false by simp; omega]
              simp only [cond_false]
              by_cases h4 : 1 ≤ sz
              · by_cases h5 : sz ≤ (im.2.1.size : Int) - at_
                · rw [show decide (sz < 1) = false by simp; omega, show decide (sz > (im.2.1.size : Int) - at_) = false by simp; omega, w64 (n := at_ + sz) (by omega) (by omega)]
                  by_cases h2 : at_ % 8 = 0
                  · by_cases h3 : sz % 8 = 0
                    · by_cases h6 : fr = 0 <;> simp [h1, h1', h2, h3, h4, h5, h6]
                    · simp [h2, h3]
                  · simp [h2]
                · simp [h5, show ¬ sz < 1 by omega, show (im.2.1.size : Int) - at_ < sz by omega]
              · simp [h4, show sz < 1 by omega]
            · simp [h1', show ¬ at_ < ed by omega, show (im.2.1.size : Int) < at_ by omega]
          · simp [h1, show at_ < ed by omega]
        · simp [k2]
theorem lintS_ends {im : Img} {i : Nat} {s : Sym} {e : Int × Int} (he : EndsR im e) (h : (lintS im i s e).1 = 0) : EndsR im (lintS im i s e).2 := by
  obtain ⟨nm, kd, at_, sz, fr⟩ := s
  obtain ⟨ec, ed⟩ := e
  obtain ⟨⟨c1, c2⟩, ⟨d1, d2⟩⟩ := he
  dsimp only at *
  unfold lintS at h ⊢
  dsimp only at *
  split at h <;> (try (cases h; done))
  split at h <;> (try (cases h; done))
  rename_i n1 n2
  rw [if_neg n1, if_neg n2]
  split at h
  · rename_i k1
    rw [if_pos k1]
    split at h <;> (try (cases h; done))
    rename_i hh
    rw [if_pos hh]
    exact ⟨⟨by dsimp only; omega, by dsimp only; omega⟩, ⟨d1, d2⟩⟩
  · rename_i k1
    rw [if_neg k1]
    split at h
    · rename_i k2
      rw [if_pos k2]
      split at h <;> (try (cases h; done))
      rename_i hh
      rw [if_pos hh]
      split at h <;> (try (cases h; done))
      rename_i h3
      rw [if_pos h3]
      exact ⟨⟨c1, c2⟩, ⟨by dsimp only; omega, by dsimp only; omega⟩⟩
    · cases h
def ChainTo (im : Img) (n : Nat) (E : Nat → Int × Int) : Prop := E 0 = (0, 0) ∧ (∀ i, i ≤ n → EndsR im (E i)) ∧ ∀ (i : Nat) (h : i < im.2.2.length), i < n → lintS im i im.2.2[i] (E i) = (0, E (i + 1))
def endC (im : Img) (e : Int × Int) : Int := if im.2.2.length = 0 then 23 else if (rd (τ := TSym) im.2.2 0).2.1 ≠ 1 then 23 else if e.1 ≠ (im.1.size : Int) then 22 else 0
theorem syms_both (im : Img) (hz : ImgSz im) : ∀ (k i : Nat) (E : Nat → Int × Int), i + k = im.2.2.length → ChainTo im i E →
    (∃ n c : Int, c ≠ 0 ∧ Z72.a im (E i) (im.2.2.length : Int) i = some (n, 0, c) ∧ Z2t.a im (E i).1 (E i).2 i = some (n, c)) ∨
    (∃ E', ChainTo im im.2.2.length E' ∧ Z72.a im (E i) (im.2.2.length : Int) i = Z72.a im (E' im.2.2.length) (im.2.2.length : Int) (im.2.2.length : Int) ∧ Z2t.a im (E i).1 (E i).2 i = some (0, endC im (E' im.2.2.length))) := by
  intro k
  induction k with
  | zero =>
    intro i E hk hE
    have : i = im.2.2.length := by omega
    subst this
    refine Or.inr ⟨E, hE, rfl, ?_⟩
    rw [Z2t.a_eq, lt_nat]
    simp only [Nat.lt_irrefl, decide_false, cond_false, endC]
    by_cases h0 : im.2.2.length = 0
    · simp [h0]
    · rw [inL_true (i := 0) (by omega) (by omega), show decide ((im.2.2.length : Int) = 0) = false from decide_eq_false (by omega), if_neg h0]
      simp only [cond_false, cond_true]
      by_cases h1 : (rd (τ := TSym) im.2.2 0).2.1 = 1
      · simp only [h1, decide_true, Bool.not_true, cond_false, ne_eq, not_true_eq_false, ↓reduceIte]
        by_cases h2 : (E im.2.2.length).1 = (im.1.size : Int)
        · simp [h2]
        · simp [h2]
      · simp [h1]
  | succ k ih =>
    intro i E hk hE
    have hi : i < im.2.2.length := by omega
    have he := hE.2.1 i (Nat.le_refl _)
    rw [Z72.a_eq, lt_nat, decide_eq_true hi, impl_lintS im hz i hi (E i) he, spec_lintS im hz i hi (E i) he, w64_succ i im.2.2.length hi (by have := hz.n; omega)]
    simp only [cond_true, Option.bind_some]
    by_cases h0 : (lintS im i im.2.2[i] (E i)).1 = 0
    · rw [decide_eq_true h0, if_pos h0]
      simp only [Bool.not_true, cond_false]
      have hends := lintS_ends he h0
      have hch : ChainTo im (i + 1) (fun j => if j = i + 1 then (lintS im i im.2.2[i] (E i)).2 else E j) := by
        have ev : ∀ (j : Nat), (fun j => if j = i + 1 then (lintS im i im.2.2[i] (E i)).2 else E j) j = if j = i + 1 then (lintS im i im.2.2[i] (E i)).2 else E j := fun _ => rfl
        refine ⟨by rw [ev, if_neg (by omega)]; exact hE.1, fun j hj => ?_, fun j hj hj' => ?_⟩ <;> simp only
        · by_cases hji : j = i + 1
          · rw [if_pos hji]; exact hends
          · rw [if_neg hji]; exact hE.2.1 j (by omega)
        · rw [if_neg (by omega)]
          by_cases hji : j = i
          · subst hji
            rw [if_pos rfl, ← h0]
          · rw [if_neg (by omega)]; exact hE.2.2 j hj (by omega)
      have := ih (i + 1) _ (by omega) hch
      simp only [↓reduceIte] at this
      exact this
    · rw [decide_eq_false h0, if_neg h0]
      exact Or.inl ⟨_, _, h0, rfl, rfl⟩
theorem place_both (s : Sym) : ∃ v, Z69 s = some v ∧ Z2u s = some v := by
  rw [Z69_eq, Z2u_eq]
  cases decide (s.2.1 = 1) <;> exact ⟨_, rfl, rfl⟩
theorem functions_both (im : Img) (hz : ImgSz im) : ∃ l, Z6a im = some l ∧ Z2v im.2.2 = some l ∧ l.length ≤ 16 := by
  have key : ∀ (k i : Nat) (l : List Int), i + k = im.2.2.length → l.length ≤ i → ∃ l', Z6a.a l im.2.2 (im.2.2.length : Int) i = some l' ∧ Z2v.a im.2.2 l i = some l' ∧ l'.length ≤ im.2.2.length := by
    intro k
    induction k with
    | zero =>
      intro i l hk hl
      rw [Z6a.a_eq, Z2v.a_eq, lt_nat, decide_eq_false (show ¬ i < im.2.2.length by omega)]
      exact ⟨l, rfl, rfl, by omega⟩
    | succ k ih =>
      intro i l hk hl
      have hi : i < im.2.2.length := by omega
      have hn := hz.n
      rw [Z6a.a_eq, Z2v.a_eq, lt_nat, inL_nat, decide_eq_true hi, w64_succ i _ hi (by omega)]
      simp only [cond_true]
      obtain ⟨v, v1, v2⟩ := place_both (rd (τ := TSym) im.2.2 i)
      obtain ⟨l1, a1, a2, a3⟩ := ih (i + 1) l (by omega) (by omega)
      obtain ⟨l2, b1, b2, b3⟩ := ih (i + 1) (l ++ [v]) (by omega) (by simp; omega)
      rw [v1, v2]
      simp only [Option.bind_some]
      rw [room_le (by simp; omega) (by simp; omega), a1, a2, b1, b2]
      cases decide ((rd (τ := TSym) im.2.2 i).2.1 = 1)
      · exact ⟨l1, rfl, rfl, a3⟩
      · exact ⟨l2, rfl, rfl, b3⟩
  obtain ⟨l, h1, h2, h3⟩ := key im.2.2.length 0 [] (by omega) (by simp)
  exact ⟨l, (Z6a_eq im).trans h1, (Z2v_eq im.2.2).trans h2, by have := hz.n; omega⟩
structure SymOK (im : Img) (s : Sym) : Prop where
  name : nameV s.1 = true
  kind : s.2.1 = 1 ∨ s.2.1 = 2
  at0 : 0 ≤ s.2.2.1
  size : 1 ≤ s.2.2.2.1
  func : s.2.1 = 1 → s.2.2.1 + s.2.2.2.1 ≤ (im.1.size : Int)
  data : s.2.1 = 2 → s.2.2.1 + s.2.2.2.1 ≤ (im.2.1.size : Int) ∧ s.2.2.1 % 8 = 0 ∧ s.2.2.2.1 % 8 = 0 ∧ s.2.2.2.2 = 0
theorem lintS_ok {im : Img} {i : Nat} {s : Sym} {e : Int × Int} (he : EndsR im e) (h : (lintS im i s e).1 = 0) : SymOK im s ∧ dupV (im.2.2.take i) s.1 = false := by
  obtain ⟨nm, kd, at_, sz, fr⟩ := s
  obtain ⟨ec, ed⟩ := e
  obtain ⟨⟨c1, c2⟩, ⟨d1, d2⟩⟩ := he
  dsimp only at *
  unfold lintS at h
  dsimp only at *
  split at h <;> (try (cases h; done))
  split at h <;> (try (cases h; done))
  rename_i n1 n2
  refine ⟨?_, by simpa using n2⟩
  have n1 : nameV nm = true := by simpa using n1
  split at h
  · rename_i k1
    split at h <;> (try (cases h; done))
    rename_i hh
    exact ⟨n1, Or.inl k1, by dsimp only; omega, by dsimp only; omega, fun _ => by dsimp only; omega, fun h => by dsimp only at h; omega⟩
  · rename_i k1
    split at h
    · rename_i k2
      split at h <;> (try (cases h; done))
      rename_i hh
      split at h <;> (try (cases h; done))
      rename_i h3
      exact ⟨n1, Or.inr k2, by dsimp only; omega, by dsimp only; omega, fun h => absurd h k1, fun _ => by dsimp only; omega⟩
    · cases h
theorem chain_sym {im : Img} {E : Nat → Int × Int} (h : ChainTo im im.2.2.length E) (i : Nat) (hi : i < im.2.2.length) : SymOK im im.2.2[i] ∧ dupV (im.2.2.take i) im.2.2[i].1 = false :=
  lintS_ok (h.2.1 i (by omega)) (by rw [h.2.2 i hi hi])
def FunG (s : Sym) : Prop := s.2.1 = 1 → codeAtV (4096 + s.2.2.1) = true ∧ frameV s.2.2.2.2 = true ∧ funcSizeV s.2.2.2.1.toNat = true
theorem lint_ok {code : ByteArray} {at_ f : Int} {calls : List Int} {v : Int × Int} (h : Z71 code at_ f calls = some v) (hv : v.2 = 0) : codeAtV at_ = true ∧ frameV f = true ∧ funcSizeV code.size = true := by
  rw [Z71_eq, codeAt_val, (frame_val f).1, funcSize_val] at h
  simp only [Option.bind_some] at h
  cases h1 : codeAtV at_ with
  | false =>
    rw [h1] at h
    have e : (0, 4) = v := Option.some.inj h
    rw [← e] at hv; cases hv
  | true =>
    rw [h1] at h
    cases h2 : frameV f with
    | false =>
      rw [h2] at h
      have e : (0, 17) = v := Option.some.inj h
      rw [← e] at hv; cases hv
    | true =>
      rw [h2] at h
      cases h3 : funcSizeV code.size with
      | false =>
        rw [h3] at h
        have e : (0, 8) = v := Option.some.inj h
        rw [← e] at hv; cases hv
      | true => exact ⟨rfl, rfl, rfl⟩
theorem funcs_both (im : Img) (hz : ImgSz im) (hs : ∀ s ∈ im.2.2, SymOK im s) (calls : List Int) (hc : calls.length ≤ 16) : ∀ (k i : Nat), i + k = im.2.2.length → ∃ v, Z72.b im calls im.2.2 (im.2.2.length : Int) i = some v ∧ Z3k.a im calls i = some v ∧ (v.2.2 = 0 → ∀ j (hj : j < im.2.2.length), i ≤ j → FunG im.2.2[j]) := by
  intro k
  induction k with
  | zero =>
    intro i hk
    rw [Z72.b_eq, Z3k.a_eq, lt_nat, decide_eq_false (show ¬ i < im.2.2.length by omega)]
    exact ⟨_, rfl, rfl, fun _ j hj h => by omega⟩
  | succ k ih =>
    intro i hk
    have hi : i < im.2.2.length := by omega
    obtain ⟨v, v1, v2, v3⟩ := ih (i + 1) (by omega)
    obtain ⟨hn, hcz, hdz⟩ := hz
    rw [Z72.b_eq, Z3k.a_eq, lt_nat, inL_nat, decide_eq_true hi, w64_succ i _ hi (by omega), rd_nat (τ := TSym) im.2.2 i hi, v1, v2]
    simp only [cond_true]
    have hS := hs _ (List.getElem_mem hi)
    have next : FunG im.2.2[i] → (v.2.2 = 0 → ∀ j (hj : j < im.2.2.length), i ≤ j → FunG im.2.2[j]) := fun hg hv j hj hij => by
      by_cases e : j = i
      · subst e; exact hg
      · exact v3 hv j hj (by omega)
    obtain ⟨s, hse⟩ : ∃ s : Sym, im.2.2[i] = s := ⟨_, rfl⟩
    rw [hse] at hS next ⊢
    obtain ⟨p, p1, p2⟩ := place_both s
    rw [p1, p2]
    by_cases k1 : s.2.1 = 1
    · have hf := hS.func k1
      have h0 := hS.at0
      have h1 := hS.size
      rw [w64 (n := s.2.2.1 + s.2.2.2.1) (by omega) (by omega), decide_eq_true k1, decide_eq_true h0, decide_eq_true hf, decide_eq_true (show s.2.2.1 ≤ s.2.2.1 + s.2.2.2.1 by omega)]
      obtain ⟨b, b1, b2⟩ := lint_both (im.1.extract s.2.2.1.toNat (s.2.2.1 + s.2.2.2.1).toNat) p s.2.2.2.2 calls (by rw [ByteArray.size_extract]; omega) (by omega)
      simp only [Bool.and_self, Bool.not_true, cond_true, cond_false, Option.bind_some, b1, b2]
      have hp : p = 4096 + s.2.2.1 := by
        rw [Z69_eq, decide_eq_true k1, cond_true, w64 (n := 4096 + s.2.2.1) (by omega) (by omega)] at p1
        exact (Option.some.inj p1).symm
      by_cases hb : b.2 = 0
      · rw [decide_eq_true hb]
        refine ⟨_, rfl, rfl, next fun _ => ?_⟩
        have hl := lint_ok b1 hb
        rw [hp, ByteArray.size_extract] at hl
        rw [show min (s.2.2.1 + s.2.2.2.1).toNat im.1.size - s.2.2.1.toNat = s.2.2.2.1.toNat by omega] at hl
        exact hl
      · rw [decide_eq_false hb]; exact ⟨_, rfl, rfl, fun h => absurd h hb⟩
    · rw [decide_eq_false k1]; exact ⟨_, rfl, rfl, next fun h => absurd h k1⟩
structure ImgOK (im : Img) : Prop where
  sz : ImgSz im
  chain : ∃ E, ChainTo im im.2.2.length E ∧ (E im.2.2.length).1 = (im.1.size : Int)
  pos : 1 ≤ im.2.2.length
  first : (rd (τ := TSym) im.2.2 0).2.1 = 1
  funs : ∀ j (hj : j < im.2.2.length), FunG im.2.2[j]
theorem image_both (im : Img) : ∃ v, Z72 im = some v ∧ Z3k im = some v ∧ (v.2.2 = 0 → ImgOK im) := by
  rw [Z72_eq, Z3k_eq]
  simp only [joinB]
  by_cases h1 : (im.2.2.length : Int) > 16
  · rw [decide_eq_true h1]; exact ⟨_, rfl, rfl, fun h => by cases h⟩
  · rw [decide_eq_false h1]
    by_cases h2 : (im.1.size : Int) > 1024
    · rw [decide_eq_true h2]; exact ⟨_, rfl, rfl, fun h => by cases h⟩
    · rw [decide_eq_false h2]
      by_cases h3 : (im.2.1.size : Int) > 256
      · rw [decide_eq_true h3]; exact ⟨_, rfl, rfl, fun h => by cases h⟩
      · rw [decide_eq_false h3]
        simp only [cond_false]
        have hz : ImgSz im := ⟨by omega, by omega, by omega⟩
        rw [Z2t_eq]
        have hE0 : ChainTo im 0 (fun _ => (0, 0)) := ⟨rfl, fun i _ => ⟨⟨by simp, by simp⟩, ⟨by simp, by simp⟩⟩, fun i _ h => by omega⟩
        rcases syms_both im hz im.2.2.length 0 _ (by omega) hE0 with ⟨n, c, hc, a1, a2⟩ | ⟨E, hE, a1, a2⟩
        · have a1' : Z72.a im (0, 0) (im.2.2.length : Int) 0 = some (n, 0, c) := a1
          have a2' : Z2t.a im 0 0 0 = some (n, c) := a2
          rw [a1', a2']
          simp only [Option.bind_some]
          rw [decide_eq_false hc]
          exact ⟨_, rfl, rfl, fun h => absurd h hc⟩
        · have a1' : Z72.a im (0, 0) (im.2.2.length : Int) 0 = _ := a1
          have a2' : Z2t.a im 0 0 0 = _ := a2
          rw [a1', a2', Z72.a_eq, lt_nat]
          simp only [Nat.lt_irrefl, decide_false, cond_false, Option.bind_some, endC]
          by_cases h0 : im.2.2.length = 0
          · rw [if_pos h0, show decide ((im.2.2.length : Int) = 0) = true by simp [h0]]
            exact ⟨_, rfl, rfl, fun h => by cases h⟩
          · rw [if_neg h0, show decide ((im.2.2.length : Int) = 0) = false from decide_eq_false (by omega), inL_true (i := 0) (by omega) (by omega)]
            simp only [cond_false, cond_true]
            by_cases k1 : (rd (τ := TSym) im.2.2 0).2.1 = 1
            · rw [decide_eq_true k1]
              by_cases k2 : (E im.2.2.length).1 = (im.1.size : Int)
              · rw [decide_eq_true k2]
                obtain ⟨fs, f1, f2, f3⟩ := functions_both im hz
                have hs : ∀ s ∈ im.2.2, SymOK im s := fun s hs => by
                  obtain ⟨i, hi, rfl⟩ := List.getElem_of_mem hs
                  exact (chain_sym hE i hi).1
                obtain ⟨v, v1, v2, v3⟩ := funcs_both im hz hs fs f3 im.2.2.length 0 (by omega)
                rw [f1, f2]
                simp only [k1, k2, ne_eq, not_true_eq_false, ↓reduceIte, Bool.not_true, cond_false, decide_true, Option.bind_some]
                exact ⟨v, v1, v2, fun h => ⟨hz, ⟨E, hE, k2⟩, by omega, k1, fun j hj => v3 h j hj (Nat.zero_le _)⟩⟩
              · simp only [k1, k2, ne_eq, not_true_eq_false, not_false_eq_true, ↓reduceIte, Bool.not_true, Bool.not_false, cond_false, cond_true, decide_false]
                exact ⟨_, rfl, rfl, fun h => by cases h⟩
            · simp only [k1, ne_eq, not_false_eq_true, ↓reduceIte, Bool.not_false, cond_true, decide_false]
              exact ⟨_, rfl, rfl, fun h => by cases h⟩
noncomputable def imgV (im : Img) : Bool := (Z73 im).getD false
theorem imageOK_val (im : Img) : Z73 im = some (imgV im) ∧ Z3l im = some (imgV im) ∧ (imgV im = true → ImgOK im) := by
  obtain ⟨v, v1, v2, v3⟩ := image_both im
  have e : Z73 im = some (decide (v.2.2 = 0)) := by rw [Z73_eq, v1]; rfl
  unfold imgV
  rw [e, Z3l_eq, v2]
  exact ⟨rfl, rfl, fun h => v3 (by simpa using h)⟩
def leB (v : Int) : Nat → List Int
  | 0 => []
  | n + 1 => v % 256 :: leB (v / 256) n
theorem leB_length (n : Nat) : ∀ v, (leB v n).length = n := by
  induction n with
  | zero => intro v; rfl
  | succ n ih => intro v; simp [leB, ih]
theorem wrap_u8 (n : Int) : IntKind.wrap .u8 n = n % 256 := by simp [IntKind.wrap, IntKind.bits, IntKind.signed]
theorem put_little_loop (n : Nat) : ∀ (v : Int) (xs : List Int), n ≤ 1000 → xs.length + n ≤ 1000 → Z81.a v n xs = some (bytesOf (xs ++ leB v n)) := by
  induction n with
  | zero => intro v xs _ _; rw [Z81.a_eq]; simp [leB]
  | succ n ih =>
    intro v xs hn hx
    rw [Z81.a_eq, show decide (((n + 1 : Nat) : Int) > 0) = true from decide_eq_true (by omega), room_le (by simp; omega) (by simp; omega), w64 (n := ((n + 1 : Nat) : Int) - 1) (by omega) (by omega), shr_div (by decide) (by decide), wrap_u8, show ((n + 1 : Nat) : Int) - 1 = (n : Int) by omega]
    simp only [cond_true]
    rw [ih _ _ (by omega) (by simp; omega), leB, List.append_assoc]
    rfl
theorem put_little (v : Int) (n : Nat) (h : n ≤ 1000) : Z81 v n = some (bytesOf (leB v n)) := by
  rw [Z81_eq, put_little_loop n v [] h (by simpa using h)]; rfl
theorem bytesOf_size (xs : List Int) : (bytesOf xs).size = xs.length := by simp [bytesOf, ByteArray.size]
theorem bytesOf_getD (xs : List Int) (i : Nat) (h : ∀ x ∈ xs, 0 ≤ x ∧ x ≤ 255) (hi : i < xs.length) : (((bytesOf xs).data.getD i 0).toNat : Int) = xs[i] := by
  have hx := h _ (List.getElem_mem hi)
  unfold bytesOf
  simp [Array.getD, hi]
  omega
theorem byte_ext {a b : ByteArray} (hs : a.size = b.size) (h : ∀ i, i < a.size → a.data.getD i 0 = b.data.getD i 0) : a = b := by
  cases a with | mk x => cases b with | mk y =>
  congr 1
  have hs : x.size = y.size := hs
  apply Array.ext hs
  intro i h1 h2
  have := h i h1
  simpa [Array.getD, h1, h2] using this
def allB (p : Nat → Bool) : Nat → Nat → Bool
  | _, 0 => true
  | i, k + 1 => bif p i then allB p (i + 1) k else false
theorem allB_iff (p : Nat → Bool) : ∀ k i, allB p i k = true ↔ ∀ j, i ≤ j → j < i + k → p j = true
  | 0, i => by simp [allB]; omega
  | k + 1, i => by
    rw [allB, cond_ite]
    by_cases h : p i = true
    · rw [if_pos h, allB_iff p k (i + 1)]
      refine ⟨fun H j h1 h2 => ?_, fun H j h1 h2 => H j (by omega) (by omega)⟩
      by_cases e : j = i
      · rw [e]; exact h
      · exact H j (by omega) (by omega)
    · rw [if_neg h]
      refine ⟨fun H => (by cases H), fun H => absurd (H i (Nat.le_refl _) (by omega)) h⟩
theorem loop_all (L : Int → Option Bool) (p : Nat → Bool) (n : Nat) (hend : L (n : Int) = some true) (hstep : ∀ i : Nat, i < n → L (i : Int) = bif p i then L ((i + 1 : Nat) : Int) else some false) :
    ∀ k i : Nat, i + k = n → L (i : Int) = some (allB p i k) := by
  intro k
  induction k with
  | zero => intro i h; have : i = n := by omega
            subst this; exact hend
  | succ k ih =>
    intro i h
    rw [hstep i (by omega), ih (i + 1) (by omega), allB]
    cases p i <;> rfl
theorem loop_all0 {L : Int → Option Bool} (p : Nat → Bool) (n : Nat) (hend : L (n : Int) = some true) (hstep : ∀ i : Nat, i < n → L (i : Int) = bif p i then L ((i + 1 : Nat) : Int) else some false) : L 0 = some (allB p 0 n) :=
  loop_all L p n hend hstep n 0 (by omega)
def findB (p : Nat → Bool) : Nat → Nat → Int
  | _, 0 => -1
  | i, k + 1 => bif p i then (i : Int) else findB p (i + 1) k
theorem loop_find (L : Int → Option Int) (p : Nat → Bool) (n : Nat) (hend : L (n : Int) = some (-1)) (hstep : ∀ i : Nat, i < n → L (i : Int) = bif p i then some (i : Int) else L ((i + 1 : Nat) : Int)) :
    ∀ k i : Nat, i + k = n → L (i : Int) = some (findB p i k) := by
  intro k
  induction k with
  | zero => intro i h; have : i = n := by omega
            subst this; exact hend
  | succ k ih =>
    intro i h
    rw [hstep i (by omega), ih (i + 1) (by omega), findB]
    cases p i <;> rfl
theorem loop_find0 {L : Int → Option Int} (p : Nat → Bool) (n : Nat) (hend : L (n : Int) = some (-1)) (hstep : ∀ i : Nat, i < n → L (i : Int) = bif p i then some (i : Int) else L ((i + 1 : Nat) : Int)) : L 0 = some (findB p 0 n) :=
  loop_find L p n hend hstep n 0 (by omega)
theorem findB_spec (p : Nat → Bool) : ∀ k i, (findB p i k = -1 ∧ ∀ j, i ≤ j → j < i + k → p j = false) ∨ ∃ j : Nat, findB p i k = (j : Int) ∧ i ≤ j ∧ j < i + k ∧ p j = true ∧ ∀ q, i ≤ q → q < j → p q = false
  | 0, i => .inl ⟨rfl, fun j h1 h2 => by omega⟩
  | k + 1, i => by
    rw [findB]
    cases h : p i with
    | true => exact .inr ⟨i, rfl, Nat.le_refl _, by omega, h, fun q h1 h2 => by omega⟩
    | false =>
      rw [cond_false]
      rcases findB_spec p k (i + 1) with ⟨h1, h2⟩ | ⟨j, h1, h2, h3, h4, h5⟩
      · refine .inl ⟨h1, fun j h3 h4 => ?_⟩
        by_cases e : j = i
        · rw [e]; exact h
        · exact h2 j (by omega) (by omega)
      · refine .inr ⟨j, h1, by omega, by omega, h4, fun q h6 h7 => ?_⟩
        by_cases e : q = i
        · rw [e]; exact h
        · exact h5 q (by omega) (by omega)
theorem w64_pred (i : Nat) (h : 0 < i) (h' : i ≤ 1048576) : IntKind.wrap .i64 ((i : Int) - 1) = ((i - 1 : Nat) : Int) := by
  rw [w64 (by omega) (by omega)]; omega
theorem lt_not_ge (a b : Int) : decide (a < b) = !decide (a ≥ b) := by
  rw [← decide_not]; congr 1; apply propext; omega
abbrev TPage : Ty := .pair (.int .i64) (.pair (.int .i64) .str)
abbrev Page : Type := Int × Int × ByteArray
def inR (n a b : Int) : Bool := decide (a ≤ n) && decide (n ≤ b)
theorem in_val (n a b : Int) : Z64 n a b = some (inR n a b) ∧ Z2w n a b = some (inR n a b) := ⟨within_val n a b, spec_in_val n a b⟩
theorem inR_iff {n a b : Int} : inR n a b = true ↔ a ≤ n ∧ n ≤ b := by simp [inR]
def baseV (b : Int) : Bool := bif inR b 0 1048575 then decide (b.tmod 128 = 0) else false
theorem base_val (b : Int) : Zc b = some (baseV b) ∧ Z3m b = some (baseV b) := by
  rw [Zc_eq, Z3m_eq, (in_val _ _ _).1, (in_val _ _ _).2]
  unfold baseV
  simp only [Option.bind_some]
  cases inR b 0 1048575 <;> exact ⟨rfl, rfl⟩
theorem perm_val (p : Int) : Zd p = some (inR p 0 15) ∧ Z3n p = some (inR p 0 15) := by
  rw [Zd_eq, Z3n_eq, (in_val _ _ _).1, (in_val _ _ _).2]; exact ⟨rfl, rfl⟩
def memP (m : List Page) (i : Nat) : Bool :=
  bif baseV (rd (τ := TPage) m i).1 then bif inR (rd (τ := TPage) m i).2.1 0 15 then bif decide (((rd (τ := TPage) m i).2.2.size : Int) = 128) then
    (decide (i = 0) || decide ((rd (τ := TPage) m ((i - 1 : Nat) : Int)).1 < (rd (τ := TPage) m i).1)) else false else false else false
def memV (m : List Page) : Bool := decide (m.length ≤ 64) && allB (memP m) 0 m.length
theorem memory_val (m : List Page) : Ze m = some (memV m) ∧ Z3o m = some (memV m) := by
  rw [Ze_eq, Z3o_eq]
  unfold memV
  rcases Nat.lt_or_ge 64 m.length with h | h
  · rw [show decide ((m.length : Int) > 64) = true by simp; omega, decide_eq_false (by omega)]; exact ⟨rfl, rfl⟩
  rw [show decide ((m.length : Int) > 64) = false by simp; omega, decide_eq_true h, cond_false, cond_false, Bool.true_and]
  constructor
  · refine loop_all0 (L := Ze.a m m (m.length : Int)) (memP m) m.length ?_ fun i hi => ?_
    · rw [Ze.a_eq, lt_nat]; simp
    · rw [Ze.a_eq, lt_nat, inL_nat, decide_eq_true hi, w64_succ i m.length hi (by omega), (base_val _).1, (perm_val _).1]
      unfold memP
      simp only [cond_true, Option.bind_some]
      by_cases h0 : i = 0
      · rw [show decide ((i : Int) > 0) = false by simp [h0], decide_eq_true h0]
        cases baseV (rd (τ := TPage) m i).1 <;> cases inR (rd (τ := TPage) m i).2.1 0 15 <;> cases decide (((rd (τ := TPage) m i).2.2.size : Int) = 128) <;> rfl
      · rw [show decide ((i : Int) > 0) = true by simp; omega, decide_eq_false h0, w64_pred i (by omega) (by omega), inL_nat, decide_eq_true (show i - 1 < m.length by omega)]
        rw [show decide ((rd (τ := TPage) m ((i - 1 : Nat) : Int)).1 < (rd (τ := TPage) m i).1) = !decide ((rd (τ := TPage) m ((i - 1 : Nat) : Int)).1 ≥ (rd (τ := TPage) m i).1) from lt_not_ge _ _]
        cases baseV (rd (τ := TPage) m i).1 <;> cases inR (rd (τ := TPage) m i).2.1 0 15 <;> cases decide (((rd (τ := TPage) m i).2.2.size : Int) = 128) <;> cases decide ((rd (τ := TPage) m ((i - 1 : Nat) : Int)).1 ≥ (rd (τ := TPage) m i).1) <;> rfl
  · refine loop_all0 (L := Z3o.a m) (memP m) m.length ?_ fun i hi => ?_
    · rw [Z3o.a_eq, lt_nat]; simp
    · rw [Z3o.a_eq, lt_nat, inL_nat, decide_eq_true hi, w64_succ i m.length hi (by omega), (base_val _).2, (perm_val _).2]
      unfold memP
      simp only [cond_true, Option.bind_some]
      by_cases h0 : i = 0
      · rw [show decide ((i : Int) > 0) = false by simp [h0], decide_eq_true h0]
        cases baseV (rd (τ := TPage) m i).1 <;> cases inR (rd (τ := TPage) m i).2.1 0 15 <;> cases decide (((rd (τ := TPage) m i).2.2.size : Int) = 128) <;> rfl
      · rw [show decide ((i : Int) > 0) = true by simp; omega, decide_eq_false h0, w64_pred i (by omega) (by omega), inL_nat, decide_eq_true (show i - 1 < m.length by omega)]
        rw [show decide ((rd (τ := TPage) m ((i - 1 : Nat) : Int)).1 < (rd (τ := TPage) m i).1) = !decide ((rd (τ := TPage) m i).1 ≤ (rd (τ := TPage) m ((i - 1 : Nat) : Int)).1) from lt_not_ge _ _]
        cases baseV (rd (τ := TPage) m i).1 <;> cases inR (rd (τ := TPage) m i).2.1 0 15 <;> cases decide (((rd (τ := TPage) m i).2.2.size : Int) = 128) <;> cases decide ((rd (τ := TPage) m i).1 ≤ (rd (τ := TPage) m ((i - 1 : Nat) : Int)).1) <;> rfl
abbrev TEnt : Ty := .pair .str (.pair (.int .i64) (.pair (.int .i64) (.pair (.int .i64) (.pair (.int .i64) (.int .i64)))))
abbrev Ent : Type := ByteArray × Int × Int × Int × Int × Int
def entV (l : List Ent) (name : ByteArray) : Int := findB (fun i => decide ((rd (τ := TEnt) l (i : Int)).1 = name)) 0 l.length
theorem ent_val (l : List Ent) (name : ByteArray) (hl : l.length ≤ 1048576) : Z7v l name = some (entV l name) ∧ Z3q l name = some (entV l name) := by
  rw [Z7v_eq, Z7u_eq, Z3q_eq]
  unfold entV
  constructor
  · rw [loop_find0 (L := Z7u.a name l (l.length : Int)) (fun i => decide ((rd (τ := TEnt) l (i : Int)).1 = name)) l.length ?_ fun i hi => ?_]
    · rfl
    · rw [Z7u.a_eq, lt_nat]; simp
    · rw [Z7u.a_eq, lt_nat, inL_nat, decide_eq_true hi, w64_succ i l.length hi (by omega), Z7t_eq, strEq_dec]
      simp only [cond_true, Option.bind_some]
  · refine loop_find0 (L := Z3q.a l name) (fun i => decide ((rd (τ := TEnt) l (i : Int)).1 = name)) l.length ?_ fun i hi => ?_
    · rw [Z3q.a_eq, lt_nat]; simp
    · rw [Z3q.a_eq, lt_nat, inL_nat, decide_eq_true hi, w64_succ i l.length hi (by omega), strEq_dec]
      simp only [cond_true]
def kindV (k f : Int) : Bool := bif decide (k = 1) then (bif frameV f then true else bif decide (k = 2) then decide (f = 0) else false) else bif decide (k = 2) then decide (f = 0) else false
noncomputable def entOKV (e : Ent) : Bool :=
  bif nameV e.1 then bif codeAtV e.2.2.1 then bif inR e.2.2.2.1 1 1024 then bif inR e.2.2.2.2.2 0 6 then kindV e.2.1 e.2.2.2.2.1 else false else false else false else false
theorem entOK_val (e : Ent) : Z7w e = some (entOKV e) ∧ Z3p e = some (entOKV e) := by
  rw [Z7w_eq, Z3p_eq]
  unfold entOKV
  rw [(name_val _).1, (name_val _).2, codeAt_val, (in_val _ _ _).1, (in_val _ _ _).1, (in_val _ _ _).2, (in_val _ _ _).2, (in_val _ _ _).2, (frame_val _).1, (frame_val _).2]
  unfold codeAtV kindV joinB
  simp only [Option.bind_some]
  rw [show (decide ((0 : Int) ≤ e.2.2.1) && decide (e.2.2.1 ≤ 1048575)) = inR e.2.2.1 0 1048575 from rfl]
  cases nameV e.1 <;> cases inR e.2.2.1 0 1048575 <;> cases decide (e.2.2.1.tmod 4 = 0) <;> cases inR e.2.2.2.1 1 1024 <;> cases inR e.2.2.2.2.2 0 6 <;> cases decide (e.2.1 = 1) <;> cases frameV e.2.2.2.2.1 <;> cases decide (e.2.1 = 2) <;> exact ⟨rfl, rfl⟩
noncomputable def tabP (l : List Ent) (i : Nat) : Bool := bif entOKV (rd (τ := TEnt) l i) then decide (entV (l.take i) (rd (τ := TEnt) l i).1 < 0) else false
noncomputable def tabV (l : List Ent) : Bool := decide (l.length ≤ 64) && allB (tabP l) 0 l.length
theorem take_drop0 {α : Type} (l : List α) (i : Nat) : (l.take (Int.toNat (i : Int))).drop (Int.toNat 0) = l.take i := by
  rw [Int.toNat_natCast, show (Int.toNat 0) = 0 from rfl, List.drop_zero]
theorem range_true (i n : Nat) (h : i ≤ n) : (decide (0 ≤ 0) && decide (0 ≤ (i : Int)) && decide ((i : Int) ≤ (n : Int))) = true := by simp; omega
theorem table_val (l : List Ent) : Z7x l = some (tabV l) ∧ Z3r l = some (tabV l) := by
  rw [Z7x_eq, Z3r_eq]
  unfold tabV
  rcases Nat.lt_or_ge 64 l.length with h | h
  · rw [show decide ((l.length : Int) > 64) = true by simp; omega, decide_eq_false (show ¬ l.length ≤ 64 by omega)]
    cases decide ((l.length : Int) > 4096) <;> exact ⟨rfl, rfl⟩
  rw [show decide ((l.length : Int) > 64) = false by simp; omega, show decide ((l.length : Int) > 4096) = false by simp; omega, decide_eq_true h, cond_false, cond_false, cond_false, Bool.true_and]
  constructor
  · refine loop_all0 (L := Z7x.a l l (l.length : Int)) (tabP l) l.length ?_ fun i hi => ?_
    · rw [Z7x.a_eq, lt_nat]; simp
    · rw [Z7x.a_eq, lt_nat, inL_nat, decide_eq_true hi, w64_succ i l.length hi (by omega), (entOK_val _).1, take_drop0, range_true i _ (by omega), (ent_val _ _ (by simp; omega)).1]
      unfold tabP
      rw [lt_not_ge]
      simp only [cond_true, Option.bind_some]
      cases entOKV (rd (τ := TEnt) l i) <;> cases decide (entV (l.take i) (rd (τ := TEnt) l i).1 ≥ 0) <;> rfl
  · refine loop_all0 (L := Z3r.a l) (tabP l) l.length ?_ fun i hi => ?_
    · rw [Z3r.a_eq, lt_nat]; simp
    · rw [Z3r.a_eq, lt_nat, inL_nat, decide_eq_true hi, w64_succ i l.length hi (by omega), (entOK_val _).2, take_drop0, range_true i _ (by omega), (ent_val _ _ (by simp; omega)).2]
      unfold tabP
      rw [lt_not_ge]
      simp only [cond_true, Option.bind_some]
      cases entOKV (rd (τ := TEnt) l i) <;> cases decide (entV (l.take i) (rd (τ := TEnt) l i).1 ≥ 0) <;> rfl
abbrev Area : Type := Int × Int × Int
def areaV (a : Area) : Bool :=
  inR a.1 0 1048575 && inR a.2.1 0 (IntKind.wrap .i64 (1048576 - a.1)) && inR a.2.2 a.1 (IntKind.wrap .i64 (a.1 + a.2.1)) && decide (a.1.tmod 8 = 0) && decide (a.2.1.tmod 8 = 0) && decide (a.2.2.tmod 8 = 0)
theorem area_impl (a : Area) : Z7y a = some (areaV a) := by
  rw [Z7y_eq, (in_val _ _ _).1, (in_val _ _ _).1, (in_val _ _ _).1]
  unfold areaV
  simp only [Option.bind_some]
  cases inR a.1 0 1048575 <;> cases inR a.2.1 0 (IntKind.wrap .i64 (1048576 - a.1)) <;> cases inR a.2.2 a.1 (IntKind.wrap .i64 (a.1 + a.2.1)) <;> cases decide (a.1.tmod 8 = 0) <;> cases decide (a.2.1.tmod 8 = 0) <;> cases decide (a.2.2.tmod 8 = 0) <;> rfl
abbrev TSh : Ty := .pair (.int .i64) (.pair (.int .i64) (.int .i64))
abbrev Sh : Type := Int × Int × Int
def cmpV (a b : Int) : Int := bif decide (a < b) then -1 else bif decide (a > b) then 1 else 0
def lexV (a b : Sh) : Int := if cmpV a.1 b.1 = 0 then cmpV a.2.1 b.2.1 else cmpV a.1 b.1
theorem cmp_val (a b : Int) : Zh a b = some (cmpV a b) := by
  rw [Zh_eq, Zg_eq, Zg_eq]
  unfold cmpV
  simp only [Option.bind_some, decide_true, Bool.not_true, cond_false]
  cases decide (a < b) <;> cases decide (a > b) <;> rfl
theorem or2_val (x y : Int) : Zf [x, y] = some (if x = 0 then y else x) := by
  rw [Zf_eq, show (([x, y] : List Int).length : Int) = 2 from rfl, Zf.a_eq, Zf.a_eq, Zf.a_eq]
  show (bif !decide (x = 0) then some x else bif !decide (y = 0) then some y else some 0) = _
  by_cases hx : x = 0
  · by_cases hy : y = 0
    · simp [hx, hy]
    · simp [hx, hy]
  · simp [hx]
theorem shcmp_val (a b : Sh) : Zi a b = some (lexV a b) := by
  rw [Zi_eq, cmp_val, cmp_val]
  simp only [Option.bind_some]
  rw [or2_val]; rfl
theorem less2_val (a b c d : Int) : Z3t [a, b] [c, d] = some (if a = c then decide (b < d) else decide (a < c)) := by
  rw [Z3t_eq, Z3t.a_eq, Z3t.a_eq, Z3t.a_eq]
  show (bif !decide (a = c) then some (decide (a < c)) else bif !decide (b = d) then some (decide (b < d)) else some false) = _
  by_cases h : a = c
  · by_cases h2 : b = d
    · simp [h, h2]
    · simp [h, h2]
  · simp [h]
theorem lex_less (a b : Sh) : (if a.1 = b.1 then decide (a.2.1 < b.2.1) else decide (a.1 < b.1)) = !decide (lexV a b ≥ 0) := by
  obtain ⟨a1, a2, a3⟩ := a
  obtain ⟨b1, b2, b3⟩ := b
  simp only [lexV, cmpV, cond_ite, decide_eq_true_eq]
  rcases Int.lt_trichotomy a1 b1 with h | h | h
  · rw [if_neg (by omega), if_pos h]; simp [h]
  · subst h
    rw [if_pos rfl]
    rcases Int.lt_trichotomy a2 b2 with h2 | h2 | h2
    · simp [h2]
    · simp [h2]
    · simp [show ¬ a2 < b2 by omega, h2]
  · rw [if_neg (by omega), if_neg (by omega), if_pos h]; simp [show ¬ a1 < b1 by omega]
theorem id_val (n : Int) : Z3s n = some (inR n 0 255) := by rw [Z3s_eq, (in_val _ _ _).2]; rfl
def shP (l : List Sh) (i : Nat) : Bool :=
  bif inR (rd (τ := TSh) l i).2.1 0 255 then (decide (i = 0) || !decide (lexV (rd (τ := TSh) l ((i - 1 : Nat) : Int)) (rd (τ := TSh) l i) ≥ 0)) else false
def shV (l : List Sh) : Bool := decide (l.length ≤ 16) && allB (shP l) 0 l.length
theorem shadows_val (l : List Sh) : Zj l = some (shV l) ∧ Z3u l = some (shV l) := by
  rw [Zj_eq, Z3u_eq]
  unfold shV
  rcases Nat.lt_or_ge 16 l.length with h | h
  · rw [show decide ((l.length : Int) > 16) = true by simp; omega, decide_eq_false (show ¬ l.length ≤ 16 by omega)]
    cases decide ((l.length : Int) > 4096) <;> exact ⟨rfl, rfl⟩
  rw [show decide ((l.length : Int) > 16) = false by simp; omega, show decide ((l.length : Int) > 4096) = false by simp; omega, decide_eq_true h, cond_false, cond_false, cond_false, Bool.true_and]
  constructor
  · refine loop_all0 (L := Zj.a l l (l.length : Int)) (shP l) l.length ?_ fun i hi => ?_
    · rw [Zj.a_eq, lt_nat]; simp
    · rw [Zj.a_eq, lt_nat, inL_nat, decide_eq_true hi, w64_succ i l.length hi (by omega), (in_val _ _ _).1]
      unfold shP
      simp only [cond_true, Option.bind_some]
      by_cases h0 : i = 0
      · rw [show decide ((i : Int) > 0) = false by simp [h0], decide_eq_true h0]
        cases inR (rd (τ := TSh) l i).2.1 0 255 <;> rfl
      · rw [show decide ((i : Int) > 0) = true by simp; omega, decide_eq_false h0, w64_pred i (by omega) (by omega), inL_nat, decide_eq_true (show i - 1 < l.length by omega), shcmp_val]
        simp only [Option.bind_some]
        cases inR (rd (τ := TSh) l i).2.1 0 255 <;> cases decide (lexV (rd (τ := TSh) l ((i - 1 : Nat) : Int)) (rd (τ := TSh) l i) ≥ 0) <;> rfl
  · refine loop_all0 (L := Z3u.a l) (shP l) l.length ?_ fun i hi => ?_
    · rw [Z3u.a_eq, lt_nat]; simp
    · rw [Z3u.a_eq, lt_nat, inL_nat, decide_eq_true hi, w64_succ i l.length hi (by omega), id_val]
      unfold shP
      simp only [cond_true, Option.bind_some]
      by_cases h0 : i = 0
      · rw [show decide ((i : Int) > 0) = false by simp [h0], decide_eq_true h0]
        cases inR (rd (τ := TSh) l i).2.1 0 255 <;> rfl
      · rw [show decide ((i : Int) > 0) = true by simp; omega, decide_eq_false h0, w64_pred i (by omega) (by omega), inL_nat, decide_eq_true (show i - 1 < l.length by omega), less2_val, lex_less]
        simp only [Option.bind_some]
        cases inR (rd (τ := TSh) l i).2.1 0 255 <;> cases decide (lexV (rd (τ := TSh) l ((i - 1 : Nat) : Int)) (rd (τ := TSh) l i) ≥ 0) <;> rfl
abbrev THart : Ty := .pair (.arr (.int .i64) 32) (.int .i64)
abbrev TThr : Ty := .pair (.int .i64) (.pair THart (.pair (.list (.int .i64)) (.int .i64)))
abbrev Thr : Type := Int × (List Int × Int) × List Int × Int
abbrev Mac : Type := List Page × List Thr × List Ent × List Sh
def hartV (h : List Int × Int) : Bool := decide ((rd (τ := .int .i64) h.1 0) = (0 : Int))
theorem hart_val (h : List Int × Int) : Zk h = some (hartV h) ∧ Z3v h = some (hartV h) := by
  rw [Zk_eq, Z3v_eq]; exact ⟨rfl, rfl⟩
def thrV (t : Thr) : Bool :=
  bif inR t.1 1 3 then bif hartV t.2.1 then bif decide ((t.2.2.1.length : Int) ≤ 32) then (bif decide (t.1 = 3) then inR t.2.2.2 1 31 else decide (t.2.2.2 = 0)) else false else false else false
theorem thr_val (t : Thr) : Zl t = some (thrV t) ∧ Z3w t = some (thrV t) := by
  rw [Zl_eq, Z3w_eq, (in_val _ _ _).1, (in_val _ _ _).1, (in_val _ _ _).2, (in_val _ _ _).2, (hart_val _).1, (hart_val _).2]
  unfold thrV joinB
  rw [show decide ((t.2.2.1.length : Int) > 32) = !decide ((t.2.2.1.length : Int) ≤ 32) by rw [← decide_not]; congr 1; apply propext; omega]
  simp only [Option.bind_some]
  cases inR t.1 1 3 <;> cases hartV t.2.1 <;> cases decide ((t.2.2.1.length : Int) ≤ 32) <;> cases decide (t.1 = 3) <;> exact ⟨rfl, rfl⟩
def thrsV (l : List Thr) : Bool := inR l.length 1 4 && allB (fun i => thrV (rd (τ := TThr) l (i : Int))) 0 l.length
theorem find_all (p : Nat → Bool) (n : Nat) : decide (findB (fun i => !p i) 0 n ≥ 0) = !allB p 0 n := by
  rcases findB_spec (fun i => !p i) n 0 with ⟨h1, h2⟩ | ⟨j, h1, h2, h3, h4, h5⟩
  · rw [h1, (allB_iff p n 0).2 fun j h3 h4 => by simpa using h2 j h3 h4]; rfl
  · rw [h1]
    have : allB p 0 n = false := by
      cases h : allB p 0 n with
      | false => rfl
      | true => have := (allB_iff p n 0).1 h j h2 h3; rw [this] at h4; cases h4
    rw [this]; simp
theorem threads_val (l : List Thr) : Zp l = some (thrsV l) := by
  rw [Zp_eq, (in_val _ _ _).1]
  unfold thrsV
  simp only [Option.bind_some]
  cases h : inR (l.length : Int) 1 4 with
  | false => rfl
  | true =>
    have hl : l.length ≤ 4 := by rw [inR_iff] at h; omega
    rw [Zo_eq, Zn_eq, loop_find0 (L := Zn.a l (l.length : Int)) (fun i => !thrV (rd (τ := TThr) l (i : Int))) l.length ?_ fun i hi => ?_]
    · simp only [Option.bind_some, cond_true, Bool.true_and]
      rw [find_all]; simp
    · rw [Zn.a_eq, lt_nat]; simp
    · rw [Zn.a_eq, lt_nat, inL_nat, decide_eq_true hi, w64_succ i l.length hi (by omega), Zm_eq, (thr_val _).1]
      simp only [cond_true, Option.bind_some]
noncomputable def macV (m : Mac) : Bool := memV m.1 && (tabV m.2.2.1 && (shV m.2.2.2 && thrsV m.2.1))
theorem machine_val (m : Mac) : Zq m = some (macV m) ∧ Z3x m = some (macV m) := by
  rw [Zq_eq, Z3x_eq, (memory_val _).1, (memory_val _).2, (table_val _).1, (table_val _).2, (shadows_val _).1, (shadows_val _).2, threads_val]
  unfold macV
  simp only [Option.bind_some]
  constructor
  · cases memV m.1 <;> cases tabV m.2.2.1 <;> cases shV m.2.2.2 <;> rfl
  · unfold thrsV
    by_cases h1 : (m.2.1.length : Int) < 1
    · rw [decide_eq_true h1, show inR (m.2.1.length : Int) 1 4 = false by simp [inR]; omega]
      cases memV m.1 <;> simp
    rw [decide_eq_false h1]
    by_cases h2 : (m.2.1.length : Int) > 4
    · rw [decide_eq_true h2, show inR (m.2.1.length : Int) 1 4 = false by simp [inR]; omega]
      cases memV m.1 <;> simp
    rw [decide_eq_false h2, show inR (m.2.1.length : Int) 1 4 = true by simp [inR]; omega]
    rw [loop_all0 (L := Z3x.a m) (fun i => thrV (rd (τ := TThr) m.2.1 (i : Int))) m.2.1.length ?_ fun i hi => ?_]
    · cases memV m.1 <;> cases tabV m.2.2.1 <;> cases shV m.2.2.2 <;> rfl
    · rw [Z3x.a_eq, lt_nat]; simp
    · rw [Z3x.a_eq, lt_nat, inL_nat, decide_eq_true hi, w64_succ i m.2.1.length hi (by omega), (thr_val _).2]
      simp only [cond_true, Option.bind_some]
      cases thrV (rd (τ := TThr) m.2.1 (i : Int)) <;> rfl
def anyB (p : Nat → Bool) : Nat → Nat → Bool
  | _, 0 => false
  | i, k + 1 => bif p i then true else anyB p (i + 1) k
theorem anyB_iff (p : Nat → Bool) : ∀ k i, anyB p i k = true ↔ ∃ j, i ≤ j ∧ j < i + k ∧ p j = true
  | 0, i => by simp [anyB]; omega
  | k + 1, i => by
    rw [anyB, cond_ite]
    by_cases h : p i = true
    · rw [if_pos h]; simp only [true_iff]; exact ⟨i, Nat.le_refl _, by omega, h⟩
    · rw [if_neg h, anyB_iff p k (i + 1)]
      refine ⟨fun ⟨j, h1, h2, h3⟩ => ⟨j, by omega, by omega, h3⟩, fun ⟨j, h1, h2, h3⟩ => ⟨j, ?_, by omega, h3⟩⟩
      rcases Nat.lt_or_ge i j with h4 | h4
      · exact h4
      · have : j = i := by omega
        subst this; exact absurd h3 h
theorem loop_any {β : Type} (L : Int → Option β) (p : Nat → Bool) (n : Nat) (r : Option β) (hstep : ∀ i : Nat, i < n → L (i : Int) = bif p i then r else L ((i + 1 : Nat) : Int)) :
    ∀ k i : Nat, i + k = n → L (i : Int) = bif anyB p i k then r else L (n : Int) := by
  intro k
  induction k with
  | zero => intro i h; have : i = n := by omega
            subst this; rfl
  | succ k ih =>
    intro i h
    rw [hstep i (by omega), ih (i + 1) (by omega), anyB]
    cases p i <;> rfl
theorem loop_any0 {β : Type} {L : Int → Option β} (p : Nat → Bool) (n : Nat) (r : Option β) (hstep : ∀ i : Nat, i < n → L (i : Int) = bif p i then r else L ((i + 1 : Nat) : Int)) : L 0 = bif anyB p 0 n then r else L (n : Int) :=
  loop_any L p n r hstep n 0 (by omega)
theorem find_any (p : Nat → Bool) (n : Nat) : decide (findB p 0 n ≥ 0) = anyB p 0 n := by
  rcases findB_spec p n 0 with ⟨h1, h2⟩ | ⟨j, h1, h2, h3, h4, h5⟩
  · rw [h1]
    cases h : anyB p 0 n with
    | false => rfl
    | true => obtain ⟨j, h3, h4, h5⟩ := (anyB_iff p n 0).1 h; rw [h2 j h3 h4] at h5; cases h5
  · rw [h1, (anyB_iff p n 0).2 ⟨j, h2, h3, h4⟩]; simp
def mapB {α : Type} (f : Nat → α) : Nat → Nat → List α
  | _, 0 => []
  | i, k + 1 => f i :: mapB f (i + 1) k
theorem mapB_length {α : Type} (f : Nat → α) : ∀ k i, (mapB f i k).length = k
  | 0, _ => rfl
  | k + 1, i => by rw [mapB, List.length_cons, mapB_length f k]
theorem loop_map {α β : Type} (L : List α → Int → Option β) (f : Nat → α) (n A : Nat) (hstep : ∀ acc (i : Nat), i < n → acc.length = A + i → L acc (i : Int) = L (acc ++ [f i]) ((i + 1 : Nat) : Int)) :
    ∀ (k i : Nat) (acc : List α), i + k = n → acc.length = A + i → L acc (i : Int) = L (acc ++ mapB f i k) (n : Int) := by
  intro k
  induction k with
  | zero => intro i acc h _; have : i = n := by omega
            subst this; rw [mapB, List.append_nil]
  | succ k ih =>
    intro i acc h ha
    rw [hstep acc i (by omega) ha, ih (i + 1) _ (by omega) (by simp; omega), mapB, List.append_assoc]; rfl
theorem loop_map0 {α β : Type} {L : List α → Int → Option β} (f : Nat → α) (n : Nat) (acc : List α) (hstep : ∀ acc' (i : Nat), i < n → acc'.length = acc.length + i → L acc' (i : Int) = L (acc' ++ [f i]) ((i + 1 : Nat) : Int)) : L acc 0 = L (acc ++ mapB f 0 n) (n : Int) :=
  loop_map L f n acc.length hstep n 0 acc (by omega) (by omega)
def scanB (c : Nat → Int) : Nat → Nat → Int × Int
  | _, 0 => (0, 0)
  | i, k + 1 => if c i = 0 then scanB c (i + 1) k else ((i : Int), c i)
theorem loop_scan (L : Int → Option (Int × Int)) (c : Nat → Int) (n : Nat) (hstep : ∀ i : Nat, i < n → L (i : Int) = if c i = 0 then L ((i + 1 : Nat) : Int) else some ((i : Int), c i)) :
    ∀ k i : Nat, i + k = n → L (i : Int) = if (scanB c i k).2 = 0 then L (n : Int) else some (scanB c i k) := by
  intro k
  induction k with
  | zero => intro i h; have : i = n := by omega
            subst this; rfl
  | succ k ih =>
    intro i h
    rw [hstep i (by omega), ih (i + 1) (by omega), scanB]
    by_cases h : c i = 0
    · rw [if_pos h, if_pos h]
    · rw [if_neg h, if_neg h, if_neg h]
theorem loop_scan0 {L : Int → Option (Int × Int)} (c : Nat → Int) (n : Nat) (hstep : ∀ i : Nat, i < n → L (i : Int) = if c i = 0 then L ((i + 1 : Nat) : Int) else some ((i : Int), c i)) : L 0 = if (scanB c 0 n).2 = 0 then L (n : Int) else some (scanB c 0 n) :=
  loop_scan L c n hstep n 0 (by omega)
theorem scanB_zero (c : Nat → Int) : ∀ k i, (scanB c i k).2 = 0 ↔ ∀ j, i ≤ j → j < i + k → c j = 0
  | 0, i => by simp [scanB]; omega
  | k + 1, i => by
    rw [scanB]
    by_cases h : c i = 0
    · rw [if_pos h, scanB_zero c k (i + 1)]
      refine ⟨fun H j h1 h2 => ?_, fun H j h1 h2 => H j (by omega) (by omega)⟩
      by_cases e : j = i
      · rw [e]; exact h
      · exact H j (by omega) (by omega)
    · rw [if_neg h]
      exact ⟨fun H => absurd H h, fun H => absurd (H i (Nat.le_refl _) (by omega)) h⟩
abbrev TFun : Ty := .pair .str (.pair .bool (.pair (.int .i64) .str))
abbrev Fun : Type := ByteArray × Bool × Int × ByteArray
abbrev TDat : Ty := .pair .str .str
abbrev Dat : Type := ByteArray × ByteArray
abbrev TRel : Ty := .pair (.int .i64) (.pair (.int .i64) (.pair (.int .i64) (.pair .str (.int .i64))))
abbrev Rel : Type := Int × Int × Int × ByteArray × Int
abbrev TDcl : Ty := .pair (.int .i64) .bool
abbrev Dcl : Type := Int × Bool
abbrev Obj : Type := ByteArray × Int × List Fun × List Dat × List Rel × List Dcl
structure ObjSz (o : Obj) : Prop where
  f : o.2.2.1.length ≤ 4
  d : o.2.2.2.1.length ≤ 4
  r : o.2.2.2.2.1.length ≤ 32
  s : o.2.2.2.2.2.length ≤ 4
def namesV (o : Obj) : List ByteArray := mapB (fun i => (rd (τ := TFun) o.2.2.1 (i : Int)).1) 0 o.2.2.1.length ++ mapB (fun i => (rd (τ := TDat) o.2.2.2.1 (i : Int)).1) 0 o.2.2.2.1.length
def unitsV (o : Obj) : List Int := mapB (fun i => IntKind.wrap .i64 (((rd (τ := TFun) o.2.2.1 (i : Int)).2.2.2.size : Int).tdiv 4)) 0 o.2.2.1.length ++ mapB (fun i => IntKind.wrap .i64 (((rd (τ := TDat) o.2.2.2.1 (i : Int)).2.size : Int).tdiv 8)) 0 o.2.2.2.1.length
theorem room16 (n : Nat) (h : n ≤ 4096) : roomB n 16 = true := by simp [roomB]; omega
theorem room8 (n : Nat) (h : n ≤ 4096) : roomB n 8 = true := by simp [roomB]; omega
theorem names_val (o : Obj) (hz : ObjSz o) (u : Nat) (hu : u ≤ (namesV o).length) : Z7f o (u : Int) = some ((namesV o).take u) := by
  obtain ⟨hf, hd, _, _⟩ := hz
  rw [Z7f_eq]
  rw [loop_map0 (L := fun acc i => Z7f.a (u : Int) o acc o.2.2.1 (o.2.2.1.length : Int) i) (fun i => (rd (τ := TFun) o.2.2.1 (i : Int)).1) o.2.2.1.length [] fun acc i hi ha => ?_]
  · rw [Z7f.a_eq, lt_nat, decide_eq_false (Nat.lt_irrefl _), cond_false, List.nil_append]
    rw [loop_map0 (L := fun acc i => Z7f.b (u : Int) acc o.2.2.2.1 (o.2.2.2.1.length : Int) i) (fun i => (rd (τ := TDat) o.2.2.2.1 (i : Int)).1) o.2.2.2.1.length (mapB (fun i => (rd (τ := TFun) o.2.2.1 (i : Int)).1) 0 o.2.2.1.length) fun acc i hi ha => ?_]
    · show Z7f.b (u : Int) (namesV o) o.2.2.2.1 (o.2.2.2.1.length : Int) (o.2.2.2.1.length : Int) = _
      rw [Z7f.b_eq, lt_nat, decide_eq_false (Nat.lt_irrefl _), cond_false, range_true u _ hu, cond_true, take_drop0]
    · rw [mapB_length] at ha
      show Z7f.b (u : Int) acc o.2.2.2.1 (o.2.2.2.1.length : Int) (i : Int) = _
      rw [Z7f.b_eq, lt_nat, inL_nat, decide_eq_true hi, w64_succ i _ hi (by omega), room16 _ (by simp; omega)]; rfl
  · show Z7f.a (u : Int) o acc o.2.2.1 (o.2.2.1.length : Int) (i : Int) = _
    rw [Z7f.a_eq, lt_nat, inL_nat, decide_eq_true hi, w64_succ i _ hi (by omega), room16 _ (by simp at ha ⊢; omega)]; rfl
theorem units_val (o : Obj) (hz : ObjSz o) : Z7h o = some (unitsV o) := by
  obtain ⟨hf, hd, _, _⟩ := hz
  rw [Z7h_eq]
  rw [loop_map0 (L := fun acc i => Z7h.a o acc o.2.2.1 (o.2.2.1.length : Int) i) (fun i => IntKind.wrap .i64 (((rd (τ := TFun) o.2.2.1 (i : Int)).2.2.2.size : Int).tdiv 4)) o.2.2.1.length [] fun acc i hi ha => ?_]
  · rw [Z7h.a_eq, lt_nat, decide_eq_false (Nat.lt_irrefl _), cond_false, List.nil_append]
    rw [loop_map0 (L := fun acc i => Z7h.b acc o.2.2.2.1 (o.2.2.2.1.length : Int) i) (fun i => IntKind.wrap .i64 (((rd (τ := TDat) o.2.2.2.1 (i : Int)).2.size : Int).tdiv 8)) o.2.2.2.1.length (mapB (fun i => IntKind.wrap .i64 (((rd (τ := TFun) o.2.2.1 (i : Int)).2.2.2.size : Int).tdiv 4)) 0 o.2.2.1.length) fun acc i hi ha => ?_]
    · rw [Z7h.b_eq, lt_nat, decide_eq_false (Nat.lt_irrefl _), cond_false]; rfl
    · rw [mapB_length] at ha
      show Z7h.b acc o.2.2.2.1 (o.2.2.2.1.length : Int) (i : Int) = _
      rw [Z7h.b_eq, lt_nat, inL_nat, decide_eq_true hi, w64_succ i _ hi (by omega), room8 _ (by simp; omega)]; rfl
  · show Z7h.a o acc o.2.2.1 (o.2.2.1.length : Int) (i : Int) = _
    rw [Z7h.a_eq, lt_nat, inL_nat, decide_eq_true hi, w64_succ i _ hi (by omega), room8 _ (by simp at ha ⊢; omega)]; rfl
def hasS (l : List ByteArray) (n : ByteArray) : Bool := l.any fun y => decide (y = n)
theorem hasS_iff {l : List ByteArray} {n : ByteArray} : hasS l n = true ↔ n ∈ l := by simp [hasS]
theorem hasStr_val (l : List ByteArray) (n : ByteArray) (hl : l.length ≤ 4096) : Z7e l n = some (hasS l n) := by
  rw [Z7e_eq, Z7d_eq, loop_find0 (L := Z7d.a l n (l.length : Int)) (fun i => decide (n = rd (τ := .str) l (i : Int))) l.length ?_ fun i hi => ?_]
  · simp only [Option.bind_some]
    rw [find_any]
    congr 1
    rw [Bool.eq_iff_iff, anyB_iff, hasS_iff, List.mem_iff_getElem]
    refine ⟨fun ⟨j, h1, h2, h3⟩ => ⟨j, by omega, ?_⟩, fun ⟨j, h1, h2⟩ => ⟨j, by omega, by omega, ?_⟩⟩
    · rw [decide_eq_true_iff, rd_nat (τ := .str) l j (by omega)] at h3; exact h3.symm
    · rw [decide_eq_true_iff, rd_nat (τ := .str) l j h1]; exact h2.symm
  · rw [Z7d.a_eq, lt_nat]; simp
  · rw [Z7d.a_eq, lt_nat, inL_nat, decide_eq_true hi, w64_succ i _ hi (by omega), strEq_dec]; rfl
theorem mapB_mem {α : Type} (f : Nat → α) (x : α) : ∀ k i, x ∈ mapB f i k ↔ ∃ j, i ≤ j ∧ j < i + k ∧ f j = x
  | 0, i => by simp [mapB]; omega
  | k + 1, i => by
    rw [mapB, List.mem_cons, mapB_mem f x k (i + 1)]
    constructor
    · rintro (h | ⟨j, h1, h2, h3⟩)
      · exact ⟨i, Nat.le_refl _, by omega, h.symm⟩
      · exact ⟨j, by omega, by omega, h3⟩
    · rintro ⟨j, h1, h2, h3⟩
      by_cases e : j = i
      · subst e; exact .inl h3.symm
      · exact .inr ⟨j, by omega, by omega, h3⟩
theorem mapB_take {α : Type} (f : Nat → α) : ∀ k i n, (mapB f i k).take n = mapB f i (min n k)
  | 0, i, n => by simp [mapB]
  | k + 1, i, 0 => by simp [mapB]
  | k + 1, i, n + 1 => by rw [mapB, List.take_succ_cons, mapB_take f k (i + 1) n, Nat.add_min_add_right, mapB]
theorem names_take_f (o : Obj) (i : Nat) (hi : i ≤ o.2.2.1.length) : (namesV o).take i = mapB (fun i => (rd (τ := TFun) o.2.2.1 (i : Int)).1) 0 i := by
  unfold namesV
  rw [List.take_append_of_le_length (by rw [mapB_length]; exact hi), mapB_take, Nat.min_eq_left hi]
theorem names_take_d (o : Obj) (i : Nat) (hi : i ≤ o.2.2.2.1.length) : (namesV o).take (o.2.2.1.length + i) = mapB (fun i => (rd (τ := TFun) o.2.2.1 (i : Int)).1) 0 o.2.2.1.length ++ mapB (fun i => (rd (τ := TDat) o.2.2.2.1 (i : Int)).1) 0 i := by
  unfold namesV
  rw [List.take_append, mapB_length, List.take_of_length_le (by rw [mapB_length]; omega), mapB_take, show o.2.2.1.length + i - o.2.2.1.length = i by omega, Nat.min_eq_left hi]
theorem names_len (o : Obj) : (namesV o).length = o.2.2.1.length + o.2.2.2.1.length := by unfold namesV; rw [List.length_append, mapB_length, mapB_length]
theorem hasS_mapB (f : Nat → ByteArray) (n : ByteArray) (k : Nat) : hasS (mapB f 0 k) n = anyB (fun j => decide (f j = n)) 0 k := by
  rw [Bool.eq_iff_iff, hasS_iff, mapB_mem, anyB_iff]; simp
theorem hasS_app (a b : List ByteArray) (n : ByteArray) : hasS (a ++ b) n = (hasS a n || hasS b n) := by simp [hasS]
theorem scanB_none (c : Nat → Int) : ∀ k i, (scanB c i k).2 = 0 → scanB c i k = (0, 0)
  | 0, _, _ => rfl
  | k + 1, i, h => by
    rw [scanB] at h ⊢
    by_cases e : c i = 0
    · rw [if_pos e] at h ⊢; exact scanB_none c k (i + 1) h
    · rw [if_neg e] at h; exact absurd h e
theorem scan_end (c : Nat → Int) (i k : Nat) : (if (scanB c i k).2 = 0 then some ((0, 0) : Int × Int) else some (scanB c i k)) = some (scanB c i k) := by
  by_cases h : (scanB c i k).2 = 0
  · rw [if_pos h, scanB_none c k i h]
  · rw [if_neg h]
noncomputable def funC (o : Obj) (i : Nat) : Int :=
  if nameV (rd (τ := TFun) o.2.2.1 (i : Int)).1 = false then 3 else if hasS ((namesV o).take i) (rd (τ := TFun) o.2.2.1 (i : Int)).1 = true then 24
  else if frameV (rd (τ := TFun) o.2.2.1 (i : Int)).2.2.1 = false then 17 else if funcSizeV (rd (τ := TFun) o.2.2.1 (i : Int)).2.2.2.size = false then 8 else 0
def datSz (n : Nat) : Bool := inR (n : Int) 8 64 && decide ((n : Int).tmod 8 = 0)
noncomputable def datC (o : Obj) (i : Nat) : Int :=
  if nameV (rd (τ := TDat) o.2.2.2.1 (i : Int)).1 = false then 3 else if hasS ((namesV o).take (o.2.2.1.length + i)) (rd (τ := TDat) o.2.2.2.1 (i : Int)).1 = true then 24
  else if datSz (rd (τ := TDat) o.2.2.2.1 (i : Int)).2.size = false then 8 else 0
theorem lintName_val (o : Obj) (hz : ObjSz o) (n : ByteArray) (u : Nat) (hu : u ≤ (namesV o).length) : Z7g o n (u : Int) = some (if nameV n = false then 3 else if hasS ((namesV o).take u) n = true then 24 else 0) := by
  have := hz.f; have := hz.d; have := names_len o
  rw [Z7g_eq, (name_val _).1, names_val o hz u hu]
  simp only [Option.bind_some]
  rw [hasStr_val _ _ (by simp; omega)]
  cases nameV n <;> cases hasS ((namesV o).take u) n <;> rfl
theorem code_val (t : ByteArray) : Z49 t = some (funcSizeV t.size) := by
  rw [Z49_eq]
  unfold funcSizeV codeSizeV
  cases decide ((t.size : Int).tmod 4 = 0) <;> cases decide ((t.size : Int) ≥ 20) <;> cases decide ((t.size : Int) ≤ 256) <;> rfl
theorem impl_funs (o : Obj) (hz : ObjSz o) : Z7j.a o o.2.2.1 (o.2.2.1.length : Int) 0 = if (scanB (funC o) 0 o.2.2.1.length).2 = 0 then Z7j.b o o.2.2.2.1 (o.2.2.2.1.length : Int) 0 else some (scanB (funC o) 0 o.2.2.1.length) := by
  have := hz.f
  rw [loop_scan0 (L := Z7j.a o o.2.2.1 (o.2.2.1.length : Int)) (funC o) o.2.2.1.length fun i hi => ?_]
  · rw [Z7j.a_eq, lt_nat, decide_eq_false (Nat.lt_irrefl _), cond_false]
  · rw [Z7j.a_eq, lt_nat, inL_nat, decide_eq_true hi, w64_succ i _ hi (by omega), lintName_val o hz _ i (by rw [names_len]; omega), (frame_val _).1, funcSize_val]
    unfold funC
    simp only [cond_true, Option.bind_some]
    cases nameV (rd (τ := TFun) o.2.2.1 (i : Int)).1 with
    | false => rfl
    | true =>
      cases hasS ((namesV o).take i) (rd (τ := TFun) o.2.2.1 (i : Int)).1 with
      | true => rfl
      | false => cases frameV (rd (τ := TFun) o.2.2.1 (i : Int)).2.2.1 <;> cases funcSizeV (rd (τ := TFun) o.2.2.1 (i : Int)).2.2.2.size <;> rfl
theorem impl_dats (o : Obj) (hz : ObjSz o) : Z7j.b o o.2.2.2.1 (o.2.2.2.1.length : Int) 0 = if (scanB (datC o) 0 o.2.2.2.1.length).2 = 0 then Z7j.c o (o.2.2.2.2.1.length : Int) 0 else some (scanB (datC o) 0 o.2.2.2.1.length) := by
  have h1 := hz.f
  have h2 := hz.d
  rw [loop_scan0 (L := Z7j.b o o.2.2.2.1 (o.2.2.2.1.length : Int)) (datC o) o.2.2.2.1.length fun i hi => ?_]
  · rw [Z7j.b_eq, lt_nat, decide_eq_false (Nat.lt_irrefl _), cond_false]
  · rw [Z7j.b_eq, lt_nat, inL_nat, decide_eq_true hi, w64_succ i _ hi (by omega), w64 (n := (o.2.2.1.length : Int) + (i : Int)) (by omega) (by omega), ← Int.natCast_add, lintName_val o hz _ (o.2.2.1.length + i) (by rw [names_len]; omega), (in_val _ _ _).1]
    unfold datC datSz
    simp only [cond_true, Option.bind_some]
    cases nameV (rd (τ := TDat) o.2.2.2.1 (i : Int)).1 with
    | false => rfl
    | true =>
      cases hasS ((namesV o).take (o.2.2.1.length + i)) (rd (τ := TDat) o.2.2.2.1 (i : Int)).1 with
      | true => rfl
      | false => cases inR ((rd (τ := TDat) o.2.2.2.1 (i : Int)).2.size : Int) 8 64 <;> cases decide (((rd (τ := TDat) o.2.2.2.1 (i : Int)).2.size : Int).tmod 8 = 0) <;> rfl
theorem spec_funs (o : Obj) (hz : ObjSz o) : Z4a o = some (scanB (funC o) 0 o.2.2.1.length) := by
  have h1 := hz.f
  rw [Z4a_eq, loop_scan0 (L := Z4a.a o) (funC o) o.2.2.1.length fun i hi => ?_]
  · rw [Z4a.a_eq, lt_nat, decide_eq_false (Nat.lt_irrefl _), cond_false]
    exact scan_end _ _ _
  · rw [Z4a.a_eq, lt_nat, inL_nat, decide_eq_true hi, (name_val _).2]
    unfold funC
    simp only [cond_true, Option.bind_some]
    cases nameV (rd (τ := TFun) o.2.2.1 (i : Int)).1 with
    | false => rfl
    | true =>
      rw [show (!true) = false from rfl, cond_false, loop_any0 (L := Z4a.b o (i : Int) (rd (τ := TFun) o.2.2.1 (i : Int))) (fun j => decide ((rd (τ := TFun) o.2.2.1 (j : Int)).1 = (rd (τ := TFun) o.2.2.1 (i : Int)).1)) i (some ((i : Int), 24)) fun j hj => ?_]
      · rw [names_take_f o i (by omega), hasS_mapB]
        cases anyB (fun j => decide ((rd (τ := TFun) o.2.2.1 (j : Int)).1 = (rd (τ := TFun) o.2.2.1 (i : Int)).1)) 0 i with
        | true => rfl
        | false =>
          rw [Z4a.b_eq, lt_nat, decide_eq_false (Nat.lt_irrefl _), cond_false, cond_false, (frame_val _).2, code_val, w64_succ i _ hi (by omega)]
          simp only [Option.bind_some]
          cases frameV (rd (τ := TFun) o.2.2.1 (i : Int)).2.2.1 <;> cases funcSizeV (rd (τ := TFun) o.2.2.1 (i : Int)).2.2.2.size <;> rfl
      · rw [Z4a.b_eq, lt_nat, inL_nat, decide_eq_true hj, decide_eq_true (show j < o.2.2.1.length by omega), w64_succ j _ hj (by omega), strEq_dec]; rfl
theorem spec_dats (o : Obj) (hz : ObjSz o) : Z4b o = some (scanB (datC o) 0 o.2.2.2.1.length) := by
  have h1 := hz.f
  have h2 := hz.d
  rw [Z4b_eq, loop_scan0 (L := Z4b.a o) (datC o) o.2.2.2.1.length fun i hi => ?_]
  · rw [Z4b.a_eq, lt_nat, decide_eq_false (Nat.lt_irrefl _), cond_false]
    exact scan_end _ _ _
  · rw [Z4b.a_eq, lt_nat, inL_nat, decide_eq_true hi, (name_val _).2]
    unfold datC datSz
    simp only [cond_true, Option.bind_some]
    cases nameV (rd (τ := TDat) o.2.2.2.1 (i : Int)).1 with
    | false => rfl
    | true =>
      rw [show (!true) = false from rfl, cond_false, loop_any0 (L := Z4b.b o (i : Int) (rd (τ := TDat) o.2.2.2.1 (i : Int))) (fun j => decide ((rd (τ := TFun) o.2.2.1 (j : Int)).1 = (rd (τ := TDat) o.2.2.2.1 (i : Int)).1)) o.2.2.1.length (some ((i : Int), 24)) fun j hj => ?_]
      · rw [names_take_d o i (by omega), hasS_app, hasS_mapB, hasS_mapB]
        cases anyB (fun j => decide ((rd (τ := TFun) o.2.2.1 (j : Int)).1 = (rd (τ := TDat) o.2.2.2.1 (i : Int)).1)) 0 o.2.2.1.length with
        | true => rfl
        | false =>
          rw [Z4b.b_eq, lt_nat, decide_eq_false (Nat.lt_irrefl _), cond_false, cond_false, loop_any0 (L := Z4b.c o (i : Int) (rd (τ := TDat) o.2.2.2.1 (i : Int))) (fun j => decide ((rd (τ := TDat) o.2.2.2.1 (j : Int)).1 = (rd (τ := TDat) o.2.2.2.1 (i : Int)).1)) i (some ((i : Int), 24)) fun j hj => ?_]
          · cases anyB (fun j => decide ((rd (τ := TDat) o.2.2.2.1 (j : Int)).1 = (rd (τ := TDat) o.2.2.2.1 (i : Int)).1)) 0 i with
            | true => rfl
            | false =>
              rw [Z4b.c_eq, lt_nat, decide_eq_false (Nat.lt_irrefl _), cond_false, cond_false, w64_succ i _ hi (by omega)]
              unfold inR
              generalize (rd (τ := TDat) o.2.2.2.1 (i : Int)).2.size = n
              rw [show decide ((n : Int) < 8) = !decide (8 ≤ (n : Int)) by rw [← decide_not]; congr 1; apply propext; omega, show decide ((n : Int) > 64) = !decide ((n : Int) ≤ 64) by rw [← decide_not]; congr 1; apply propext; omega]
              cases decide ((n : Int).tmod 8 = 0) <;> cases decide (8 ≤ (n : Int)) <;> cases decide ((n : Int) ≤ 64) <;> rfl
          · rw [Z4b.c_eq, lt_nat, inL_nat, decide_eq_true hj, decide_eq_true (show j < o.2.2.2.1.length by omega), w64_succ j _ hj (by omega), strEq_dec]; rfl
      · rw [Z4b.b_eq, lt_nat, inL_nat, decide_eq_true hj, w64_succ j _ hj (by omega), strEq_dec]; rfl
def lessR (a b c d : Int) : Bool := if a = c then decide (b < d) else decide (a < c)
def unitV (o : Obj) (u : Int) : Int :=
  if 0 ≤ u ∧ u < (o.2.2.1.length : Int) then ((rd (τ := TFun) o.2.2.1 u).2.2.2.size : Int).tdiv 4
  else if (o.2.2.1.length : Int) ≤ u ∧ u < (o.2.2.1.length : Int) + (o.2.2.2.1.length : Int) then ((rd (τ := TDat) o.2.2.2.1 (u - (o.2.2.1.length : Int))).2.size : Int).tdiv 8 else -1
structure UnitSz (o : Obj) : Prop extends ObjSz o where
  fs : ∀ i, i < o.2.2.1.length → (rd (τ := TFun) o.2.2.1 (i : Int)).2.2.2.size ≤ 256
  ds : ∀ i, i < o.2.2.2.1.length → (rd (τ := TDat) o.2.2.2.1 (i : Int)).2.size ≤ 64
theorem mapB_get {α : Type} (f : Nat → α) : ∀ k i j (h : j < (mapB f i k).length), (mapB f i k)[j] = f (i + j)
  | 0, _, _, h => by simp [mapB] at h
  | k + 1, i, 0, _ => by simp [mapB]
  | k + 1, i, j + 1, h => by
    have := mapB_get f k (i + 1) j (by rw [mapB_length] at h ⊢; omega)
    simp only [mapB, List.getElem_cons_succ]
    rw [this]; congr 1; omega
theorem wdiv (n k : Nat) (h : n ≤ 4096) : IntKind.wrap .i64 ((n : Int).tdiv (k : Int)) = (n : Int).tdiv (k : Int) := by
  rw [Int.tdiv_eq_ediv_of_nonneg (by omega)]
  have h1 : 0 ≤ (n : Int) / (k : Int) := Int.ediv_nonneg (by omega) (by omega)
  have h2 : (n : Int) / (k : Int) ≤ (n : Int) := Int.ediv_le_self _ (by omega)
  exact w64 (by omega) (by omega)
theorem units_len (o : Obj) : (unitsV o).length = o.2.2.1.length + o.2.2.2.1.length := by unfold unitsV; rw [List.length_append, mapB_length, mapB_length]
theorem units_rd (o : Obj) (hz : UnitSz o) (u : Nat) (hu : u < o.2.2.1.length + o.2.2.2.1.length) : rd (τ := .int .i64) (unitsV o) (u : Int) = unitV o (u : Int) := by
  unfold unitV
  have hl := units_len o
  rw [rd_nat (τ := .int .i64) (unitsV o) u (by omega)]
  by_cases h : u < o.2.2.1.length
  · rw [if_pos ⟨by omega, by omega⟩]
    have : (unitsV o)[u]'(by omega) = IntKind.wrap .i64 (((rd (τ := TFun) o.2.2.1 ((0 + u : Nat) : Int)).2.2.2.size : Int).tdiv 4) := by
      unfold unitsV
      rw [List.getElem_append_left (by rw [mapB_length]; exact h), mapB_get]
    rw [this, Nat.zero_add]
    exact wdiv _ 4 (by have := hz.fs u h; omega)
  · rw [if_neg (by omega), if_pos ⟨by omega, by omega⟩]
    have : (unitsV o)[u]'(by omega) = IntKind.wrap .i64 (((rd (τ := TDat) o.2.2.2.1 ((0 + (u - (mapB (fun i => IntKind.wrap .i64 (((rd (τ := TFun) o.2.2.1 (i : Int)).2.2.2.size : Int).tdiv 4)) 0 o.2.2.1.length).length) : Nat) : Int)).2.size : Int).tdiv 8) := by
      unfold unitsV
      rw [List.getElem_append_right (by rw [mapB_length]; omega), mapB_get]
    rw [mapB_length] at this
    rw [this, Nat.zero_add, show (u : Int) - (o.2.2.1.length : Int) = ((u - o.2.2.1.length : Nat) : Int) by omega]
    exact wdiv _ 8 (by have := hz.ds (u - o.2.2.1.length) (by omega); omega)
theorem unitV_range (o : Obj) (hz : UnitSz o) (u : Int) : -1 ≤ unitV o u ∧ unitV o u ≤ 256 := by
  unfold unitV
  split
  · rename_i h
    have := hz.fs u.toNat (by omega)
    rw [show ((u.toNat : Nat) : Int) = u by omega] at this
    rw [Int.tdiv_eq_ediv_of_nonneg (by omega)]
    omega
  · split
    · rename_i h
      have := hz.ds (u - (o.2.2.1.length : Int)).toNat (by omega)
      rw [show (((u - (o.2.2.1.length : Int)).toNat : Nat) : Int) = u - (o.2.2.1.length : Int) by omega] at this
      rw [Int.tdiv_eq_ediv_of_nonneg (by omega)]
      omega
    · omega
theorem spec_unit (o : Obj) (hz : UnitSz o) (u : Int) (hu : -9223372036854775808 ≤ u ∧ u ≤ 9223372036854775807) : Z4c o u = some (unitV o u) := by
  rw [Z4c_eq]
  have h1 := hz.f
  have h2 := hz.d
  unfold unitV
  by_cases h : 0 ≤ u ∧ u < (o.2.2.1.length : Int)
  · have e1 : decide (u ≥ 0) = true := decide_eq_true h.1
    have e2 : decide (u < (o.2.2.1.length : Int)) = true := decide_eq_true h.2
    simp only [joinB, e1, e2, cond_true, inL_true h.1 h.2, if_pos h]
    have := hz.fs u.toNat (by omega)
    rw [show ((u.toNat : Nat) : Int) = u by omega] at this
    rw [show (4 : Int) = ((4 : Nat) : Int) from rfl, wdiv _ 4 (by omega)]
  · have e0 : (decide (u ≥ 0) && decide (u < (o.2.2.1.length : Int))) = false := by simp; omega
    simp only [joinB, if_neg h]
    generalize decide (u ≥ 0) = b0 at *
    generalize decide (u < (o.2.2.1.length : Int)) = b1 at *
    by_cases h3 : (o.2.2.1.length : Int) ≤ u
    · rw [decide_eq_true (show u ≥ (o.2.2.1.length : Int) from h3), w64 (n := u - (o.2.2.1.length : Int)) (by omega) (by omega)]
      by_cases h4 : u < (o.2.2.1.length : Int) + (o.2.2.2.1.length : Int)
      · rw [if_pos ⟨h3, h4⟩, decide_eq_true (show u - (o.2.2.1.length : Int) < (o.2.2.2.1.length : Int) by omega), inL_true (i := u - (o.2.2.1.length : Int)) (n := o.2.2.2.1.length) (by omega) (by omega)]
        have := hz.ds (u - (o.2.2.1.length : Int)).toNat (by omega)
        rw [show (((u - (o.2.2.1.length : Int)).toNat : Nat) : Int) = u - (o.2.2.1.length : Int) by omega] at this
        rw [show (8 : Int) = ((8 : Nat) : Int) from rfl, wdiv _ 8 (by omega)]
        cases b0 <;> cases b1 <;> first | rfl | (exact absurd e0 (by decide))
      · rw [if_neg (by omega), decide_eq_false (show ¬ u - (o.2.2.1.length : Int) < (o.2.2.2.1.length : Int) by omega)]
        cases b0 <;> cases b1 <;> first | rfl | (exact absurd e0 (by decide))
    · rw [decide_eq_false (show ¬ u ≥ (o.2.2.1.length : Int) from h3), if_neg (by omega)]
      cases b0 <;> cases b1 <;> first | rfl | (exact absurd e0 (by decide))
def I64 (n : Int) : Prop := -9223372036854775808 ≤ n ∧ n ≤ 9223372036854775807
def RelsR (o : Obj) : Prop := ∀ k, k < o.2.2.2.2.1.length → I64 (rd (τ := TRel) o.2.2.2.2.1 (k : Int)).1
def relAt (o : Obj) (r : Rel) : Bool := inR r.1 0 ((o.2.2.1.length : Int) + (o.2.2.2.1.length : Int) - 1) && inR r.2.1 0 (unitV o r.1 - 1)
noncomputable def relC (o : Obj) (k : Nat) : Int :=
  if relAt o (rd (τ := TRel) o.2.2.2.2.1 (k : Int)) = false then 4
  else if (inR (rd (τ := TRel) o.2.2.2.2.1 (k : Int)).2.2.1 1 9 && (decide ((rd (τ := TRel) o.2.2.2.2.1 (k : Int)).2.2.1 = 9) == decide ((rd (τ := TRel) o.2.2.2.2.1 (k : Int)).1 ≥ (o.2.2.1.length : Int)))) = false then 26
  else if nameV (rd (τ := TRel) o.2.2.2.2.1 (k : Int)).2.2.2.1 = false then 3
  else if inR (rd (τ := TRel) o.2.2.2.2.1 (k : Int)).2.2.2.2 (-2147483648) 2147483647 = false then 4
  else if k = 0 then 0
  else if lessR (rd (τ := TRel) o.2.2.2.2.1 ((k - 1 : Nat) : Int)).1 (rd (τ := TRel) o.2.2.2.2.1 ((k - 1 : Nat) : Int)).2.1 (rd (τ := TRel) o.2.2.2.2.1 (k : Int)).1 (rd (τ := TRel) o.2.2.2.2.1 (k : Int)).2.1 = false then 24 else 0
theorem lessR_impl (pu pa u a : Int) : (bif decide (u < pu) then some (24 : Int) else bif decide (u = pu) then bif decide (a ≤ pa) then some 24 else some 0 else some 0) = some (if lessR pu pa u a = false then 24 else 0) := by
  rcases Int.lt_trichotomy u pu with h | h | h
  · rw [decide_eq_true h, show lessR pu pa u a = false by unfold lessR; rw [if_neg (show ¬ pu = u by omega)]; exact decide_eq_false (by omega)]; rfl
  · subst h
    rw [decide_eq_false (by omega), decide_eq_true rfl, cond_false, cond_true]
    have : lessR u pa u a = decide (pa < a) := by unfold lessR; rw [if_pos rfl]
    rw [this]
    by_cases h : a ≤ pa
    · rw [decide_eq_true h, decide_eq_false (show ¬ pa < a by omega)]; rfl
    · rw [decide_eq_false h, decide_eq_true (show pa < a by omega)]; rfl
  · rw [decide_eq_false (by omega), decide_eq_false (by omega), show lessR pu pa u a = true by unfold lessR; rw [if_neg (show ¬ pu = u by omega)]; exact decide_eq_true (by omega)]; rfl
theorem relAt_impl (o : Obj) (hz : UnitSz o) (r : Rel) {β : Type} (K : Bool → Option β) :
    ((Z64 r.1 0 (IntKind.wrap .i64 (((unitsV o).length : Int) - 1))).bind fun r2 => bif (!r2) then K true else (bif (inL r.1 (unitsV o).length) then ((Z64 r.2.1 0 (IntKind.wrap .i64 ((rd (τ := .int .i64) (unitsV o) r.1) - 1))).bind fun r3 => K (!r3)) else none)) = K (!relAt o r) := by
  have h1 := hz.f
  have h2 := hz.d
  rw [units_len, w64 (n := ((o.2.2.1.length + o.2.2.2.1.length : Nat) : Int) - 1) (by omega) (by omega), (in_val _ _ _).1, (in_val _ _ _).1]
  simp only [Option.bind_some]
  unfold relAt
  rw [Int.natCast_add]
  by_cases h : 0 ≤ r.1 ∧ r.1 ≤ (o.2.2.1.length : Int) + (o.2.2.2.1.length : Int) - 1
  · rw [inR_iff.2 h, inL_true (by omega) (by omega)]
    have hu := units_rd o hz r.1.toNat (by omega)
    rw [show ((r.1.toNat : Nat) : Int) = r.1 by omega] at hu
    have hr := unitV_range o hz r.1
    simp only [Bool.not_true, cond_false, cond_true, Bool.true_and]
    rw [hu, w64 (n := unitV o r.1 - 1) (by omega) (by omega)]
  · rw [show inR r.1 0 ((o.2.2.1.length : Int) + (o.2.2.2.1.length : Int) - 1) = false by cases h5 : inR r.1 0 ((o.2.2.1.length : Int) + (o.2.2.2.1.length : Int) - 1); rfl; exact absurd (inR_iff.1 h5) h]; rfl
theorem relAt_spec (o : Obj) (hz : UnitSz o) (r : Rel) (hr : I64 r.1) {β : Type} (K : Bool → Option β) :
    (bif decide (r.2.1 < 0) then K true else ((Z4c o r.1).bind fun r1 => K (decide (r.2.1 ≥ r1)))) = K (!relAt o r) := by
  rw [spec_unit o hz _ hr]
  simp only [Option.bind_some]
  have h1 := hz.f
  have h2 := hz.d
  have e : (decide (r.2.1 < 0) || decide (r.2.1 ≥ unitV o r.1)) = !relAt o r := by
    unfold relAt
    rw [Bool.eq_iff_iff]
    simp only [Bool.or_eq_true, decide_eq_true_eq, Bool.not_eq_true', Bool.and_eq_false_imp, inR_iff]
    constructor
    · intro h h3
      cases h4 : inR r.2.1 0 (unitV o r.1 - 1) with
      | false => rfl
      | true => rw [inR_iff] at h4; omega
    · intro h
      by_cases h3 : 0 ≤ r.1 ∧ r.1 ≤ (o.2.2.1.length : Int) + (o.2.2.2.1.length : Int) - 1
      · have := h h3
        by_cases h4 : 0 ≤ r.2.1 ∧ r.2.1 ≤ unitV o r.1 - 1
        · rw [inR_iff.2 h4] at this; cases this
        · omega
      · have : unitV o r.1 = -1 := by unfold unitV; rw [if_neg (by omega), if_neg (by omega)]
        omega
  rw [← e]
  cases decide (r.2.1 < 0) <;> rfl
theorem impl_rels (o : Obj) (hz : UnitSz o) : Z7j.c o (o.2.2.2.2.1.length : Int) 0 = if (scanB (relC o) 0 o.2.2.2.2.1.length).2 = 0 then Z7j.d o o.2.2.2.2.2 (o.2.2.2.2.2.length : Int) 0 else some (scanB (relC o) 0 o.2.2.2.2.1.length) := by
  have h3 := hz.r
  rw [loop_scan0 (L := Z7j.c o (o.2.2.2.2.1.length : Int)) (relC o) o.2.2.2.2.1.length fun i hi => ?_]
  · rw [Z7j.c_eq, lt_nat, decide_eq_false (Nat.lt_irrefl _), cond_false]
  · have e : Z7i o (i : Int) = some (relC o i) := by
      rw [Z7i_eq, inL_nat, decide_eq_true hi, cond_true, units_val o hz.toObjSz]
      simp only [Option.bind_some, joinB]
      rw [relAt_impl o hz (rd (τ := TRel) o.2.2.2.2.1 (i : Int)) (fun r5 => bif r5 then some 4 else _)]
      unfold relC
      generalize hrel : relAt o (rd (τ := TRel) o.2.2.2.2.1 (i : Int)) = ra
      rw [(in_val _ _ _).1, (in_val _ _ _).1, (name_val _).1]
      simp only [Option.bind_some]
      cases ra with
      | false => rfl
      | true =>
        generalize inR (rd (τ := TRel) o.2.2.2.2.1 (i : Int)).2.2.1 1 9 = b1
        generalize (decide ((rd (τ := TRel) o.2.2.2.2.1 (i : Int)).2.2.1 = 9) == decide ((rd (τ := TRel) o.2.2.2.2.1 (i : Int)).1 ≥ (o.2.2.1.length : Int))) = b2
        cases b1 with
        | false => rfl
        | true =>
          cases b2 with
          | false => rfl
          | true =>
            generalize nameV (rd (τ := TRel) o.2.2.2.2.1 (i : Int)).2.2.2.1 = b3
            generalize inR (rd (τ := TRel) o.2.2.2.2.1 (i : Int)).2.2.2.2 (-2147483648) 2147483647 = b4
            cases b3 with
            | false => rfl
            | true =>
              cases b4 with
              | false => rfl
              | true =>
                by_cases h0 : i = 0
                · rw [show decide ((i : Int) > 0) = false by simp [h0], if_pos h0]; rfl
                · rw [show decide ((i : Int) > 0) = true by simp; omega, if_neg h0, w64_pred i (by omega) (by omega), inL_nat, decide_eq_true (show i - 1 < o.2.2.2.2.1.length by omega), lessR_impl]; rfl
    rw [Z7j.c_eq, lt_nat, decide_eq_true hi, w64_succ i _ hi (by omega), e]
    simp only [Option.bind_some, cond_true]
    by_cases h : relC o i = 0
    · rw [if_pos h, decide_eq_true h]; rfl
    · rw [if_neg h, decide_eq_false h]; rfl
theorem spec_rels (o : Obj) (hz : UnitSz o) (hr : RelsR o) : Z4d o = some (scanB (relC o) 0 o.2.2.2.2.1.length) := by
  have h3 := hz.r
  rw [Z4d_eq, loop_scan0 (L := Z4d.a o) (relC o) o.2.2.2.2.1.length fun i hi => ?_]
  · rw [Z4d.a_eq, lt_nat, decide_eq_false (Nat.lt_irrefl _), cond_false]
    exact scan_end _ _ _
  · rw [Z4d.a_eq, lt_nat, inL_nat, decide_eq_true hi, cond_true, cond_true]
    simp only [joinB]
    rw [relAt_spec o hz (rd (τ := TRel) o.2.2.2.2.1 (i : Int)) (hr i hi) (fun r5 => bif r5 then some ((i : Int), 4) else _)]
    unfold relC
    generalize hrel : relAt o (rd (τ := TRel) o.2.2.2.2.1 (i : Int)) = ra
    rw [(in_val _ _ _).2, (in_val _ _ _).2, (name_val _).2, w64_succ i _ hi (by omega)]
    simp only [Option.bind_some]
    cases ra with
    | false => rfl
    | true =>
      generalize inR (rd (τ := TRel) o.2.2.2.2.1 (i : Int)).2.2.1 1 9 = b1
      generalize (decide ((rd (τ := TRel) o.2.2.2.2.1 (i : Int)).2.2.1 = 9) == decide ((rd (τ := TRel) o.2.2.2.2.1 (i : Int)).1 ≥ (o.2.2.1.length : Int))) = b2
      cases b1 with
      | false => rfl
      | true =>
        cases b2 with
        | false => rfl
        | true =>
          generalize nameV (rd (τ := TRel) o.2.2.2.2.1 (i : Int)).2.2.2.1 = b3
          generalize inR (rd (τ := TRel) o.2.2.2.2.1 (i : Int)).2.2.2.2 (-2147483648) 2147483647 = b4
          cases b3 with
          | false => rfl
          | true =>
            cases b4 with
            | false => rfl
            | true =>
              by_cases h0 : i = 0
              · rw [show decide ((i : Int) > 0) = false by simp [h0], if_pos h0]; rfl
              · rw [show decide ((i : Int) > 0) = true by simp; omega, if_neg h0, w64_pred i (by omega) (by omega), inL_nat, decide_eq_true (show i - 1 < o.2.2.2.2.1.length by omega), less2_val]
                unfold lessR
                simp only [Option.bind_some, cond_true, Bool.not_true, cond_false, Bool.and_self]
                generalize (if (rd (τ := TRel) o.2.2.2.2.1 ((i - 1 : Nat) : Int)).1 = (rd (τ := TRel) o.2.2.2.2.1 (i : Int)).1 then decide ((rd (τ := TRel) o.2.2.2.2.1 ((i - 1 : Nat) : Int)).2.1 < (rd (τ := TRel) o.2.2.2.2.1 (i : Int)).2.1) else decide ((rd (τ := TRel) o.2.2.2.2.1 ((i - 1 : Nat) : Int)).1 < (rd (τ := TRel) o.2.2.2.2.1 (i : Int)).1)) = b5
                cases b5 <;> rfl
def dclC (o : Obj) (k : Nat) : Int :=
  if inR (rd (τ := TDcl) o.2.2.2.2.2 (k : Int)).1 0 255 = false then 4 else if k = 0 then 0
  else if decide ((rd (τ := TDcl) o.2.2.2.2.2 (k : Int)).1 ≤ (rd (τ := TDcl) o.2.2.2.2.2 ((k - 1 : Nat) : Int)).1) = true then 24 else 0
theorem impl_dcls (o : Obj) (hz : ObjSz o) : Z7j.d o o.2.2.2.2.2 (o.2.2.2.2.2.length : Int) 0 = some (scanB (dclC o) 0 o.2.2.2.2.2.length) := by
  have h3 := hz.s
  rw [loop_scan0 (L := Z7j.d o o.2.2.2.2.2 (o.2.2.2.2.2.length : Int)) (dclC o) o.2.2.2.2.2.length fun i hi => ?_]
  · rw [Z7j.d_eq, lt_nat, decide_eq_false (Nat.lt_irrefl _), cond_false]
    exact scan_end _ _ _
  · rw [Z7j.d_eq, lt_nat, inL_nat, decide_eq_true hi, w64_succ i _ hi (by omega), (in_val _ _ _).1]
    unfold dclC
    simp only [Option.bind_some, cond_true]
    by_cases h0 : i = 0
    · rw [show decide ((i : Int) > 0) = false by simp [h0], if_pos h0]
      cases inR (rd (τ := TDcl) o.2.2.2.2.2 (i : Int)).1 0 255 <;> rfl
    · rw [show decide ((i : Int) > 0) = true by simp; omega, if_neg h0, w64_pred i (by omega) (by omega), inL_nat, decide_eq_true (show i - 1 < o.2.2.2.2.2.length by omega)]
      cases inR (rd (τ := TDcl) o.2.2.2.2.2 (i : Int)).1 0 255 <;> cases decide ((rd (τ := TDcl) o.2.2.2.2.2 (i : Int)).1 ≤ (rd (τ := TDcl) o.2.2.2.2.2 ((i - 1 : Nat) : Int)).1) <;> rfl
theorem spec_dcls (o : Obj) (hz : ObjSz o) : Z4e o = some (scanB (dclC o) 0 o.2.2.2.2.2.length) := by
  have h3 := hz.s
  rw [Z4e_eq, loop_scan0 (L := Z4e.a o) (dclC o) o.2.2.2.2.2.length fun i hi => ?_]
  · rw [Z4e.a_eq, lt_nat, decide_eq_false (Nat.lt_irrefl _), cond_false]
    exact scan_end _ _ _
  · rw [Z4e.a_eq, lt_nat, inL_nat, decide_eq_true hi, w64_succ i _ hi (by omega), (in_val _ _ _).2]
    unfold dclC
    simp only [Option.bind_some, cond_true]
    by_cases h0 : i = 0
    · rw [show decide ((i : Int) > 0) = false by simp [h0], if_pos h0]
      cases inR (rd (τ := TDcl) o.2.2.2.2.2 (i : Int)).1 0 255 <;> rfl
    · rw [show decide ((i : Int) > 0) = true by simp; omega, if_neg h0, w64_pred i (by omega) (by omega), inL_nat, decide_eq_true (show i - 1 < o.2.2.2.2.2.length by omega)]
      cases inR (rd (τ := TDcl) o.2.2.2.2.2 (i : Int)).1 0 255 <;> cases decide ((rd (τ := TDcl) o.2.2.2.2.2 (i : Int)).1 ≤ (rd (τ := TDcl) o.2.2.2.2.2 ((i - 1 : Nat) : Int)).1) <;> rfl
noncomputable def lintO (o : Obj) : Int × Int :=
  if nameV o.1 = false then (0, 3) else if inR o.2.1 0 5 = false then (0, 27) else if o.2.2.1.length = 0 then (0, 5)
  else if ¬ (o.2.2.1.length ≤ 4 ∧ o.2.2.2.1.length ≤ 4 ∧ o.2.2.2.2.1.length ≤ 32 ∧ o.2.2.2.2.2.length ≤ 4) then (0, 6)
  else if (scanB (funC o) 0 o.2.2.1.length).2 ≠ 0 then scanB (funC o) 0 o.2.2.1.length
  else if (scanB (datC o) 0 o.2.2.2.1.length).2 ≠ 0 then scanB (datC o) 0 o.2.2.2.1.length
  else if (scanB (relC o) 0 o.2.2.2.2.1.length).2 ≠ 0 then scanB (relC o) 0 o.2.2.2.2.1.length
  else scanB (dclC o) 0 o.2.2.2.2.2.length
theorem funSz_range {n : Nat} (h : funcSizeV n = true) : n ≤ 256 := by
  unfold funcSizeV at h
  cases h1 : codeSizeV n with
  | false => rw [h1] at h; cases h
  | true => exact (codeSizeV_range h1).2
theorem funC_zero {o : Obj} {i : Nat} (h : funC o i = 0) : nameV (rd (τ := TFun) o.2.2.1 (i : Int)).1 = true ∧ hasS ((namesV o).take i) (rd (τ := TFun) o.2.2.1 (i : Int)).1 = false ∧ frameV (rd (τ := TFun) o.2.2.1 (i : Int)).2.2.1 = true ∧ funcSizeV (rd (τ := TFun) o.2.2.1 (i : Int)).2.2.2.size = true := by
  unfold funC at h
  cases h1 : nameV (rd (τ := TFun) o.2.2.1 (i : Int)).1 <;> cases h2 : hasS ((namesV o).take i) (rd (τ := TFun) o.2.2.1 (i : Int)).1 <;> cases h3 : frameV (rd (τ := TFun) o.2.2.1 (i : Int)).2.2.1 <;> cases h4 : funcSizeV (rd (τ := TFun) o.2.2.1 (i : Int)).2.2.2.size <;> simp [h1, h2, h3, h4] at h ⊢
theorem datC_zero {o : Obj} {i : Nat} (h : datC o i = 0) : nameV (rd (τ := TDat) o.2.2.2.1 (i : Int)).1 = true ∧ hasS ((namesV o).take (o.2.2.1.length + i)) (rd (τ := TDat) o.2.2.2.1 (i : Int)).1 = false ∧ datSz (rd (τ := TDat) o.2.2.2.1 (i : Int)).2.size = true := by
  unfold datC at h
  cases h1 : nameV (rd (τ := TDat) o.2.2.2.1 (i : Int)).1 <;> cases h2 : hasS ((namesV o).take (o.2.2.1.length + i)) (rd (τ := TDat) o.2.2.2.1 (i : Int)).1 <;> cases h4 : datSz (rd (τ := TDat) o.2.2.2.1 (i : Int)).2.size <;> simp [h1, h2, h4] at h ⊢
theorem datSz_range {n : Nat} (h : datSz n = true) : 8 ≤ n ∧ n ≤ 64 ∧ n % 8 = 0 := by
  unfold datSz at h
  rw [Bool.and_eq_true, inR_iff, decide_eq_true_eq, Int.tmod_eq_emod_of_nonneg (by omega)] at h
  omega
theorem unitSz_of {o : Obj} (hz : ObjSz o) (h1 : (scanB (funC o) 0 o.2.2.1.length).2 = 0) (h2 : (scanB (datC o) 0 o.2.2.2.1.length).2 = 0) : UnitSz o :=
  ⟨hz, fun i hi => funSz_range (funC_zero ((scanB_zero _ _ _).1 h1 i (Nat.zero_le _) (by omega))).2.2.2, fun i hi => (datSz_range (datC_zero ((scanB_zero _ _ _).1 h2 i (Nat.zero_le _) (by omega))).2.2).2.1⟩
theorem lintO_val (o : Obj) (hr : RelsR o) : Z7j o = some (lintO o) ∧ Z4f o = some (lintO o) := by
  rw [Z7j_eq, Z4f_eq, (name_val _).1, (name_val _).2, (in_val _ _ _).1, (in_val _ _ _).2]
  unfold lintO
  simp only [Option.bind_some, joinB]
  cases nameV o.1 with
  | false => exact ⟨rfl, rfl⟩
  | true =>
    cases inR o.2.1 0 5 with
    | false => exact ⟨rfl, rfl⟩
    | true =>
      by_cases h0 : o.2.2.1.length = 0
      · rw [if_pos h0, decide_eq_true (show (o.2.2.1.length : Int) = 0 by omega)]; exact ⟨rfl, rfl⟩
      rw [if_neg h0, decide_eq_false (show ¬ (o.2.2.1.length : Int) = 0 by omega)]
      rcases Classical.em (o.2.2.1.length ≤ 4 ∧ o.2.2.2.1.length ≤ 4 ∧ o.2.2.2.2.1.length ≤ 32 ∧ o.2.2.2.2.2.length ≤ 4) with hz | hz
      · rw [if_neg (not_not_intro hz), decide_eq_false (show ¬ (o.2.2.1.length : Int) > 4 by omega), decide_eq_false (show ¬ (o.2.2.2.1.length : Int) > 4 by omega), decide_eq_false (show ¬ (o.2.2.2.2.1.length : Int) > 32 by omega), decide_eq_false (show ¬ (o.2.2.2.2.2.length : Int) > 4 by omega)]
        have hz' : ObjSz o := ⟨hz.1, hz.2.1, hz.2.2.1, hz.2.2.2⟩
        simp only [Bool.not_true, cond_false]
        rw [impl_funs o hz', spec_funs o hz']
        simp only [Option.bind_some]
        by_cases h1 : (scanB (funC o) 0 o.2.2.1.length).2 = 0
        · rw [if_pos h1, if_neg (not_not_intro h1), decide_eq_true h1, impl_dats o hz', spec_dats o hz']
          simp only [Option.bind_some, Bool.not_true, cond_false]
          by_cases h2 : (scanB (datC o) 0 o.2.2.2.1.length).2 = 0
          · have hu := unitSz_of hz' h1 h2
            rw [if_pos h2, if_neg (not_not_intro h2), decide_eq_true h2, impl_rels o hu, spec_rels o hu hr]
            simp only [Option.bind_some, Bool.not_true, cond_false]
            by_cases h3 : (scanB (relC o) 0 o.2.2.2.2.1.length).2 = 0
            · rw [if_pos h3, if_neg (not_not_intro h3), decide_eq_true h3, impl_dcls o hz', spec_dcls o hz']; exact ⟨rfl, rfl⟩
            · rw [if_neg h3, if_pos h3, decide_eq_false h3]; exact ⟨rfl, rfl⟩
          · rw [if_neg h2, if_pos h2, decide_eq_false h2]; exact ⟨rfl, rfl⟩
        · rw [if_neg h1, if_pos h1, decide_eq_false h1]; exact ⟨rfl, rfl⟩
      · rw [if_pos hz]
        have e : (decide ((o.2.2.1.length : Int) > 4) || decide ((o.2.2.2.1.length : Int) > 4) || decide ((o.2.2.2.2.1.length : Int) > 32) || decide ((o.2.2.2.2.2.length : Int) > 4)) = true := by simp; omega
        generalize decide ((o.2.2.1.length : Int) > 4) = b1 at *
        generalize decide ((o.2.2.2.1.length : Int) > 4) = b2 at *
        generalize decide ((o.2.2.2.2.1.length : Int) > 32) = b3 at *
        generalize decide ((o.2.2.2.2.2.length : Int) > 4) = b4 at *
        cases b1 <;> cases b2 <;> cases b3 <;> cases b4 <;> first | exact ⟨rfl, rfl⟩ | (exact absurd e (by decide))
noncomputable def objV (o : Obj) : Bool := decide ((lintO o).2 = 0)
theorem object_val (o : Obj) (hr : RelsR o) : Z7k o = some (objV o) ∧ Z4g o = some (objV o) := by
  rw [Z7k_eq, Z4g_eq, (lintO_val o hr).1, (lintO_val o hr).2]; exact ⟨rfl, rfl⟩
structure ObjOK (o : Obj) : Prop extends UnitSz o where
  depth : 0 ≤ o.2.1 ∧ o.2.1 ≤ 5
  pos : 0 < o.2.2.1.length
  fun_ : ∀ i, i < o.2.2.1.length → funC o i = 0
  dat : ∀ i, i < o.2.2.2.1.length → datC o i = 0
  rel : ∀ i, i < o.2.2.2.2.1.length → relC o i = 0
theorem objOK_of {o : Obj} (h : objV o = true) : ObjOK o := by
  unfold objV at h
  rw [decide_eq_true_eq] at h
  unfold lintO at h
  split at h
  · cases h
  split at h
  · cases h
  rename_i hn hd
  split at h
  · cases h
  split at h
  · cases h
  rename_i h0 hz
  have hz := Classical.not_not.1 hz
  split at h
  · rename_i h1; exact absurd h h1
  split at h
  · rename_i h2; exact absurd h h2
  split at h
  · rename_i h3; exact absurd h h3
  rename_i h1 h2 h3
  have h1 := Classical.not_not.1 h1
  have h2 := Classical.not_not.1 h2
  have h3 := Classical.not_not.1 h3
  have hz' : ObjSz o := ⟨hz.1, hz.2.1, hz.2.2.1, hz.2.2.2⟩
  have hd : inR o.2.1 0 5 = true := by cases h4 : inR o.2.1 0 5; exact absurd h4 hd; rfl
  exact ⟨unitSz_of hz' h1 h2, inR_iff.1 hd, by omega, fun i hi => (scanB_zero _ _ _).1 h1 i (Nat.zero_le _) (by omega), fun i hi => (scanB_zero _ _ _).1 h2 i (Nat.zero_le _) (by omega), fun i hi => (scanB_zero _ _ _).1 h3 i (Nat.zero_le _) (by omega)⟩
theorem andNot12 (X : Nat) (h : X < 2 ^ 64) : X &&& (2 ^ 64 - 1 - 4095) = X / 4096 * 4096 := by
  have e : (2 ^ 64 - 1 - 4095 : Nat) = (2 ^ 52 - 1) * 2 ^ 12 := by decide
  have e2 : X / 4096 * 4096 = (X / 2 ^ 12) * 2 ^ 12 := by rfl
  rw [e, e2]
  apply Nat.eq_of_testBit_eq
  intro i
  rw [Nat.testBit_and, Nat.testBit_mul_two_pow, Nat.testBit_mul_two_pow, Nat.testBit_two_pow_sub_one, Nat.testBit_div_two_pow]
  by_cases h1 : 12 ≤ i
  · rw [show i - 12 + 12 = i by omega]
    by_cases h2 : i < 64
    · simp [h1]; omega
    · have : X.testBit i = false := Nat.testBit_lt_two_pow (Nat.lt_of_lt_of_le h (Nat.pow_le_pow_right (by decide) (by omega)))
      rw [this]; simp
  · simp [h1]
def upV (v : Int) : Int := (v + 2048) - (v + 2048) % 4096
def Near (v : Int) : Prop := -1152921504606846976 ≤ v ∧ v ≤ 1152921504606846976
theorem upper_val (v : Int) (h : Near v) : Z84 v = some (upV v) := by
  obtain ⟨h1, h2⟩ := h
  rw [Z84_eq, w64 (n := v + 2048) (by omega) (by omega)]
  congr 1
  unfold andNotI
  have e1 : (BitVec.ofInt IntKind.i64.bits (v + 2048) &&& ~~~ BitVec.ofInt IntKind.i64.bits 4095).toNat = (BitVec.ofInt IntKind.i64.bits (v + 2048)).toNat / 4096 * 4096 := by
    rw [BitVec.toNat_and, BitVec.toNat_not]
    have : (BitVec.ofInt IntKind.i64.bits (4095 : Int)).toNat = 4095 := by decide
    rw [this]
    exact andNot12 _ (BitVec.isLt _)
  rw [e1]
  have e2 := bv64 (v + 2048)
  generalize (BitVec.ofInt IntKind.i64.bits (v + 2048)).toNat = X at *
  unfold upV
  have : (((X / 4096 * 4096 : Nat)) : Int) = (v + 2048) % 18446744073709551616 / 4096 * 4096 := by omega
  rw [this]
  refine wrap_unique (if v + 2048 < 0 then 1 else 0) ?_ (by omega) (by omega)
  split <;> omega
theorem sign12 (v : Int) : signV v 12 = v - upV v := by
  unfold signV upV
  have e1 : (2 : Int) ^ 12 = 4096 := by decide
  have e2 : (2 : Int) ^ (12 - 1) = 2048 := by decide
  rw [e1, e2]
  split <;> omega
theorem lower_val (v : Int) (h : Near v) : Z85 v = some (v - upV v) := by
  rw [Z85_eq, upper_val v h]
  simp only [Option.bind_some]
  rw [w64 (by have := h.1; unfold upV; omega) (by unfold upV; omega)]
theorem low_val (v : Int) (h : Near v) : Z4o v = some (v - upV v) := by
  obtain ⟨h1, h2⟩ := h
  rw [Z4o_eq, sign_val v 12 (by decide) (by decide) (by omega) (by omega)]
  simp only [Option.bind_some]
  rw [show (12 : Int).toNat = 12 from rfl, sign12]
theorem high_val (v : Int) (h : Near v) : Z4p v = some (upV v) := by
  rw [Z4p_eq, low_val v h]
  simp only [Option.bind_some]
  have : v - (v - upV v) = upV v := by omega
  rw [this, w64 (by have := h.1; unfold upV; omega) (by have := h.2; unfold upV; omega)]
theorem immOK_val (f i : Int) (hf : 1 ≤ f ∧ f ≤ 9) : Z88 f i = some (immR f i) := by
  rw [Z88_eq]
  have t1 : decide (i.tmod 4096 = 0) = decide (i % 4096 = 0) := by
    congr 1; exact propext ⟨fun h => by rw [← Int.dvd_iff_tmod_eq_zero] at h; omega, fun h => by rw [← Int.dvd_iff_tmod_eq_zero]; omega⟩
  have t2 : decide (i.tmod 2 = 0) = decide (i % 2 = 0) := by
    congr 1; exact propext ⟨fun h => by rw [← Int.dvd_iff_tmod_eq_zero] at h; omega, fun h => by rw [← Int.dvd_iff_tmod_eq_zero]; omega⟩
  rw [t1, t2]
  simp only [within_val, Option.bind_some, joinB]
  rcases forms hf with rfl | rfl | rfl | rfl | rfl | rfl | rfl | rfl | rfl
  all_goals simp [immR, cond_ite]
  all_goals (try (split <;> simp_all))
  all_goals (try (intro q1 q2; omega))
def fitsV (x : Ins) (k : Int) : Bool :=
  if k = 1 then decide (x.1 = 1) else if k = 2 ∨ k = 5 then decide ((shp x.1).1 = 3) && !decide (x.1 = 4) else if k = 3 ∨ k = 6 then decide ((shp x.1).1 = 5)
  else if k = 4 then decide (x.1 = 2) else if k = 7 then decide (x.1 = 3) else decide ((shp x.1).1 = 4)
def relImm (k v p : Int) : Int :=
  if k = 1 then upV v else if k = 2 ∨ k = 3 then v - upV v else if k = 4 then upV (v - p) else if k = 5 ∨ k = 6 then v - p + 4 - upV (v - p + 4) else v - p
theorem store_form (n : Int) (h : 1 ≤ n) (h' : n ≤ 64) : decide ((shp n).1 = 5) = (decide (18 ≤ n) && decide (n ≤ 21)) := by
  obtain ⟨k, rfl⟩ := fin65 (n := n) (by omega) h'
  revert k; decide
theorem low_form (x : Ins) (h : 1 ≤ x.1) (h' : x.1 ≤ 64) : Z86 x = some (decide ((shp x.1).1 = 3) && !decide (x.1 = 4)) := by
  rw [Z86_eq, impl_shape _ (by omega) h']
  simp only [Option.bind_some]
  cases decide ((shp x.1).1 = 3) <;> rfl
theorem kinds8 {k : Int} (h : 1 ≤ k ∧ k ≤ 8) : k = 1 ∨ k = 2 ∨ k = 3 ∨ k = 4 ∨ k = 5 ∨ k = 6 ∨ k = 7 ∨ k = 8 := by omega
def Mid (v : Int) : Prop := -1099511627776 ≤ v ∧ v ≤ 1099511627776
theorem applied_val (x : Ins) (h : 1 ≤ x.1) (h' : x.1 ≤ 64) (k v p : Int) (hk : 1 ≤ k ∧ k ≤ 8) (hv : Mid v) (hp : Mid p) : Z87 x k v p = some (relImm k v p, fitsV x k) := by
  have hb := branch_form x.1 h h'
  have hs := store_form x.1 h h'
  rw [Z87_eq, low_form x h h', store_val, branch_val, ← hb, ← hs]
  obtain ⟨v1, v2⟩ := hv
  obtain ⟨p1, p2⟩ := hp
  rw [w64 (n := v - p) (by omega) (by omega), w64 (n := p - 4) (by omega) (by omega), w64 (n := v - (p - 4)) (by omega) (by omega), show v - (p - 4) = v - p + 4 by omega,
    upper_val v ⟨by omega, by omega⟩, lower_val v ⟨by omega, by omega⟩, upper_val (v - p) ⟨by omega, by omega⟩, lower_val (v - p + 4) ⟨by omega, by omega⟩]
  unfold relImm fitsV
  rcases kinds8 hk with rfl | rfl | rfl | rfl | rfl | rfl | rfl | rfl <;> rfl
theorem fits_val (x : Ins) (h : 1 ≤ x.1) (h' : x.1 ≤ 64) (k : Int) (hk : 1 ≤ k ∧ k ≤ 8) : Z4n x k = some (fitsV x k) := by
  rw [Z4n_eq, spec_shape _ (by omega) h']
  unfold fitsV
  simp only [Option.bind_some, joinB]
  generalize (shp x.1).1 = f
  rcases kinds8 hk with rfl | rfl | rfl | rfl | rfl | rfl | rfl | rfl <;> first | rfl | (simp only []; cases decide (f = 3) <;> rfl)
theorem imm_val (k v p : Int) (hk : 1 ≤ k ∧ k ≤ 8) (hv : Mid v) (hp : Mid p) : Z4q k v p = some (relImm k v p) := by
  obtain ⟨v1, v2⟩ := hv
  obtain ⟨p1, p2⟩ := hp
  rw [Z4q_eq, w64 (n := v - p) (by omega) (by omega), w64 (n := v - p + 4) (by omega) (by omega), high_val v ⟨by omega, by omega⟩, low_val v ⟨by omega, by omega⟩, high_val (v - p) ⟨by omega, by omega⟩, low_val (v - p + 4) ⟨by omega, by omega⟩]
  unfold relImm
  rcases kinds8 hk with rfl | rfl | rfl | rfl | rfl | rfl | rfl | rfl <;> rfl
theorem relImm_near (k v p : Int) (hv : Mid v) (hp : Mid p) : I64 (relImm k v p) := by
  obtain ⟨v1, v2⟩ := hv
  obtain ⟨p1, p2⟩ := hp
  unfold relImm I64 upV
  repeat' split
  all_goals omega
theorem right_imm {x : Ins} {i : Int} (h : rightV x = true) : rightV (x.1, x.2.1, x.2.2.1, x.2.2.2.1, i) = immR (shp x.1).1 i := by
  unfold rightV at h ⊢
  simp only [Bool.and_eq_true] at h
  simp only [h.1, Bool.and_self, Bool.true_and]
theorem immR_up {i : Int} (h : immR 1 i = true) : i % 4096 = 0 := by
  unfold immR at h
  rw [if_pos rfl] at h
  simp only [Bool.and_eq_true, decide_eq_true_eq] at h
  exact h.2
theorem relocate_both (w k v p : Int) (hw : 0 ≤ w ∧ w < 4294967296) (hk : 1 ≤ k ∧ k ≤ 8) (hv : Mid v) (hp : Mid p) : ∃ r, Z89 w k v p = some r ∧ Z4r w k v p = some r := by
  obtain ⟨d, h1, h2, hd⟩ := decode_both w hw.1 hw.2
  rw [Z89_eq, Z4r_eq, h1, h2]
  simp only [Option.bind_some]
  cases hb : d.2 with
  | false => exact ⟨(0, 10), rfl, rfl⟩
  | true =>
    obtain ⟨n1, n2, hr, hri⟩ := hd.ins hw.1 hw.2 hb
    rw [applied_val _ n1 n2 k v p hk hv hp, fits_val _ n1 n2 k hk, imm_val k v p hk hv hp, impl_shape _ (by omega) n2]
    simp only [Option.bind_some, Bool.not_true, cond_false]
    cases fitsV d.1 k with
    | false => exact ⟨(0, 26), rfl, rfl⟩
    | true =>
      rw [immOK_val _ _ (shp_form n1 n2), spec_right_val, right_imm hri]
      simp only [Option.bind_some, Bool.not_true, cond_false]
      cases hi : immR (shp d.1.1).1 (relImm k v p) with
      | false => exact ⟨(0, 25), rfl, rfl⟩
      | true =>
        have hR : RegsOK (d.1.1, d.1.2.1, d.1.2.2.1, d.1.2.2.2.1, relImm k v p) := ⟨hr.d, hr.a, hr.b, relImm_near k v p hv hp⟩
        rw [impl_encode_val (d.1.1, d.1.2.1, d.1.2.2.1, d.1.2.2.2.1, relImm k v p) n1 n2 hR, spec_encode_val (d.1.1, d.1.2.1, d.1.2.2.1, d.1.2.2.2.1, relImm k v p) n1 n2 hR fun h => by
          rw [show (shp d.1.1).1 = 1 from h] at hi; exact immR_up hi]
        exact ⟨_, rfl, rfl⟩
theorem loop_code (L : Int → Option Int) (c : Nat → Int) (n : Nat) (hstep : ∀ i : Nat, i < n → L (i : Int) = if c i = 0 then L ((i + 1 : Nat) : Int) else some (c i)) :
    ∀ k i : Nat, i + k = n → L (i : Int) = if (scanB c i k).2 = 0 then L (n : Int) else some (scanB c i k).2 := by
  intro k
  induction k with
  | zero => intro i h; have : i = n := by omega
            subst this; rfl
  | succ k ih =>
    intro i h
    rw [hstep i (by omega), ih (i + 1) (by omega), scanB]
    by_cases h : c i = 0
    · rw [if_pos h, if_pos h]
    · rw [if_neg h, if_neg h, if_neg h]
theorem loop_code0 {L : Int → Option Int} (c : Nat → Int) (n : Nat) (hstep : ∀ i : Nat, i < n → L (i : Int) = if c i = 0 then L ((i + 1 : Nat) : Int) else some (c i)) : L 0 = if (scanB c 0 n).2 = 0 then L (n : Int) else some (scanB c 0 n).2 :=
  loop_code L c n hstep n 0 (by omega)
abbrev Lnk : Type := List Int × List ByteArray × List Int × List ByteArray
abbrev LnS : Type := Lnk × List Ent × Obj
theorem entV_range (t : List Ent) (n : ByteArray) : entV t n = -1 ∨ (0 ≤ entV t n ∧ entV t n < (t.length : Int)) := by
  unfold entV
  rcases findB_spec (fun i => decide ((rd (τ := TEnt) t (i : Int)).1 = n)) t.length 0 with ⟨h, _⟩ | ⟨j, h1, _, h3, _⟩
  · exact .inl h
  · rw [h1]; exact .inr ⟨by omega, by omega⟩
def nfC (t : List Ent) (o : Obj) (i : Nat) : Int :=
  if (rd (τ := TFun) o.2.2.1 (i : Int)).2.1 = true then (if entV t (rd (τ := TFun) o.2.2.1 (i : Int)).1 < 0 then 23 else if (rd (τ := TEnt) t (entV t (rd (τ := TFun) o.2.2.1 (i : Int)).1)).2.1 = 1 then 0 else 26)
  else if entV t (rd (τ := TFun) o.2.2.1 (i : Int)).1 ≥ 0 then 24 else 0
def ndC (t : List Ent) (o : Obj) (i : Nat) : Int := if entV t (rd (τ := TDat) o.2.2.2.1 (i : Int)).1 ≥ 0 then 24 else 0
def namesC (t : List Ent) (o : Obj) : Int :=
  if (scanB (nfC t o) 0 o.2.2.1.length).2 = 0 then (scanB (ndC t o) 0 o.2.2.2.1.length).2 else (scanB (nfC t o) 0 o.2.2.1.length).2
theorem code_end (c : Nat → Int) (i k : Nat) : (if (scanB c i k).2 = 0 then some (0 : Int) else some (scanB c i k).2) = some (scanB c i k).2 := by
  by_cases h : (scanB c i k).2 = 0
  · rw [if_pos h, h]
  · rw [if_neg h]
theorem impl_names (l : Lnk) (t : List Ent) (o : Obj) (ht : t.length ≤ 64) (hz : ObjSz o) : Z7z (l, t, o) = some (namesC t o) := by
  have h1 := hz.f
  have h2 := hz.d
  rw [Z7z_eq]
  show Z7z.a (l, t, o) o.2.2.1 (o.2.2.1.length : Int) 0 = _
  rw [loop_code0 (L := Z7z.a (l, t, o) o.2.2.1 (o.2.2.1.length : Int)) (nfC t o) o.2.2.1.length fun i hi => ?_]
  · rw [Z7z.a_eq, lt_nat, decide_eq_false (Nat.lt_irrefl _), cond_false]
    show (if _ then Z7z.b (l, t, o) o.2.2.2.1 (o.2.2.2.1.length : Int) 0 else _) = _
    rw [loop_code0 (L := Z7z.b (l, t, o) o.2.2.2.1 (o.2.2.2.1.length : Int)) (ndC t o) o.2.2.2.1.length fun i hi => ?_]
    · rw [Z7z.b_eq, lt_nat, decide_eq_false (Nat.lt_irrefl _), cond_false, code_end]
      unfold namesC
      split <;> rfl
    · rw [Z7z.b_eq, lt_nat, inL_nat, decide_eq_true hi, w64_succ i _ hi (by omega), (ent_val t _ (by omega)).1]
      unfold ndC
      simp only [cond_true, Option.bind_some]
      by_cases h : entV t (rd (τ := TDat) o.2.2.2.1 (i : Int)).1 ≥ 0
      · rw [if_pos h, decide_eq_true h]; rfl
      · rw [if_neg h, decide_eq_false h]; rfl
  · rw [Z7z.a_eq, lt_nat, inL_nat, decide_eq_true hi, w64_succ i _ hi (by omega), (ent_val t _ (by omega)).1]
    unfold nfC
    simp only [cond_true, Option.bind_some, joinB]
    have hr := entV_range t (rd (τ := TFun) o.2.2.1 (i : Int)).1
    generalize entV t (rd (τ := TFun) o.2.2.1 (i : Int)).1 = e at *
    cases (rd (τ := TFun) o.2.2.1 (i : Int)).2.1 with
    | false =>
      by_cases h : e ≥ 0
      · simp only [Bool.false_eq_true, if_false, if_pos h, decide_eq_true h]; rfl
      · simp only [Bool.false_eq_true, if_false, if_neg h, decide_eq_false h]; rfl
    | true =>
      rcases hr with h | h
      · simp only [if_true, if_pos (show e < 0 by omega), decide_eq_true (show e < 0 by omega)]; rfl
      · simp only [if_true, if_neg (show ¬ e < 0 by omega), decide_eq_false (show ¬ e < 0 by omega), inL_true h.1 h.2]
        by_cases h3 : (rd (τ := TEnt) t e).2.1 = 1
        · simp only [if_pos h3, decide_eq_true h3]; rfl
        · simp only [if_neg h3, decide_eq_false h3]; rfl
theorem spec_names (t : List Ent) (o : Obj) (ht : t.length ≤ 64) (hz : ObjSz o) : Z4i t o = some (namesC t o) := by
  have h1 := hz.f
  have h2 := hz.d
  rw [Z4i_eq]
  rw [loop_code0 (L := Z4i.a t o) (nfC t o) o.2.2.1.length fun i hi => ?_]
  · rw [Z4i.a_eq, lt_nat, decide_eq_false (Nat.lt_irrefl _), cond_false]
    rw [loop_code0 (L := Z4i.b t o) (ndC t o) o.2.2.2.1.length fun i hi => ?_]
    · rw [Z4i.b_eq, lt_nat, decide_eq_false (Nat.lt_irrefl _), cond_false, code_end]
      unfold namesC
      split <;> rfl
    · rw [Z4i.b_eq, lt_nat, inL_nat, decide_eq_true hi, w64_succ i _ hi (by omega), (ent_val t _ (by omega)).2]
      unfold ndC
      simp only [cond_true, Option.bind_some]
      by_cases h : entV t (rd (τ := TDat) o.2.2.2.1 (i : Int)).1 ≥ 0
      · rw [if_pos h, decide_eq_true h]; rfl
      · rw [if_neg h, decide_eq_false h]; rfl
  · rw [Z4i.a_eq, lt_nat, inL_nat, decide_eq_true hi, w64_succ i _ hi (by omega), (ent_val t _ (by omega)).2]
    unfold nfC
    simp only [cond_true, Option.bind_some]
    have hr := entV_range t (rd (τ := TFun) o.2.2.1 (i : Int)).1
    generalize entV t (rd (τ := TFun) o.2.2.1 (i : Int)).1 = e at *
    cases (rd (τ := TFun) o.2.2.1 (i : Int)).2.1 with
    | false =>
      by_cases h : e ≥ 0
      · simp only [Bool.false_eq_true, if_false, if_pos h, decide_eq_true h]; rfl
      · simp only [Bool.false_eq_true, if_false, if_neg h, decide_eq_false h]; rfl
    | true =>
      rcases hr with h | h
      · simp only [if_true, if_pos (show e < 0 by omega), decide_eq_true (show e < 0 by omega)]; rfl
      · simp only [if_true, if_neg (show ¬ e < 0 by omega), decide_eq_false (show ¬ e < 0 by omega), inL_true h.1 h.2]
        by_cases h3 : (rd (τ := TEnt) t e).2.1 = 1
        · simp only [if_pos h3, decide_eq_true h3]; rfl
        · simp only [if_neg h3, decide_eq_false h3]; rfl
structure AreaR (a : Area) : Prop where
  base : 0 ≤ a.1 ∧ a.1 ≤ 1048575 ∧ a.1 % 8 = 0
  size : 0 ≤ a.2.1 ∧ a.2.1 ≤ 1048576 - a.1 ∧ a.2.1 % 8 = 0
  top : a.1 ≤ a.2.2 ∧ a.2.2 ≤ a.1 + a.2.1 ∧ a.2.2 % 8 = 0
theorem tmod8_iff (n : Int) : n.tmod 8 = 0 ↔ n % 8 = 0 := ⟨fun h => by rw [← Int.dvd_iff_tmod_eq_zero] at h; omega, fun h => by rw [← Int.dvd_iff_tmod_eq_zero]; omega⟩
theorem areaV_iff {a : Area} : areaV a = true ↔ AreaR a := by
  unfold areaV
  simp only [Bool.and_eq_true, inR_iff, decide_eq_true_eq, tmod8_iff]
  constructor
  · rintro ⟨⟨⟨⟨⟨h1, h2⟩, h3⟩, h4⟩, h5⟩, h6⟩
    rw [w64 (n := 1048576 - a.1) (by omega) (by omega)] at h2
    rw [w64 (n := a.1 + a.2.1) (by omega) (by omega)] at h3
    exact ⟨⟨h1.1, h1.2, h4⟩, ⟨h2.1, h2.2, h5⟩, ⟨h3.1, h3.2, h6⟩⟩
  · rintro ⟨⟨h1, h2, h3⟩, ⟨h4, h5, h6⟩, h7, h8, h9⟩
    rw [w64 (n := 1048576 - a.1) (by omega) (by omega), w64 (n := a.1 + a.2.1) (by omega) (by omega)]
    exact ⟨⟨⟨⟨⟨⟨h1, h2⟩, h4, h5⟩, h7, h8⟩, h3⟩, h6⟩, h9⟩
def up8 (n : Nat) : Nat := (n + 7) / 8 * 8
def placeV (a : Area) (n : Nat) : Area × Int × Bool := if (up8 n : Int) > a.1 + a.2.1 - a.2.2 then (a, 0, false) else ((a.1, a.2.1, a.2.2 + (up8 n : Int)), a.2.2, true)
theorem placeV_area {a : Area} (h : AreaR a) (n : Nat) : AreaR (placeV a n).1 := by
  unfold placeV
  split
  · exact h
  · obtain ⟨⟨h1, h2, h3⟩, ⟨h4, h5, h6⟩, h7, h8, h9⟩ := h
    have : up8 n % 8 = 0 := by unfold up8; omega
    refine ⟨⟨h1, h2, h3⟩, ⟨h4, h5, h6⟩, ?_, ?_, ?_⟩ <;> simp only <;> omega
theorem impl_place_val (a : Area) (h : AreaR a) (n : Nat) (hn : n ≤ 256) : Z80 a (n : Int) = some (placeV a n) := by
  obtain ⟨⟨h1, h2, h3⟩, ⟨h4, h5, h6⟩, h7, h8, h9⟩ := h
  rw [Z80_eq, w64 (n := (n : Int) + 7) (by omega) (by omega), Int.tdiv_eq_ediv_of_nonneg (by omega), w64 (n := ((n : Int) + 7) / 8) (by omega) (by omega), w64 (n := ((n : Int) + 7) / 8 * 8) (by omega) (by omega), w64 (n := a.1 + a.2.1) (by omega) (by omega), w64 (n := a.1 + a.2.1 - a.2.2) (by omega) (by omega), show ((n : Int) + 7) / 8 * 8 = (up8 n : Int) by unfold up8; omega]
  have : up8 n ≤ 264 := by unfold up8; omega
  rw [w64 (n := a.2.2 + (up8 n : Int)) (by omega) (by omega)]
  unfold placeV
  by_cases h : (up8 n : Int) > a.1 + a.2.1 - a.2.2
  · rw [if_pos h, decide_eq_true h]; rfl
  · rw [if_neg h, decide_eq_false h]; rfl
theorem spec_place_loop (a : Area) (h : AreaR a) (z : Area) : ∀ (k n : Nat), n + k = up8 n → n ≤ 256 → Z4j.a (n : Int) a z = some (placeV a n) := by
  obtain ⟨⟨h1, h2, h3⟩, ⟨h4, h5, h6⟩, h7, h8, h9⟩ := h
  intro k
  induction k with
  | zero =>
    intro n hn hn2
    have h0 : n % 8 = 0 := by unfold up8 at hn; omega
    have e : decide ((n : Int).tmod 8 = 0) = true := decide_eq_true ((tmod8_iff _).2 (by omega))
    rw [Z4j.a_eq, e, w64 (n := a.1 + a.2.1) (by omega) (by omega), w64 (n := a.1 + a.2.1 - a.2.2) (by omega) (by omega), w64 (n := a.2.2 + (n : Int)) (by omega) (by omega)]
    unfold placeV
    rw [← hn, Nat.add_zero]
    by_cases h : (n : Int) > a.1 + a.2.1 - a.2.2
    · rw [if_pos h, decide_eq_true h]; rfl
    · rw [if_neg h, decide_eq_false h]; rfl
  | succ k ih =>
    intro n hn hn2
    have h0 : n % 8 ≠ 0 := by unfold up8 at hn; omega
    have h256 : n ≠ 256 := by intro h; subst h; exact h0 rfl
    have e : decide ((n : Int).tmod 8 = 0) = false := decide_eq_false (fun h => h0 (by have := (tmod8_iff _).1 h; omega))
    have hu : up8 (n + 1) = up8 n := by unfold up8; omega
    rw [Z4j.a_eq, e, w64 (n := (n : Int) + 1) (by omega) (by omega)]
    simp only [Bool.not_false, cond_true]
    rw [show (n : Int) + 1 = ((n + 1 : Nat) : Int) by omega, ih (n + 1) (by rw [hu]; omega) (by omega)]
    unfold placeV
    rw [hu]
theorem spec_place_val (a : Area) (h : AreaR a) (n : Nat) (hn : n ≤ 256) : Z4j a (n : Int) = some (placeV a n) := by
  rw [Z4j_eq]; exact spec_place_loop a h _ (up8 n - n) n (by unfold up8; omega) hn
def plB (sz : Nat → Nat) (a : Area) : Nat → Nat → Area × List Int × Bool
  | _, 0 => (a, [], true)
  | i, k + 1 => ((plB sz (placeV a (sz i)).1 (i + 1) k).1, (placeV a (sz i)).2.1 :: (plB sz (placeV a (sz i)).1 (i + 1) k).2.1, (placeV a (sz i)).2.2 && (plB sz (placeV a (sz i)).1 (i + 1) k).2.2)
theorem plB_length (sz : Nat → Nat) : ∀ k i a, (plB sz a i k).2.1.length = k
  | 0, _, _ => rfl
  | k + 1, i, a => by rw [plB, List.length_cons, plB_length sz k]
theorem plB_area (sz : Nat → Nat) : ∀ k i a, AreaR a → AreaR (plB sz a i k).1
  | 0, _, _, h => h
  | k + 1, i, a, h => by rw [plB]; exact plB_area sz k (i + 1) _ (placeV_area h _)
def fsz (o : Obj) (i : Nat) : Nat := (rd (τ := TFun) o.2.2.1 (i : Int)).2.2.2.size
def dsz (o : Obj) (i : Nat) : Nat := (rd (τ := TDat) o.2.2.2.1 (i : Int)).2.size
def fcode (o : Obj) (i : Nat) : ByteArray := (rd (τ := TFun) o.2.2.1 (i : Int)).2.2.2
def dbytes (o : Obj) (i : Nat) : ByteArray := (rd (τ := TDat) o.2.2.2.1 (i : Int)).2
def after (f : Int) (ok : Bool) : Int := if f = 0 ∧ ok = false then 7 else f
theorem after_after (f : Int) (a b : Bool) : after (after f a) b = after f (a && b) := by
  unfold after
  cases a <;> cases b <;> by_cases h : f = 0 <;> simp [h]
theorem impl_lay_f (o : Obj) (hz : UnitSz o) (x6 : Area) (x8 : Lnk) (x9 x10 : Area) (r : List Ent × Obj) (l3 : List Int) (l4 : List ByteArray) : ∀ (k i : Nat) (a : Area) (ats : List Int) (codes : List ByteArray) (f : Int), i + k = o.2.2.1.length → AreaR a → ats.length = i → codes.length = i →
    Z8c.a a x6 o x8 x9 x10 ((ats, codes, l3, l4), r) f o.2.2.1 (o.2.2.1.length : Int) (i : Int) =
      Z8c.b (plB (fsz o) a i k).1 x6 o x8 x9 x10 ((ats ++ (plB (fsz o) a i k).2.1, codes ++ mapB (fcode o) i k, l3, l4), r) (after f (plB (fsz o) a i k).2.2) o.2.2.2.1 (o.2.2.2.1.length : Int) 0 := by
  have h4 := hz.f
  intro k
  induction k with
  | zero =>
    intro i a ats codes f hk ha h1 h2
    have : i = o.2.2.1.length := by omega
    subst this
    rw [Z8c.a_eq, lt_nat, decide_eq_false (Nat.lt_irrefl _), cond_false, plB, mapB, List.append_nil, List.append_nil]
    simp [after]
  | succ k ih =>
    intro i a ats codes f hk ha h1 h2
    have hi : i < o.2.2.1.length := by omega
    rw [Z8c.a_eq, lt_nat, inL_nat, decide_eq_true hi, w64_succ i _ hi (by omega)]
    rw [impl_place_val a ha _ (by have := hz.fs i hi; omega)]
    simp only [cond_true, Option.bind_some, joinB]
    rw [room8 _ (by simp; omega), room16 _ (by simp; omega)]
    simp only [cond_true]
    have e : (bif decide (f = 0) then bif !(placeV a (rd (τ := TFun) o.2.2.1 (i : Int)).2.2.2.size).2.2 then Z8c.a (placeV a (rd (τ := TFun) o.2.2.1 (i : Int)).2.2.2.size).1 x6 o x8 x9 x10 ((ats ++ [(placeV a (rd (τ := TFun) o.2.2.1 (i : Int)).2.2.2.size).2.1], codes ++ [(rd (τ := TFun) o.2.2.1 (i : Int)).2.2.2], l3, l4), r) 7 o.2.2.1 (o.2.2.1.length : Int) ((i + 1 : Nat) : Int)
        else Z8c.a (placeV a (rd (τ := TFun) o.2.2.1 (i : Int)).2.2.2.size).1 x6 o x8 x9 x10 ((ats ++ [(placeV a (rd (τ := TFun) o.2.2.1 (i : Int)).2.2.2.size).2.1], codes ++ [(rd (τ := TFun) o.2.2.1 (i : Int)).2.2.2], l3, l4), r) f o.2.2.1 (o.2.2.1.length : Int) ((i + 1 : Nat) : Int)
        else bif false then Z8c.a (placeV a (rd (τ := TFun) o.2.2.1 (i : Int)).2.2.2.size).1 x6 o x8 x9 x10 ((ats ++ [(placeV a (rd (τ := TFun) o.2.2.1 (i : Int)).2.2.2.size).2.1], codes ++ [(rd (τ := TFun) o.2.2.1 (i : Int)).2.2.2], l3, l4), r) 7 o.2.2.1 (o.2.2.1.length : Int) ((i + 1 : Nat) : Int)
        else Z8c.a (placeV a (rd (τ := TFun) o.2.2.1 (i : Int)).2.2.2.size).1 x6 o x8 x9 x10 ((ats ++ [(placeV a (rd (τ := TFun) o.2.2.1 (i : Int)).2.2.2.size).2.1], codes ++ [(rd (τ := TFun) o.2.2.1 (i : Int)).2.2.2], l3, l4), r) f o.2.2.1 (o.2.2.1.length : Int) ((i + 1 : Nat) : Int)) =
        Z8c.a (placeV a (fsz o i)).1 x6 o x8 x9 x10 ((ats ++ [(placeV a (fsz o i)).2.1], codes ++ [fcode o i], l3, l4), r) (after f (placeV a (fsz o i)).2.2) o.2.2.1 (o.2.2.1.length : Int) ((i + 1 : Nat) : Int) := by
      unfold after fsz fcode
      generalize placeV a (rd (τ := TFun) o.2.2.1 (i : Int)).2.2.2.size = p
      by_cases h : f = 0
      · rw [decide_eq_true h]
        cases hp : p.2.2 <;> simp [h]
      · rw [decide_eq_false h]; simp [h]
    rw [e, ih (i + 1) _ _ _ _ (by omega) (placeV_area ha _) (by simp; omega) (by simp; omega), plB, mapB, after_after, List.append_assoc, List.append_assoc]
    rfl
theorem impl_lay_d (o : Obj) (hz : UnitSz o) (x5 : Area) (x8 : Lnk) (x9 x10 : Area) (r : List Ent × Obj) (l1 : List Int) (l2 : List ByteArray) : ∀ (k i : Nat) (a : Area) (ats : List Int) (codes : List ByteArray) (f : Int), i + k = o.2.2.2.1.length → AreaR a → ats.length = i → codes.length = i →
    Z8c.b x5 a o x8 x9 x10 ((l1, l2, ats, codes), r) f o.2.2.2.1 (o.2.2.2.1.length : Int) (i : Int) =
      Z8c.c x5 (plB (dsz o) a i k).1 o x8 x9 x10 ((l1, l2, ats ++ (plB (dsz o) a i k).2.1, codes ++ mapB (dbytes o) i k), r) (after f (plB (dsz o) a i k).2.2) o.2.2.2.2.1 (o.2.2.2.2.1.length : Int) 0 := by
  have h4 := hz.d
  intro k
  induction k with
  | zero =>
    intro i a ats codes f hk ha h1 h2
    have : i = o.2.2.2.1.length := by omega
    subst this
    rw [Z8c.b_eq, lt_nat, decide_eq_false (Nat.lt_irrefl _), cond_false, plB, mapB, List.append_nil, List.append_nil]
    simp [after]
  | succ k ih =>
    intro i a ats codes f hk ha h1 h2
    have hi : i < o.2.2.2.1.length := by omega
    rw [Z8c.b_eq, lt_nat, inL_nat, decide_eq_true hi, w64_succ i _ hi (by omega)]
    rw [impl_place_val a ha _ (by have := hz.ds i hi; omega)]
    simp only [cond_true, Option.bind_some, joinB]
    rw [room8 _ (by simp; omega), room16 _ (by simp; omega)]
    simp only [cond_true]
    have e : (bif decide (f = 0) then bif !(placeV a (rd (τ := TDat) o.2.2.2.1 (i : Int)).2.size).2.2 then Z8c.b x5 (placeV a (rd (τ := TDat) o.2.2.2.1 (i : Int)).2.size).1 o x8 x9 x10 ((l1, l2, ats ++ [(placeV a (rd (τ := TDat) o.2.2.2.1 (i : Int)).2.size).2.1], codes ++ [(rd (τ := TDat) o.2.2.2.1 (i : Int)).2]), r) 7 o.2.2.2.1 (o.2.2.2.1.length : Int) ((i + 1 : Nat) : Int)
        else Z8c.b x5 (placeV a (rd (τ := TDat) o.2.2.2.1 (i : Int)).2.size).1 o x8 x9 x10 ((l1, l2, ats ++ [(placeV a (rd (τ := TDat) o.2.2.2.1 (i : Int)).2.size).2.1], codes ++ [(rd (τ := TDat) o.2.2.2.1 (i : Int)).2]), r) f o.2.2.2.1 (o.2.2.2.1.length : Int) ((i + 1 : Nat) : Int)
        else bif false then Z8c.b x5 (placeV a (rd (τ := TDat) o.2.2.2.1 (i : Int)).2.size).1 o x8 x9 x10 ((l1, l2, ats ++ [(placeV a (rd (τ := TDat) o.2.2.2.1 (i : Int)).2.size).2.1], codes ++ [(rd (τ := TDat) o.2.2.2.1 (i : Int)).2]), r) 7 o.2.2.2.1 (o.2.2.2.1.length : Int) ((i + 1 : Nat) : Int)
        else Z8c.b x5 (placeV a (rd (τ := TDat) o.2.2.2.1 (i : Int)).2.size).1 o x8 x9 x10 ((l1, l2, ats ++ [(placeV a (rd (τ := TDat) o.2.2.2.1 (i : Int)).2.size).2.1], codes ++ [(rd (τ := TDat) o.2.2.2.1 (i : Int)).2]), r) f o.2.2.2.1 (o.2.2.2.1.length : Int) ((i + 1 : Nat) : Int)) =
        Z8c.b x5 (placeV a (dsz o i)).1 o x8 x9 x10 ((l1, l2, ats ++ [(placeV a (dsz o i)).2.1], codes ++ [dbytes o i]), r) (after f (placeV a (dsz o i)).2.2) o.2.2.2.1 (o.2.2.2.1.length : Int) ((i + 1 : Nat) : Int) := by
      unfold after dsz dbytes
      generalize placeV a (rd (τ := TDat) o.2.2.2.1 (i : Int)).2.size = p
      by_cases h : f = 0
      · rw [decide_eq_true h]
        cases hp : p.2.2 <;> simp [h]
      · rw [decide_eq_false h]; simp [h]
    rw [e, ih (i + 1) _ _ _ _ (by omega) (placeV_area ha _) (by simp; omega) (by simp; omega), plB, mapB, after_after, List.append_assoc, List.append_assoc]
    rfl
theorem spec_lay_f (o : Obj) (hz : UnitSz o) (x4 : Area) (x6 : Lnk) (x7 x8 : Area) (l3 : List Int) (l4 : List ByteArray) : ∀ (k i : Nat) (a : Area) (ats : List Int) (codes : List ByteArray), i + k = o.2.2.1.length → AreaR a → ats.length = i → codes.length = i →
    ((plB (fsz o) a i k).2.2 = true → Z4k.a a x4 o x6 x7 x8 (ats, codes, l3, l4) (i : Int) = Z4k.b (plB (fsz o) a i k).1 x4 o x6 x7 x8 (ats ++ (plB (fsz o) a i k).2.1, codes ++ mapB (fcode o) i k, l3, l4) 0) ∧
    ((plB (fsz o) a i k).2.2 = false → ∃ r, Z4k.a a x4 o x6 x7 x8 (ats, codes, l3, l4) (i : Int) = some r ∧ r.2.2.2 = false) := by
  have h4 := hz.f
  intro k
  induction k with
  | zero =>
    intro i a ats codes hk ha h1 h2
    have : i = o.2.2.1.length := by omega
    subst this
    rw [Z4k.a_eq, lt_nat, decide_eq_false (Nat.lt_irrefl _), cond_false, plB, mapB, List.append_nil, List.append_nil]
    exact ⟨fun _ => rfl, fun h => by cases h⟩
  | succ k ih =>
    intro i a ats codes hk ha h1 h2
    have hi : i < o.2.2.1.length := by omega
    rw [Z4k.a_eq, lt_nat, inL_nat, decide_eq_true hi, w64_succ i _ hi (by omega)]
    rw [spec_place_val a ha _ (by have := hz.fs i hi; omega)]
    simp only [cond_true, Option.bind_some]
    rw [room8 _ (by simp; omega), room16 _ (by simp; omega)]
    simp only [cond_true]
    obtain ⟨i1, i2⟩ := ih (i + 1) (placeV a (fsz o i)).1 (ats ++ [(placeV a (fsz o i)).2.1]) (codes ++ [fcode o i]) (by omega) (placeV_area ha _) (by simp; omega) (by simp; omega)
    rw [plB, mapB]
    rw [show placeV a (rd (τ := TFun) o.2.2.1 (i : Int)).2.2.2.size = placeV a (fsz o i) from rfl]
    cases hp : (placeV a (fsz o i)).2.2 with
    | false => exact ⟨fun h => by simp at h, fun _ => ⟨_, rfl, rfl⟩⟩
    | true =>
      simp only [Bool.true_and, Bool.not_true, cond_false]
      refine ⟨fun h => ?_, fun h => i2 h⟩
      have := i1 h
      rw [List.append_assoc, List.append_assoc] at this
      exact this
theorem spec_lay_d (o : Obj) (hz : UnitSz o) (x3 : Area) (x6 : Lnk) (x7 x8 : Area) (l1 : List Int) (l2 : List ByteArray) : ∀ (k i : Nat) (a : Area) (ats : List Int) (codes : List ByteArray), i + k = o.2.2.2.1.length → AreaR a → ats.length = i → codes.length = i →
    ((plB (dsz o) a i k).2.2 = true → Z4k.b x3 a o x6 x7 x8 (l1, l2, ats, codes) (i : Int) = some ((l1, l2, ats ++ (plB (dsz o) a i k).2.1, codes ++ mapB (dbytes o) i k), x3, (plB (dsz o) a i k).1, true)) ∧
    ((plB (dsz o) a i k).2.2 = false → ∃ r, Z4k.b x3 a o x6 x7 x8 (l1, l2, ats, codes) (i : Int) = some r ∧ r.2.2.2 = false) := by
  have h4 := hz.d
  intro k
  induction k with
  | zero =>
    intro i a ats codes hk ha h1 h2
    have : i = o.2.2.2.1.length := by omega
    subst this
    rw [Z4k.b_eq, lt_nat, decide_eq_false (Nat.lt_irrefl _), cond_false, plB, mapB, List.append_nil, List.append_nil]
    exact ⟨fun _ => rfl, fun h => by cases h⟩
  | succ k ih =>
    intro i a ats codes hk ha h1 h2
    have hi : i < o.2.2.2.1.length := by omega
    rw [Z4k.b_eq, lt_nat, inL_nat, decide_eq_true hi, w64_succ i _ hi (by omega)]
    rw [spec_place_val a ha _ (by have := hz.ds i hi; omega)]
    simp only [cond_true, Option.bind_some]
    rw [room8 _ (by simp; omega), room16 _ (by simp; omega)]
    simp only [cond_true]
    obtain ⟨i1, i2⟩ := ih (i + 1) (placeV a (dsz o i)).1 (ats ++ [(placeV a (dsz o i)).2.1]) (codes ++ [dbytes o i]) (by omega) (placeV_area ha _) (by simp; omega) (by simp; omega)
    rw [plB, mapB]
    rw [show placeV a (rd (τ := TDat) o.2.2.2.1 (i : Int)).2.size = placeV a (dsz o i) from rfl]
    cases hp : (placeV a (dsz o i)).2.2 with
    | false => exact ⟨fun h => by simp at h, fun _ => ⟨_, rfl, rfl⟩⟩
    | true =>
      simp only [Bool.true_and, Bool.not_true, cond_false]
      refine ⟨fun h => ?_, fun h => i2 h⟩
      have := i1 h
      rw [List.append_assoc, List.append_assoc] at this
      exact this
def layV (o : Obj) (a b : Area) : Lnk × Area × Area × Bool :=
  (((plB (fsz o) a 0 o.2.2.1.length).2.1, mapB (fcode o) 0 o.2.2.1.length, (plB (dsz o) b 0 o.2.2.2.1.length).2.1, mapB (dbytes o) 0 o.2.2.2.1.length),
    (plB (fsz o) a 0 o.2.2.1.length).1, (plB (dsz o) b 0 o.2.2.2.1.length).1, (plB (fsz o) a 0 o.2.2.1.length).2.2 && (plB (dsz o) b 0 o.2.2.2.1.length).2.2)
theorem spec_lay (o : Obj) (hz : UnitSz o) (a b : Area) (ha : AreaR a) (hb : AreaR b) : ((layV o a b).2.2.2 = true → Z4k a b o = some (layV o a b)) ∧ ((layV o a b).2.2.2 = false → ∃ r, Z4k a b o = some r ∧ r.2.2.2 = false) := by
  rw [Z4k_eq]
  obtain ⟨f1, f2⟩ := spec_lay_f o hz b ([], [], [], []) (0, 0, 0) (0, 0, 0) [] [] o.2.2.1.length 0 a [] [] (by omega) ha rfl rfl
  obtain ⟨d1, d2⟩ := spec_lay_d o hz (plB (fsz o) a 0 o.2.2.1.length).1 ([], [], [], []) (0, 0, 0) (0, 0, 0) (plB (fsz o) a 0 o.2.2.1.length).2.1 (mapB (fcode o) 0 o.2.2.1.length) o.2.2.2.1.length 0 b [] [] (by omega) hb rfl rfl
  simp only [List.nil_append] at f1 d1
  unfold layV
  simp only
  cases h1 : (plB (fsz o) a 0 o.2.2.1.length).2.2 with
  | false => exact ⟨fun h => (by cases h), fun _ => f2 h1⟩
  | true =>
    rw [Bool.true_and]
    refine ⟨fun h => ?_, fun h => ?_⟩
    · rw [h]
      exact (f1 h1).trans (d1 h)
    · obtain ⟨r, h3, h4⟩ := d2 h
      exact ⟨r, (f1 h1).trans h3, h4⟩
theorem impl_lay (o : Obj) (hz : UnitSz o) (a b : Area) (ha : AreaR a) (hb : AreaR b) (x8 : Lnk) (x9 x10 : Area) (t : List Ent) (f : Int) :
    Z8c.a a b o x8 x9 x10 (([], [], [], []), t, o) f o.2.2.1 (o.2.2.1.length : Int) 0 =
      Z8c.c (layV o a b).2.1 (layV o a b).2.2.1 o x8 x9 x10 ((layV o a b).1, t, o) (after f (layV o a b).2.2.2) o.2.2.2.2.1 (o.2.2.2.2.1.length : Int) 0 := by
  have h1 := impl_lay_f o hz b x8 x9 x10 (t, o) [] [] o.2.2.1.length 0 a [] [] f (by omega) ha rfl rfl
  have h2 := impl_lay_d o hz (plB (fsz o) a 0 o.2.2.1.length).1 x8 x9 x10 (t, o) (plB (fsz o) a 0 o.2.2.1.length).2.1 (mapB (fcode o) 0 o.2.2.1.length) o.2.2.2.1.length 0 b [] [] (after f (plB (fsz o) a 0 o.2.2.1.length).2.2) (by omega) hb rfl rfl
  simp only [List.nil_append] at h1 h2
  rw [after_after] at h2
  exact h1.trans h2
def AtR (x : Int) : Prop := 0 ≤ x ∧ x ≤ 1048575 ∧ x % 8 = 0
theorem placeV_at {a : Area} (h : AreaR a) (n : Nat) (hn : 1 ≤ n) : AtR (placeV a n).2.1 := by
  obtain ⟨⟨h1, h2, h3⟩, ⟨h4, h5, h6⟩, h7, h8, h9⟩ := h
  unfold placeV
  split
  · exact ⟨by simp, by simp, by simp⟩
  · have : 8 ≤ up8 n := by unfold up8; omega
    refine ⟨?_, ?_, ?_⟩ <;> simp only <;> omega
theorem plB_at (sz : Nat → Nat) : ∀ k i a, AreaR a → (∀ j, i ≤ j → j < i + k → 1 ≤ sz j) → ∀ x ∈ (plB sz a i k).2.1, AtR x
  | 0, _, _, _, _, x, hx => by cases hx
  | k + 1, i, a, h, hs, x, hx => by
    rw [plB] at hx
    rcases List.mem_cons.1 hx with rfl | hx
    · exact placeV_at h _ (hs i (Nat.le_refl _) (by omega))
    · exact plB_at sz k (i + 1) _ (placeV_area h _) (fun j h1 h2 => hs j (by omega) (by omega)) x hx
end Go.Proofs.YtaplgfojdekgkaaGreat.S
