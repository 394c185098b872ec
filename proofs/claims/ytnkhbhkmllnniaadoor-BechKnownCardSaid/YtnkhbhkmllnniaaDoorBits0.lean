/- What the walk's bit operations come to, over natural numbers. -/
import Derived.WalkKit
import Derived.Test.YtnkhbhkmllnniaaDoorSpec
namespace Bech
open Go Go.RowKit

theorem and1_u32 (x : Int) (h0 : 0 ≤ x) (h : x < 4294967296) : bits .and .u32 x 1 = x % 2 := by
  rw [u32_and x 1 h0 h (by decide) (by decide)]
  rw [show (1 : Int).toNat = 1 from rfl, nat_mask1]
  omega
theorem xor_u32 (a b : Nat) (x y : Int) (hx : x = (a : Int)) (hy : y = (b : Int)) (ha : a < 4294967296) (hb : b < 4294967296) : bits .xor .u32 x y = ((a ^^^ b : Nat) : Int) := by
  subst hx; subst hy; exact u32_xor_nat a b ha hb
theorem mask25_u32 (a : Nat) (ha : a < 4294967296) : bits .and .u32 (a : Int) 33554431 = ((a % 33554432 : Nat) : Int) := by
  have := u32_and_nat a 33554431 ha (by decide)
  rw [nat_mask25] at this
  exact this
theorem mask5_u8 (a : Nat) (ha : a < 256) : bits .and .u8 (a : Int) 31 = ((a % 32 : Nat) : Int) := by
  have := u8_and_nat a 31 ha (by decide)
  rw [nat_mask5] at this
  exact this
theorem u32_eq {a b : Int} (h : a = b) : Value.int .u32 a = .int .u32 b := by rw [h]
theorem inn_hit {t c0 j : Nat} (hc : c0 < 4294967296) (g : Int) (hg : g = (gen j : Nat)) (x : Int) (h : (bits .and .u32 x 1 == 1) = true) (hx : x = ((t / 2 ^ j : Nat) : Int)) (ht : t < 4294967296) : Value.int .u32 (bits .xor .u32 (inn t c0 j : Nat) g) = .int .u32 (inn t c0 (j + 1) : Nat) := by
  have hle : t / 2 ^ j ≤ t := Nat.div_le_self _ _
  refine u32_eq ?_
  rw [xor_u32 (inn t c0 j) (gen j) _ _ rfl hg (inn_lt hc j) (Nat.lt_trans (gen_lt j) (by decide)), inn]
  generalize t / 2 ^ j = q at hx hle ⊢
  rw [and1_u32 x (by omega) (by omega), beq_iff_eq] at h
  rw [show q % 2 = 1 by omega, Nat.mul_one]
theorem inn_miss {t c0 j : Nat} (x : Int) (h : (bits .and .u32 x 1 == 1) = false) (hx : x = ((t / 2 ^ j : Nat) : Int)) (ht : t < 4294967296) : Value.int .u32 (inn t c0 j : Nat) = .int .u32 (inn t c0 (j + 1) : Nat) := by
  have hle : t / 2 ^ j ≤ t := Nat.div_le_self _ _
  refine u32_eq ?_
  rw [inn]
  generalize t / 2 ^ j = q at hx hle ⊢
  rw [and1_u32 x (by omega) (by omega), beq_eq_false_iff_ne] at h
  rw [show q % 2 = 0 by omega, Nat.mul_zero, Nat.xor_zero]
theorem inn_mul {t c0 j ci : Nat} (hc : c0 < 4294967296) (g : Int) (x : Int) (hci : inn t c0 j = ci) (hg : g = (gen j : Nat)) (hx : x = ((t / 2 ^ j : Nat) : Int)) (ht : t < 4294967296) :
    Value.int .u32 (bits .xor .u32 (ci : Int) (g * bits .and .u32 x 1 % 4294967296)) = .int .u32 (inn t c0 (j + 1) : Nat) := by
  have hle : t / 2 ^ j ≤ t := Nat.div_le_self _ _
  have hgl := gen_lt j
  have hil := inn_lt hc j (t := t)
  subst hci
  refine u32_eq ?_
  rw [inn]
  generalize t / 2 ^ j = q at hx hle ⊢
  rw [and1_u32 x (by omega) (by omega)]
  refine xor_u32 _ _ _ _ rfl ?_ hil ?_
  · rcases Nat.mod_two_eq_zero_or_one q with h | h
    · rw [h, show x % 2 = 0 by omega]; simp
    · rw [h, show x % 2 = 1 by omega]; omega
  · rcases Nat.mod_two_eq_zero_or_one q with h | h <;> rw [h] <;> omega
theorem start_u32 (c w : Nat) (hc : c < 4294967296) (hw : w < 256) :
    Value.int .u32 (bits .xor .u32 (bits .and .u32 (c : Int) 33554431 * 32 % 4294967296) (w : Int)) = .int .u32 (inn (c / 33554432) (c % 33554432 * 32 ^^^ w) 0 : Nat) := by
  refine u32_eq ?_
  rw [mask25_u32 c hc]
  exact xor_u32 (c % 33554432 * 32) w _ _ (by omega) (by omega) (by omega) (by omega)
theorem x0_lt (c w : Nat) (hw : w < 256) : c % 33554432 * 32 ^^^ w < 4294967296 := by
  refine Nat.xor_lt_two_pow (n := 32) ?_ (by omega)
  have := Nat.mod_lt c (show 0 < 33554432 by decide)
  omega

theorem ofInt_i64' (a : Nat) (ha : a < 9223372036854775808) : (BitVec.ofInt 64 (a : Int)).toNat = a := by
  rw [BitVec.ofInt_natCast, BitVec.toNat_ofNat]; exact Nat.mod_eq_of_lt (by omega)
theorem and_i64 (a b : Nat) (ha : a < 9223372036854775808) (hb : b < 9223372036854775808) : bits .and .i64 (a : Int) (b : Int) = ((a &&& b : Nat) : Int) := by
  have hx : a &&& b < 2 ^ 63 := Nat.and_lt_two_pow _ (by omega)
  show IntKind.i64.wrap ((BitVec.ofInt 64 (a : Int) &&& BitVec.ofInt 64 (b : Int)).toNat : Int) = _
  rw [BitVec.toNat_and, ofInt_i64' a ha, ofInt_i64' b hb, IntKind.wrap_i64]
  omega
theorem or_i64 (a b : Nat) (ha : a < 9223372036854775808) (hb : b < 9223372036854775808) : bits .or .i64 (a : Int) (b : Int) = ((a ||| b : Nat) : Int) := by
  have hx : a ||| b < 2 ^ 63 := Nat.or_lt_two_pow (by omega) (by omega)
  show IntKind.i64.wrap ((BitVec.ofInt 64 (a : Int) ||| BitVec.ofInt 64 (b : Int)).toNat : Int) = _
  rw [BitVec.toNat_or, ofInt_i64' a ha, ofInt_i64' b hb, IntKind.wrap_i64]
  omega
theorem wrap_pow {a n : Nat} (ha : a < 32768) (hn : n ≤ 16) : wrap64 ((a : Int) * 2 ^ n) = ((a * 2 ^ n : Nat) : Int) := by
  have h1 : 2 ^ n ≤ 2 ^ 16 := Nat.pow_le_pow_right (by decide) hn
  have h2 : a * 2 ^ n ≤ 32768 * 2 ^ 16 := Nat.mul_le_mul (by omega) h1
  have h3 : ((a : Int) * 2 ^ n) = ((a * 2 ^ n : Nat) : Int) := by simp
  rw [h3]
  generalize a * 2 ^ n = q at h2 ⊢
  unfold wrap64
  omega
theorem join_i64 {h x F : Nat} (hh : h < 32768) (hF : F ≤ 8) (hx : x < 2 ^ F) : bits .or .i64 (wrap64 ((h : Int) * 2 ^ F)) (x : Int) = ((h * 2 ^ F + x : Nat) : Int) := by
  have h1 : 2 ^ F ≤ 2 ^ 8 := Nat.pow_le_pow_right (by decide) hF
  have h2 : h * 2 ^ F ≤ 32768 * 2 ^ 8 := Nat.mul_le_mul (by omega) h1
  rw [wrap_pow (n := F) hh (by omega), or_i64 _ _ (by omega) (by omega), nat_join F _ _ (Nat.mul_mod_left _ _) hx]

theorem wrapn {m : Nat} (h : m < 9223372036854775808) : IntKind.i64.wrap (m : Int) = (m : Int) := by rw [IntKind.wrap_i64]; omega
theorem pow_le8 {T : Nat} (h : T ≤ 8) : 1 ≤ 2 ^ T ∧ 2 ^ T ≤ 256 := ⟨Nat.one_le_two_pow, Nat.pow_le_pow_right (n := 2) (by decide) h⟩
theorem wrap_two {T : Nat} (h : T ≤ 8) : IntKind.i64.wrap (2 ^ T : Int) = 2 ^ T := by
  have := pow_le8 h
  have e : (2 ^ T : Int) = ((2 ^ T : Nat) : Int) := by simp
  rw [e]
  exact wrapn (by omega)
theorem wrap_two1 {T : Nat} (h : T ≤ 8) : IntKind.i64.wrap (2 ^ T - 1 : Int) = 2 ^ T - 1 := by
  have := pow_le8 h
  have e : (2 ^ T - 1 : Int) = ((2 ^ T - 1 : Nat) : Int) := by
    have e' : (2 ^ T : Int) = ((2 ^ T : Nat) : Int) := by simp
    rw [e']; omega
  rw [e]
  exact wrapn (by omega)
theorem and_mask {a T : Nat} (ha : a < 9223372036854775808) (h : T ≤ 8) : bits .and .i64 (a : Int) (2 ^ T - 1) = ((a % 2 ^ T : Nat) : Int) := by
  have := pow_le8 h
  have e : (2 ^ T - 1 : Int) = ((2 ^ T - 1 : Nat) : Int) := by
    have e' : (2 ^ T : Int) = ((2 ^ T : Nat) : Int) := by simp
    rw [e']; omega
  rw [e, and_i64 a _ ha (by omega), Nat.and_two_pow_sub_one_eq_mod]
theorem shr_cast (a m : Nat) : (a : Int) / 2 ^ m = ((a / 2 ^ m : Nat) : Int) := by simp

theorem bit_u8 {x m : Nat} (hx : x < 256) : bits .and .u8 ((x : Int) / 2 ^ m) 1 = ((x / 2 ^ m % 2 : Nat) : Int) := by
  rw [shr_cast]
  have h := u8_and_nat (x / 2 ^ m) 1 (by have := Nat.div_le_self x (2 ^ m); omega) (by decide)
  rw [nat_mask1] at h
  exact h
end Bech
