/- The plain law of sums and products. -/
import Derived.Test.YtejcihffmhmpcaaPlainBits
namespace Go.Proofs.Ytejcihffmhmpcaa
open Go Go.RowKit

/-- A number that is an int64. -/
def inI (z : Int) : Prop := -9223372036854775808 ≤ z ∧ z ≤ 9223372036854775807
instance (z : Int) : Decidable (inI z) := by unfold inI; infer_instance
/-- The size of a number, without its sign. -/
def absI (a : Int) : Int := if a < 0 then -a else a
theorem absI_fit (a : Int) (h0 : -9223372036854775808 ≤ a) (h1 : a ≤ 9223372036854775807) : 0 ≤ absI a ∧ absI a ≤ 9223372036854775808 := by unfold absI; split <;> omega
/-- The greatest size that a product may have. -/
def mostI (a b : Int) : Int := if decide (a < 0) = decide (b < 0) then 9223372036854775807 else 9223372036854775808
theorem mul_abs (a b : Int) : a * b = if decide (a < 0) = decide (b < 0) then absI a * absI b else -(absI a * absI b) := by
  unfold absI
  by_cases ha : a < 0 <;> by_cases hb : b < 0 <;> simp [ha, hb, Int.neg_mul, Int.mul_neg]
theorem abs_mul_nonneg (a b : Int) : 0 ≤ absI a * absI b := by
  apply Int.mul_nonneg
  · unfold absI; split <;> omega
  · unfold absI; split <;> omega
/-- A product is an int64 just if its size is not too great. -/
theorem mul_in (a b : Int) : inI (a * b) ↔ absI a * absI b ≤ mostI a b := by
  have h := mul_abs a b
  have hn := abs_mul_nonneg a b
  unfold inI mostI
  rw [h]
  split <;> omega
/-- The high and the low half of a product of two uint64. -/
def hiI (x y : Int) : Int := x * y / 18446744073709551616
def loI (x y : Int) : Int := x * y % 18446744073709551616
theorem hi_lo (x y m : Int) (hm : m ≤ 9223372036854775808) (h0 : 0 ≤ x * y) : (x * y ≤ m) ↔ (¬ 0 < hiI x y ∧ ¬ m < loI x y) := by
  unfold hiI loI
  generalize x * y = p at *
  omega
theorem abs_zero (a : Int) : absI a = 0 ↔ a = 0 := by unfold absI; split <;> omega
theorem div_test (x y m : Int) (hy : 0 < y) : (m / y < x) ↔ ¬ (x * y ≤ m) := by
  rw [Int.not_le, Int.ediv_lt_iff_lt_mul hy]
theorem mul64 (x y : Int) :
    x / 4294967296 * (y / 4294967296) + (x / 4294967296 * (y % 4294967296) + x % 4294967296 * (y % 4294967296) / 4294967296) / 4294967296 + ((x / 4294967296 * (y % 4294967296) + x % 4294967296 * (y % 4294967296) / 4294967296) % 4294967296 + x % 4294967296 * (y / 4294967296)) / 4294967296 = hiI x y := by
  unfold hiI
  have ex : x = x / 4294967296 * 4294967296 + x % 4294967296 := by omega
  have ey : y = y / 4294967296 * 4294967296 + y % 4294967296 := by omega
  generalize hA : x / 4294967296 = A at *
  generalize hB : x % 4294967296 = B at *
  generalize hC : y / 4294967296 = C at *
  generalize hD : y % 4294967296 = D at *
  have e : x * y = A * C * 18446744073709551616 + (A * D + B * C) * 4294967296 + B * D := by
    rw [ex, ey, Int.add_mul, Int.mul_add, Int.mul_add]
    have e1 : A * 4294967296 * (C * 4294967296) = A * C * 18446744073709551616 := by rw [Int.mul_assoc, Int.mul_left_comm 4294967296, ← Int.mul_assoc]; rfl
    have e2 : A * 4294967296 * D = A * D * 4294967296 := by rw [Int.mul_assoc, Int.mul_comm 4294967296 D, ← Int.mul_assoc]
    have e3 : B * (C * 4294967296) = B * C * 4294967296 := by rw [Int.mul_assoc]
    rw [e1, e2, e3, Int.add_mul]; omega
  rw [e]
  generalize A * C = p at *
  generalize A * D = q at *
  generalize B * C = r at *
  generalize B * D = s at *
  omega

theorem and_mask (u : Int) (h0 : 0 ≤ u) (h1 : u ≤ 18446744073709551615) : bits .and .u64 u 4294967295 = u % 4294967296 := by
  show IntKind.u64.wrap ((BitVec.ofInt 64 u &&& BitVec.ofInt 64 4294967295).toNat : Int) = _
  have e : (BitVec.ofInt 64 4294967295).toNat = 2 ^ 32 - 1 := by decide
  rw [BitVec.toNat_and, ofInt64 u h0 h1, e, Nat.and_two_pow_sub_one_eq_mod, wrap_u64]
  omega
theorem half_mul (a b : Int) (h0 : 0 ≤ a) (h1 : a ≤ 4294967295) (h2 : 0 ≤ b) (h3 : b ≤ 4294967295) : 0 ≤ a * b ∧ a * b ≤ 18446744065119617025 := by
  refine ⟨Int.mul_nonneg h0 h2, ?_⟩
  calc a * b ≤ 4294967295 * b := Int.mul_le_mul_of_nonneg_right h1 h2
    _ ≤ 4294967295 * 4294967295 := Int.mul_le_mul_of_nonneg_left h3 (by decide)
    _ = 18446744065119617025 := by decide
end Go.Proofs.Ytejcihffmhmpcaa
