/- Contracts of package bits and its reference: sums and products. -/
import Derived.Test.YtejcihffmhmpcaaPlainSums
import Derived.Test.YtejcihffmhmpcaaBits
namespace Go.Proofs.Ytejcihffmhmpcaa
open Go.RowKit

set_option linter.unusedSectionVars false
section
variable (a b : Int) (w : World) (a0 : -9223372036854775808 ≤ a) (a1 : a ≤ 9223372036854775807) (b0 : -9223372036854775808 ≤ b) (b1 : b ≤ 9223372036854775807)
include a0 a1 b0 b1
set_option maxHeartbeats 1000000 in
theorem add_ok (h : inI (a + b)) : Calls Try.prog 34 #[.int .i64 a, .int .i64 b] w fun e w' => e = .returned (.tuple #[.int .i64 (a + b), .int .i64 0]) ∧ w = w' := by
  obtain ⟨h0, h1⟩ := h
  go_enter Try.func34, Try.ntmps34
  go_wp2
  all_goals (go_ret2; exact ⟨rfl, rfl⟩)
set_option maxHeartbeats 1000000 in
theorem add_no (h : ¬ inI (a + b)) : Calls Try.prog 34 #[.int .i64 a, .int .i64 b] w fun e w' => e = .returned (.tuple #[.int .i64 0, .int .i64 5]) ∧ w = w' := by
  by_cases h0 : 0 < b
  · have h1 : 9223372036854775807 - b < a := by unfold inI at h; omega
    clear h
    go_enter Try.func34, Try.ntmps34
    go_wp2
    all_goals (go_ret2; exact ⟨rfl, rfl⟩)
  · have h1 : b < 0 := by unfold inI at h; omega
    have h2 : a < -9223372036854775808 - b := by unfold inI at h; omega
    clear h
    go_enter Try.func34, Try.ntmps34
    go_wp2
    all_goals (go_ret2; exact ⟨rfl, rfl⟩)
set_option maxHeartbeats 1000000 in
theorem refAdd_ok (h : inI (a + b)) : Calls Try.prog 35 #[.int .i64 a, .int .i64 b] w fun e w' => e = .returned (.tuple #[.int .i64 (a + b), .int .i64 0]) ∧ w = w' := by
  obtain ⟨h0, h1⟩ := h
  go_enter Try.func35, Try.ntmps35
  go_wp2
  all_goals (go_ret2; exact ⟨rfl, rfl⟩)
set_option maxHeartbeats 1000000 in
theorem refAdd_no (h : ¬ inI (a + b)) : Calls Try.prog 35 #[.int .i64 a, .int .i64 b] w fun e w' => e = .returned (.tuple #[.int .i64 0, .int .i64 5]) ∧ w = w' := by
  by_cases h0 : 0 < a
  · have h1 : 9223372036854775807 - a < b := by unfold inI at h; omega
    clear h
    go_enter Try.func35, Try.ntmps35
    go_wp2
    all_goals (go_ret2; exact ⟨rfl, rfl⟩)
  · have h1 : a < 0 := by unfold inI at h; omega
    have h2 : b < -9223372036854775808 - a := by unfold inI at h; omega
    clear h
    go_enter Try.func35, Try.ntmps35
    go_wp2
    all_goals (go_ret2; exact ⟨rfl, rfl⟩)
end

set_option maxHeartbeats 1000000 in
theorem size_any (a : Int) (w : World) (a0 : -9223372036854775808 ≤ a) (a1 : a ≤ 9223372036854775807) :
    Calls Try.prog 41 #[.int .i64 a] w fun e w' => e = .returned (.int .u64 (absI a)) ∧ w = w' := by
  by_cases h : a < 0
  · go_enter Try.func41, Try.ntmps41
    go_wp2
    go_ret
    exact ⟨ret_int (by unfold absI; rw [if_pos h]; first | omega | (rw [wrap_u64, wrap_u64]; omega)), rfl⟩
  · go_enter Try.func41, Try.ntmps41
    go_wp2
    go_ret
    exact ⟨ret_int (by unfold absI; rw [if_neg (Int.not_lt.2 h)]), rfl⟩
set_option maxHeartbeats 1000000 in
theorem refSize_any (a : Int) (w : World) (a0 : -9223372036854775808 ≤ a) (a1 : a ≤ 9223372036854775807) :
    Calls Try.prog 42 #[.int .i64 a] w fun e w' => e = .returned (.int .u64 (absI a)) ∧ w = w' := by
  by_cases h : a < 0
  · go_enter Try.func42, Try.ntmps42
    go_wp2
    go_ret
    exact ⟨ret_int (by unfold absI; rw [if_pos h]; omega), rfl⟩
  · go_enter Try.func42, Try.ntmps42
    go_wp2
    go_ret
    exact ⟨ret_int (by unfold absI; rw [if_neg (Int.not_lt.2 h)]), rfl⟩

set_option maxHeartbeats 2000000 in
theorem mul64_any (x y : Int) (w : World) (x0 : 0 ≤ x) (x1 : x ≤ 18446744073709551615) (y0 : 0 ≤ y) (y1 : y ≤ 18446744073709551615) :
    Calls Try.prog 40 #[.int .u64 x, .int .u64 y] w fun e w' => e = .returned (.tuple #[.int .u64 (hiI x y), .int .u64 (loI x y)]) ∧ w = w' := by
  have HI := Lib.hid (mul64 x y)
  have hx := and_mask x x0 x1
  have hy := and_mask y y0 y1
  obtain ⟨p0, p1⟩ := half_mul (x % 4294967296) (y % 4294967296) (by omega) (by omega) (by omega) (by omega)
  obtain ⟨q0, q1⟩ := half_mul (x / 4294967296) (y % 4294967296) (by omega) (by omega) (by omega) (by omega)
  obtain ⟨r0, r1⟩ := half_mul (x % 4294967296) (y / 4294967296) (by omega) (by omega) (by omega) (by omega)
  obtain ⟨s0, s1⟩ := half_mul (x / 4294967296) (y / 4294967296) (by omega) (by omega) (by omega) (by omega)
  have ht := and_mask (x / 4294967296 * (y % 4294967296) + x % 4294967296 * (y % 4294967296) / 4294967296) (by omega) (by omega)
  go_enter Try.func40, Try.ntmps40
  go_wp2
  go_ret2
  exact ⟨by rw [HI.out, wrap_u64]; rfl, rfl⟩

theorem mostI_same (a b : Int) (h : decide (a < 0) = decide (b < 0)) : mostI a b = 9223372036854775807 := by unfold mostI; rw [if_pos h]
theorem mostI_other (a b : Int) (h : ¬ decide (a < 0) = decide (b < 0)) : mostI a b = 9223372036854775808 := by unfold mostI; rw [if_neg h]
theorem hi_fit (x y : Int) (h : 0 ≤ x * y) : 0 ≤ hiI x y ∧ 0 ≤ loI x y ∧ loI x y ≤ 18446744073709551615 := by unfold hiI loI; generalize x * y = p at *; omega
theorem mostI_le (a b : Int) : mostI a b ≤ 9223372036854775808 := by unfold mostI; split <;> omega
theorem mul_yes (a b : Int) (h : inI (a * b)) : ¬ 0 < hiI (absI a) (absI b) ∧ ¬ mostI a b < loI (absI a) (absI b) :=
  (hi_lo _ _ _ (mostI_le a b) (abs_mul_nonneg a b)).1 ((mul_in a b).1 h)
theorem mul_not (a b : Int) (h : ¬ inI (a * b)) : ¬ (¬ 0 < hiI (absI a) (absI b) ∧ ¬ mostI a b < loI (absI a) (absI b)) := fun hc =>
  h ((mul_in a b).2 ((hi_lo _ _ _ (mostI_le a b) (abs_mul_nonneg a b)).2 hc))

set_option maxHeartbeats 4000000 in
theorem mul_ok (a b : Int) (w : World) (a0 : -9223372036854775808 ≤ a) (a1 : a ≤ 9223372036854775807) (b0 : -9223372036854775808 ≤ b) (b1 : b ≤ 9223372036854775807) (h : inI (a * b)) :
    Calls Try.prog 36 #[.int .i64 a, .int .i64 b] w fun e w' => e = .returned (.tuple #[.int .i64 (a * b), .int .i64 0]) ∧ w = w' := by
  obtain ⟨x0, x1'⟩ := absI_fit a a0 a1
  obtain ⟨y0, y1'⟩ := absI_fit b b0 b1
  have x1 : absI a ≤ 18446744073709551615 := by omega
  have y1 : absI b ≤ 18446744073709551615 := by omega
  obtain ⟨g0, g1, g2⟩ := hi_fit (absI a) (absI b) (abs_mul_nonneg a b)
  obtain ⟨z0, z1⟩ := mul_yes a b h
  obtain ⟨h0, h1⟩ := h
  by_cases hs : a < 0 <;> by_cases ht : b < 0
  · rw [mostI_same a b (by simp [hs, ht])] at z1
    go_enter Try.func36, Try.ntmps36
    go_wp2_with (first | (go_at_call 41; refine (size_any _ _ (by assumption) (by assumption)).mono ?_; rintro r w' ⟨rfl, rfl⟩) | (go_at_call 40; refine (mul64_any _ _ _ x0 x1 y0 y1).mono ?_; rintro r w' ⟨rfl, rfl⟩))
    all_goals (go_ret2; exact ⟨rfl, rfl⟩)
  · rw [mostI_other a b (by simp [hs, ht])] at z1
    have hdb : decide (b < 0) = false := decide_eq_false ht
    go_enter Try.func36, Try.ntmps36
    go_wp2_with (first | (go_at_call 41; refine (size_any _ _ (by assumption) (by assumption)).mono ?_; rintro r w' ⟨rfl, rfl⟩) | (go_at_call 40; refine (mul64_any _ _ _ x0 x1 y0 y1).mono ?_; rintro r w' ⟨rfl, rfl⟩))
    all_goals (go_ret2; exact ⟨rfl, rfl⟩)
  · rw [mostI_other a b (by simp [hs, ht])] at z1
    have hda : decide (a < 0) = false := decide_eq_false hs
    go_enter Try.func36, Try.ntmps36
    go_wp2_with (first | (go_at_call 41; refine (size_any _ _ (by assumption) (by assumption)).mono ?_; rintro r w' ⟨rfl, rfl⟩) | (go_at_call 40; refine (mul64_any _ _ _ x0 x1 y0 y1).mono ?_; rintro r w' ⟨rfl, rfl⟩))
    all_goals (go_ret2; exact ⟨rfl, rfl⟩)
  · rw [mostI_same a b (by simp [hs, ht])] at z1
    have hda : decide (a < 0) = false := decide_eq_false hs
    go_enter Try.func36, Try.ntmps36
    go_wp2_with (first | (go_at_call 41; refine (size_any _ _ (by assumption) (by assumption)).mono ?_; rintro r w' ⟨rfl, rfl⟩) | (go_at_call 40; refine (mul64_any _ _ _ x0 x1 y0 y1).mono ?_; rintro r w' ⟨rfl, rfl⟩))
    all_goals (go_ret2; exact ⟨rfl, rfl⟩)

set_option maxHeartbeats 4000000 in
theorem mul_no (a b : Int) (w : World) (a0 : -9223372036854775808 ≤ a) (a1 : a ≤ 9223372036854775807) (b0 : -9223372036854775808 ≤ b) (b1 : b ≤ 9223372036854775807) (h : ¬ inI (a * b)) :
    Calls Try.prog 36 #[.int .i64 a, .int .i64 b] w fun e w' => e = .returned (.tuple #[.int .i64 0, .int .i64 5]) ∧ w = w' := by
  obtain ⟨x0, x1'⟩ := absI_fit a a0 a1
  obtain ⟨y0, y1'⟩ := absI_fit b b0 b1
  have x1 : absI a ≤ 18446744073709551615 := by omega
  have y1 : absI b ≤ 18446744073709551615 := by omega
  obtain ⟨g0, g1, g2⟩ := hi_fit (absI a) (absI b) (abs_mul_nonneg a b)
  have z := mul_not a b h
  clear h
  by_cases z0 : 0 < hiI (absI a) (absI b)
  · clear z
    by_cases hs : a < 0 <;> by_cases ht : b < 0
    · go_enter Try.func36, Try.ntmps36
      go_wp2_with (first | (go_at_call 41; refine (size_any _ _ (by assumption) (by assumption)).mono ?_; rintro r w' ⟨rfl, rfl⟩) | (go_at_call 40; refine (mul64_any _ _ _ x0 x1 y0 y1).mono ?_; rintro r w' ⟨rfl, rfl⟩))
      all_goals (go_ret2; exact ⟨rfl, rfl⟩)
    · have hdb : decide (b < 0) = false := decide_eq_false ht
      go_enter Try.func36, Try.ntmps36
      go_wp2_with (first | (go_at_call 41; refine (size_any _ _ (by assumption) (by assumption)).mono ?_; rintro r w' ⟨rfl, rfl⟩) | (go_at_call 40; refine (mul64_any _ _ _ x0 x1 y0 y1).mono ?_; rintro r w' ⟨rfl, rfl⟩))
      all_goals (go_ret2; exact ⟨rfl, rfl⟩)
    · have hda : decide (a < 0) = false := decide_eq_false hs
      go_enter Try.func36, Try.ntmps36
      go_wp2_with (first | (go_at_call 41; refine (size_any _ _ (by assumption) (by assumption)).mono ?_; rintro r w' ⟨rfl, rfl⟩) | (go_at_call 40; refine (mul64_any _ _ _ x0 x1 y0 y1).mono ?_; rintro r w' ⟨rfl, rfl⟩))
      all_goals (go_ret2; exact ⟨rfl, rfl⟩)
    · have hda : decide (a < 0) = false := decide_eq_false hs
      go_enter Try.func36, Try.ntmps36
      go_wp2_with (first | (go_at_call 41; refine (size_any _ _ (by assumption) (by assumption)).mono ?_; rintro r w' ⟨rfl, rfl⟩) | (go_at_call 40; refine (mul64_any _ _ _ x0 x1 y0 y1).mono ?_; rintro r w' ⟨rfl, rfl⟩))
      all_goals (go_ret2; exact ⟨rfl, rfl⟩)
  · have z1 : mostI a b < loI (absI a) (absI b) := by
      apply Classical.byContradiction
      intro hc
      exact z ⟨z0, hc⟩
    clear z
    by_cases hs : a < 0 <;> by_cases ht : b < 0
    · rw [mostI_same a b (by simp [hs, ht])] at z1
      go_enter Try.func36, Try.ntmps36
      go_wp2_with (first | (go_at_call 41; refine (size_any _ _ (by assumption) (by assumption)).mono ?_; rintro r w' ⟨rfl, rfl⟩) | (go_at_call 40; refine (mul64_any _ _ _ x0 x1 y0 y1).mono ?_; rintro r w' ⟨rfl, rfl⟩))
      all_goals (go_ret2; exact ⟨rfl, rfl⟩)
    · rw [mostI_other a b (by simp [hs, ht])] at z1
      have hdb : decide (b < 0) = false := decide_eq_false ht
      go_enter Try.func36, Try.ntmps36
      go_wp2_with (first | (go_at_call 41; refine (size_any _ _ (by assumption) (by assumption)).mono ?_; rintro r w' ⟨rfl, rfl⟩) | (go_at_call 40; refine (mul64_any _ _ _ x0 x1 y0 y1).mono ?_; rintro r w' ⟨rfl, rfl⟩))
      all_goals (go_ret2; exact ⟨rfl, rfl⟩)
    · rw [mostI_other a b (by simp [hs, ht])] at z1
      have hda : decide (a < 0) = false := decide_eq_false hs
      go_enter Try.func36, Try.ntmps36
      go_wp2_with (first | (go_at_call 41; refine (size_any _ _ (by assumption) (by assumption)).mono ?_; rintro r w' ⟨rfl, rfl⟩) | (go_at_call 40; refine (mul64_any _ _ _ x0 x1 y0 y1).mono ?_; rintro r w' ⟨rfl, rfl⟩))
      all_goals (go_ret2; exact ⟨rfl, rfl⟩)
    · rw [mostI_same a b (by simp [hs, ht])] at z1
      have hda : decide (a < 0) = false := decide_eq_false hs
      go_enter Try.func36, Try.ntmps36
      go_wp2_with (first | (go_at_call 41; refine (size_any _ _ (by assumption) (by assumption)).mono ?_; rintro r w' ⟨rfl, rfl⟩) | (go_at_call 40; refine (mul64_any _ _ _ x0 x1 y0 y1).mono ?_; rintro r w' ⟨rfl, rfl⟩))
      all_goals (go_ret2; exact ⟨rfl, rfl⟩)
set_option maxHeartbeats 4000000 in
theorem refMul_ok (a b : Int) (w : World) (a0 : -9223372036854775808 ≤ a) (a1 : a ≤ 9223372036854775807) (b0 : -9223372036854775808 ≤ b) (b1 : b ≤ 9223372036854775807) (h : inI (a * b)) :
    Calls Try.prog 37 #[.int .i64 a, .int .i64 b] w fun e w' => e = .returned (.tuple #[.int .i64 (a * b), .int .i64 0]) ∧ w = w' := by
  obtain ⟨x0, x1⟩ := absI_fit a a0 a1
  obtain ⟨y0, y1⟩ := absI_fit b b0 b1
  by_cases hz : a = 0 ∨ b = 0
  · have e : a * b = 0 := by rcases hz with h | h <;> rw [h] <;> simp
    rw [e]
    by_cases ha : a = 0
    · have ha' : (a == 0) = true := by simpa using ha
      clear ha hz h e
      go_enter Try.func37, Try.ntmps37
      go_wp2
      all_goals (go_ret2; exact ⟨rfl, rfl⟩)
    · have hb' : (b == 0) = true := by simpa using hz.resolve_left ha
      have ha' : (a == 0) = false := by simpa using ha
      clear ha hz h e
      go_enter Try.func37, Try.ntmps37
      go_wp2
      all_goals (go_ret2; exact ⟨rfl, rfl⟩)
  · have ha' : (a == 0) = false := by simpa using fun h => hz (Or.inl h)
    have hb' : (b == 0) = false := by simpa using fun h => hz (Or.inr h)
    have hy : 1 ≤ absI b := by have := (abs_zero b).1; have := fun h => hz (Or.inr h); omega
    have z1 : ¬ mostI a b / absI b < absI a := fun hc => (div_test _ _ _ (by omega)).1 hc ((mul_in a b).1 h)
    obtain ⟨h0, h1⟩ := h
    clear hz
    by_cases hs : a < 0 <;> by_cases ht : b < 0
    · rw [mostI_same a b (by simp [hs, ht])] at z1
      go_enter Try.func37, Try.ntmps37
      go_wp2_with (go_at_call 42; refine (refSize_any _ _ (by assumption) (by assumption)).mono ?_; rintro r w' ⟨rfl, rfl⟩)
      all_goals (go_ret2; exact ⟨rfl, rfl⟩)
    · rw [mostI_other a b (by simp [hs, ht])] at z1
      have hdb : decide (b < 0) = false := decide_eq_false ht
      go_enter Try.func37, Try.ntmps37
      go_wp2_with (go_at_call 42; refine (refSize_any _ _ (by assumption) (by assumption)).mono ?_; rintro r w' ⟨rfl, rfl⟩)
      all_goals (go_ret2; exact ⟨rfl, rfl⟩)
    · rw [mostI_other a b (by simp [hs, ht])] at z1
      have hda : decide (a < 0) = false := decide_eq_false hs
      go_enter Try.func37, Try.ntmps37
      go_wp2_with (go_at_call 42; refine (refSize_any _ _ (by assumption) (by assumption)).mono ?_; rintro r w' ⟨rfl, rfl⟩)
      all_goals (go_ret2; exact ⟨rfl, rfl⟩)
    · rw [mostI_same a b (by simp [hs, ht])] at z1
      have hda : decide (a < 0) = false := decide_eq_false hs
      go_enter Try.func37, Try.ntmps37
      go_wp2_with (go_at_call 42; refine (refSize_any _ _ (by assumption) (by assumption)).mono ?_; rintro r w' ⟨rfl, rfl⟩)
      all_goals (go_ret2; exact ⟨rfl, rfl⟩)

set_option maxHeartbeats 4000000 in
theorem refMul_no (a b : Int) (w : World) (a0 : -9223372036854775808 ≤ a) (a1 : a ≤ 9223372036854775807) (b0 : -9223372036854775808 ≤ b) (b1 : b ≤ 9223372036854775807) (h : ¬ inI (a * b)) :
    Calls Try.prog 37 #[.int .i64 a, .int .i64 b] w fun e w' => e = .returned (.tuple #[.int .i64 0, .int .i64 5]) ∧ w = w' := by
  obtain ⟨x0, x1⟩ := absI_fit a a0 a1
  obtain ⟨y0, y1⟩ := absI_fit b b0 b1
  have hz : ¬ (a = 0 ∨ b = 0) := fun hz => h (by have e : a * b = 0 := by rcases hz with h | h <;> rw [h] <;> simp
                                                 rw [e]; exact ⟨by omega, by omega⟩)
  have ha' : (a == 0) = false := by simpa using fun h => hz (Or.inl h)
  have hb' : (b == 0) = false := by simpa using fun h => hz (Or.inr h)
  have hy : 1 ≤ absI b := by have := (abs_zero b).1; have := fun h => hz (Or.inr h); omega
  have z1 : mostI a b / absI b < absI a := (div_test _ _ _ (by omega)).2 fun hc => h ((mul_in a b).2 hc)
  clear hz h
  by_cases hs : a < 0 <;> by_cases ht : b < 0
  · rw [mostI_same a b (by simp [hs, ht])] at z1
    go_enter Try.func37, Try.ntmps37
    go_wp2_with (go_at_call 42; refine (refSize_any _ _ (by assumption) (by assumption)).mono ?_; rintro r w' ⟨rfl, rfl⟩)
    all_goals (go_ret2; exact ⟨rfl, rfl⟩)
  · rw [mostI_other a b (by simp [hs, ht])] at z1
    have hdb : decide (b < 0) = false := decide_eq_false ht
    go_enter Try.func37, Try.ntmps37
    go_wp2_with (go_at_call 42; refine (refSize_any _ _ (by assumption) (by assumption)).mono ?_; rintro r w' ⟨rfl, rfl⟩)
    all_goals (go_ret2; exact ⟨rfl, rfl⟩)
  · rw [mostI_other a b (by simp [hs, ht])] at z1
    have hda : decide (a < 0) = false := decide_eq_false hs
    go_enter Try.func37, Try.ntmps37
    go_wp2_with (go_at_call 42; refine (refSize_any _ _ (by assumption) (by assumption)).mono ?_; rintro r w' ⟨rfl, rfl⟩)
    all_goals (go_ret2; exact ⟨rfl, rfl⟩)
  · rw [mostI_same a b (by simp [hs, ht])] at z1
    have hda : decide (a < 0) = false := decide_eq_false hs
    go_enter Try.func37, Try.ntmps37
    go_wp2_with (go_at_call 42; refine (refSize_any _ _ (by assumption) (by assumption)).mono ?_; rintro r w' ⟨rfl, rfl⟩)
    all_goals (go_ret2; exact ⟨rfl, rfl⟩)

end Go.Proofs.Ytejcihffmhmpcaa
