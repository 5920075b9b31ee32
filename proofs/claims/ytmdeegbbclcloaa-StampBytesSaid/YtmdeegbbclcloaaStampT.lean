/- The contract of package stamp's ties. -/
import Derived.Test.YtmdeegbbclcloaaStampD
namespace Go.Proofs.Ytmdeegbbclcloaa
open Go.RowKit

theorem or_add (m y k : Nat) (h : y < 2 ^ k) : (m * 2 ^ k) ||| y = m * 2 ^ k + y := by
  rw [Nat.mul_comm]; exact (Nat.two_pow_add_eq_or_of_lt h m).symm
theorem or_i64 (x y : Nat) (hx : x < 2 ^ 62) (hy : y < 2 ^ 62) : bits .or .i64 x y = ((x ||| y : Nat) : Int) := by
  have e : bits .or .i64 x y = IntKind.i64.wrap (((BitVec.ofInt 64 x ||| BitVec.ofInt 64 y).toNat : Nat) : Int) := rfl
  have hor : x ||| y < 2 ^ 62 := Nat.or_lt_two_pow hx hy
  have ex : (BitVec.ofInt 64 (x : Int)).toNat = x := by rw [BitVec.toNat_ofInt]; omega
  have ey : (BitVec.ofInt 64 (y : Int)).toNat = y := by rw [BitVec.toNat_ofInt]; omega
  rw [e, BitVec.toNat_or, ex, ey]
  have hw : ∀ n : Int, 0 ≤ n → n < 2 ^ 62 → IntKind.i64.wrap n = n := fun n h0 h1 => by simp [IntKind.wrap, IntKind.bits, IntKind.signed]; omega
  exact hw _ (by omega) (by omega)
theorem tie_or (n l s a : Int) (n0 : 1 ≤ n) (n1 : n ≤ 9) (a0 : 0 ≤ a) (a1 : a ≤ 15) (l0 : 0 ≤ l) (l1 : l ≤ 1048575) (s0 : 0 ≤ s) (s1 : s ≤ 16777215) :
    bits .or .i64 (bits .or .i64 (bits .or .i64 (n * 281474976710656) (l * 268435456)) (s * 16)) a = tieI n l s a := by
  obtain ⟨n, rfl⟩ := Int.eq_ofNat_of_zero_le (show 0 ≤ n by omega)
  obtain ⟨l, rfl⟩ := Int.eq_ofNat_of_zero_le l0
  obtain ⟨s, rfl⟩ := Int.eq_ofNat_of_zero_le s0
  obtain ⟨a, rfl⟩ := Int.eq_ofNat_of_zero_le a0
  have e1 : bits .or .i64 ((n : Int) * 281474976710656) ((l : Int) * 268435456) = ((n * 2 ^ 48 + l * 2 ^ 28 : Nat) : Int) := by
    have := or_i64 (n * 2 ^ 48) (l * 2 ^ 28) (by omega) (by omega)
    rw [or_add n (l * 2 ^ 28) 48 (by omega)] at this
    rw [← this]; congr 1
  have e2 : bits .or .i64 ((n * 2 ^ 48 + l * 2 ^ 28 : Nat) : Int) ((s : Int) * 16) = ((n * 2 ^ 48 + l * 2 ^ 28 + s * 2 ^ 4 : Nat) : Int) := by
    have h := or_i64 (n * 2 ^ 48 + l * 2 ^ 28) (s * 2 ^ 4) (by omega) (by omega)
    rw [show n * 2 ^ 48 + l * 2 ^ 28 = (n * 2 ^ 20 + l) * 2 ^ 28 by omega, or_add (n * 2 ^ 20 + l) (s * 2 ^ 4) 28 (by omega)] at h
    rw [show n * 2 ^ 48 + l * 2 ^ 28 = (n * 2 ^ 20 + l) * 2 ^ 28 by omega, ← h]; congr 1
  have e3 : bits .or .i64 ((n * 2 ^ 48 + l * 2 ^ 28 + s * 2 ^ 4 : Nat) : Int) (a : Int) = ((n * 2 ^ 48 + l * 2 ^ 28 + s * 2 ^ 4 + a : Nat) : Int) := by
    have h := or_i64 (n * 2 ^ 48 + l * 2 ^ 28 + s * 2 ^ 4) a (by omega) (by omega)
    rw [show n * 2 ^ 48 + l * 2 ^ 28 + s * 2 ^ 4 = (n * 2 ^ 44 + l * 2 ^ 24 + s) * 2 ^ 4 by omega, or_add _ a 4 (by omega)] at h
    rw [show n * 2 ^ 48 + l * 2 ^ 28 + s * 2 ^ 4 = (n * 2 ^ 44 + l * 2 ^ 24 + s) * 2 ^ 4 by omega, ← h]
  rw [e1, e2, e3]; unfold tieI; omega

set_option maxRecDepth 100000 in
set_option maxHeartbeats 2000000 in
theorem tie_ok (n l s a : Int) (w : World) (h : tieOk n l s a = true) :
    Calls Try.prog 11 #[.int .i64 n, .int .i64 l, .int .i64 s, .int .i64 a] w fun e w' => e = .returned (.tuple #[.int .i64 (tieI n l s a), .int .i64 0]) ∧ w = w' := by
  obtain ⟨n0, n1, a0, a1, l0, l1, s0, s1⟩ := tieOk_bd h
  clear h
  have HO := Lib.hid (tie_or n l s a n0 n1 a0 a1 l0 l1 s0 s1)
  go_enter Try.func11, Try.ntmps11
  go_wp2_with fail
  go_ret2
  exact ⟨congrArg (fun z => Ending.returned (Value.tuple #[Value.int .i64 z, Value.int .i64 0])) HO.out, rfl⟩

set_option maxRecDepth 100000 in
set_option maxHeartbeats 4000000 in
theorem tie_no (n l s a : Int) (w : World) (h : tieOk n l s a = false) :
    Calls Try.prog 11 #[.int .i64 n, .int .i64 l, .int .i64 s, .int .i64 a] w fun e w' => e = .returned (.tuple #[.int .i64 0, .int .i64 1]) ∧ w = w' := by
  have HH := Lib.hid h
  clear h
  by_cases t0 : n < 1
  · go_enter Try.func11, Try.ntmps11
    go_wp2_with fail
    go_ret2
    exact ⟨rfl, rfl⟩
  by_cases t1 : 9 < n
  · go_enter Try.func11, Try.ntmps11
    go_wp2_with fail
    go_ret2
    exact ⟨rfl, rfl⟩
  by_cases t2 : a < 0
  · go_enter Try.func11, Try.ntmps11
    go_wp2_with fail
    go_ret2
    exact ⟨rfl, rfl⟩
  by_cases t3 : 15 < a
  · go_enter Try.func11, Try.ntmps11
    go_wp2_with fail
    go_ret2
    exact ⟨rfl, rfl⟩
  by_cases t4 : l < 0
  · go_enter Try.func11, Try.ntmps11
    go_wp2_with fail
    go_ret2
    exact ⟨rfl, rfl⟩
  by_cases t5 : 1048575 < l
  · go_enter Try.func11, Try.ntmps11
    go_wp2_with fail
    go_ret2
    exact ⟨rfl, rfl⟩
  by_cases t6 : s < 0
  · go_enter Try.func11, Try.ntmps11
    go_wp2_with fail
    go_ret2
    exact ⟨rfl, rfl⟩
  by_cases t7 : 16777215 < s
  · go_enter Try.func11, Try.ntmps11
    go_wp2_with fail
    go_ret2
    exact ⟨rfl, rfl⟩
  exact absurd HH.out (by rw [tieOk_mk (by omega) (by omega) (by omega) (by omega) (by omega) (by omega) (by omega) (by omega)]; decide)
end Go.Proofs.Ytmdeegbbclcloaa
