/- Contracts of package bits and its reference: signs. -/
import Derived.Test.YtejcihffmhmpcaaPlainBits
import Derived.Test.YtejcihffmhmpcaaGet
namespace Go.Proofs.Ytejcihffmhmpcaa
open Go.RowKit

theorem ret_int {k : IntKind} {a b : Int} (h : a = b) : Ending.returned (.int k a) = .returned (.int k b) := by rw [h]

set_option maxHeartbeats 400000 in
theorem zig_any (v : Int) (w : World) (h0 : -9223372036854775808 ≤ v) (h1 : v ≤ 9223372036854775807) :
    Calls Try.prog 11 #[.int .i64 v] w fun e w' => e = .returned (.int .u64 (zigI v)) ∧ w = w' := by
  have HO := Lib.hid (zig_prog v h0 h1)
  go_enter Try.func11, Try.ntmps11
  go_wp2
  go_ret
  exact ⟨ret_int HO.out, rfl⟩

set_option maxHeartbeats 400000 in
theorem zag_any (v : Int) (w : World) (h0 : 0 ≤ v) (h1 : v ≤ 18446744073709551615) :
    Calls Try.prog 13 #[.int .u64 v] w fun e w' => e = .returned (.int .i64 (zagI v)) ∧ w = w' := by
  have HO := Lib.hid (zag_prog v h0 h1)
  go_enter Try.func13, Try.ntmps13
  go_wp2
  go_ret
  exact ⟨ret_int HO.out, rfl⟩

set_option maxHeartbeats 400000 in
theorem order_any (v : Int) (w : World) (h0 : -9223372036854775808 ≤ v) (h1 : v ≤ 9223372036854775807) :
    Calls Try.prog 15 #[.int .i64 v] w fun e w' => e = .returned (.int .u64 (orderI v)) ∧ w = w' := by
  have HO := Lib.hid (order_prog v h0 h1)
  go_enter Try.func15, Try.ntmps15
  go_wp2
  go_ret
  exact ⟨ret_int HO.out, rfl⟩

set_option maxHeartbeats 400000 in
theorem back_any (v : Int) (w : World) (h0 : 0 ≤ v) (h1 : v ≤ 18446744073709551615) :
    Calls Try.prog 17 #[.int .u64 v] w fun e w' => e = .returned (.int .i64 (backI v)) ∧ w = w' := by
  have HO := Lib.hid (back_prog v h0 h1)
  go_enter Try.func17, Try.ntmps17
  go_wp2
  go_ret
  exact ⟨ret_int HO.out, rfl⟩

set_option maxHeartbeats 400000 in
theorem refZig_any (v : Int) (w : World) (h0 : -9223372036854775808 ≤ v) (h1 : v ≤ 9223372036854775807) :
    Calls Try.prog 12 #[.int .i64 v] w fun e w' => e = .returned (.int .u64 (zigI v)) ∧ w = w' := by
  by_cases h : 0 ≤ v
  · go_enter Try.func12, Try.ntmps12
    go_wp2
    go_ret
    exact ⟨ret_int (by unfold zigI; first | omega | (split <;> omega)), rfl⟩
  · go_enter Try.func12, Try.ntmps12
    go_wp2
    go_ret
    exact ⟨ret_int (by unfold zigI; first | omega | (split <;> omega)), rfl⟩

set_option maxHeartbeats 400000 in
theorem refZag_any (v : Int) (w : World) (h0 : 0 ≤ v) (h1 : v ≤ 18446744073709551615) :
    Calls Try.prog 14 #[.int .u64 v] w fun e w' => e = .returned (.int .i64 (zagI v)) ∧ w = w' := by
  by_cases h : v % 2 = 0
  · go_enter Try.func14, Try.ntmps14
    go_wp2
    go_ret
    exact ⟨ret_int (by unfold zagI; first | omega | (split <;> omega)), rfl⟩
  · go_enter Try.func14, Try.ntmps14
    go_wp2
    go_ret
    exact ⟨ret_int (by unfold zagI; first | omega | (split <;> omega)), rfl⟩

set_option maxHeartbeats 400000 in
theorem refOrder_any (v : Int) (w : World) (h0 : -9223372036854775808 ≤ v) (h1 : v ≤ 9223372036854775807) :
    Calls Try.prog 16 #[.int .i64 v] w fun e w' => e = .returned (.int .u64 (orderI v)) ∧ w = w' := by
  by_cases h : 0 ≤ v
  · go_enter Try.func16, Try.ntmps16
    go_wp2
    go_ret
    exact ⟨ret_int (by unfold orderI; first | omega | (split <;> omega)), rfl⟩
  · go_enter Try.func16, Try.ntmps16
    go_wp2
    go_ret
    exact ⟨ret_int (by unfold orderI; first | omega | (split <;> omega)), rfl⟩

set_option maxHeartbeats 400000 in
theorem refBack_any (v : Int) (w : World) (h0 : 0 ≤ v) (h1 : v ≤ 18446744073709551615) :
    Calls Try.prog 18 #[.int .u64 v] w fun e w' => e = .returned (.int .i64 (backI v)) ∧ w = w' := by
  by_cases h : 9223372036854775808 ≤ v
  · go_enter Try.func18, Try.ntmps18
    go_wp2
    go_ret
    exact ⟨ret_int (by unfold backI; first | omega | (split <;> omega)), rfl⟩
  · go_enter Try.func18, Try.ntmps18
    go_wp2
    go_ret
    exact ⟨ret_int (by unfold backI; first | omega | (split <;> omega)), rfl⟩

set_option maxHeartbeats 2000000 in
theorem begun_any (w : World) :
    Calls Try.prog 10 #[] w fun r w' => r = .returned (.bool true) ∧ Below w.heap.size w w' := by
  have B0 : Below w.heap.size w (w.alloc (.cells #[.int .u8 9] 5)) := (Below.refl _ _).alloc (Nat.le_refl _) _
  have s0 : Sl (w.heap.size + 1) (w.alloc (.cells #[.int .u8 9] 5)) (.slice (some ⟨w.heap.size, 0, none⟩) 1 1) 1 ([9] : List Int).length (byt [9]) :=
    ⟨rfl, .inr ⟨_, 1, rfl, Nat.le_refl _, by unfold maxLen; omega, fun _ => ⟨w.heap.size, 0, rfl, by omega, fun j hj => by have hj' : j < 1 := hj; obtain rfl : j = 0 := (by omega); exact cell_of_row _ _ _ _ _ (0, 0) (heap_alloc_new w _)⟩⟩⟩
  have S0 := Lib.hid s0
  clear s0
  have e1 := Lib.hid (show bePre 258 2 2 = [1, 2] by decide)
  have e2 := Lib.hid (show beVal (([9, 1, 2].drop 1).take 2) = 258 by decide)
  have e3 := Lib.hid (show zigI (-1) = 1 by decide)
  have e4 := Lib.hid (show orderI 0 = 9223372036854775808 by decide)
  go_enter Try.func10, Try.ntmps10
  go_wp2_with fail
  refine (put_ok (w.heap.size + 1) _ [9] 258 2 _ S0.out (by simp) (by simp) (by omega) (by omega) (by omega) (by omega) (by decide)).mono ?_
  rintro e w1 ⟨v1, rfl, hown, hb⟩
  rw [show (2 : Int).toNat = 2 from rfl, e1.out] at hown
  have S1 : Sl w1.heap.size w1 v1 1 ([9, 1, 2] : List Int).length (byt [9, 1, 2]) := Sl.of_own hown
  have B1 := Lib.hid (B0.trans (hb.mono (by simp)))
  clear B0 S0
  obtain ⟨a, cap, rfl, h1, h2, -, h3⟩ := S1.form
  obtain ⟨g, o, rfl, -, -⟩ := h3 0 (by decide)
  have hc : ∀ i, i < 3 → w1.cell? ⟨g, o + i, none⟩ = some (.int .u8 (([9, 1, 2] : List Int).getD i 0)) := fun j hj => by
    obtain ⟨g', o', e, _, hcc⟩ := h3 j hj
    simp only [Option.some.injEq, Addr.mk.injEq, and_true] at e
    obtain ⟨rfl, rfl⟩ := e
    rw [hcc]
    have : j = 0 ∨ j = 1 ∨ j = 2 := by omega
    rcases this with rfl | rfl | rfl <;> rfl
  have kc := run_convert_bytes_arg (P := Try.prog) w1 27 5 Try.underlying27 Try.underlying5 g o 3 cap [9, 1, 2] rfl hc 9 Try.underlying9
  have hs9 : strOfNums [9, 1, 2] = ⟨#[9, 1, 2]⟩ := by decide
  rw [hs9] at kc
  have SS := Lib.hid S1
  clear S1 hc h3 hown hb h1 h2 hs9
  go_wp2_with fail
  refine (get_ok w1.heap.size _ [9, 1, 2] (by decide) 1 2 _ SS.out (by omega) (by omega) (by decide)).mono ?_
  rintro e w2 ⟨rfl, rfl⟩
  rw [e2.out]
  go_wp2_with (first | (go_at_call 11; refine (zig_any _ _ (by omega) (by omega)).mono ?_; rintro e w2 ⟨rfl, rfl⟩; rw [e3.out]) | (go_at_call 15; refine (order_any _ _ (by omega) (by omega)).mono ?_; rintro e w2 ⟨rfl, rfl⟩; rw [e4.out]))
  go_ret
  exact ⟨rfl, B1.out⟩

end Go.Proofs.Ytejcihffmhmpcaa
