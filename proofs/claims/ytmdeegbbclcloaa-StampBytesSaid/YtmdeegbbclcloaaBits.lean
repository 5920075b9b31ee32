/- Contracts of package bits and its reference: signs. -/
import Derived.Test.YtmdeegbbclcloaaPlainBits
import Derived.Test.YtmdeegbbclcloaaGet
namespace Go.Proofs.Ytmdeegbbclcloaa
open Go.RowKit

theorem ret_int {k : IntKind} {a b : Int} (h : a = b) : Ending.returned (.int k a) = .returned (.int k b) := by rw [h]



set_option maxHeartbeats 400000 in
theorem order_any (v : Int) (w : World) (h0 : -9223372036854775808 ≤ v) (h1 : v ≤ 9223372036854775807) :
    Calls Try.prog 38 #[.int .i64 v] w fun e w' => e = .returned (.int .u64 (orderI v)) ∧ w = w' := by
  have HO := Lib.hid (order_prog v h0 h1)
  go_enter Try.func38, Try.ntmps38
  go_wp2
  go_ret
  exact ⟨ret_int HO.out, rfl⟩

set_option maxHeartbeats 400000 in
theorem back_any (v : Int) (w : World) (h0 : 0 ≤ v) (h1 : v ≤ 18446744073709551615) :
    Calls Try.prog 34 #[.int .u64 v] w fun e w' => e = .returned (.int .i64 (backI v)) ∧ w = w' := by
  have HO := Lib.hid (back_prog v h0 h1)
  go_enter Try.func34, Try.ntmps34
  go_wp2
  go_ret
  exact ⟨ret_int HO.out, rfl⟩



set_option maxHeartbeats 400000 in
theorem refOrder_any (v : Int) (w : World) (h0 : -9223372036854775808 ≤ v) (h1 : v ≤ 9223372036854775807) :
    Calls Try.prog 40 #[.int .i64 v] w fun e w' => e = .returned (.int .u64 (orderI v)) ∧ w = w' := by
  by_cases h : 0 ≤ v
  · go_enter Try.func40, Try.ntmps40
    go_wp2
    go_ret
    exact ⟨ret_int (by unfold orderI; first | omega | (split <;> omega)), rfl⟩
  · go_enter Try.func40, Try.ntmps40
    go_wp2
    go_ret
    exact ⟨ret_int (by unfold orderI; first | omega | (split <;> omega)), rfl⟩

set_option maxHeartbeats 400000 in
theorem refBack_any (v : Int) (w : World) (h0 : 0 ≤ v) (h1 : v ≤ 18446744073709551615) :
    Calls Try.prog 36 #[.int .u64 v] w fun e w' => e = .returned (.int .i64 (backI v)) ∧ w = w' := by
  by_cases h : 9223372036854775808 ≤ v
  · go_enter Try.func36, Try.ntmps36
    go_wp2
    go_ret
    exact ⟨ret_int (by unfold backI; first | omega | (split <;> omega)), rfl⟩
  · go_enter Try.func36, Try.ntmps36
    go_wp2
    go_ret
    exact ⟨ret_int (by unfold backI; first | omega | (split <;> omega)), rfl⟩


end Go.Proofs.Ytmdeegbbclcloaa
