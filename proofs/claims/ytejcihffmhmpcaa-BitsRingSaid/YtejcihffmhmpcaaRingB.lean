/- BitsRing, some of its cases. -/
import Derived.Test.YtejcihffmhmpcaaSums
namespace Go.Proofs.Ytejcihffmhmpcaa
open Go.RowKit
set_option maxRecDepth 100000 in
set_option maxHeartbeats 40000000 in
theorem ring_C (a b x : Int) (a0 : -9223372036854775808 ≤ a) (a1 : a ≤ 9223372036854775807) (hx : x - b = a) (w : World)
    (SA : Hid (∀ w, Calls Try.prog 34 #[.int .i64 a, .int .i64 b] w fun r w' => r = .returned (.tuple #[.int .i64 x, .int .i64 0]) ∧ w = w'))
    (SB : Hid (∀ w, Calls Try.prog 34 #[.int .i64 b, .int .i64 a] w fun r w' => r = .returned (.tuple #[.int .i64 x, .int .i64 0]) ∧ w = w'))
    (MA : Hid (∀ w, Calls Try.prog 36 #[.int .i64 a, .int .i64 b] w fun r w' => r = .returned (.tuple #[.int .i64 0, .int .i64 5]) ∧ w = w'))
    (MB : Hid (∀ w, Calls Try.prog 36 #[.int .i64 b, .int .i64 a] w fun r w' => r = .returned (.tuple #[.int .i64 0, .int .i64 5]) ∧ w = w')) :
    Calls Try.prog 8 #[.int .i64 a, .int .i64 b] w fun r w' => r = .returned (.bool true) ∧ Below w.heap.size w w' := by
  go_enter Try.func8, Try.ntmps8
  go_wp2_with fail
  refine (begun_any _).mono ?_; rintro r w1 ⟨rfl, hb⟩
  go_wp2_with fail
  refine (SA.out _).mono ?_; rintro r w' ⟨rfl, rfl⟩
  go_wp2_with fail
  refine (SB.out _).mono ?_; rintro r w' ⟨rfl, rfl⟩
  go_wp2_with fail
  refine (MA.out _).mono ?_; rintro r w' ⟨rfl, rfl⟩
  go_wp2_with fail
  refine (MB.out _).mono ?_; rintro r w' ⟨rfl, rfl⟩
  have hu : undef = Value.tuple #[] := rfl
  go_wp2_with fail
  go_ret
  exact ⟨rfl, hb⟩

set_option maxRecDepth 100000 in
set_option maxHeartbeats 40000000 in
theorem ring_D (a : Int) (w : World)
    (SA : Hid (∀ w, Calls Try.prog 34 #[.int .i64 a, .int .i64 0] w fun r w' => r = .returned (.tuple #[.int .i64 0, .int .i64 5]) ∧ w = w'))
    (SB : Hid (∀ w, Calls Try.prog 34 #[.int .i64 0, .int .i64 a] w fun r w' => r = .returned (.tuple #[.int .i64 0, .int .i64 5]) ∧ w = w'))
    (MA : Hid (∀ w, Calls Try.prog 36 #[.int .i64 a, .int .i64 0] w fun r w' => r = .returned (.tuple #[.int .i64 0, .int .i64 0]) ∧ w = w'))
    (MB : Hid (∀ w, Calls Try.prog 36 #[.int .i64 0, .int .i64 a] w fun r w' => r = .returned (.tuple #[.int .i64 0, .int .i64 0]) ∧ w = w')) :
    Calls Try.prog 8 #[.int .i64 a, .int .i64 0] w fun r w' => r = .returned (.bool true) ∧ Below w.heap.size w w' := by
  go_enter Try.func8, Try.ntmps8
  go_wp2_with fail
  refine (begun_any _).mono ?_; rintro r w1 ⟨rfl, hb⟩
  go_wp2_with fail
  refine (SA.out _).mono ?_; rintro r w' ⟨rfl, rfl⟩
  go_wp2_with fail
  refine (SB.out _).mono ?_; rintro r w' ⟨rfl, rfl⟩
  go_wp2_with fail
  refine (MA.out _).mono ?_; rintro r w' ⟨rfl, rfl⟩
  go_wp2_with fail
  refine (MB.out _).mono ?_; rintro r w' ⟨rfl, rfl⟩
  have hu : undef = Value.tuple #[] := rfl
  go_wp2_with fail
  go_ret
  exact ⟨rfl, hb⟩
end Go.Proofs.Ytejcihffmhmpcaa
