/- The reference of script: an event's bytes. -/
import Derived.Test.YtihkkoldjllifaaScriptI0
import Derived.Test.YtihkkoldjllifaaPlainEncR
namespace Go.Proofs.Ytihkkoldjllifaa
open Go.ChangeShapes Go.WideShapes Go.ChangeAt Go.RowKit

theorem wrap64_low (x : Int) : wrap64 x % 256 = x % 256 := by unfold wrap64; omega
def RBytEnd (w : World) (x : List Int × Bool) (r : Ending) (w' : World) : Prop := ∃ v, r = .returned (.tuple #[v, .bool x.2]) ∧ Sl w'.heap.size w' v 1 x.1.length (byt x.1) ∧ Below w.heap.size w w'
theorem rbytEnd_nil {w w' : World} (h : Below w.heap.size w w') : RBytEnd w ([], false) (.returned (.tuple #[.slice none 0 0, .bool false])) w' := ⟨_, rfl, ⟨rfl, .inl ⟨rfl, rfl⟩⟩, h⟩
set_option maxHeartbeats 400000 in
theorem small_any (n m : Int) (w : World) : Calls Try.prog 67 #[.int .i64 n, .int .i64 m] w fun r w' => r = .returned (.bool (smallB n m)) ∧ w = w' := by
  by_cases h1 : 0 ≤ n
  · by_cases h2 : n ≤ m
    · have e : smallB n m = true := by simp [smallB, h1, h2]
      rw [e]
      clear e
      go_enter Try.func67, Try.ntmps67
      go_wp2_with fail
      go_ret
      exact ⟨ret_boolS (by simp), rfl⟩
    · have e : smallB n m = false := by simp [smallB, h2]
      rw [e]
      clear e
      go_enter Try.func67, Try.ntmps67
      go_wp2_with fail
      go_ret
      exact ⟨ret_boolS (by simp), rfl⟩
  · have e : smallB n m = false := by simp [smallB, h1]
    have hd : decide (0 ≤ n) = false := by simpa using h1
    rw [e]
    clear e
    go_enter Try.func67, Try.ntmps67
    go_wp2_with fail
    go_ret
    exact ⟨ret_boolS (by simp), rfl⟩

end Go.Proofs.Ytihkkoldjllifaa
