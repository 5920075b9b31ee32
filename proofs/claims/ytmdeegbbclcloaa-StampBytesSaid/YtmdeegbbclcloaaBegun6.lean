/- Layer 6's 'begun': it answers true. -/
import Derived.Test.YtmdeegbbclcloaaStampT
import Derived.Test.YtmdeegbbclcloaaStampE
namespace Go.Proofs.Ytmdeegbbclcloaa
open Go.RowKit

set_option maxHeartbeats 2000000 in
theorem begun_any (w : World) :
    Calls Try.prog 10 #[] w fun r w' => r = .returned (.bool true) ∧ Below w.heap.size w w' := by
  have e1 := Lib.hid (show tieI 1 0 0 1 = 281474976710657 by decide)
  have e2 := Lib.hid (show limI 3 4 = 8 by decide)
  have e3 := Lib.hid (show limE 3 4 = 0 by decide)
  have e4 := Lib.hid (show lessS 1 0 1 1 = true by decide)
  go_enter Try.func10, Try.ntmps10
  go_wp2_with fail
  refine (tie_ok 1 0 0 1 _ (by decide)).mono ?_; rintro r w1 ⟨rfl, rfl⟩; rw [e1.out]
  go_wp2_with fail
  refine (lim_any 3 4 _ (by omega) (by omega) (by omega) (by omega)).mono ?_; rintro r w1 ⟨rfl, hb⟩; rw [e2.out, e3.out]
  have B1 := Lib.hid hb
  clear hb
  go_wp2_with fail
  refine (less_any 1 0 1 1 _).mono ?_; rintro r w2 ⟨rfl, hb⟩; rw [e4.out]
  go_wp2_with fail
  go_ret
  exact ⟨rfl, B1.out.trans (hb.mono B1.out.size)⟩
end Go.Proofs.Ytmdeegbbclcloaa
