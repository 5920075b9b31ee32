/- Layer 10's 'begun': it answers true. -/
import Derived.Test.YtaaagidooieejaaConf5
namespace Go.Proofs.Ytaaagidooieejaa
open Go.RowKit

set_option maxHeartbeats 2000000 in
theorem begun_any (w : World) :
    Calls Try.prog 15 #[] w fun r w' => r = .returned (.bool true) ∧ Below w.heap.size w w' := by
  have e1 := Lib.hid (show changeE 6 8 0 false 6 8 0 3 1 = 0 by decide +kernel)
  have e2 := Lib.hid (show mayC 6 8 0 2 2 = true by decide +kernel)
  have e3 := Lib.hid (show electsJ 6 8 0 2 2 0 0 0 0 0 false 10 = true by decide +kernel)
  have e4 := Lib.hid (show electsJ 6 8 0 2 2 6 8 0 3 1 true 10 = false by decide +kernel)
  have e5 := Lib.hid (show commitsJ 6 8 0 2 2 6 8 0 3 1 true 10 = true by decide +kernel)
  go_enter Try.func15, Try.ntmps15
  go_wp2_with fail
  refine (confChange_ok _ _ _ _ _ _ _ _ _ _ _ _ _ _ _ _ _ e1.out).mono ?_; rintro r w1 ⟨rfl, hb⟩
  simp only [World.size_alloc] at hb
  have hlt := hb.size
  simp only [World.size_alloc] at hlt
  have HA := below_block hb (by omega) (heap_last w _)
  have kA := fun o => block_cells (heap_prev o HA)
  have B1 := Lib.hid (below_box w _ |>.trans (hb.mono (by omega)))
  clear hb
  go_wp2_with fail
  refine (confMay_any _ _ _ _ _ _).mono ?_; rintro r w2 ⟨rfl, hb⟩; rw [e2.out]
  simp only [World.size_alloc] at hb
  have HC := below_block hb (by omega) (heap_last w1 _)
  replace HA := below_block hb (by omega) (heap_prev _ HA)
  have B2 := Lib.hid (B1.out.trans ((below_box w1 _).mono (by omega)) |>.trans (hb.mono (by omega)))
  have hlt2 := hb.size
  simp only [World.size_alloc] at hlt2
  have kC := block_cells HC
  clear kA hb
  have kA := block_cells HA
  go_wp2_with fail
  refine (confElects_any _ _ _ _ _ _ _ _ _ _ _ _ _).mono ?_; rintro r w3 ⟨rfl, hb⟩; rw [e3.out]
  replace HA := below_block hb (by omega) HA
  replace HC := below_block hb (by omega) HC
  have B3 := Lib.hid (B2.out.trans (hb.mono (by omega)))
  replace hlt2 : w1.heap.size + 1 ≤ w3.heap.size := Nat.le_trans hlt2 hb.size
  clear kA kC hb
  have kA := block_cells HA
  have kC := block_cells HC
  go_wp2_with fail
  refine (confElects_any _ _ _ _ _ _ _ _ _ _ _ _ _).mono ?_; rintro r w4 ⟨rfl, hb⟩; rw [e4.out]
  replace HA := below_block hb (by omega) HA
  replace HC := below_block hb (by omega) HC
  have B4 := Lib.hid (B3.out.trans (hb.mono (by omega)))
  replace hlt2 : w1.heap.size + 1 ≤ w4.heap.size := Nat.le_trans hlt2 hb.size
  clear kA kC hb
  have kC := block_cells HC
  go_wp2_with fail
  refine (confCommits_any _ _ _ _ _ _ _ _ _ _ _ _ _).mono ?_; rintro r w5 ⟨rfl, hb⟩; rw [e5.out]
  go_wp2_with fail
  go_ret
  exact ⟨rfl, B4.out.trans (hb.mono (by omega))⟩
end Go.Proofs.Ytaaagidooieejaa
