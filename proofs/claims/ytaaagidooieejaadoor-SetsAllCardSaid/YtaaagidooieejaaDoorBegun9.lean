/- Layer 9's 'begun': it answers true. -/
import Derived.Test.YtaaagidooieejaaDoorCounter
import Derived.Test.YtaaagidooieejaaDoorOf
namespace Go.Proofs.YtaaagidooieejaaDoor
open Go.RowKit

theorem below_new (w : World) (o : Obj) : Below w.heap.size w (w.alloc o) := (Below.refl _ _).alloc (Nat.le_refl _) o

set_option maxRecDepth 100000 in
set_option maxHeartbeats 1000000 in
theorem begun9_any (w : World) :
    Calls Tryd.prog 5 #[] w fun r w' => r = .returned (.bool true) ∧ Below w.heap.size w w' := by
  have e1 := Lib.hid (show ofGo [3, 1] 0 = (10, 0) by decide +kernel)
  have e2 := Lib.hid (show rise 10 512 0 (-1) = some 4 by decide +kernel)
  have e3 := Lib.hid (show tells 10 (-1) 10 512 0 0 (-1) true = (4, 10, true) by decide +kernel)
  have e4 := Lib.hid (show cnt 10 = 2 by decide +kernel)
  have e5 := Lib.hid (show hasB 10 3 = true by decide +kernel)
  have hmf : ∀ (fn : Fn) (first cap : Array Value) (w : World), (Instr.makeFunc fn first cap).run Tryd.prog w = .ok (.func fn first cap) w := fun _ _ _ _ => rfl
  go_enter Tryd.func5, Tryd.ntmps5
  go_wp2_with fail
  refine (of_any [3, 1] _ _ _ (by decide) (fun j h => ⟨_, rfl, ?_⟩)).mono ?_
  · rcases j with _ | _ | j
    · exact block_cells (heap_last w (.cells #[.int .i64 3, .int .i64 1] _)) 0
    · exact block_cells (heap_last w (.cells #[.int .i64 3, .int .i64 1] _)) 1
    · exact absurd h (by simp)
  rintro r w1 ⟨rfl, rfl⟩; rw [e1.out]
  go_wp2_with fail
  have HA := heap_last (w.alloc (.cells #[.int .i64 3, .int .i64 1] 3 (0, 0))) (.cells (ctr 0 (-1) (-1) true 10) 38 (0, 0))
  have B0 := Lib.hid ((below_new w (.cells #[.int .i64 3, .int .i64 1] 3 (0, 0))).trans ((below_new (w.alloc (.cells #[.int .i64 3, .int .i64 1] 3 (0, 0))) (.cells (ctr 0 (-1) (-1) true 10) 38 (0, 0))).mono (by simp)))
  simp only [World.size_alloc] at HA
  refine (subsets_any (w.heap.size + 1) 10 10 (-1) 10 4 _ (by decide) e2.out HA).mono ?_; rintro r w2 ⟨rfl, hc, hb⟩
  rw [e3.out] at hc
  have B1 := Lib.hid (B0.out.trans (hb.mono (by omega)))
  have kA := block_cells hc
  have HC := Lib.hid hc
  clear HA hc hb
  go_wp2_with fail
  refine (count_any 10 _ (by decide)).mono ?_; rintro r w3 ⟨rfl, hb⟩; rw [e4.out]
  have HC3 := below_block hb (block_lt HC.out) HC.out
  have B2 := Lib.hid (B1.out.trans (hb.mono B1.out.size))
  clear kA hb
  have kA := block_cells HC3
  go_wp2_with fail
  refine (has_any 10 3 _ (by decide)).mono ?_; rintro r w' ⟨rfl, rfl⟩; rw [e5.out]
  go_wp2_with fail
  go_ret
  exact ⟨rfl, B2.out⟩
end Go.Proofs.YtaaagidooieejaaDoor
