/- ConfChanges: for every joint and configuration: which changes there are and where they end is what the reference answers; no condition. -/
import Derived.Test.YtaaagidooieejaaBegun10
import Derived.Test.YtaaagidooieejaaOpenConf
import Derived.Test.YtaaagidooieejaaRef10e
import Derived.Test.YtaaagidooieejaaRows
namespace Go.Proofs.Ytaaagidooieejaa
open Go.ChangeShapes Go.WideShapes Go.ChangeAt Go.RowKit

section
variable (jov jox jol joe jok jnv jnx jnl jne jnk : Int) (w : World)
theorem confFinal_one : Calls Try.prog 22 #[.agg #[.int .u16 jov, .int .u16 jox, .int .u16 jol, .int .i64 joe, .int .i64 jok, .int .u16 jnv, .int .u16 jnx, .int .u16 jnl, .int .i64 jne, .int .i64 jnk, .bool false]] w fun r w' => r = .returned (.agg #[.int .u16 jov, .int .u16 jox, .int .u16 jol, .int .i64 joe, .int .i64 jok, .int .u16 jnv, .int .u16 jnx, .int .u16 jnl, .int .i64 jne, .int .i64 jnk, .bool false]) ∧ Below w.heap.size w w' := confFinal_any jov jox jol joe jok jnv jnx jnl jne jnk false w
theorem confFinal_two : Calls Try.prog 22 #[.agg #[.int .u16 jov, .int .u16 jox, .int .u16 jol, .int .i64 joe, .int .i64 jok, .int .u16 jnv, .int .u16 jnx, .int .u16 jnl, .int .i64 jne, .int .i64 jnk, .bool true]] w fun r w' => r = .returned (.agg #[.int .u16 jnv, .int .u16 jnx, .int .u16 jnl, .int .i64 jne, .int .i64 jnk, .int .u16 0, .int .u16 0, .int .u16 0, .int .i64 0, .int .i64 0, .bool false]) ∧ Below w.heap.size w w' := confFinal_any jov jox jol joe jok jnv jnx jnl jne jnk true w
theorem refFinal_one : Calls Try.prog 23 #[.agg #[.int .u16 jov, .int .u16 jox, .int .u16 jol, .int .i64 joe, .int .i64 jok, .int .u16 jnv, .int .u16 jnx, .int .u16 jnl, .int .i64 jne, .int .i64 jnk, .bool false]] w fun r w' => r = .returned (.agg #[.int .u16 jov, .int .u16 jox, .int .u16 jol, .int .i64 joe, .int .i64 jok, .int .u16 jnv, .int .u16 jnx, .int .u16 jnl, .int .i64 jne, .int .i64 jnk, .bool false]) ∧ Below w.heap.size w w' := refFinal_any jov jox jol joe jok jnv jnx jnl jne jnk false w
theorem refFinal_two : Calls Try.prog 23 #[.agg #[.int .u16 jov, .int .u16 jox, .int .u16 jol, .int .i64 joe, .int .i64 jok, .int .u16 jnv, .int .u16 jnx, .int .u16 jnl, .int .i64 jne, .int .i64 jnk, .bool true]] w fun r w' => r = .returned (.agg #[.int .u16 jnv, .int .u16 jnx, .int .u16 jnl, .int .i64 jne, .int .i64 jnk, .int .u16 0, .int .u16 0, .int .u16 0, .int .i64 0, .int .i64 0, .bool false]) ∧ Below w.heap.size w w' := refFinal_any jov jox jol joe jok jnv jnx jnl jne jnk true w
end

set_option maxHeartbeats 8000000 in
theorem changes_walk (jov jox jol joe jok jnv jnx jnl jne jnk : Int) (jt : Bool) (tv tx tl te tk : Int) (fo : FitC jov jox jol) (fn : FitC jnv jnx jnl) (ft : FitC tv tx tl) (w : World) :
    Calls Try.prog 5 #[.agg #[.int .u16 jov, .int .u16 jox, .int .u16 jol, .int .i64 joe, .int .i64 jok, .int .u16 jnv, .int .u16 jnx, .int .u16 jnl, .int .i64 jne, .int .i64 jnk, .bool jt], .agg #[.int .u16 tv, .int .u16 tx, .int .u16 tl, .int .i64 te, .int .i64 tk]] w fun r w' => r = .returned (.bool true) ∧ Below w.heap.size w w' := by
  cases jt
  · cases hm : mayJ jov jox jol joe jok jnv jnx jnl jne jnk false
    · have HM := Lib.hid hm; clear hm
      go_enter Try.func5, Try.ntmps5
      go_wp2_with fail
      obtain ⟨U, f, hU, hf, hg⟩ := calm_class ((w.alloc (.cells #[.int .u16 jov, .int .u16 jox, .int .u16 jol, .int .i64 joe, .int .i64 jok, .int .u16 jnv, .int .u16 jnx, .int .u16 jnl, .int .i64 jne, .int .i64 jnk, .bool false] 38)).alloc (.cells #[.int .u16 tv, .int .u16 tx, .int .u16 tl, .int .i64 te, .int .i64 tk] 33)); obtain ⟨u0, hu0⟩ := hg _ (Below.refl _ _); rw [hu0]; clear hu0
      have HB : Hid (∀ u, Below w.heap.size w (f u)) := fun u => (below_box w _).trans (((below_box _ _).mono (by simp)).trans ((hf u).mono (by simp; omega)))
      have hA := calm_heap hf (heap_prev (.cells #[.int .u16 tv, .int .u16 tx, .int .u16 tl, .int .i64 te, .int .i64 tk] 33) (heap_last w (.cells #[.int .u16 jov, .int .u16 jox, .int .u16 jol, .int .i64 joe, .int .i64 jok, .int .u16 jnv, .int .u16 jnx, .int .u16 jnl, .int .i64 jne, .int .i64 jnk, .bool false] 38)))
      have hB := calm_heap hf (heap_last (w.alloc (.cells #[.int .u16 jov, .int .u16 jox, .int .u16 jol, .int .i64 joe, .int .i64 jok, .int .u16 jnv, .int .u16 jnx, .int .u16 jnl, .int .i64 jne, .int .i64 jnk, .bool false] 38)) (.cells #[.int .u16 tv, .int .u16 tx, .int .u16 tl, .int .i64 te, .int .i64 tk] 33))
      have kA := fun u => block_cells (hA u)
      have kB := fun u => block_cells (hB u)
      have kA' := fun u (o : Obj) => block_cells (heap_prev o (hA u))
      have kB' := fun u (o : Obj) => block_cells (heap_prev o (hB u))
      simp only [World.size_alloc] at kB hB kB'
      have HA := Lib.hid hA; have HBB := Lib.hid hB
      clear hA hB
      refine (begun_any _).mono ?_; rintro r w' ⟨rfl, hb⟩; obtain ⟨u, rfl⟩ := calm_step hf hg hb; clear hb
      go_wp2_with fail
      refine (refMayJoint_any _ _ _ _ _ _ _ _ _ _ _ fo fn _).mono ?_; rintro r w' ⟨rfl, hb⟩; obtain ⟨u, rfl⟩ := calm_step hf hg hb; clear hb; rw [HM.out]
      go_wp2_with fail
      go_ret
      exact ⟨rfl, HB.out _⟩
    · have HM := Lib.hid hm; clear hm
      by_cases hc : changeE jov jox jol false tv tx tl te tk = 0
      · have HC := Lib.hid hc; clear hc
        go_enter Try.func5, Try.ntmps5
        go_wp2_with fail
        obtain ⟨U, f, hU, hf, hg⟩ := calm_class ((w.alloc (.cells #[.int .u16 jov, .int .u16 jox, .int .u16 jol, .int .i64 joe, .int .i64 jok, .int .u16 jnv, .int .u16 jnx, .int .u16 jnl, .int .i64 jne, .int .i64 jnk, .bool false] 38)).alloc (.cells #[.int .u16 tv, .int .u16 tx, .int .u16 tl, .int .i64 te, .int .i64 tk] 33)); obtain ⟨u0, hu0⟩ := hg _ (Below.refl _ _); rw [hu0]; clear hu0
        have HB : Hid (∀ u, Below w.heap.size w (f u)) := fun u => (below_box w _).trans (((below_box _ _).mono (by simp)).trans ((hf u).mono (by simp; omega)))
        have hA := calm_heap hf (heap_prev (.cells #[.int .u16 tv, .int .u16 tx, .int .u16 tl, .int .i64 te, .int .i64 tk] 33) (heap_last w (.cells #[.int .u16 jov, .int .u16 jox, .int .u16 jol, .int .i64 joe, .int .i64 jok, .int .u16 jnv, .int .u16 jnx, .int .u16 jnl, .int .i64 jne, .int .i64 jnk, .bool false] 38)))
        have hB := calm_heap hf (heap_last (w.alloc (.cells #[.int .u16 jov, .int .u16 jox, .int .u16 jol, .int .i64 joe, .int .i64 jok, .int .u16 jnv, .int .u16 jnx, .int .u16 jnl, .int .i64 jne, .int .i64 jnk, .bool false] 38)) (.cells #[.int .u16 tv, .int .u16 tx, .int .u16 tl, .int .i64 te, .int .i64 tk] 33))
        have kA := fun u => block_cells (hA u)
        have kB := fun u => block_cells (hB u)
        have kA' := fun u (o : Obj) => block_cells (heap_prev o (hA u))
        have kB' := fun u (o : Obj) => block_cells (heap_prev o (hB u))
        simp only [World.size_alloc] at kB hB kB'
        have HA := Lib.hid hA; have HBB := Lib.hid hB
        clear hA hB
        refine (begun_any _).mono ?_; rintro r w' ⟨rfl, hb⟩; obtain ⟨u, rfl⟩ := calm_step hf hg hb; clear hb
        go_wp2_with fail
        refine (refMayJoint_any _ _ _ _ _ _ _ _ _ _ _ fo fn _).mono ?_; rintro r w' ⟨rfl, hb⟩; obtain ⟨u, rfl⟩ := calm_step hf hg hb; clear hb; rw [HM.out]
        go_wp2_with fail
        refine (confChange_ok _ _ _ _ _ _ _ _ _ _ _ _ _ _ _ _ _ HC.out).mono ?_; rintro r w' ⟨rfl, hb⟩; obtain ⟨u, rfl⟩ := calm_step hf hg hb; clear hb
        go_wp2_with fail
        have hA2 := heap_prev (.cells #[.int .u16 jov, .int .u16 jox, .int .u16 jol, .int .i64 joe, .int .i64 jok, .int .u16 tv, .int .u16 tx, .int .u16 tl, .int .i64 te, .int .i64 tk, .bool true] 38) (HA.out u)
        have hB2 := heap_prev (.cells #[.int .u16 jov, .int .u16 jox, .int .u16 jol, .int .i64 joe, .int .i64 jok, .int .u16 tv, .int .u16 tx, .int .u16 tl, .int .i64 te, .int .i64 tk, .bool true] 38) (HBB.out u)
        have hX2 := heap_last (f u) (.cells #[.int .u16 jov, .int .u16 jox, .int .u16 jol, .int .i64 joe, .int .i64 jok, .int .u16 tv, .int .u16 tx, .int .u16 tl, .int .i64 te, .int .i64 tk, .bool true] 38)
        obtain ⟨U2, f2, hU2, hf2, hg2⟩ := calm_class ((f u).alloc (.cells #[.int .u16 jov, .int .u16 jox, .int .u16 jol, .int .i64 joe, .int .i64 jok, .int .u16 tv, .int .u16 tx, .int .u16 tl, .int .i64 te, .int .i64 tk, .bool true] 38)); obtain ⟨u2, hu2⟩ := hg2 _ (Below.refl _ _); rw [hu2]; clear hu2
        replace hA2 := calm_heap hf2 hA2; replace hB2 := calm_heap hf2 hB2; replace hX2 := calm_heap hf2 hX2
        clear kA kB kA' kB'
        have HB2 : Hid (∀ u, Below w.heap.size w (f2 u)) := fun v => (HB.out u).trans (((below_box (f u) _).mono (HB.out u).size).trans ((hf2 v).mono (by have := (HB.out u).size; simp; omega)))
        have kA := fun u => block_cells (hA2 u); have kB := fun u => block_cells (hB2 u)
        have kA' := fun u (o : Obj) => block_cells (heap_prev o (hA2 u)); have kX' := fun u (o : Obj) => block_cells (heap_prev o (hX2 u))
        have HA2 := Lib.hid hA2; have HBB2 := Lib.hid hB2; have HX2 := Lib.hid hX2
        clear hA2 hB2 hX2
        refine (refChange_ok _ _ _ _ _ _ _ _ _ _ _ _ _ _ _ _ fo ft _ HC.out).mono ?_; rintro r w' ⟨rfl, hb⟩; obtain ⟨u3, rfl⟩ := calm_step hf2 hg2 hb; clear hb
        go_wp2_with fail
        have hA3 := heap_prev (.cells #[.int .u16 jov, .int .u16 jox, .int .u16 jol, .int .i64 joe, .int .i64 jok, .int .u16 tv, .int .u16 tx, .int .u16 tl, .int .i64 te, .int .i64 tk, .bool true] 38) (HA2.out u3)
        have hB3 := heap_prev (.cells #[.int .u16 jov, .int .u16 jox, .int .u16 jol, .int .i64 joe, .int .i64 jok, .int .u16 tv, .int .u16 tx, .int .u16 tl, .int .i64 te, .int .i64 tk, .bool true] 38) (HBB2.out u3)
        have hX3 := heap_prev (.cells #[.int .u16 jov, .int .u16 jox, .int .u16 jol, .int .i64 joe, .int .i64 jok, .int .u16 tv, .int .u16 tx, .int .u16 tl, .int .i64 te, .int .i64 tk, .bool true] 38) (HX2.out u3)
        have hY3 := heap_last (f2 u3) (.cells #[.int .u16 jov, .int .u16 jox, .int .u16 jol, .int .i64 joe, .int .i64 jok, .int .u16 tv, .int .u16 tx, .int .u16 tl, .int .i64 te, .int .i64 tk, .bool true] 38)
        obtain ⟨U3, f3, hU3, hf3, hg3⟩ := calm_class ((f2 u3).alloc (.cells #[.int .u16 jov, .int .u16 jox, .int .u16 jol, .int .i64 joe, .int .i64 jok, .int .u16 tv, .int .u16 tx, .int .u16 tl, .int .i64 te, .int .i64 tk, .bool true] 38)); obtain ⟨u4, hu4⟩ := hg3 _ (Below.refl _ _); rw [hu4]; clear hu4
        replace hA3 := calm_heap hf3 hA3; replace hB3 := calm_heap hf3 hB3; replace hX3 := calm_heap hf3 hX3; replace hY3 := calm_heap hf3 hY3
        clear kA kB kA' kX'
        have kA := fun u => block_cells (hA3 u); have kX := fun u => block_cells (hX3 u); have kY := fun u => block_cells (hY3 u)
        have HB3 : Hid (∀ u, Below w.heap.size w (f3 u)) := fun v => (HB2.out u3).trans (((below_box (f2 u3) _).mono (HB2.out u3).size).trans ((hf3 v).mono (by have := (HB2.out u3).size; simp; omega)))
        clear hA3 hB3 hX3 hY3
        refine wp_region_calm f3 (by kernel_rfl) (by kernel_rfl) (calm_drew hf3 hg3 _) ?_
        repeat (go_big_quiet_step ((first | (go_at_call_of 22 (Value.agg #[.int .u16 jov, .int .u16 jox, .int .u16 jol, .int .i64 joe, .int .i64 jok, .int .u16 jnv, .int .u16 jnx, .int .u16 jnl, .int .i64 jne, .int .i64 jnk, .bool false]); exact calm_of hf3 hg3 (confFinal_one _ _ _ _ _ _ _ _ _ _ _)) | (go_at_call_of 23 (Value.agg #[.int .u16 jov, .int .u16 jox, .int .u16 jol, .int .i64 joe, .int .i64 jok, .int .u16 jnv, .int .u16 jnx, .int .u16 jnl, .int .i64 jne, .int .i64 jnk, .bool false]); exact calm_of hf3 hg3 (refFinal_one _ _ _ _ _ _ _ _ _ _ _)) | (go_at_call 22; exact calm_of hf3 hg3 (confFinal_two _ _ _ _ _ _ _ _ _ _ _)) | (go_at_call 23; exact calm_of hf3 hg3 (refFinal_two _ _ _ _ _ _ _ _ _ _ _)))))
        refine wpQuiet_nil ?_; rintro _ ⟨u, rfl⟩
        go_wp2
        go_ret
        exact ⟨rfl, HB3.out _⟩
      · have HC := Lib.hid hc; clear hc
        go_enter Try.func5, Try.ntmps5
        go_wp2_with fail
        obtain ⟨U, f, hU, hf, hg⟩ := calm_class ((w.alloc (.cells #[.int .u16 jov, .int .u16 jox, .int .u16 jol, .int .i64 joe, .int .i64 jok, .int .u16 jnv, .int .u16 jnx, .int .u16 jnl, .int .i64 jne, .int .i64 jnk, .bool false] 38)).alloc (.cells #[.int .u16 tv, .int .u16 tx, .int .u16 tl, .int .i64 te, .int .i64 tk] 33)); obtain ⟨u0, hu0⟩ := hg _ (Below.refl _ _); rw [hu0]; clear hu0
        have HB : Hid (∀ u, Below w.heap.size w (f u)) := fun u => (below_box w _).trans (((below_box _ _).mono (by simp)).trans ((hf u).mono (by simp; omega)))
        have hA := calm_heap hf (heap_prev (.cells #[.int .u16 tv, .int .u16 tx, .int .u16 tl, .int .i64 te, .int .i64 tk] 33) (heap_last w (.cells #[.int .u16 jov, .int .u16 jox, .int .u16 jol, .int .i64 joe, .int .i64 jok, .int .u16 jnv, .int .u16 jnx, .int .u16 jnl, .int .i64 jne, .int .i64 jnk, .bool false] 38)))
        have hB := calm_heap hf (heap_last (w.alloc (.cells #[.int .u16 jov, .int .u16 jox, .int .u16 jol, .int .i64 joe, .int .i64 jok, .int .u16 jnv, .int .u16 jnx, .int .u16 jnl, .int .i64 jne, .int .i64 jnk, .bool false] 38)) (.cells #[.int .u16 tv, .int .u16 tx, .int .u16 tl, .int .i64 te, .int .i64 tk] 33))
        have kA := fun u => block_cells (hA u)
        have kB := fun u => block_cells (hB u)
        have kA' := fun u (o : Obj) => block_cells (heap_prev o (hA u))
        have kB' := fun u (o : Obj) => block_cells (heap_prev o (hB u))
        simp only [World.size_alloc] at kB hB kB'
        have HA := Lib.hid hA; have HBB := Lib.hid hB
        clear hA hB
        refine (begun_any _).mono ?_; rintro r w' ⟨rfl, hb⟩; obtain ⟨u, rfl⟩ := calm_step hf hg hb; clear hb
        go_wp2_with fail
        refine (refMayJoint_any _ _ _ _ _ _ _ _ _ _ _ fo fn _).mono ?_; rintro r w' ⟨rfl, hb⟩; obtain ⟨u, rfl⟩ := calm_step hf hg hb; clear hb; rw [HM.out]
        go_wp2_with fail
        refine (confChange_no _ _ _ _ _ _ _ _ _ _ _ _ _ _ _ _ _ HC.out).mono ?_; rintro r w' ⟨rfl, hb⟩; obtain ⟨u, rfl⟩ := calm_step hf hg hb; clear hb
        go_wp2_with fail
        have hA2 := heap_prev (.cells #[.int .u16 0, .int .u16 0, .int .u16 0, .int .i64 0, .int .i64 0, .int .u16 0, .int .u16 0, .int .u16 0, .int .i64 0, .int .i64 0, .bool false] 38) (HA.out u)
        have hB2 := heap_prev (.cells #[.int .u16 0, .int .u16 0, .int .u16 0, .int .i64 0, .int .i64 0, .int .u16 0, .int .u16 0, .int .u16 0, .int .i64 0, .int .i64 0, .bool false] 38) (HBB.out u)
        have hX2 := heap_last (f u) (.cells #[.int .u16 0, .int .u16 0, .int .u16 0, .int .i64 0, .int .i64 0, .int .u16 0, .int .u16 0, .int .u16 0, .int .i64 0, .int .i64 0, .bool false] 38)
        obtain ⟨U2, f2, hU2, hf2, hg2⟩ := calm_class ((f u).alloc (.cells #[.int .u16 0, .int .u16 0, .int .u16 0, .int .i64 0, .int .i64 0, .int .u16 0, .int .u16 0, .int .u16 0, .int .i64 0, .int .i64 0, .bool false] 38)); obtain ⟨u2, hu2⟩ := hg2 _ (Below.refl _ _); rw [hu2]; clear hu2
        replace hA2 := calm_heap hf2 hA2; replace hB2 := calm_heap hf2 hB2; replace hX2 := calm_heap hf2 hX2
        clear kA kB kA' kB'
        have HB2 : Hid (∀ u, Below w.heap.size w (f2 u)) := fun v => (HB.out u).trans (((below_box (f u) _).mono (HB.out u).size).trans ((hf2 v).mono (by have := (HB.out u).size; simp; omega)))
        have kA := fun u => block_cells (hA2 u); have kB := fun u => block_cells (hB2 u)
        have kA' := fun u (o : Obj) => block_cells (heap_prev o (hA2 u)); have kX' := fun u (o : Obj) => block_cells (heap_prev o (hX2 u))
        have HA2 := Lib.hid hA2; have HBB2 := Lib.hid hB2; have HX2 := Lib.hid hX2
        clear hA2 hB2 hX2
        refine (refChange_no _ _ _ _ _ _ _ _ _ _ _ _ _ _ _ _ fo ft _ HC.out).mono ?_; rintro r w' ⟨rfl, hb⟩; obtain ⟨u3, rfl⟩ := calm_step hf2 hg2 hb; clear hb
        go_wp2_with fail
        have hA3 := heap_prev (.cells #[.int .u16 0, .int .u16 0, .int .u16 0, .int .i64 0, .int .i64 0, .int .u16 0, .int .u16 0, .int .u16 0, .int .i64 0, .int .i64 0, .bool false] 38) (HA2.out u3)
        have hB3 := heap_prev (.cells #[.int .u16 0, .int .u16 0, .int .u16 0, .int .i64 0, .int .i64 0, .int .u16 0, .int .u16 0, .int .u16 0, .int .i64 0, .int .i64 0, .bool false] 38) (HBB2.out u3)
        have hX3 := heap_prev (.cells #[.int .u16 0, .int .u16 0, .int .u16 0, .int .i64 0, .int .i64 0, .int .u16 0, .int .u16 0, .int .u16 0, .int .i64 0, .int .i64 0, .bool false] 38) (HX2.out u3)
        have hY3 := heap_last (f2 u3) (.cells #[.int .u16 0, .int .u16 0, .int .u16 0, .int .i64 0, .int .i64 0, .int .u16 0, .int .u16 0, .int .u16 0, .int .i64 0, .int .i64 0, .bool false] 38)
        obtain ⟨U3, f3, hU3, hf3, hg3⟩ := calm_class ((f2 u3).alloc (.cells #[.int .u16 0, .int .u16 0, .int .u16 0, .int .i64 0, .int .i64 0, .int .u16 0, .int .u16 0, .int .u16 0, .int .i64 0, .int .i64 0, .bool false] 38)); obtain ⟨u4, hu4⟩ := hg3 _ (Below.refl _ _); rw [hu4]; clear hu4
        replace hA3 := calm_heap hf3 hA3; replace hB3 := calm_heap hf3 hB3; replace hX3 := calm_heap hf3 hX3; replace hY3 := calm_heap hf3 hY3
        clear kA kB kA' kX'
        have kA := fun u => block_cells (hA3 u); have kX := fun u => block_cells (hX3 u); have kY := fun u => block_cells (hY3 u)
        have HB3 : Hid (∀ u, Below w.heap.size w (f3 u)) := fun v => (HB2.out u3).trans (((below_box (f2 u3) _).mono (HB2.out u3).size).trans ((hf3 v).mono (by have := (HB2.out u3).size; simp; omega)))
        clear hA3 hB3 hX3 hY3
        refine wp_region_calm f3 (by kernel_rfl) (by kernel_rfl) (calm_drew hf3 hg3 _) ?_
        repeat (go_big_quiet_step ((first | (go_at_call 22; exact calm_of hf3 hg3 (confFinal_one _ _ _ _ _ _ _ _ _ _ _)) | (go_at_call 23; exact calm_of hf3 hg3 (refFinal_one _ _ _ _ _ _ _ _ _ _ _)))))
        refine wpQuiet_nil ?_; rintro _ ⟨u, rfl⟩
        go_wp2
        go_ret
        exact ⟨rfl, HB3.out _⟩
  · cases hm : mayJ jov jox jol joe jok jnv jnx jnl jne jnk true
    · have HM := Lib.hid hm; clear hm
      go_enter Try.func5, Try.ntmps5
      go_wp2_with fail
      obtain ⟨U, f, hU, hf, hg⟩ := calm_class ((w.alloc (.cells #[.int .u16 jov, .int .u16 jox, .int .u16 jol, .int .i64 joe, .int .i64 jok, .int .u16 jnv, .int .u16 jnx, .int .u16 jnl, .int .i64 jne, .int .i64 jnk, .bool true] 38)).alloc (.cells #[.int .u16 tv, .int .u16 tx, .int .u16 tl, .int .i64 te, .int .i64 tk] 33)); obtain ⟨u0, hu0⟩ := hg _ (Below.refl _ _); rw [hu0]; clear hu0
      have HB : Hid (∀ u, Below w.heap.size w (f u)) := fun u => (below_box w _).trans (((below_box _ _).mono (by simp)).trans ((hf u).mono (by simp; omega)))
      have hA := calm_heap hf (heap_prev (.cells #[.int .u16 tv, .int .u16 tx, .int .u16 tl, .int .i64 te, .int .i64 tk] 33) (heap_last w (.cells #[.int .u16 jov, .int .u16 jox, .int .u16 jol, .int .i64 joe, .int .i64 jok, .int .u16 jnv, .int .u16 jnx, .int .u16 jnl, .int .i64 jne, .int .i64 jnk, .bool true] 38)))
      have hB := calm_heap hf (heap_last (w.alloc (.cells #[.int .u16 jov, .int .u16 jox, .int .u16 jol, .int .i64 joe, .int .i64 jok, .int .u16 jnv, .int .u16 jnx, .int .u16 jnl, .int .i64 jne, .int .i64 jnk, .bool true] 38)) (.cells #[.int .u16 tv, .int .u16 tx, .int .u16 tl, .int .i64 te, .int .i64 tk] 33))
      have kA := fun u => block_cells (hA u)
      have kB := fun u => block_cells (hB u)
      have kA' := fun u (o : Obj) => block_cells (heap_prev o (hA u))
      have kB' := fun u (o : Obj) => block_cells (heap_prev o (hB u))
      simp only [World.size_alloc] at kB hB kB'
      have HA := Lib.hid hA; have HBB := Lib.hid hB
      clear hA hB
      refine (begun_any _).mono ?_; rintro r w' ⟨rfl, hb⟩; obtain ⟨u, rfl⟩ := calm_step hf hg hb; clear hb
      go_wp2_with fail
      refine (refMayJoint_any _ _ _ _ _ _ _ _ _ _ _ fo fn _).mono ?_; rintro r w' ⟨rfl, hb⟩; obtain ⟨u, rfl⟩ := calm_step hf hg hb; clear hb; rw [HM.out]
      go_wp2_with fail
      go_ret
      exact ⟨rfl, HB.out _⟩
    · have HM := Lib.hid hm; clear hm
      have HC := Lib.hid (show changeE jov jox jol true tv tx tl te tk ≠ 0 by simp [changeE])
      go_enter Try.func5, Try.ntmps5
      go_wp2_with fail
      obtain ⟨U, f, hU, hf, hg⟩ := calm_class ((w.alloc (.cells #[.int .u16 jov, .int .u16 jox, .int .u16 jol, .int .i64 joe, .int .i64 jok, .int .u16 jnv, .int .u16 jnx, .int .u16 jnl, .int .i64 jne, .int .i64 jnk, .bool true] 38)).alloc (.cells #[.int .u16 tv, .int .u16 tx, .int .u16 tl, .int .i64 te, .int .i64 tk] 33)); obtain ⟨u0, hu0⟩ := hg _ (Below.refl _ _); rw [hu0]; clear hu0
      have HB : Hid (∀ u, Below w.heap.size w (f u)) := fun u => (below_box w _).trans (((below_box _ _).mono (by simp)).trans ((hf u).mono (by simp; omega)))
      have hA := calm_heap hf (heap_prev (.cells #[.int .u16 tv, .int .u16 tx, .int .u16 tl, .int .i64 te, .int .i64 tk] 33) (heap_last w (.cells #[.int .u16 jov, .int .u16 jox, .int .u16 jol, .int .i64 joe, .int .i64 jok, .int .u16 jnv, .int .u16 jnx, .int .u16 jnl, .int .i64 jne, .int .i64 jnk, .bool true] 38)))
      have hB := calm_heap hf (heap_last (w.alloc (.cells #[.int .u16 jov, .int .u16 jox, .int .u16 jol, .int .i64 joe, .int .i64 jok, .int .u16 jnv, .int .u16 jnx, .int .u16 jnl, .int .i64 jne, .int .i64 jnk, .bool true] 38)) (.cells #[.int .u16 tv, .int .u16 tx, .int .u16 tl, .int .i64 te, .int .i64 tk] 33))
      have kA := fun u => block_cells (hA u)
      have kB := fun u => block_cells (hB u)
      have kA' := fun u (o : Obj) => block_cells (heap_prev o (hA u))
      have kB' := fun u (o : Obj) => block_cells (heap_prev o (hB u))
      simp only [World.size_alloc] at kB hB kB'
      have HA := Lib.hid hA; have HBB := Lib.hid hB
      clear hA hB
      refine (begun_any _).mono ?_; rintro r w' ⟨rfl, hb⟩; obtain ⟨u, rfl⟩ := calm_step hf hg hb; clear hb
      go_wp2_with fail
      refine (refMayJoint_any _ _ _ _ _ _ _ _ _ _ _ fo fn _).mono ?_; rintro r w' ⟨rfl, hb⟩; obtain ⟨u, rfl⟩ := calm_step hf hg hb; clear hb; rw [HM.out]
      go_wp2_with fail
      refine (confChange_no _ _ _ _ _ _ _ _ _ _ _ _ _ _ _ _ _ HC.out).mono ?_; rintro r w' ⟨rfl, hb⟩; obtain ⟨u, rfl⟩ := calm_step hf hg hb; clear hb
      go_wp2_with fail
      have hA2 := heap_prev (.cells #[.int .u16 0, .int .u16 0, .int .u16 0, .int .i64 0, .int .i64 0, .int .u16 0, .int .u16 0, .int .u16 0, .int .i64 0, .int .i64 0, .bool false] 38) (HA.out u)
      have hB2 := heap_prev (.cells #[.int .u16 0, .int .u16 0, .int .u16 0, .int .i64 0, .int .i64 0, .int .u16 0, .int .u16 0, .int .u16 0, .int .i64 0, .int .i64 0, .bool false] 38) (HBB.out u)
      have hX2 := heap_last (f u) (.cells #[.int .u16 0, .int .u16 0, .int .u16 0, .int .i64 0, .int .i64 0, .int .u16 0, .int .u16 0, .int .u16 0, .int .i64 0, .int .i64 0, .bool false] 38)
      obtain ⟨U2, f2, hU2, hf2, hg2⟩ := calm_class ((f u).alloc (.cells #[.int .u16 0, .int .u16 0, .int .u16 0, .int .i64 0, .int .i64 0, .int .u16 0, .int .u16 0, .int .u16 0, .int .i64 0, .int .i64 0, .bool false] 38)); obtain ⟨u2, hu2⟩ := hg2 _ (Below.refl _ _); rw [hu2]; clear hu2
      replace hA2 := calm_heap hf2 hA2; replace hB2 := calm_heap hf2 hB2; replace hX2 := calm_heap hf2 hX2
      clear kA kB kA' kB'
      have HB2 : Hid (∀ u, Below w.heap.size w (f2 u)) := fun v => (HB.out u).trans (((below_box (f u) _).mono (HB.out u).size).trans ((hf2 v).mono (by have := (HB.out u).size; simp; omega)))
      have kA := fun u => block_cells (hA2 u); have kB := fun u => block_cells (hB2 u)
      have kA' := fun u (o : Obj) => block_cells (heap_prev o (hA2 u)); have kX' := fun u (o : Obj) => block_cells (heap_prev o (hX2 u))
      have HA2 := Lib.hid hA2; have HBB2 := Lib.hid hB2; have HX2 := Lib.hid hX2
      clear hA2 hB2 hX2
      refine (refChange_no _ _ _ _ _ _ _ _ _ _ _ _ _ _ _ _ fo ft _ HC.out).mono ?_; rintro r w' ⟨rfl, hb⟩; obtain ⟨u3, rfl⟩ := calm_step hf2 hg2 hb; clear hb
      go_wp2_with fail
      have hA3 := heap_prev (.cells #[.int .u16 0, .int .u16 0, .int .u16 0, .int .i64 0, .int .i64 0, .int .u16 0, .int .u16 0, .int .u16 0, .int .i64 0, .int .i64 0, .bool false] 38) (HA2.out u3)
      have hB3 := heap_prev (.cells #[.int .u16 0, .int .u16 0, .int .u16 0, .int .i64 0, .int .i64 0, .int .u16 0, .int .u16 0, .int .u16 0, .int .i64 0, .int .i64 0, .bool false] 38) (HBB2.out u3)
      have hX3 := heap_prev (.cells #[.int .u16 0, .int .u16 0, .int .u16 0, .int .i64 0, .int .i64 0, .int .u16 0, .int .u16 0, .int .u16 0, .int .i64 0, .int .i64 0, .bool false] 38) (HX2.out u3)
      have hY3 := heap_last (f2 u3) (.cells #[.int .u16 0, .int .u16 0, .int .u16 0, .int .i64 0, .int .i64 0, .int .u16 0, .int .u16 0, .int .u16 0, .int .i64 0, .int .i64 0, .bool false] 38)
      obtain ⟨U3, f3, hU3, hf3, hg3⟩ := calm_class ((f2 u3).alloc (.cells #[.int .u16 0, .int .u16 0, .int .u16 0, .int .i64 0, .int .i64 0, .int .u16 0, .int .u16 0, .int .u16 0, .int .i64 0, .int .i64 0, .bool false] 38)); obtain ⟨u4, hu4⟩ := hg3 _ (Below.refl _ _); rw [hu4]; clear hu4
      replace hA3 := calm_heap hf3 hA3; replace hB3 := calm_heap hf3 hB3; replace hX3 := calm_heap hf3 hX3; replace hY3 := calm_heap hf3 hY3
      clear kA kB kA' kX'
      have kA := fun u => block_cells (hA3 u); have kX := fun u => block_cells (hX3 u); have kY := fun u => block_cells (hY3 u)
      have HB3 : Hid (∀ u, Below w.heap.size w (f3 u)) := fun v => (HB2.out u3).trans (((below_box (f2 u3) _).mono (HB2.out u3).size).trans ((hf3 v).mono (by have := (HB2.out u3).size; simp; omega)))
      clear hA3 hB3 hX3 hY3
      refine wp_region_calm f3 (by kernel_rfl) (by kernel_rfl) (calm_drew hf3 hg3 _) ?_
      repeat (go_big_quiet_step ((first | (go_at_call_of 22 (Value.agg #[.int .u16 jov, .int .u16 jox, .int .u16 jol, .int .i64 joe, .int .i64 jok, .int .u16 jnv, .int .u16 jnx, .int .u16 jnl, .int .i64 jne, .int .i64 jnk, .bool true]); exact calm_of hf3 hg3 (confFinal_two _ _ _ _ _ _ _ _ _ _ _)) | (go_at_call_of 23 (Value.agg #[.int .u16 jov, .int .u16 jox, .int .u16 jol, .int .i64 joe, .int .i64 jok, .int .u16 jnv, .int .u16 jnx, .int .u16 jnl, .int .i64 jne, .int .i64 jnk, .bool true]); exact calm_of hf3 hg3 (refFinal_two _ _ _ _ _ _ _ _ _ _ _)) | (go_at_call 22; exact calm_of hf3 hg3 (confFinal_one _ _ _ _ _ _ _ _ _ _ _)) | (go_at_call 23; exact calm_of hf3 hg3 (refFinal_one _ _ _ _ _ _ _ _ _ _ _)))))
      refine wpQuiet_nil ?_; rintro _ ⟨u, rfl⟩
      go_wp2
      go_ret
      exact ⟨rfl, HB3.out _⟩

set_option maxRecDepth 100000 in
theorem changes_lifted (os : Os) (started : os.Started) (H : Type) (enc : TypeId × Value → H) :
    ReturnsInHanded {} Try.checked os 5 .any (Rows.confChangesSpec.pre6 enc Try.prog Try.f5 Rows.confChangesRow.domain false) (Rows.confChangesSpec.post enc Try.prog Try.f5 false true false false) := by
  refine lift_law (C := Try.checked) (tb := 4) (by kernel_rfl) started (by kernel_rfl) Try.func5 (ChangeSpec.witness6 (enc := enc) (C := Try.checked) false ⟨#[], #[.agg #[.int .u16 0, .int .u16 0, .int .u16 0, .int .i64 0, .int .i64 0, .int .u16 0, .int .u16 0, .int .u16 0, .int .i64 0, .int .i64 0, .bool false], .agg #[.int .u16 0, .int .u16 0, .int .u16 0, .int .i64 0, .int .i64 0]], []⟩ 8 (by kernel_rfl) (by kernel_rfl) (by kernel_rfl) (by kernel_rfl)) (by kernel_rfl) (by kernel_rfl) rfl Try.underlying4 rfl ?_ ?_
  · intro ds h
    match ds, h with
    | [_, _], _ => rfl
  · intro W base args ds ps hval0 hA0 hlt hsz
    have hval : ∀ (j : Nat) t v, Try.f5.params[j]? = some t → args[j]? = some v → Value.okWide Try.prog W .any base t v := hval0
    have hA : DataW.TrodAll enc Try.prog W 0 (fun _ => true) true Try.f5.params.toList args.toList ds ps := hA0
    rw [Try.params5] at hA hval
    obtain ⟨v0, v1, d0, d1, p0, p1, rfl, rfl, rfl, h0, h1⟩ := trodAll_two hA
    obtain ⟨jov, jox, jol, joe, jok, jnv, jnx, jnl, jne, jnk, jt, rfl, fo, fn⟩ := open_joint (hval 0 38 v0 rfl rfl) h0
    obtain ⟨tv, tx, tl, te, tk, rfl, ft⟩ := open_cfg (hval 1 33 v1 rfl rfl) h1
    exact changes_walk jov jox jol joe jok jnv jnx jnl jne jnk jt tv tx tl te tk fo fn ft W

theorem changes_holds : Rows.ConfChangesSaid :=
  OpenClaim.holds_of_wide 5 Try.f5 rfl rfl rfl rfl rfl rfl rfl ⟨rfl, rfl, rfl, rfl, rfl⟩ rfl rfl rfl rfl rfl (by kernel_rfl) Try.func5 (by kernel_rfl)
    (of_decide_eq_true (by kernel_rfl)) (by unfold Func.isWrapper; first | (rw [if_pos (by decide +kernel)]; kernel_rfl) | (rw [if_neg (by decide +kernel)]; exact ⟨rfl, rfl⟩))
    (fun os started H enc _ => changes_lifted os started H enc)
#print axioms changes_holds
end Go.Proofs.Ytaaagidooieejaa
