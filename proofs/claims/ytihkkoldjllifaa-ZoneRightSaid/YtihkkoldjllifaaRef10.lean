/- Contracts of the reference of conf. -/
import Derived.Test.YtihkkoldjllifaaConf5
namespace Go.Proofs.Ytihkkoldjllifaa
open Go.RowKit

set_option maxHeartbeats 400000 in
theorem refVotes_any (cv cx cl ce ck : Int) (fc : FitC cv cx cl) (w : World) :
    Calls Try.prog 51 #[.agg #[.int .u16 cv, .int .u16 cx, .int .u16 cl, .int .i64 ce, .int .i64 ck]] w fun r w' => r = .returned (.int .u16 (joinB cv cx)) ∧ Below w.heap.size w w' := by
  go_enter Try.func51, Try.ntmps51
  go_wp2_with (go_at_call 59; refine (refJoin_any _ _ _ fc.v0 fc.v1 fc.x0 fc.x1).mono ?_; rintro r w' ⟨rfl, rfl⟩)
  go_ret
  exact ⟨rfl, below_box _ _⟩

set_option maxHeartbeats 4000000 in
theorem refMay10_any (cv cx cl ce ck : Int) (fc : FitC cv cx cl) (w : World) :
    Calls Try.prog 53 #[.agg #[.int .u16 cv, .int .u16 cx, .int .u16 cl, .int .i64 ce, .int .i64 ck]] w fun r w' => r = .returned (.bool (mayC cv cx cl ce ck)) ∧ Below w.heap.size w w' := by
  rw [← may_same cv cx cl ce ck fc]
  have fv0 := fc.v0; have fv1 := fc.v1; have fx0 := fc.x0; have fx1 := fc.x1; have fl0 := fc.l0; have fl1 := fc.l1
  obtain ⟨j0, j1⟩ := joinB_fit cv cx
  obtain ⟨a0, a1⟩ := joinB_fit (joinB cv cx) cl
  obtain ⟨n0, n1⟩ := cnt_nonneg (joinB cv cx)
  obtain ⟨p0, p1⟩ := cnt_nonneg cv
  obtain ⟨q0, q1⟩ := cnt_nonneg cx
  obtain ⟨s0, s1⟩ := cnt_nonneg cl
  cases hv : mayB cv
  · have HV := Lib.hid hv; clear hv
    go_enter Try.func53, Try.ntmps53
    go_wp2_with fail
    obtain ⟨U, f, hU, hf, hg⟩ := calm_class (w.alloc (.cells #[.int .u16 cv, .int .u16 cx, .int .u16 cl, .int .i64 ce, .int .i64 ck] 39)); obtain ⟨u0, hu0⟩ := hg _ (Below.refl _ _); rw [hu0]; clear hu0
    have kA := calm_block hf (heap_last w (.cells #[.int .u16 cv, .int .u16 cx, .int .u16 cl, .int .i64 ce, .int .i64 ck] 39))
    refine (refMay_any cv _ fv0 fv1).mono ?_; rintro r w' ⟨rfl, hb⟩; obtain ⟨u, rfl⟩ := calm_step hf hg hb; clear hb; rw [HV.out]
    go_wp2_with fail
    go_ret
    exact ⟨ret_bool (by simp [refMayC, HV.out]), box_out (box_first (hf _))⟩
  have HV := Lib.hid hv; clear hv
  cases hx : mayB cx
  · have HX := Lib.hid hx; clear hx
    go_enter Try.func53, Try.ntmps53
    go_wp2_with fail
    obtain ⟨U, f, hU, hf, hg⟩ := calm_class (w.alloc (.cells #[.int .u16 cv, .int .u16 cx, .int .u16 cl, .int .i64 ce, .int .i64 ck] 39)); obtain ⟨u0, hu0⟩ := hg _ (Below.refl _ _); rw [hu0]; clear hu0
    have kA := calm_block hf (heap_last w (.cells #[.int .u16 cv, .int .u16 cx, .int .u16 cl, .int .i64 ce, .int .i64 ck] 39))
    refine (refMay_any cv _ fv0 fv1).mono ?_; rintro r w' ⟨rfl, hb⟩; obtain ⟨u, rfl⟩ := calm_step hf hg hb; clear hb; rw [HV.out]
    go_wp2_with fail
    refine (refMay_any cx _ fx0 fx1).mono ?_; rintro r w' ⟨rfl, hb⟩; obtain ⟨u, rfl⟩ := calm_step hf hg hb; clear hb; rw [HX.out]
    go_wp2_with fail
    go_ret
    exact ⟨ret_bool (by simp [refMayC, HV.out, HX.out]), box_out (box_first (hf _))⟩
  have HX := Lib.hid hx; clear hx
  cases hl : mayB cl
  · have HL := Lib.hid hl; clear hl
    go_enter Try.func53, Try.ntmps53
    go_wp2_with fail
    obtain ⟨U, f, hU, hf, hg⟩ := calm_class (w.alloc (.cells #[.int .u16 cv, .int .u16 cx, .int .u16 cl, .int .i64 ce, .int .i64 ck] 39)); obtain ⟨u0, hu0⟩ := hg _ (Below.refl _ _); rw [hu0]; clear hu0
    have kA := calm_block hf (heap_last w (.cells #[.int .u16 cv, .int .u16 cx, .int .u16 cl, .int .i64 ce, .int .i64 ck] 39))
    refine (refMay_any cv _ fv0 fv1).mono ?_; rintro r w' ⟨rfl, hb⟩; obtain ⟨u, rfl⟩ := calm_step hf hg hb; clear hb; rw [HV.out]
    go_wp2_with fail
    refine (refMay_any cx _ fx0 fx1).mono ?_; rintro r w' ⟨rfl, hb⟩; obtain ⟨u, rfl⟩ := calm_step hf hg hb; clear hb; rw [HX.out]
    go_wp2_with fail
    refine (refMay_any cl _ fl0 fl1).mono ?_; rintro r w' ⟨rfl, hb⟩; obtain ⟨u, rfl⟩ := calm_step hf hg hb; clear hb; rw [HL.out]
    go_wp2_with fail
    go_ret
    exact ⟨ret_bool (by simp [refMayC, HV.out, HX.out, HL.out]), box_out (box_first (hf _))⟩
  have HL := Lib.hid hl; clear hl
  cases hs : (cnt (joinB (joinB cv cx) cl) == cnt cv + cnt cx + cnt cl) <;> cases hz : (cnt cv == 0)
  all_goals
    have hs' : (cnt (joinB (joinB cv cx) cl) != cnt cv + cnt cx + cnt cl) = !(cnt (joinB (joinB cv cx) cl) == cnt cv + cnt cx + cnt cl) := rfl
    rw [hs] at hs'
    have HS := Lib.hid hs; have HZ := Lib.hid hz
    go_enter Try.func53, Try.ntmps53
    go_wp2_with fail
    obtain ⟨U, f, hU, hf, hg⟩ := calm_class (w.alloc (.cells #[.int .u16 cv, .int .u16 cx, .int .u16 cl, .int .i64 ce, .int .i64 ck] 39)); obtain ⟨u0, hu0⟩ := hg _ (Below.refl _ _); rw [hu0]; clear hu0
    have kA := calm_block hf (heap_last w (.cells #[.int .u16 cv, .int .u16 cx, .int .u16 cl, .int .i64 ce, .int .i64 ck] 39))
    refine (refMay_any cv _ fv0 fv1).mono ?_; rintro r w' ⟨rfl, hb⟩; obtain ⟨u, rfl⟩ := calm_step hf hg hb; clear hb; rw [HV.out]
    go_wp2_with fail
    refine (refMay_any cx _ fx0 fx1).mono ?_; rintro r w' ⟨rfl, hb⟩; obtain ⟨u, rfl⟩ := calm_step hf hg hb; clear hb; rw [HX.out]
    go_wp2_with fail
    refine (refMay_any cl _ fl0 fl1).mono ?_; rintro r w' ⟨rfl, hb⟩; obtain ⟨u, rfl⟩ := calm_step hf hg hb; clear hb; rw [HL.out]
    go_wp2_with fail
    refine wp_region_calm f (by kernel_rfl) (by kernel_rfl) (calm_drew hf hg _) ?_
    repeat (go_big_quiet_step ((first | (go_at_call 51; exact calm_of hf hg (refVotes_any _ _ _ _ _ fc _)) | (go_at_call 59; exact calm_same (refJoin_any _ _ _ j0 j1 fl0 fl1)))))
    refine wpQuiet_nil ?_; rintro _ ⟨u, rfl⟩
    go_wp2_with (first | (go_at_call 51; refine (refVotes_any _ _ _ _ _ fc _).mono ?_; rintro r w' ⟨rfl, hb⟩; obtain ⟨u, rfl⟩ := calm_step hf hg hb; clear hb) | (go_at_call 50; refine (refCount_any _ _ j0 j1).mono ?_; rintro r w' ⟨rfl, hb⟩; obtain ⟨u, rfl⟩ := calm_step hf hg hb; clear hb))
    refine wp_region_calm f (by kernel_rfl) (by kernel_rfl) (calm_drew hf hg _) ?_
    repeat (go_big_quiet_step ((first | (go_at_call_of 50 (Value.int .u16 cv); exact calm_of hf hg (refCount_any _ _ fv0 fv1)) | (go_at_call_of 50 (Value.int .u16 cx); exact calm_of hf hg (refCount_any _ _ fx0 fx1)) | (go_at_call_of 50 (Value.int .u16 cl); exact calm_of hf hg (refCount_any _ _ fl0 fl1)) | (go_at_call 50; exact calm_of hf hg (refCount_any _ _ a0 a1)))))
    refine wpQuiet_nil ?_; rintro _ ⟨u, rfl⟩
    go_wp2
    all_goals (go_ret; exact ⟨ret_bool (by have h1 := HS.out; have h2 := HZ.out; simp [refMayC, HV.out, HX.out, HL.out, h1, h2] <;> first | omega | (rw [Bool.eq_iff_iff]; simp only [Bool.and_eq_true, decide_eq_true_eq]; omega)), box_out (box_first (hf _))⟩)

set_option maxHeartbeats 400000 in
theorem refTwo_one (jov jox jol joe jok jnv jnx jnl jne jnk : Int) (w : World) :
    Calls Try.prog 58 #[.agg #[.int .u16 jov, .int .u16 jox, .int .u16 jol, .int .i64 joe, .int .i64 jok, .int .u16 jnv, .int .u16 jnx, .int .u16 jnl, .int .i64 jne, .int .i64 jnk, .bool false]] w fun r w' => r = .returned (.slice (some ⟨w.heap.size + 1, 0, none⟩) 1 1) ∧ (w.alloc (.cells #[.int .u16 jov, .int .u16 jox, .int .u16 jol, .int .i64 joe, .int .i64 jok, .int .u16 jnv, .int .u16 jnx, .int .u16 jnl, .int .i64 jne, .int .i64 jnk, .bool false] 57)).alloc (.cells #[.int .u16 jov, .int .u16 jox, .int .u16 jol, .int .i64 joe, .int .i64 jok] 39) = w' := by
  go_enter Try.func58, Try.ntmps58
  go_wp2
  go_ret
  exact ⟨rfl, rfl⟩
set_option maxHeartbeats 400000 in
theorem refTwo_two (jov jox jol joe jok jnv jnx jnl jne jnk : Int) (w : World) :
    Calls Try.prog 58 #[.agg #[.int .u16 jov, .int .u16 jox, .int .u16 jol, .int .i64 joe, .int .i64 jok, .int .u16 jnv, .int .u16 jnx, .int .u16 jnl, .int .i64 jne, .int .i64 jnk, .bool true]] w fun r w' => r = .returned (.slice (some ⟨w.heap.size + 1, 0, none⟩) 2 2) ∧ (w.alloc (.cells #[.int .u16 jov, .int .u16 jox, .int .u16 jol, .int .i64 joe, .int .i64 jok, .int .u16 jnv, .int .u16 jnx, .int .u16 jnl, .int .i64 jne, .int .i64 jnk, .bool true] 57)).alloc (.cells #[.int .u16 jov, .int .u16 jox, .int .u16 jol, .int .i64 joe, .int .i64 jok, .int .u16 jnv, .int .u16 jnx, .int .u16 jnl, .int .i64 jne, .int .i64 jnk] 39) = w' := by
  go_enter Try.func58, Try.ntmps58
  go_wp2
  go_ret
  exact ⟨rfl, rfl⟩

end Go.Proofs.Ytihkkoldjllifaa
