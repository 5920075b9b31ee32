/- Contracts of the reference of conf, two. -/
import Derived.Test.YtihkkoldjllifaaRef10
namespace Go.Proofs.Ytihkkoldjllifaa
open Go.RowKit

theorem below_three (w : World) (o1 o2 o3 : Obj) {w' : World} (h : Below (((w.alloc o1).alloc o2).alloc o3).heap.size (((w.alloc o1).alloc o2).alloc o3) w') : Below w.heap.size w w' :=
  (below_box w o1).trans (((below_box _ o2).mono (by simp)).trans (((below_box _ o3).mono (by simp; omega)).trans (h.mono (by simp; omega))))

set_option maxHeartbeats 2000000 in
theorem refVoting_any (jov jox jol joe jok jnv jnx jnl jne jnk : Int) (jt : Bool) (fo : FitC jov jox jol) (fn : FitC jnv jnx jnl) (w : World) :
    Calls Try.prog 60 #[.agg #[.int .u16 jov, .int .u16 jox, .int .u16 jol, .int .i64 joe, .int .i64 jok, .int .u16 jnv, .int .u16 jnx, .int .u16 jnl, .int .i64 jne, .int .i64 jnk, .bool jt]] w fun r w' => r = .returned (.int .u16 (if jt then joinB (joinB 0 (joinB jov jox)) (joinB jnv jnx) else joinB 0 (joinB jov jox))) ∧ Below w.heap.size w w' := by
  obtain ⟨j0, j1⟩ := joinB_fit jov jox
  obtain ⟨k0, k1⟩ := joinB_fit jnv jnx
  obtain ⟨i0, i1⟩ := joinB_fit 0 (joinB jov jox)
  have z0 : (0 : Int) ≤ 0 := by omega
  have z1 : (0 : Int) ≤ 65535 := by omega
  cases jt
  · go_enter Try.func60, Try.ntmps60
    go_wp2_with (go_at_call 58; refine (refTwo_one _ _ _ _ _ _ _ _ _ _ _).mono ?_; rintro r w' ⟨rfl, rfl⟩)
    obtain ⟨U, f, hU, hf, hg⟩ := calm_class (((w.alloc (.cells #[.int .u16 jov, .int .u16 jox, .int .u16 jol, .int .i64 joe, .int .i64 jok, .int .u16 jnv, .int .u16 jnx, .int .u16 jnl, .int .i64 jne, .int .i64 jnk, .bool false] 57)).alloc (.cells #[.int .u16 jov, .int .u16 jox, .int .u16 jol, .int .i64 joe, .int .i64 jok, .int .u16 jnv, .int .u16 jnx, .int .u16 jnl, .int .i64 jne, .int .i64 jnk, .bool false] 57)).alloc (.cells #[.int .u16 jov, .int .u16 jox, .int .u16 jol, .int .i64 joe, .int .i64 jok] 39)); obtain ⟨u0, hu0⟩ := hg _ (Below.refl _ _); rw [hu0]; clear hu0
    have kA := calm_block hf (heap_last ((w.alloc (.cells #[.int .u16 jov, .int .u16 jox, .int .u16 jol, .int .i64 joe, .int .i64 jok, .int .u16 jnv, .int .u16 jnx, .int .u16 jnl, .int .i64 jne, .int .i64 jnk, .bool false] 57)).alloc (.cells #[.int .u16 jov, .int .u16 jox, .int .u16 jol, .int .i64 joe, .int .i64 jok, .int .u16 jnv, .int .u16 jnx, .int .u16 jnl, .int .i64 jne, .int .i64 jnk, .bool false] 57)) (.cells #[.int .u16 jov, .int .u16 jox, .int .u16 jol, .int .i64 joe, .int .i64 jok] 39))
    have HB : Hid (∀ u, Below w.heap.size w (f u)) := fun u => below_three w _ _ _ (hf u)
    simp only [World.size_alloc] at kA
    refine wp_loop_rounds 2 ?_
    rw [rounds_succ]
    go_wp2_with (first | (go_at_call 51; refine (refVotes_any _ _ _ _ _ fo _).mono ?_; rintro r w' ⟨rfl, hb⟩; obtain ⟨u, rfl⟩ := calm_step hf hg hb; clear hb) | (go_at_call 59; refine (refJoin_any _ _ _ z0 z1 j0 j1).mono ?_; rintro r w' ⟨rfl, rfl⟩))
    rw [rounds_succ]
    go_wp2
    go_ret
    exact ⟨rfl, HB.out _⟩
  · go_enter Try.func60, Try.ntmps60
    go_wp2_with (go_at_call 58; refine (refTwo_two _ _ _ _ _ _ _ _ _ _ _).mono ?_; rintro r w' ⟨rfl, rfl⟩)
    obtain ⟨U, f, hU, hf, hg⟩ := calm_class (((w.alloc (.cells #[.int .u16 jov, .int .u16 jox, .int .u16 jol, .int .i64 joe, .int .i64 jok, .int .u16 jnv, .int .u16 jnx, .int .u16 jnl, .int .i64 jne, .int .i64 jnk, .bool true] 57)).alloc (.cells #[.int .u16 jov, .int .u16 jox, .int .u16 jol, .int .i64 joe, .int .i64 jok, .int .u16 jnv, .int .u16 jnx, .int .u16 jnl, .int .i64 jne, .int .i64 jnk, .bool true] 57)).alloc (.cells #[.int .u16 jov, .int .u16 jox, .int .u16 jol, .int .i64 joe, .int .i64 jok, .int .u16 jnv, .int .u16 jnx, .int .u16 jnl, .int .i64 jne, .int .i64 jnk] 39)); obtain ⟨u0, hu0⟩ := hg _ (Below.refl _ _); rw [hu0]; clear hu0
    have kA := calm_block hf (heap_last ((w.alloc (.cells #[.int .u16 jov, .int .u16 jox, .int .u16 jol, .int .i64 joe, .int .i64 jok, .int .u16 jnv, .int .u16 jnx, .int .u16 jnl, .int .i64 jne, .int .i64 jnk, .bool true] 57)).alloc (.cells #[.int .u16 jov, .int .u16 jox, .int .u16 jol, .int .i64 joe, .int .i64 jok, .int .u16 jnv, .int .u16 jnx, .int .u16 jnl, .int .i64 jne, .int .i64 jnk, .bool true] 57)) (.cells #[.int .u16 jov, .int .u16 jox, .int .u16 jol, .int .i64 joe, .int .i64 jok, .int .u16 jnv, .int .u16 jnx, .int .u16 jnl, .int .i64 jne, .int .i64 jnk] 39))
    have HB : Hid (∀ u, Below w.heap.size w (f u)) := fun u => below_three w _ _ _ (hf u)
    simp only [World.size_alloc] at kA
    refine wp_loop_rounds 3 ?_
    rw [rounds_succ]
    go_wp2_with (first | (go_at_call 51; refine (refVotes_any _ _ _ _ _ fo _).mono ?_; rintro r w' ⟨rfl, hb⟩; obtain ⟨u, rfl⟩ := calm_step hf hg hb; clear hb) | (go_at_call 59; refine (refJoin_any _ _ _ z0 z1 j0 j1).mono ?_; rintro r w' ⟨rfl, rfl⟩))
    rw [rounds_succ]
    go_wp2_with (first | (go_at_call 51; refine (refVotes_any _ _ _ _ _ fn _).mono ?_; rintro r w' ⟨rfl, hb⟩; obtain ⟨u, rfl⟩ := calm_step hf hg hb; clear hb) | (go_at_call 59; refine (refJoin_any _ _ _ i0 i1 k0 k1).mono ?_; rintro r w' ⟨rfl, rfl⟩))
    rw [rounds_succ]
    go_wp2
    go_ret
    exact ⟨rfl, HB.out _⟩

set_option maxHeartbeats 2000000 in
theorem refData_any (jov jox jol joe jok jnv jnx jnl jne jnk : Int) (jt : Bool) (fo : FitC jov jox jol) (fn : FitC jnv jnx jnl) (w : World) :
    Calls Try.prog 61 #[.agg #[.int .u16 jov, .int .u16 jox, .int .u16 jol, .int .i64 joe, .int .i64 jok, .int .u16 jnv, .int .u16 jnx, .int .u16 jnl, .int .i64 jne, .int .i64 jnk, .bool jt]] w fun r w' => r = .returned (.int .u16 (if jt then joinB (joinB (joinB (joinB 0 jov) jol) jnv) jnl else joinB (joinB 0 jov) jol)) ∧ Below w.heap.size w w' := by
  have ov0 := fo.v0; have ov1 := fo.v1; have ol0 := fo.l0; have ol1 := fo.l1
  have nv0 := fn.v0; have nv1 := fn.v1; have nl0 := fn.l0; have nl1 := fn.l1
  obtain ⟨a0, a1⟩ := joinB_fit 0 jov
  obtain ⟨b0, b1⟩ := joinB_fit (joinB 0 jov) jol
  obtain ⟨c0, c1⟩ := joinB_fit (joinB (joinB 0 jov) jol) jnv
  have z0 : (0 : Int) ≤ 0 := by omega
  have z1 : (0 : Int) ≤ 65535 := by omega
  cases jt
  · go_enter Try.func61, Try.ntmps61
    go_wp2_with (go_at_call 58; refine (refTwo_one _ _ _ _ _ _ _ _ _ _ _).mono ?_; rintro r w' ⟨rfl, rfl⟩)
    obtain ⟨U, f, hU, hf, hg⟩ := calm_class (((w.alloc (.cells #[.int .u16 jov, .int .u16 jox, .int .u16 jol, .int .i64 joe, .int .i64 jok, .int .u16 jnv, .int .u16 jnx, .int .u16 jnl, .int .i64 jne, .int .i64 jnk, .bool false] 57)).alloc (.cells #[.int .u16 jov, .int .u16 jox, .int .u16 jol, .int .i64 joe, .int .i64 jok, .int .u16 jnv, .int .u16 jnx, .int .u16 jnl, .int .i64 jne, .int .i64 jnk, .bool false] 57)).alloc (.cells #[.int .u16 jov, .int .u16 jox, .int .u16 jol, .int .i64 joe, .int .i64 jok] 39)); obtain ⟨u0, hu0⟩ := hg _ (Below.refl _ _); rw [hu0]; clear hu0
    have kA := calm_block hf (heap_last ((w.alloc (.cells #[.int .u16 jov, .int .u16 jox, .int .u16 jol, .int .i64 joe, .int .i64 jok, .int .u16 jnv, .int .u16 jnx, .int .u16 jnl, .int .i64 jne, .int .i64 jnk, .bool false] 57)).alloc (.cells #[.int .u16 jov, .int .u16 jox, .int .u16 jol, .int .i64 joe, .int .i64 jok, .int .u16 jnv, .int .u16 jnx, .int .u16 jnl, .int .i64 jne, .int .i64 jnk, .bool false] 57)) (.cells #[.int .u16 jov, .int .u16 jox, .int .u16 jol, .int .i64 joe, .int .i64 jok] 39))
    have HB : Hid (∀ u, Below w.heap.size w (f u)) := fun u => below_three w _ _ _ (hf u)
    simp only [World.size_alloc] at kA
    refine wp_loop_rounds 2 ?_
    rw [rounds_succ]
    go_wp2
    refine wp_region_calm f (by kernel_rfl) (by kernel_rfl) (calm_drew hf hg _) ?_
    repeat (go_big_quiet_step ((first | (go_at_call_of 59 (Value.int .u16 0); exact calm_same (refJoin_any _ _ _ z0 z1 ov0 ov1)) | (go_at_call 59; exact calm_same (refJoin_any _ _ _ a0 a1 ol0 ol1)))))
    refine wpQuiet_nil ?_; rintro _ ⟨u, rfl⟩
    go_wp2
    rw [rounds_succ]
    go_wp2
    go_ret
    exact ⟨rfl, HB.out _⟩
  · go_enter Try.func61, Try.ntmps61
    go_wp2_with (go_at_call 58; refine (refTwo_two _ _ _ _ _ _ _ _ _ _ _).mono ?_; rintro r w' ⟨rfl, rfl⟩)
    obtain ⟨U, f, hU, hf, hg⟩ := calm_class (((w.alloc (.cells #[.int .u16 jov, .int .u16 jox, .int .u16 jol, .int .i64 joe, .int .i64 jok, .int .u16 jnv, .int .u16 jnx, .int .u16 jnl, .int .i64 jne, .int .i64 jnk, .bool true] 57)).alloc (.cells #[.int .u16 jov, .int .u16 jox, .int .u16 jol, .int .i64 joe, .int .i64 jok, .int .u16 jnv, .int .u16 jnx, .int .u16 jnl, .int .i64 jne, .int .i64 jnk, .bool true] 57)).alloc (.cells #[.int .u16 jov, .int .u16 jox, .int .u16 jol, .int .i64 joe, .int .i64 jok, .int .u16 jnv, .int .u16 jnx, .int .u16 jnl, .int .i64 jne, .int .i64 jnk] 39)); obtain ⟨u0, hu0⟩ := hg _ (Below.refl _ _); rw [hu0]; clear hu0
    have kA := calm_block hf (heap_last ((w.alloc (.cells #[.int .u16 jov, .int .u16 jox, .int .u16 jol, .int .i64 joe, .int .i64 jok, .int .u16 jnv, .int .u16 jnx, .int .u16 jnl, .int .i64 jne, .int .i64 jnk, .bool true] 57)).alloc (.cells #[.int .u16 jov, .int .u16 jox, .int .u16 jol, .int .i64 joe, .int .i64 jok, .int .u16 jnv, .int .u16 jnx, .int .u16 jnl, .int .i64 jne, .int .i64 jnk, .bool true] 57)) (.cells #[.int .u16 jov, .int .u16 jox, .int .u16 jol, .int .i64 joe, .int .i64 jok, .int .u16 jnv, .int .u16 jnx, .int .u16 jnl, .int .i64 jne, .int .i64 jnk] 39))
    have HB : Hid (∀ u, Below w.heap.size w (f u)) := fun u => below_three w _ _ _ (hf u)
    simp only [World.size_alloc] at kA
    refine wp_loop_rounds 3 ?_
    rw [rounds_succ]
    go_wp2
    refine wp_region_calm f (by kernel_rfl) (by kernel_rfl) (calm_drew hf hg _) ?_
    repeat (go_big_quiet_step ((first | (go_at_call_of 59 (Value.int .u16 0); exact calm_same (refJoin_any _ _ _ z0 z1 ov0 ov1)) | (go_at_call 59; exact calm_same (refJoin_any _ _ _ a0 a1 ol0 ol1)))))
    refine wpQuiet_nil ?_; rintro _ ⟨u, rfl⟩
    go_wp2
    rw [rounds_succ]
    go_wp2
    refine wp_region_calm f (by kernel_rfl) (by kernel_rfl) (calm_drew hf hg _) ?_
    repeat (go_big_quiet_step ((first | (go_at_call_of 59 (Value.int .u16 (joinB (joinB 0 jov) jol)); exact calm_same (refJoin_any _ _ _ b0 b1 nv0 nv1)) | (go_at_call 59; exact calm_same (refJoin_any _ _ _ c0 c1 nl0 nl1)))))
    refine wpQuiet_nil ?_; rintro _ ⟨u, rfl⟩
    go_wp2
    rw [rounds_succ]
    go_wp2
    go_ret
    exact ⟨rfl, HB.out _⟩
end Go.Proofs.Ytihkkoldjllifaa
