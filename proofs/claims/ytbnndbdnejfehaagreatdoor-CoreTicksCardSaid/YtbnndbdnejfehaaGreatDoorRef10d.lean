/- Contracts of the reference of conf, four. -/
import Derived.Test.YtbnndbdnejfehaaGreatDoorRef10c
namespace Go.Proofs.YtbnndbdnejfehaaGreatDoor
open Go.RowKit

set_option maxRecDepth 100000 in
set_option maxHeartbeats 8000000 in
theorem refCommits_any (jov jox jol joe jok jnv jnx jnl jne jnk g : Int) (jt : Bool) (fo : FitC jov jox jol) (fn : FitC jnv jnx jnl) (g0 : 0 ≤ g) (g1 : g ≤ 65535) (w : World) :
    Calls Tryz.prog 71 #[.agg #[.int .u16 jov, .int .u16 jox, .int .u16 jol, .int .i64 joe, .int .i64 jok, .int .u16 jnv, .int .u16 jnx, .int .u16 jnl, .int .i64 jne, .int .i64 jnk, .bool jt], .int .u16 g] w fun r w' => r = .returned (.bool ((!decide (cnt (meetB (joinB jov jox) g) < jok) && !(meetB jov g == 0)) && (!jt || (!decide (cnt (meetB (joinB jnv jnx) g) < jnk) && !(meetB jnv g == 0))))) ∧ Below w.heap.size w w' := by
  obtain ⟨j0, j1⟩ := joinB_fit jov jox
  obtain ⟨k0, k1⟩ := joinB_fit jnv jnx
  obtain ⟨m0, m1⟩ := meetB_fit (joinB jov jox) g
  obtain ⟨l0, l1⟩ := meetB_fit (joinB jnv jnx) g
  by_cases ho : cnt (meetB (joinB jov jox) g) < jok
  · have ho' : decide (cnt (meetB (joinB jov jox) g) < jok) = true := by simpa using ho
    have HO := Lib.hid ho'
    cases jt
    · go_enter Tryz.func71, Tryz.ntmps71
      go_wp2_with (go_at_call 104; refine (refTwo_one _ _ _ _ _ _ _ _ _ _ _).mono ?_; rintro r w' ⟨rfl, rfl⟩)
      obtain ⟨U, f, hU, hf, hg⟩ := calm_class (((w.alloc (.cells #[.int .u16 jov, .int .u16 jox, .int .u16 jol, .int .i64 joe, .int .i64 jok, .int .u16 jnv, .int .u16 jnx, .int .u16 jnl, .int .i64 jne, .int .i64 jnk, .bool false] 27)).alloc (.cells #[.int .u16 jov, .int .u16 jox, .int .u16 jol, .int .i64 joe, .int .i64 jok, .int .u16 jnv, .int .u16 jnx, .int .u16 jnl, .int .i64 jne, .int .i64 jnk, .bool false] 27)).alloc (.cells #[.int .u16 jov, .int .u16 jox, .int .u16 jol, .int .i64 joe, .int .i64 jok] 25)); obtain ⟨u0, hu0⟩ := hg _ (Below.refl _ _); rw [hu0]; clear hu0
      have kA := calm_block hf (heap_last ((w.alloc (.cells #[.int .u16 jov, .int .u16 jox, .int .u16 jol, .int .i64 joe, .int .i64 jok, .int .u16 jnv, .int .u16 jnx, .int .u16 jnl, .int .i64 jne, .int .i64 jnk, .bool false] 27)).alloc (.cells #[.int .u16 jov, .int .u16 jox, .int .u16 jol, .int .i64 joe, .int .i64 jok, .int .u16 jnv, .int .u16 jnx, .int .u16 jnl, .int .i64 jne, .int .i64 jnk, .bool false] 27)) (.cells #[.int .u16 jov, .int .u16 jox, .int .u16 jol, .int .i64 joe, .int .i64 jok] 25))
      have HB : Hid (∀ u, Below w.heap.size w (f u)) := fun u => below_threeR w _ _ _ (hf u)
      simp only [World.size_alloc] at kA
      refine wp_loop_rounds 2 ?_
      rw [rounds_succ]
      go_wp2
      refine wp_region_calm f (by kernel_rfl) (by kernel_rfl) (calm_drew hf hg _) ?_
      repeat (go_big_quiet_step ((first | (go_at_call 107; exact calm_of hf hg (refVotes_any _ _ _ _ _ fo _)) | (go_at_call_of 106 (Value.int .u16 (joinB jov jox)); exact calm_same (refMeet_any _ _ _ j0 j1 g0 g1)) | (go_at_call 106; exact calm_same (refMeet_any _ _ _ fo.v0 fo.v1 g0 g1)) | (go_at_call 105; exact calm_of hf hg (refCount_any _ _ m0 m1)))))
      refine wpQuiet_nil ?_; rintro _ ⟨u, rfl⟩
      go_wp2
      go_ret
      exact ⟨ret_boolS (by simp [HO.out]), HB.out _⟩
    · go_enter Tryz.func71, Tryz.ntmps71
      go_wp2_with (go_at_call 104; refine (refTwo_two _ _ _ _ _ _ _ _ _ _ _).mono ?_; rintro r w' ⟨rfl, rfl⟩)
      obtain ⟨U, f, hU, hf, hg⟩ := calm_class (((w.alloc (.cells #[.int .u16 jov, .int .u16 jox, .int .u16 jol, .int .i64 joe, .int .i64 jok, .int .u16 jnv, .int .u16 jnx, .int .u16 jnl, .int .i64 jne, .int .i64 jnk, .bool true] 27)).alloc (.cells #[.int .u16 jov, .int .u16 jox, .int .u16 jol, .int .i64 joe, .int .i64 jok, .int .u16 jnv, .int .u16 jnx, .int .u16 jnl, .int .i64 jne, .int .i64 jnk, .bool true] 27)).alloc (.cells #[.int .u16 jov, .int .u16 jox, .int .u16 jol, .int .i64 joe, .int .i64 jok, .int .u16 jnv, .int .u16 jnx, .int .u16 jnl, .int .i64 jne, .int .i64 jnk] 25)); obtain ⟨u0, hu0⟩ := hg _ (Below.refl _ _); rw [hu0]; clear hu0
      have kA := calm_block hf (heap_last ((w.alloc (.cells #[.int .u16 jov, .int .u16 jox, .int .u16 jol, .int .i64 joe, .int .i64 jok, .int .u16 jnv, .int .u16 jnx, .int .u16 jnl, .int .i64 jne, .int .i64 jnk, .bool true] 27)).alloc (.cells #[.int .u16 jov, .int .u16 jox, .int .u16 jol, .int .i64 joe, .int .i64 jok, .int .u16 jnv, .int .u16 jnx, .int .u16 jnl, .int .i64 jne, .int .i64 jnk, .bool true] 27)) (.cells #[.int .u16 jov, .int .u16 jox, .int .u16 jol, .int .i64 joe, .int .i64 jok, .int .u16 jnv, .int .u16 jnx, .int .u16 jnl, .int .i64 jne, .int .i64 jnk] 25))
      have HB : Hid (∀ u, Below w.heap.size w (f u)) := fun u => below_threeR w _ _ _ (hf u)
      simp only [World.size_alloc] at kA
      refine wp_loop_rounds 3 ?_
      rw [rounds_succ]
      go_wp2
      refine wp_region_calm f (by kernel_rfl) (by kernel_rfl) (calm_drew hf hg _) ?_
      repeat (go_big_quiet_step ((first | (go_at_call 107; exact calm_of hf hg (refVotes_any _ _ _ _ _ fo _)) | (go_at_call_of 106 (Value.int .u16 (joinB jov jox)); exact calm_same (refMeet_any _ _ _ j0 j1 g0 g1)) | (go_at_call 106; exact calm_same (refMeet_any _ _ _ fo.v0 fo.v1 g0 g1)) | (go_at_call 105; exact calm_of hf hg (refCount_any _ _ m0 m1)))))
      refine wpQuiet_nil ?_; rintro _ ⟨u, rfl⟩
      go_wp2
      go_ret
      exact ⟨ret_boolS (by simp [HO.out]), HB.out _⟩
  by_cases zo : meetB jov g = 0
  · have ho' : decide (cnt (meetB (joinB jov jox) g) < jok) = false := by simpa using ho
    have HO := Lib.hid ho'
    have zo' : (meetB jov g == 0) = true := by simpa using zo
    have ZO := Lib.hid zo'
    cases jt
    · go_enter Tryz.func71, Tryz.ntmps71
      go_wp2_with (go_at_call 104; refine (refTwo_one _ _ _ _ _ _ _ _ _ _ _).mono ?_; rintro r w' ⟨rfl, rfl⟩)
      obtain ⟨U, f, hU, hf, hg⟩ := calm_class (((w.alloc (.cells #[.int .u16 jov, .int .u16 jox, .int .u16 jol, .int .i64 joe, .int .i64 jok, .int .u16 jnv, .int .u16 jnx, .int .u16 jnl, .int .i64 jne, .int .i64 jnk, .bool false] 27)).alloc (.cells #[.int .u16 jov, .int .u16 jox, .int .u16 jol, .int .i64 joe, .int .i64 jok, .int .u16 jnv, .int .u16 jnx, .int .u16 jnl, .int .i64 jne, .int .i64 jnk, .bool false] 27)).alloc (.cells #[.int .u16 jov, .int .u16 jox, .int .u16 jol, .int .i64 joe, .int .i64 jok] 25)); obtain ⟨u0, hu0⟩ := hg _ (Below.refl _ _); rw [hu0]; clear hu0
      have kA := calm_block hf (heap_last ((w.alloc (.cells #[.int .u16 jov, .int .u16 jox, .int .u16 jol, .int .i64 joe, .int .i64 jok, .int .u16 jnv, .int .u16 jnx, .int .u16 jnl, .int .i64 jne, .int .i64 jnk, .bool false] 27)).alloc (.cells #[.int .u16 jov, .int .u16 jox, .int .u16 jol, .int .i64 joe, .int .i64 jok, .int .u16 jnv, .int .u16 jnx, .int .u16 jnl, .int .i64 jne, .int .i64 jnk, .bool false] 27)) (.cells #[.int .u16 jov, .int .u16 jox, .int .u16 jol, .int .i64 joe, .int .i64 jok] 25))
      have HB : Hid (∀ u, Below w.heap.size w (f u)) := fun u => below_threeR w _ _ _ (hf u)
      simp only [World.size_alloc] at kA
      refine wp_loop_rounds 2 ?_
      rw [rounds_succ]
      go_wp2
      refine wp_region_calm f (by kernel_rfl) (by kernel_rfl) (calm_drew hf hg _) ?_
      repeat (go_big_quiet_step ((first | (go_at_call 107; exact calm_of hf hg (refVotes_any _ _ _ _ _ fo _)) | (go_at_call_of 106 (Value.int .u16 (joinB jov jox)); exact calm_same (refMeet_any _ _ _ j0 j1 g0 g1)) | (go_at_call 106; exact calm_same (refMeet_any _ _ _ fo.v0 fo.v1 g0 g1)) | (go_at_call 105; exact calm_of hf hg (refCount_any _ _ m0 m1)))))
      refine wpQuiet_nil ?_; rintro _ ⟨u, rfl⟩
      go_wp2
      go_ret
      exact ⟨ret_boolS (by simp [HO.out, ZO.out]), HB.out _⟩
    · go_enter Tryz.func71, Tryz.ntmps71
      go_wp2_with (go_at_call 104; refine (refTwo_two _ _ _ _ _ _ _ _ _ _ _).mono ?_; rintro r w' ⟨rfl, rfl⟩)
      obtain ⟨U, f, hU, hf, hg⟩ := calm_class (((w.alloc (.cells #[.int .u16 jov, .int .u16 jox, .int .u16 jol, .int .i64 joe, .int .i64 jok, .int .u16 jnv, .int .u16 jnx, .int .u16 jnl, .int .i64 jne, .int .i64 jnk, .bool true] 27)).alloc (.cells #[.int .u16 jov, .int .u16 jox, .int .u16 jol, .int .i64 joe, .int .i64 jok, .int .u16 jnv, .int .u16 jnx, .int .u16 jnl, .int .i64 jne, .int .i64 jnk, .bool true] 27)).alloc (.cells #[.int .u16 jov, .int .u16 jox, .int .u16 jol, .int .i64 joe, .int .i64 jok, .int .u16 jnv, .int .u16 jnx, .int .u16 jnl, .int .i64 jne, .int .i64 jnk] 25)); obtain ⟨u0, hu0⟩ := hg _ (Below.refl _ _); rw [hu0]; clear hu0
      have kA := calm_block hf (heap_last ((w.alloc (.cells #[.int .u16 jov, .int .u16 jox, .int .u16 jol, .int .i64 joe, .int .i64 jok, .int .u16 jnv, .int .u16 jnx, .int .u16 jnl, .int .i64 jne, .int .i64 jnk, .bool true] 27)).alloc (.cells #[.int .u16 jov, .int .u16 jox, .int .u16 jol, .int .i64 joe, .int .i64 jok, .int .u16 jnv, .int .u16 jnx, .int .u16 jnl, .int .i64 jne, .int .i64 jnk, .bool true] 27)) (.cells #[.int .u16 jov, .int .u16 jox, .int .u16 jol, .int .i64 joe, .int .i64 jok, .int .u16 jnv, .int .u16 jnx, .int .u16 jnl, .int .i64 jne, .int .i64 jnk] 25))
      have HB : Hid (∀ u, Below w.heap.size w (f u)) := fun u => below_threeR w _ _ _ (hf u)
      simp only [World.size_alloc] at kA
      refine wp_loop_rounds 3 ?_
      rw [rounds_succ]
      go_wp2
      refine wp_region_calm f (by kernel_rfl) (by kernel_rfl) (calm_drew hf hg _) ?_
      repeat (go_big_quiet_step ((first | (go_at_call 107; exact calm_of hf hg (refVotes_any _ _ _ _ _ fo _)) | (go_at_call_of 106 (Value.int .u16 (joinB jov jox)); exact calm_same (refMeet_any _ _ _ j0 j1 g0 g1)) | (go_at_call 106; exact calm_same (refMeet_any _ _ _ fo.v0 fo.v1 g0 g1)) | (go_at_call 105; exact calm_of hf hg (refCount_any _ _ m0 m1)))))
      refine wpQuiet_nil ?_; rintro _ ⟨u, rfl⟩
      go_wp2
      go_ret
      exact ⟨ret_boolS (by simp [HO.out, ZO.out]), HB.out _⟩
  have ho' : decide (cnt (meetB (joinB jov jox) g) < jok) = false := by simpa using ho
  have HO := Lib.hid ho'
  have zo' : (meetB jov g == 0) = false := by simpa using zo
  have ZO := Lib.hid zo'
  cases jt
  · go_enter Tryz.func71, Tryz.ntmps71
    go_wp2_with (go_at_call 104; refine (refTwo_one _ _ _ _ _ _ _ _ _ _ _).mono ?_; rintro r w' ⟨rfl, rfl⟩)
    obtain ⟨U, f, hU, hf, hg⟩ := calm_class (((w.alloc (.cells #[.int .u16 jov, .int .u16 jox, .int .u16 jol, .int .i64 joe, .int .i64 jok, .int .u16 jnv, .int .u16 jnx, .int .u16 jnl, .int .i64 jne, .int .i64 jnk, .bool false] 27)).alloc (.cells #[.int .u16 jov, .int .u16 jox, .int .u16 jol, .int .i64 joe, .int .i64 jok, .int .u16 jnv, .int .u16 jnx, .int .u16 jnl, .int .i64 jne, .int .i64 jnk, .bool false] 27)).alloc (.cells #[.int .u16 jov, .int .u16 jox, .int .u16 jol, .int .i64 joe, .int .i64 jok] 25)); obtain ⟨u0, hu0⟩ := hg _ (Below.refl _ _); rw [hu0]; clear hu0
    have kA := calm_block hf (heap_last ((w.alloc (.cells #[.int .u16 jov, .int .u16 jox, .int .u16 jol, .int .i64 joe, .int .i64 jok, .int .u16 jnv, .int .u16 jnx, .int .u16 jnl, .int .i64 jne, .int .i64 jnk, .bool false] 27)).alloc (.cells #[.int .u16 jov, .int .u16 jox, .int .u16 jol, .int .i64 joe, .int .i64 jok, .int .u16 jnv, .int .u16 jnx, .int .u16 jnl, .int .i64 jne, .int .i64 jnk, .bool false] 27)) (.cells #[.int .u16 jov, .int .u16 jox, .int .u16 jol, .int .i64 joe, .int .i64 jok] 25))
    have HB : Hid (∀ u, Below w.heap.size w (f u)) := fun u => below_threeR w _ _ _ (hf u)
    simp only [World.size_alloc] at kA
    refine wp_loop_rounds 2 ?_
    rw [rounds_succ]
    go_wp2
    refine wp_region_calm f (by kernel_rfl) (by kernel_rfl) (calm_drew hf hg _) ?_
    repeat (go_big_quiet_step ((first | (go_at_call 107; exact calm_of hf hg (refVotes_any _ _ _ _ _ fo _)) | (go_at_call_of 106 (Value.int .u16 (joinB jov jox)); exact calm_same (refMeet_any _ _ _ j0 j1 g0 g1)) | (go_at_call 106; exact calm_same (refMeet_any _ _ _ fo.v0 fo.v1 g0 g1)) | (go_at_call 105; exact calm_of hf hg (refCount_any _ _ m0 m1)))))
    refine wpQuiet_nil ?_; rintro _ ⟨u, rfl⟩
    go_wp2
    rw [rounds_succ]
    go_wp2
    go_ret
    exact ⟨ret_boolS (by simp [HO.out, ZO.out]), HB.out _⟩
  · by_cases hn : cnt (meetB (joinB jnv jnx) g) < jnk
    · have hn' : decide (cnt (meetB (joinB jnv jnx) g) < jnk) = true := by simpa using hn
      have HN := Lib.hid hn'
      go_enter Tryz.func71, Tryz.ntmps71
      go_wp2_with (go_at_call 104; refine (refTwo_two _ _ _ _ _ _ _ _ _ _ _).mono ?_; rintro r w' ⟨rfl, rfl⟩)
      obtain ⟨U, f, hU, hf, hg⟩ := calm_class (((w.alloc (.cells #[.int .u16 jov, .int .u16 jox, .int .u16 jol, .int .i64 joe, .int .i64 jok, .int .u16 jnv, .int .u16 jnx, .int .u16 jnl, .int .i64 jne, .int .i64 jnk, .bool true] 27)).alloc (.cells #[.int .u16 jov, .int .u16 jox, .int .u16 jol, .int .i64 joe, .int .i64 jok, .int .u16 jnv, .int .u16 jnx, .int .u16 jnl, .int .i64 jne, .int .i64 jnk, .bool true] 27)).alloc (.cells #[.int .u16 jov, .int .u16 jox, .int .u16 jol, .int .i64 joe, .int .i64 jok, .int .u16 jnv, .int .u16 jnx, .int .u16 jnl, .int .i64 jne, .int .i64 jnk] 25)); obtain ⟨u0, hu0⟩ := hg _ (Below.refl _ _); rw [hu0]; clear hu0
      have kA := calm_block hf (heap_last ((w.alloc (.cells #[.int .u16 jov, .int .u16 jox, .int .u16 jol, .int .i64 joe, .int .i64 jok, .int .u16 jnv, .int .u16 jnx, .int .u16 jnl, .int .i64 jne, .int .i64 jnk, .bool true] 27)).alloc (.cells #[.int .u16 jov, .int .u16 jox, .int .u16 jol, .int .i64 joe, .int .i64 jok, .int .u16 jnv, .int .u16 jnx, .int .u16 jnl, .int .i64 jne, .int .i64 jnk, .bool true] 27)) (.cells #[.int .u16 jov, .int .u16 jox, .int .u16 jol, .int .i64 joe, .int .i64 jok, .int .u16 jnv, .int .u16 jnx, .int .u16 jnl, .int .i64 jne, .int .i64 jnk] 25))
      have HB : Hid (∀ u, Below w.heap.size w (f u)) := fun u => below_threeR w _ _ _ (hf u)
      simp only [World.size_alloc] at kA
      refine wp_loop_rounds 3 ?_
      rw [rounds_succ]
      go_wp2
      refine wp_region_calm f (by kernel_rfl) (by kernel_rfl) (calm_drew hf hg _) ?_
      repeat (go_big_quiet_step ((first | (go_at_call 107; exact calm_of hf hg (refVotes_any _ _ _ _ _ fo _)) | (go_at_call_of 106 (Value.int .u16 (joinB jov jox)); exact calm_same (refMeet_any _ _ _ j0 j1 g0 g1)) | (go_at_call 106; exact calm_same (refMeet_any _ _ _ fo.v0 fo.v1 g0 g1)) | (go_at_call 105; exact calm_of hf hg (refCount_any _ _ m0 m1)))))
      refine wpQuiet_nil ?_; rintro _ ⟨u, rfl⟩
      go_wp2
      rw [rounds_succ]
      go_wp2
      refine wp_region_calm f (by kernel_rfl) (by kernel_rfl) (calm_drew hf hg _) ?_
      repeat (go_big_quiet_step ((first | (go_at_call 107; exact calm_of hf hg (refVotes_any _ _ _ _ _ fn _)) | (go_at_call_of 106 (Value.int .u16 (joinB jnv jnx)); exact calm_same (refMeet_any _ _ _ k0 k1 g0 g1)) | (go_at_call 106; exact calm_same (refMeet_any _ _ _ fn.v0 fn.v1 g0 g1)) | (go_at_call 105; exact calm_of hf hg (refCount_any _ _ l0 l1)))))
      refine wpQuiet_nil ?_; rintro _ ⟨u, rfl⟩
      go_wp2
      go_ret
      exact ⟨ret_boolS (by simp [HO.out, ZO.out, HN.out]), HB.out _⟩
    by_cases zn : meetB jnv g = 0
    · have hn' : decide (cnt (meetB (joinB jnv jnx) g) < jnk) = false := by simpa using hn
      have HN := Lib.hid hn'
      have zn' : (meetB jnv g == 0) = true := by simpa using zn
      have ZN := Lib.hid zn'
      go_enter Tryz.func71, Tryz.ntmps71
      go_wp2_with (go_at_call 104; refine (refTwo_two _ _ _ _ _ _ _ _ _ _ _).mono ?_; rintro r w' ⟨rfl, rfl⟩)
      obtain ⟨U, f, hU, hf, hg⟩ := calm_class (((w.alloc (.cells #[.int .u16 jov, .int .u16 jox, .int .u16 jol, .int .i64 joe, .int .i64 jok, .int .u16 jnv, .int .u16 jnx, .int .u16 jnl, .int .i64 jne, .int .i64 jnk, .bool true] 27)).alloc (.cells #[.int .u16 jov, .int .u16 jox, .int .u16 jol, .int .i64 joe, .int .i64 jok, .int .u16 jnv, .int .u16 jnx, .int .u16 jnl, .int .i64 jne, .int .i64 jnk, .bool true] 27)).alloc (.cells #[.int .u16 jov, .int .u16 jox, .int .u16 jol, .int .i64 joe, .int .i64 jok, .int .u16 jnv, .int .u16 jnx, .int .u16 jnl, .int .i64 jne, .int .i64 jnk] 25)); obtain ⟨u0, hu0⟩ := hg _ (Below.refl _ _); rw [hu0]; clear hu0
      have kA := calm_block hf (heap_last ((w.alloc (.cells #[.int .u16 jov, .int .u16 jox, .int .u16 jol, .int .i64 joe, .int .i64 jok, .int .u16 jnv, .int .u16 jnx, .int .u16 jnl, .int .i64 jne, .int .i64 jnk, .bool true] 27)).alloc (.cells #[.int .u16 jov, .int .u16 jox, .int .u16 jol, .int .i64 joe, .int .i64 jok, .int .u16 jnv, .int .u16 jnx, .int .u16 jnl, .int .i64 jne, .int .i64 jnk, .bool true] 27)) (.cells #[.int .u16 jov, .int .u16 jox, .int .u16 jol, .int .i64 joe, .int .i64 jok, .int .u16 jnv, .int .u16 jnx, .int .u16 jnl, .int .i64 jne, .int .i64 jnk] 25))
      have HB : Hid (∀ u, Below w.heap.size w (f u)) := fun u => below_threeR w _ _ _ (hf u)
      simp only [World.size_alloc] at kA
      refine wp_loop_rounds 3 ?_
      rw [rounds_succ]
      go_wp2
      refine wp_region_calm f (by kernel_rfl) (by kernel_rfl) (calm_drew hf hg _) ?_
      repeat (go_big_quiet_step ((first | (go_at_call 107; exact calm_of hf hg (refVotes_any _ _ _ _ _ fo _)) | (go_at_call_of 106 (Value.int .u16 (joinB jov jox)); exact calm_same (refMeet_any _ _ _ j0 j1 g0 g1)) | (go_at_call 106; exact calm_same (refMeet_any _ _ _ fo.v0 fo.v1 g0 g1)) | (go_at_call 105; exact calm_of hf hg (refCount_any _ _ m0 m1)))))
      refine wpQuiet_nil ?_; rintro _ ⟨u, rfl⟩
      go_wp2
      rw [rounds_succ]
      go_wp2
      refine wp_region_calm f (by kernel_rfl) (by kernel_rfl) (calm_drew hf hg _) ?_
      repeat (go_big_quiet_step ((first | (go_at_call 107; exact calm_of hf hg (refVotes_any _ _ _ _ _ fn _)) | (go_at_call_of 106 (Value.int .u16 (joinB jnv jnx)); exact calm_same (refMeet_any _ _ _ k0 k1 g0 g1)) | (go_at_call 106; exact calm_same (refMeet_any _ _ _ fn.v0 fn.v1 g0 g1)) | (go_at_call 105; exact calm_of hf hg (refCount_any _ _ l0 l1)))))
      refine wpQuiet_nil ?_; rintro _ ⟨u, rfl⟩
      go_wp2
      go_ret
      exact ⟨ret_boolS (by simp [HO.out, ZO.out, HN.out, ZN.out]), HB.out _⟩
    have hn' : decide (cnt (meetB (joinB jnv jnx) g) < jnk) = false := by simpa using hn
    have HN := Lib.hid hn'
    have zn' : (meetB jnv g == 0) = false := by simpa using zn
    have ZN := Lib.hid zn'
    go_enter Tryz.func71, Tryz.ntmps71
    go_wp2_with (go_at_call 104; refine (refTwo_two _ _ _ _ _ _ _ _ _ _ _).mono ?_; rintro r w' ⟨rfl, rfl⟩)
    obtain ⟨U, f, hU, hf, hg⟩ := calm_class (((w.alloc (.cells #[.int .u16 jov, .int .u16 jox, .int .u16 jol, .int .i64 joe, .int .i64 jok, .int .u16 jnv, .int .u16 jnx, .int .u16 jnl, .int .i64 jne, .int .i64 jnk, .bool true] 27)).alloc (.cells #[.int .u16 jov, .int .u16 jox, .int .u16 jol, .int .i64 joe, .int .i64 jok, .int .u16 jnv, .int .u16 jnx, .int .u16 jnl, .int .i64 jne, .int .i64 jnk, .bool true] 27)).alloc (.cells #[.int .u16 jov, .int .u16 jox, .int .u16 jol, .int .i64 joe, .int .i64 jok, .int .u16 jnv, .int .u16 jnx, .int .u16 jnl, .int .i64 jne, .int .i64 jnk] 25)); obtain ⟨u0, hu0⟩ := hg _ (Below.refl _ _); rw [hu0]; clear hu0
    have kA := calm_block hf (heap_last ((w.alloc (.cells #[.int .u16 jov, .int .u16 jox, .int .u16 jol, .int .i64 joe, .int .i64 jok, .int .u16 jnv, .int .u16 jnx, .int .u16 jnl, .int .i64 jne, .int .i64 jnk, .bool true] 27)).alloc (.cells #[.int .u16 jov, .int .u16 jox, .int .u16 jol, .int .i64 joe, .int .i64 jok, .int .u16 jnv, .int .u16 jnx, .int .u16 jnl, .int .i64 jne, .int .i64 jnk, .bool true] 27)) (.cells #[.int .u16 jov, .int .u16 jox, .int .u16 jol, .int .i64 joe, .int .i64 jok, .int .u16 jnv, .int .u16 jnx, .int .u16 jnl, .int .i64 jne, .int .i64 jnk] 25))
    have HB : Hid (∀ u, Below w.heap.size w (f u)) := fun u => below_threeR w _ _ _ (hf u)
    simp only [World.size_alloc] at kA
    refine wp_loop_rounds 3 ?_
    rw [rounds_succ]
    go_wp2
    refine wp_region_calm f (by kernel_rfl) (by kernel_rfl) (calm_drew hf hg _) ?_
    repeat (go_big_quiet_step ((first | (go_at_call 107; exact calm_of hf hg (refVotes_any _ _ _ _ _ fo _)) | (go_at_call_of 106 (Value.int .u16 (joinB jov jox)); exact calm_same (refMeet_any _ _ _ j0 j1 g0 g1)) | (go_at_call 106; exact calm_same (refMeet_any _ _ _ fo.v0 fo.v1 g0 g1)) | (go_at_call 105; exact calm_of hf hg (refCount_any _ _ m0 m1)))))
    refine wpQuiet_nil ?_; rintro _ ⟨u, rfl⟩
    go_wp2
    rw [rounds_succ]
    go_wp2
    refine wp_region_calm f (by kernel_rfl) (by kernel_rfl) (calm_drew hf hg _) ?_
    repeat (go_big_quiet_step ((first | (go_at_call 107; exact calm_of hf hg (refVotes_any _ _ _ _ _ fn _)) | (go_at_call_of 106 (Value.int .u16 (joinB jnv jnx)); exact calm_same (refMeet_any _ _ _ k0 k1 g0 g1)) | (go_at_call 106; exact calm_same (refMeet_any _ _ _ fn.v0 fn.v1 g0 g1)) | (go_at_call 105; exact calm_of hf hg (refCount_any _ _ l0 l1)))))
    refine wpQuiet_nil ?_; rintro _ ⟨u, rfl⟩
    go_wp2
    rw [rounds_succ]
    go_wp2
    go_ret
    exact ⟨ret_boolS (by simp [HO.out, ZO.out, HN.out, ZN.out]), HB.out _⟩

set_option maxRecDepth 100000 in
set_option maxHeartbeats 4000000 in
theorem refMayJoint_any (jov jox jol joe jok jnv jnx jnl jne jnk : Int) (jt : Bool) (fo : FitC jov jox jol) (fn : FitC jnv jnx jnl) (w : World) :
    Calls Tryz.prog 86 #[.agg #[.int .u16 jov, .int .u16 jox, .int .u16 jol, .int .i64 joe, .int .i64 jok, .int .u16 jnv, .int .u16 jnx, .int .u16 jnl, .int .i64 jne, .int .i64 jnk, .bool jt]] w fun r w' => r = .returned (.bool (mayJ jov jox jol joe jok jnv jnx jnl jne jnk jt)) ∧ Below w.heap.size w w' := by
  cases ho : mayC jov jox jol joe jok
  · have HO := Lib.hid ho; clear ho
    cases jt
    · by_cases hz : jnv = 0 ∧ jnx = 0 ∧ jnl = 0 ∧ jne = 0 ∧ jnk = 0
      · obtain ⟨rfl, rfl, rfl, rfl, rfl⟩ := hz
        go_enter Tryz.func86, Tryz.ntmps86
        go_wp2_with (go_at_call 104; refine (refTwo_one _ _ _ _ _ _ _ _ _ _ _).mono ?_; rintro r w' ⟨rfl, rfl⟩)
        obtain ⟨U, f, hU, hf, hg⟩ := calm_class (((w.alloc (.cells #[.int .u16 jov, .int .u16 jox, .int .u16 jol, .int .i64 joe, .int .i64 jok, .int .u16 0, .int .u16 0, .int .u16 0, .int .i64 0, .int .i64 0, .bool false] 27)).alloc (.cells #[.int .u16 jov, .int .u16 jox, .int .u16 jol, .int .i64 joe, .int .i64 jok, .int .u16 0, .int .u16 0, .int .u16 0, .int .i64 0, .int .i64 0, .bool false] 27)).alloc (.cells #[.int .u16 jov, .int .u16 jox, .int .u16 jol, .int .i64 joe, .int .i64 jok] 25)); obtain ⟨u0, hu0⟩ := hg _ (Below.refl _ _); rw [hu0]; clear hu0
        have kA := calm_block hf (heap_last ((w.alloc (.cells #[.int .u16 jov, .int .u16 jox, .int .u16 jol, .int .i64 joe, .int .i64 jok, .int .u16 0, .int .u16 0, .int .u16 0, .int .i64 0, .int .i64 0, .bool false] 27)).alloc (.cells #[.int .u16 jov, .int .u16 jox, .int .u16 jol, .int .i64 joe, .int .i64 jok, .int .u16 0, .int .u16 0, .int .u16 0, .int .i64 0, .int .i64 0, .bool false] 27)) (.cells #[.int .u16 jov, .int .u16 jox, .int .u16 jol, .int .i64 joe, .int .i64 jok] 25))
        have HB : Hid (∀ u, Below w.heap.size w (f u)) := fun u => below_threeR w _ _ _ (hf u)
        simp only [World.size_alloc] at kA
        refine wp_loop_rounds 2 ?_
        rw [rounds_succ]
        go_wp2_with (go_at_call 140; refine (refMay10_any _ _ _ _ _ fo _).mono ?_; rintro r w' ⟨rfl, hb⟩; obtain ⟨u, rfl⟩ := calm_step hf hg hb; clear hb; rw [HO.out])
        go_ret
        exact ⟨ret_boolS (by simp [mayJ, HO.out]), HB.out _⟩
      · have HZ := Lib.hid hz
        clear hz
        go_enter Tryz.func86, Tryz.ntmps86
        go_wp2_with fail
        all_goals first | (go_ret; exact ⟨ret_boolS (by have h := HZ.out; simp [mayJ, *]), below_box _ _⟩) | (exfalso; apply HZ.out; simp [*])
    · go_enter Tryz.func86, Tryz.ntmps86
      go_wp2_with (go_at_call 104; refine (refTwo_two _ _ _ _ _ _ _ _ _ _ _).mono ?_; rintro r w' ⟨rfl, rfl⟩)
      obtain ⟨U, f, hU, hf, hg⟩ := calm_class (((w.alloc (.cells #[.int .u16 jov, .int .u16 jox, .int .u16 jol, .int .i64 joe, .int .i64 jok, .int .u16 jnv, .int .u16 jnx, .int .u16 jnl, .int .i64 jne, .int .i64 jnk, .bool true] 27)).alloc (.cells #[.int .u16 jov, .int .u16 jox, .int .u16 jol, .int .i64 joe, .int .i64 jok, .int .u16 jnv, .int .u16 jnx, .int .u16 jnl, .int .i64 jne, .int .i64 jnk, .bool true] 27)).alloc (.cells #[.int .u16 jov, .int .u16 jox, .int .u16 jol, .int .i64 joe, .int .i64 jok, .int .u16 jnv, .int .u16 jnx, .int .u16 jnl, .int .i64 jne, .int .i64 jnk] 25)); obtain ⟨u0, hu0⟩ := hg _ (Below.refl _ _); rw [hu0]; clear hu0
      have kA := calm_block hf (heap_last ((w.alloc (.cells #[.int .u16 jov, .int .u16 jox, .int .u16 jol, .int .i64 joe, .int .i64 jok, .int .u16 jnv, .int .u16 jnx, .int .u16 jnl, .int .i64 jne, .int .i64 jnk, .bool true] 27)).alloc (.cells #[.int .u16 jov, .int .u16 jox, .int .u16 jol, .int .i64 joe, .int .i64 jok, .int .u16 jnv, .int .u16 jnx, .int .u16 jnl, .int .i64 jne, .int .i64 jnk, .bool true] 27)) (.cells #[.int .u16 jov, .int .u16 jox, .int .u16 jol, .int .i64 joe, .int .i64 jok, .int .u16 jnv, .int .u16 jnx, .int .u16 jnl, .int .i64 jne, .int .i64 jnk] 25))
      have HB : Hid (∀ u, Below w.heap.size w (f u)) := fun u => below_threeR w _ _ _ (hf u)
      simp only [World.size_alloc] at kA
      refine wp_loop_rounds 3 ?_
      rw [rounds_succ]
      go_wp2_with (go_at_call 140; refine (refMay10_any _ _ _ _ _ fo _).mono ?_; rintro r w' ⟨rfl, hb⟩; obtain ⟨u, rfl⟩ := calm_step hf hg hb; clear hb; rw [HO.out])
      go_ret
      exact ⟨ret_boolS (by simp [mayJ, HO.out]), HB.out _⟩
  · have HO := Lib.hid ho; clear ho
    cases jt
    · by_cases hz : jnv = 0 ∧ jnx = 0 ∧ jnl = 0 ∧ jne = 0 ∧ jnk = 0
      · obtain ⟨rfl, rfl, rfl, rfl, rfl⟩ := hz
        go_enter Tryz.func86, Tryz.ntmps86
        go_wp2_with (go_at_call 104; refine (refTwo_one _ _ _ _ _ _ _ _ _ _ _).mono ?_; rintro r w' ⟨rfl, rfl⟩)
        obtain ⟨U, f, hU, hf, hg⟩ := calm_class (((w.alloc (.cells #[.int .u16 jov, .int .u16 jox, .int .u16 jol, .int .i64 joe, .int .i64 jok, .int .u16 0, .int .u16 0, .int .u16 0, .int .i64 0, .int .i64 0, .bool false] 27)).alloc (.cells #[.int .u16 jov, .int .u16 jox, .int .u16 jol, .int .i64 joe, .int .i64 jok, .int .u16 0, .int .u16 0, .int .u16 0, .int .i64 0, .int .i64 0, .bool false] 27)).alloc (.cells #[.int .u16 jov, .int .u16 jox, .int .u16 jol, .int .i64 joe, .int .i64 jok] 25)); obtain ⟨u0, hu0⟩ := hg _ (Below.refl _ _); rw [hu0]; clear hu0
        have kA := calm_block hf (heap_last ((w.alloc (.cells #[.int .u16 jov, .int .u16 jox, .int .u16 jol, .int .i64 joe, .int .i64 jok, .int .u16 0, .int .u16 0, .int .u16 0, .int .i64 0, .int .i64 0, .bool false] 27)).alloc (.cells #[.int .u16 jov, .int .u16 jox, .int .u16 jol, .int .i64 joe, .int .i64 jok, .int .u16 0, .int .u16 0, .int .u16 0, .int .i64 0, .int .i64 0, .bool false] 27)) (.cells #[.int .u16 jov, .int .u16 jox, .int .u16 jol, .int .i64 joe, .int .i64 jok] 25))
        have HB : Hid (∀ u, Below w.heap.size w (f u)) := fun u => below_threeR w _ _ _ (hf u)
        simp only [World.size_alloc] at kA
        refine wp_loop_rounds 2 ?_
        rw [rounds_succ]
        go_wp2_with (go_at_call 140; refine (refMay10_any _ _ _ _ _ fo _).mono ?_; rintro r w' ⟨rfl, hb⟩; obtain ⟨u, rfl⟩ := calm_step hf hg hb; clear hb; rw [HO.out])
        rw [rounds_succ]
        go_wp2
        go_ret
        exact ⟨ret_boolS (by simp [mayJ, HO.out]), HB.out _⟩
      · have HZ := Lib.hid hz
        clear hz
        go_enter Tryz.func86, Tryz.ntmps86
        go_wp2_with fail
        all_goals first | (go_ret; exact ⟨ret_boolS (by have h := HZ.out; simp [mayJ, *]), below_box _ _⟩) | (exfalso; apply HZ.out; simp [*])
    · cases hn : mayC jnv jnx jnl jne jnk
      · have HN := Lib.hid hn; clear hn
        go_enter Tryz.func86, Tryz.ntmps86
        go_wp2_with (go_at_call 104; refine (refTwo_two _ _ _ _ _ _ _ _ _ _ _).mono ?_; rintro r w' ⟨rfl, rfl⟩)
        obtain ⟨U, f, hU, hf, hg⟩ := calm_class (((w.alloc (.cells #[.int .u16 jov, .int .u16 jox, .int .u16 jol, .int .i64 joe, .int .i64 jok, .int .u16 jnv, .int .u16 jnx, .int .u16 jnl, .int .i64 jne, .int .i64 jnk, .bool true] 27)).alloc (.cells #[.int .u16 jov, .int .u16 jox, .int .u16 jol, .int .i64 joe, .int .i64 jok, .int .u16 jnv, .int .u16 jnx, .int .u16 jnl, .int .i64 jne, .int .i64 jnk, .bool true] 27)).alloc (.cells #[.int .u16 jov, .int .u16 jox, .int .u16 jol, .int .i64 joe, .int .i64 jok, .int .u16 jnv, .int .u16 jnx, .int .u16 jnl, .int .i64 jne, .int .i64 jnk] 25)); obtain ⟨u0, hu0⟩ := hg _ (Below.refl _ _); rw [hu0]; clear hu0
        have kA := calm_block hf (heap_last ((w.alloc (.cells #[.int .u16 jov, .int .u16 jox, .int .u16 jol, .int .i64 joe, .int .i64 jok, .int .u16 jnv, .int .u16 jnx, .int .u16 jnl, .int .i64 jne, .int .i64 jnk, .bool true] 27)).alloc (.cells #[.int .u16 jov, .int .u16 jox, .int .u16 jol, .int .i64 joe, .int .i64 jok, .int .u16 jnv, .int .u16 jnx, .int .u16 jnl, .int .i64 jne, .int .i64 jnk, .bool true] 27)) (.cells #[.int .u16 jov, .int .u16 jox, .int .u16 jol, .int .i64 joe, .int .i64 jok, .int .u16 jnv, .int .u16 jnx, .int .u16 jnl, .int .i64 jne, .int .i64 jnk] 25))
        have HB : Hid (∀ u, Below w.heap.size w (f u)) := fun u => below_threeR w _ _ _ (hf u)
        simp only [World.size_alloc] at kA
        refine wp_loop_rounds 3 ?_
        rw [rounds_succ]
        go_wp2_with (go_at_call 140; refine (refMay10_any _ _ _ _ _ fo _).mono ?_; rintro r w' ⟨rfl, hb⟩; obtain ⟨u, rfl⟩ := calm_step hf hg hb; clear hb; rw [HO.out])
        rw [rounds_succ]
        go_wp2_with (go_at_call 140; refine (refMay10_any _ _ _ _ _ fn _).mono ?_; rintro r w' ⟨rfl, hb⟩; obtain ⟨u, rfl⟩ := calm_step hf hg hb; clear hb; rw [HN.out])
        go_ret
        exact ⟨ret_boolS (by simp [mayJ, HO.out, HN.out]), HB.out _⟩
      · have HN := Lib.hid hn; clear hn
        go_enter Tryz.func86, Tryz.ntmps86
        go_wp2_with (go_at_call 104; refine (refTwo_two _ _ _ _ _ _ _ _ _ _ _).mono ?_; rintro r w' ⟨rfl, rfl⟩)
        obtain ⟨U, f, hU, hf, hg⟩ := calm_class (((w.alloc (.cells #[.int .u16 jov, .int .u16 jox, .int .u16 jol, .int .i64 joe, .int .i64 jok, .int .u16 jnv, .int .u16 jnx, .int .u16 jnl, .int .i64 jne, .int .i64 jnk, .bool true] 27)).alloc (.cells #[.int .u16 jov, .int .u16 jox, .int .u16 jol, .int .i64 joe, .int .i64 jok, .int .u16 jnv, .int .u16 jnx, .int .u16 jnl, .int .i64 jne, .int .i64 jnk, .bool true] 27)).alloc (.cells #[.int .u16 jov, .int .u16 jox, .int .u16 jol, .int .i64 joe, .int .i64 jok, .int .u16 jnv, .int .u16 jnx, .int .u16 jnl, .int .i64 jne, .int .i64 jnk] 25)); obtain ⟨u0, hu0⟩ := hg _ (Below.refl _ _); rw [hu0]; clear hu0
        have kA := calm_block hf (heap_last ((w.alloc (.cells #[.int .u16 jov, .int .u16 jox, .int .u16 jol, .int .i64 joe, .int .i64 jok, .int .u16 jnv, .int .u16 jnx, .int .u16 jnl, .int .i64 jne, .int .i64 jnk, .bool true] 27)).alloc (.cells #[.int .u16 jov, .int .u16 jox, .int .u16 jol, .int .i64 joe, .int .i64 jok, .int .u16 jnv, .int .u16 jnx, .int .u16 jnl, .int .i64 jne, .int .i64 jnk, .bool true] 27)) (.cells #[.int .u16 jov, .int .u16 jox, .int .u16 jol, .int .i64 joe, .int .i64 jok, .int .u16 jnv, .int .u16 jnx, .int .u16 jnl, .int .i64 jne, .int .i64 jnk] 25))
        have HB : Hid (∀ u, Below w.heap.size w (f u)) := fun u => below_threeR w _ _ _ (hf u)
        simp only [World.size_alloc] at kA
        refine wp_loop_rounds 3 ?_
        rw [rounds_succ]
        go_wp2_with (go_at_call 140; refine (refMay10_any _ _ _ _ _ fo _).mono ?_; rintro r w' ⟨rfl, hb⟩; obtain ⟨u, rfl⟩ := calm_step hf hg hb; clear hb; rw [HO.out])
        rw [rounds_succ]
        go_wp2_with (go_at_call 140; refine (refMay10_any _ _ _ _ _ fn _).mono ?_; rintro r w' ⟨rfl, hb⟩; obtain ⟨u, rfl⟩ := calm_step hf hg hb; clear hb; rw [HN.out])
        rw [rounds_succ]
        go_wp2
        go_ret
        exact ⟨ret_boolS (by simp [mayJ, HO.out, HN.out]), HB.out _⟩

set_option maxRecDepth 100000 in
set_option maxHeartbeats 1000000 in
theorem refFinal_any (jov jox jol joe jok jnv jnx jnl jne jnk : Int) (jt : Bool) (w : World) :
    Calls Tryz.prog 136 #[.agg #[.int .u16 jov, .int .u16 jox, .int .u16 jol, .int .i64 joe, .int .i64 jok, .int .u16 jnv, .int .u16 jnx, .int .u16 jnl, .int .i64 jne, .int .i64 jnk, .bool jt]] w fun r w' =>
      r = .returned (if jt then .agg #[.int .u16 jnv, .int .u16 jnx, .int .u16 jnl, .int .i64 jne, .int .i64 jnk, .int .u16 0, .int .u16 0, .int .u16 0, .int .i64 0, .int .i64 0, .bool false] else .agg #[.int .u16 jov, .int .u16 jox, .int .u16 jol, .int .i64 joe, .int .i64 jok, .int .u16 jnv, .int .u16 jnx, .int .u16 jnl, .int .i64 jne, .int .i64 jnk, .bool jt]) ∧ Below w.heap.size w w' := by
  cases jt
  · go_enter Tryz.func136, Tryz.ntmps136
    go_wp2_with fail
    refine bodyPost_ret (v := .agg #[.int .u16 jov, .int .u16 jox, .int .u16 jol, .int .i64 joe, .int .i64 jok, .int .u16 jnv, .int .u16 jnx, .int .u16 jnl, .int .i64 jne, .int .i64 jnk, .bool false]) (by simp [results, Tryz.results136, go_sem]) rfl ⟨rfl, ?_⟩
    exact (below_box w _).trans ((below_box _ _).mono (by simp))
  · go_enter Tryz.func136, Tryz.ntmps136
    go_wp2_with fail
    refine bodyPost_ret (v := .agg #[.int .u16 jnv, .int .u16 jnx, .int .u16 jnl, .int .i64 jne, .int .i64 jnk, .int .u16 0, .int .u16 0, .int .u16 0, .int .i64 0, .int .i64 0, .bool false]) (by simp [results, Tryz.results136, go_sem]) rfl ⟨rfl, ?_⟩
    exact (below_box w _).trans ((below_box _ _).mono (by simp))
end Go.Proofs.YtbnndbdnejfehaaGreatDoor
