import Derived.Test.YtjaabakobpabjaaSets
import Derived.Test.YtjaabakobpabjaaCalm
import Derived.Test.YtjaabakobpabjaaPlainConf
/- Contracts of package conf and of its reference. -/
namespace Go.Proofs.Ytjaabakobpabjaa
open Go.RowKit

set_option maxRecDepth 100000 in
set_option maxHeartbeats 800000 in
theorem refJoin_any (x y : Int) (w : World) (hx0 : 0 ≤ x) (hx1 : x ≤ 65535) (hy0 : 0 ≤ y) (hy1 : y ≤ 65535) :
    Calls Try.prog 101 #[.int .u16 x, .int .u16 y] w fun e w' => e = .returned (.int .u16 (joinB x y)) ∧ w = w' := by
  have HM := Lib.hid (gat_join x y hx0 hy0)
  go_enter Try.func101, Try.ntmps101
  go_wp2
  go_loop [5, 6] (fun v i => ∃ (k : Nat) (g : Int), k ≤ 9 ∧ i = .int .i64 (k + 1) ∧ v = .int .u16 g ∧ Hid (g = gat (fun n => hasB x n || hasB y n) k)) (fun _ i => 10 - (intOf i).toNat)
  case atStart => exact ⟨0, 0, by omega, rfl, rfl, rfl⟩
  case round =>
    obtain ⟨k, g, hk, rfl, rfl, hg⟩ := hrel
    obtain ⟨hg0, hg1⟩ : 0 ≤ g ∧ g ≤ 65535 := by rw [hg.out]; exact gat_fit _ _
    by_cases hlt : k < 9
    · cases hbx : hasB x ((k : Int) + 1)
      · have HX := Lib.hid hbx
        cases hby : hasB y ((k : Int) + 1)
        · have HY := Lib.hid hby
          have HS : Hid (gat (fun n => hasB x n || hasB y n) (k + 1) = g) := by show _ = _; rw [gat_step _ k false (by simp [hbx, hby]), hg.out]; rfl
          clear hbx hby
          go_wp2_with fail
          refine (refHas_any _ _ _ hx0 hx1).mono ?_; rintro e w' ⟨rfl, rfl⟩; rw [HX.out]
          go_wp2_with fail
          refine (refHas_any _ _ _ hy0 hy1).mono ?_; rintro e w' ⟨rfl, rfl⟩; rw [HY.out]
          go_wp2_with fail
          go_round
          case rel => exact ⟨k + 1, g, by omega, by go_num, rfl, HS.out.symm⟩
          case measure => simp [intOf]; omega
        · have HY := Lib.hid hby
          have HS : Hid (gat (fun n => hasB x n || hasB y n) (k + 1) = bits .or .u16 g (oneB ((k : Int) + 1))) := by show _ = _; rw [gat_step _ k true (by simp [hby]), hg.out]; rfl
          clear hbx hby
          go_wp2_with fail
          refine (refHas_any _ _ _ hx0 hx1).mono ?_; rintro e w' ⟨rfl, rfl⟩; rw [HX.out]
          go_wp2_with fail
          refine (refHas_any _ _ _ hy0 hy1).mono ?_; rintro e w' ⟨rfl, rfl⟩; rw [HY.out]
          go_wp2_with fail
          refine (refWith_any _ _ _ hg0 hg1).mono ?_; rintro e w' ⟨rfl, rfl⟩
          go_wp2_with fail
          go_round
          case rel => exact ⟨k + 1, _, by omega, by go_num, rfl, HS.out.symm⟩
          case measure => simp [intOf]; omega
      · have HX := Lib.hid hbx
        have HS : Hid (gat (fun n => hasB x n || hasB y n) (k + 1) = bits .or .u16 g (oneB ((k : Int) + 1))) := by show _ = _; rw [gat_step _ k true (by simp [hbx]), hg.out]; rfl
        clear hbx
        go_wp2_with fail
        refine (refHas_any _ _ _ hx0 hx1).mono ?_; rintro e w' ⟨rfl, rfl⟩; rw [HX.out]
        go_wp2_with fail
        refine (refWith_any _ _ _ hg0 hg1).mono ?_; rintro e w' ⟨rfl, rfl⟩
        go_wp2_with fail
        go_round
        case rel => exact ⟨k + 1, _, by omega, by go_num, rfl, HS.out.symm⟩
        case measure => simp [intOf]; omega
    · obtain rfl : k = 9 := by omega
      go_wp2
      go_ret
      exact ⟨ret_intC (by rw [hg.out, HM.out]), rfl⟩

theorem Below.step {W0 W1 W2 : World} (h : Below W0.heap.size W0 W1) (k : Below W1.heap.size W1 W2) : Below W0.heap.size W0 W2 := h.trans (k.mono h.size)
theorem below_box (w : World) (o : Obj) : Below w.heap.size w (w.alloc o) := (Below.refl _ _).alloc (Nat.le_refl _) o

end Go.Proofs.Ytjaabakobpabjaa
/- Contracts of package conf and of its reference, two. -/
namespace Go.Proofs.Ytjaabakobpabjaa
open Go.RowKit

theorem box_first {w w1 : World} {cs : Array Value} {t : TypeId} (k : Below (w.alloc (.cells cs t)).heap.size (w.alloc (.cells cs t)) w1) : Below (w.heap.size + 1) (w.alloc (.cells cs t)) w1 := by simpa using k
theorem box_out {w w1 : World} {cs : Array Value} {t : TypeId} (k : Below (w.heap.size + 1) (w.alloc (.cells cs t)) w1) : Below w.heap.size w w1 := (below_box _ _).trans (k.mono (by omega))

end Go.Proofs.Ytjaabakobpabjaa
/- Contracts of package conf, three: who is in a joint. -/
namespace Go.Proofs.Ytjaabakobpabjaa
open Go.RowKit


end Go.Proofs.Ytjaabakobpabjaa
/- Contracts of package conf, four: who elects, who commits. -/
namespace Go.Proofs.Ytjaabakobpabjaa
open Go.RowKit



end Go.Proofs.Ytjaabakobpabjaa
/- Contracts of package conf, five: changes. -/
namespace Go.Proofs.Ytjaabakobpabjaa
open Go.RowKit


end Go.Proofs.Ytjaabakobpabjaa
/- Contracts of the reference of conf. -/
namespace Go.Proofs.Ytjaabakobpabjaa
open Go.RowKit

set_option maxRecDepth 100000 in
set_option maxHeartbeats 400000 in
theorem refVotes_any (cv cx cl ce ck : Int) (fc : FitC cv cx cl) (w : World) :
    Calls Try.prog 102 #[.agg #[.int .u16 cv, .int .u16 cx, .int .u16 cl, .int .i64 ce, .int .i64 ck]] w fun r w' => r = .returned (.int .u16 (joinB cv cx)) ∧ Below w.heap.size w w' := by
  go_enter Try.func102, Try.ntmps102
  go_wp2_with (go_at_call 101; refine (refJoin_any _ _ _ fc.v0 fc.v1 fc.x0 fc.x1).mono ?_; rintro r w' ⟨rfl, rfl⟩)
  go_ret
  exact ⟨rfl, below_box _ _⟩

set_option maxRecDepth 100000 in
set_option maxHeartbeats 4000000 in
theorem refMay10_any (cv cx cl ce ck : Int) (fc : FitC cv cx cl) (w : World) :
    Calls Try.prog 92 #[.agg #[.int .u16 cv, .int .u16 cx, .int .u16 cl, .int .i64 ce, .int .i64 ck]] w fun r w' => r = .returned (.bool (mayC cv cx cl ce ck)) ∧ Below w.heap.size w w' := by
  rw [← may_same cv cx cl ce ck fc]
  have fv0 := fc.v0; have fv1 := fc.v1; have fx0 := fc.x0; have fx1 := fc.x1; have fl0 := fc.l0; have fl1 := fc.l1
  obtain ⟨j0, j1⟩ := joinB_fit cv cx
  obtain ⟨a0, a1⟩ := joinB_fit (joinB cv cx) cl
  obtain ⟨n0, n1⟩ := cnt_nonneg (joinB cv cx)
  obtain ⟨p0, p1⟩ := cnt_nonneg cv
  obtain ⟨q0, q1⟩ := cnt_nonneg cx
  obtain ⟨s0, s1⟩ := cnt_nonneg cl
  cases hv : mayB cv
  · have HV := Lib.hid hv; clear hv
    go_enter Try.func92, Try.ntmps92
    go_wp2_with fail
    obtain ⟨U, f, hU, hf, hg⟩ := calm_class (w.alloc (.cells #[.int .u16 cv, .int .u16 cx, .int .u16 cl, .int .i64 ce, .int .i64 ck] 40)); obtain ⟨u0, hu0⟩ := hg _ (Below.refl _ _); rw [hu0]; clear hu0
    have kA := calm_block hf (heap_last w (.cells #[.int .u16 cv, .int .u16 cx, .int .u16 cl, .int .i64 ce, .int .i64 ck] 40))
    refine (refMay_any cv _ fv0 fv1).mono ?_; rintro r w' ⟨rfl, hb⟩; obtain ⟨u, rfl⟩ := calm_step hf hg hb; clear hb; rw [HV.out]
    go_wp2_with fail
    go_ret
    exact ⟨ret_boolS (by simp [refMayC, HV.out]), box_out (box_first (hf _))⟩
  have HV := Lib.hid hv; clear hv
  cases hx : mayB cx
  · have HX := Lib.hid hx; clear hx
    go_enter Try.func92, Try.ntmps92
    go_wp2_with fail
    obtain ⟨U, f, hU, hf, hg⟩ := calm_class (w.alloc (.cells #[.int .u16 cv, .int .u16 cx, .int .u16 cl, .int .i64 ce, .int .i64 ck] 40)); obtain ⟨u0, hu0⟩ := hg _ (Below.refl _ _); rw [hu0]; clear hu0
    have kA := calm_block hf (heap_last w (.cells #[.int .u16 cv, .int .u16 cx, .int .u16 cl, .int .i64 ce, .int .i64 ck] 40))
    refine (refMay_any cv _ fv0 fv1).mono ?_; rintro r w' ⟨rfl, hb⟩; obtain ⟨u, rfl⟩ := calm_step hf hg hb; clear hb; rw [HV.out]
    go_wp2_with fail
    refine (refMay_any cx _ fx0 fx1).mono ?_; rintro r w' ⟨rfl, hb⟩; obtain ⟨u, rfl⟩ := calm_step hf hg hb; clear hb; rw [HX.out]
    go_wp2_with fail
    go_ret
    exact ⟨ret_boolS (by simp [refMayC, HV.out, HX.out]), box_out (box_first (hf _))⟩
  have HX := Lib.hid hx; clear hx
  cases hl : mayB cl
  · have HL := Lib.hid hl; clear hl
    go_enter Try.func92, Try.ntmps92
    go_wp2_with fail
    obtain ⟨U, f, hU, hf, hg⟩ := calm_class (w.alloc (.cells #[.int .u16 cv, .int .u16 cx, .int .u16 cl, .int .i64 ce, .int .i64 ck] 40)); obtain ⟨u0, hu0⟩ := hg _ (Below.refl _ _); rw [hu0]; clear hu0
    have kA := calm_block hf (heap_last w (.cells #[.int .u16 cv, .int .u16 cx, .int .u16 cl, .int .i64 ce, .int .i64 ck] 40))
    refine (refMay_any cv _ fv0 fv1).mono ?_; rintro r w' ⟨rfl, hb⟩; obtain ⟨u, rfl⟩ := calm_step hf hg hb; clear hb; rw [HV.out]
    go_wp2_with fail
    refine (refMay_any cx _ fx0 fx1).mono ?_; rintro r w' ⟨rfl, hb⟩; obtain ⟨u, rfl⟩ := calm_step hf hg hb; clear hb; rw [HX.out]
    go_wp2_with fail
    refine (refMay_any cl _ fl0 fl1).mono ?_; rintro r w' ⟨rfl, hb⟩; obtain ⟨u, rfl⟩ := calm_step hf hg hb; clear hb; rw [HL.out]
    go_wp2_with fail
    go_ret
    exact ⟨ret_boolS (by simp [refMayC, HV.out, HX.out, HL.out]), box_out (box_first (hf _))⟩
  have HL := Lib.hid hl; clear hl
  cases hs : (cnt (joinB (joinB cv cx) cl) == cnt cv + cnt cx + cnt cl) <;> cases hz : (cnt cv == 0)
  all_goals
    have hs' : (cnt (joinB (joinB cv cx) cl) != cnt cv + cnt cx + cnt cl) = !(cnt (joinB (joinB cv cx) cl) == cnt cv + cnt cx + cnt cl) := rfl
    rw [hs] at hs'
    have HS := Lib.hid hs; have HZ := Lib.hid hz
    go_enter Try.func92, Try.ntmps92
    go_wp2_with fail
    obtain ⟨U, f, hU, hf, hg⟩ := calm_class (w.alloc (.cells #[.int .u16 cv, .int .u16 cx, .int .u16 cl, .int .i64 ce, .int .i64 ck] 40)); obtain ⟨u0, hu0⟩ := hg _ (Below.refl _ _); rw [hu0]; clear hu0
    have kA := calm_block hf (heap_last w (.cells #[.int .u16 cv, .int .u16 cx, .int .u16 cl, .int .i64 ce, .int .i64 ck] 40))
    refine (refMay_any cv _ fv0 fv1).mono ?_; rintro r w' ⟨rfl, hb⟩; obtain ⟨u, rfl⟩ := calm_step hf hg hb; clear hb; rw [HV.out]
    go_wp2_with fail
    refine (refMay_any cx _ fx0 fx1).mono ?_; rintro r w' ⟨rfl, hb⟩; obtain ⟨u, rfl⟩ := calm_step hf hg hb; clear hb; rw [HX.out]
    go_wp2_with fail
    refine (refMay_any cl _ fl0 fl1).mono ?_; rintro r w' ⟨rfl, hb⟩; obtain ⟨u, rfl⟩ := calm_step hf hg hb; clear hb; rw [HL.out]
    go_wp2_with fail
    refine wp_region_calm f (by kernel_rfl) (by kernel_rfl) (calm_drew hf hg _) ?_
    repeat (go_big_quiet_step ((first | (go_at_call 102; exact calm_of hf hg (refVotes_any _ _ _ _ _ fc _)) | (go_at_call 101; exact calm_same (refJoin_any _ _ _ j0 j1 fl0 fl1)))))
    refine wpQuiet_nil ?_; rintro _ ⟨u, rfl⟩
    go_wp2_with (first | (go_at_call 102; refine (refVotes_any _ _ _ _ _ fc _).mono ?_; rintro r w' ⟨rfl, hb⟩; obtain ⟨u, rfl⟩ := calm_step hf hg hb; clear hb) | (go_at_call 103; refine (refCount_any _ _ j0 j1).mono ?_; rintro r w' ⟨rfl, hb⟩; obtain ⟨u, rfl⟩ := calm_step hf hg hb; clear hb))
    refine wp_region_calm f (by kernel_rfl) (by kernel_rfl) (calm_drew hf hg _) ?_
    repeat (go_big_quiet_step ((first | (go_at_call_of 103 (Value.int .u16 cv); exact calm_of hf hg (refCount_any _ _ fv0 fv1)) | (go_at_call_of 103 (Value.int .u16 cx); exact calm_of hf hg (refCount_any _ _ fx0 fx1)) | (go_at_call_of 103 (Value.int .u16 cl); exact calm_of hf hg (refCount_any _ _ fl0 fl1)) | (go_at_call 103; exact calm_of hf hg (refCount_any _ _ a0 a1)))))
    refine wpQuiet_nil ?_; rintro _ ⟨u, rfl⟩
    go_wp2
    all_goals (go_ret; exact ⟨ret_boolS (by have h1 := HS.out; have h2 := HZ.out; simp [refMayC, HV.out, HX.out, HL.out, h1, h2] <;> first | omega | (rw [Bool.eq_iff_iff]; simp only [Bool.and_eq_true, decide_eq_true_eq]; omega)), box_out (box_first (hf _))⟩)

set_option maxRecDepth 100000 in
set_option maxHeartbeats 400000 in
theorem refTwo_one (jov jox jol joe jok jnv jnx jnl jne jnk : Int) (w : World) :
    Calls Try.prog 91 #[.agg #[.int .u16 jov, .int .u16 jox, .int .u16 jol, .int .i64 joe, .int .i64 jok, .int .u16 jnv, .int .u16 jnx, .int .u16 jnl, .int .i64 jne, .int .i64 jnk, .bool false]] w fun r w' => r = .returned (.slice (some ⟨w.heap.size + 1, 0, none⟩) 1 1) ∧ (w.alloc (.cells #[.int .u16 jov, .int .u16 jox, .int .u16 jol, .int .i64 joe, .int .i64 jok, .int .u16 jnv, .int .u16 jnx, .int .u16 jnl, .int .i64 jne, .int .i64 jnk, .bool false] 42)).alloc (.cells #[.int .u16 jov, .int .u16 jox, .int .u16 jol, .int .i64 joe, .int .i64 jok] 40) = w' := by
  go_enter Try.func91, Try.ntmps91
  go_wp2
  go_ret
  exact ⟨rfl, rfl⟩
set_option maxRecDepth 100000 in
set_option maxHeartbeats 400000 in
theorem refTwo_two (jov jox jol joe jok jnv jnx jnl jne jnk : Int) (w : World) :
    Calls Try.prog 91 #[.agg #[.int .u16 jov, .int .u16 jox, .int .u16 jol, .int .i64 joe, .int .i64 jok, .int .u16 jnv, .int .u16 jnx, .int .u16 jnl, .int .i64 jne, .int .i64 jnk, .bool true]] w fun r w' => r = .returned (.slice (some ⟨w.heap.size + 1, 0, none⟩) 2 2) ∧ (w.alloc (.cells #[.int .u16 jov, .int .u16 jox, .int .u16 jol, .int .i64 joe, .int .i64 jok, .int .u16 jnv, .int .u16 jnx, .int .u16 jnl, .int .i64 jne, .int .i64 jnk, .bool true] 42)).alloc (.cells #[.int .u16 jov, .int .u16 jox, .int .u16 jol, .int .i64 joe, .int .i64 jok, .int .u16 jnv, .int .u16 jnx, .int .u16 jnl, .int .i64 jne, .int .i64 jnk] 40) = w' := by
  go_enter Try.func91, Try.ntmps91
  go_wp2
  go_ret
  exact ⟨rfl, rfl⟩

end Go.Proofs.Ytjaabakobpabjaa
/- Contracts of the reference of conf, two. -/
namespace Go.Proofs.Ytjaabakobpabjaa
open Go.RowKit

theorem below_threeR (w : World) (o1 o2 o3 : Obj) {w' : World} (h : Below (((w.alloc o1).alloc o2).alloc o3).heap.size (((w.alloc o1).alloc o2).alloc o3) w') : Below w.heap.size w w' :=
  (below_box w o1).trans (((below_box _ o2).mono (by simp)).trans (((below_box _ o3).mono (by simp; omega)).trans (h.mono (by simp; omega))))


end Go.Proofs.Ytjaabakobpabjaa
/- Contracts of the reference of conf, three. -/
namespace Go.Proofs.Ytjaabakobpabjaa
open Go.RowKit



end Go.Proofs.Ytjaabakobpabjaa
