/- Contracts of package conf and of its reference, two. -/
import Derived.Test.YtaaagidooieejaaConf
import Derived.Test.YtaaagidooieejaaCalm
namespace Go.Proofs.Ytaaagidooieejaa
open Go.RowKit

theorem box_keeps (w : World) (cs : Array Value) (t : TypeId) : ∀ w' j, Below (w.heap.size + 1) (w.alloc (.cells cs t)) w' → w'.cell? ⟨w.heap.size, j, none⟩ = (w.alloc (.cells cs t)).cell? ⟨w.heap.size, j, none⟩ := fun _ _ h => h.cell (by simp)
theorem box_step {w w1 w2 : World} {cs : Array Value} {t : TypeId} (h : Below (w.heap.size + 1) (w.alloc (.cells cs t)) w1) (k : Below w1.heap.size w1 w2) : Below (w.heap.size + 1) (w.alloc (.cells cs t)) w2 :=
  h.trans (k.mono (by have := h.size; simpa using this))
theorem box_first {w w1 : World} {cs : Array Value} {t : TypeId} (k : Below (w.alloc (.cells cs t)).heap.size (w.alloc (.cells cs t)) w1) : Below (w.heap.size + 1) (w.alloc (.cells cs t)) w1 := by simpa using k
theorem box_out {w w1 : World} {cs : Array Value} {t : TypeId} (k : Below (w.heap.size + 1) (w.alloc (.cells cs t)) w1) : Below w.heap.size w w1 := (below_box _ _).trans (k.mono (by omega))

set_option maxHeartbeats 1000000 in
theorem confMayJoint_any (jov jox jol joe jok jnv jnx jnl jne jnk : Int) (jt : Bool) (w : World) :
    Calls Try.prog 26 #[.agg #[.int .u16 jov, .int .u16 jox, .int .u16 jol, .int .i64 joe, .int .i64 jok, .int .u16 jnv, .int .u16 jnx, .int .u16 jnl, .int .i64 jne, .int .i64 jnk, .bool jt]] w fun r w' => r = .returned (.bool (mayJ jov jox jol joe jok jnv jnx jnl jne jnk jt)) ∧ Below w.heap.size w w' := by
  have KB := box_keeps w #[.int .u16 jov, .int .u16 jox, .int .u16 jol, .int .i64 joe, .int .i64 jok, .int .u16 jnv, .int .u16 jnx, .int .u16 jnl, .int .i64 jne, .int .i64 jnk, .bool jt] 38
  cases jt
  · cases ho : mayC jov jox jol joe jok
    · have HO := Lib.hid ho
      clear ho
      go_enter Try.func26, Try.ntmps26
      go_wp2_with (go_at_call 18; refine (confMay_any _ _ _ _ _ _).mono ?_; rintro r w1 ⟨rfl, hb⟩; rw [HO.out]; replace hb := box_first hb)
      go_ret
      exact ⟨ret_bool (by simp [mayJ, HO.out]), box_out hb⟩
    · have HO := Lib.hid ho
      clear ho
      go_enter Try.func26, Try.ntmps26
      go_wp2_with (go_at_call 18; refine (confMay_any _ _ _ _ _ _).mono ?_; rintro r w1 ⟨rfl, hb⟩; rw [HO.out]; replace hb := box_first hb)
      all_goals (go_ret; exact ⟨ret_bool (by simp [mayJ, HO.out, *]), box_out hb⟩)
  · cases ho : mayC jov jox jol joe jok
    · have HO := Lib.hid ho
      clear ho
      go_enter Try.func26, Try.ntmps26
      go_wp2_with (go_at_call 18; refine (confMay_any _ _ _ _ _ _).mono ?_; rintro r w1 ⟨rfl, hb⟩; rw [HO.out]; replace hb := box_first hb)
      go_ret
      exact ⟨ret_bool (by simp [mayJ, HO.out]), box_out hb⟩
    · have HO := Lib.hid ho
      clear ho
      go_enter Try.func26, Try.ntmps26
      go_wp2_with fail
      refine (confMay_any _ _ _ _ _ _).mono ?_; rintro r w1 ⟨rfl, hb⟩; rw [HO.out]; replace hb := box_first hb
      go_wp2_with fail
      refine (confMay_any _ _ _ _ _ _).mono ?_; rintro r w2 ⟨rfl, hb2⟩; replace hb2 := box_step hb hb2
      go_wp2_with fail
      go_ret
      exact ⟨ret_bool (by simp [mayJ, HO.out]), box_out hb2⟩

set_option maxHeartbeats 1000000 in
theorem confMeet_any (av ax al ae ak bv bx bl be bk : Int) (w : World) (ha : 1 ≤ ae) (ha' : ae ≤ 9) (hb : 1 ≤ bk) (hb' : bk ≤ 9) :
    Calls Try.prog 25 #[.agg #[.int .u16 av, .int .u16 ax, .int .u16 al, .int .i64 ae, .int .i64 ak], .agg #[.int .u16 bv, .int .u16 bx, .int .u16 bl, .int .i64 be, .int .i64 bk]] w fun r w' => r = .returned (.bool (meetC av ax al ae ak bv bx bl be bk)) ∧ Below w.heap.size w w' := by
  obtain ⟨hc0, hc1⟩ := cnt_le (bits .andNot .u16 (bits .or .u16 av ax) (bits .or .u16 bv bx))
  obtain ⟨hd0, hd1⟩ := cnt_le (bits .or .u16 bv bx)
  have hn0 := (bits_fit .andNot (bits .or .u16 av ax) (bits .or .u16 bv bx)).1
  have ho0 := (bits_fit .or bv bx).1
  go_enter Try.func25, Try.ntmps25
  go_wp2_with fail
  obtain ⟨U, f, hU, hf, hg⟩ := calm_class ((w.alloc (.cells #[.int .u16 av, .int .u16 ax, .int .u16 al, .int .i64 ae, .int .i64 ak] 33)).alloc (.cells #[.int .u16 bv, .int .u16 bx, .int .u16 bl, .int .i64 be, .int .i64 bk] 33))
  refine wp_region_calm f (by kernel_rfl) (by kernel_rfl) (hg _ (Below.refl _ _).drew) ?_
  have ka := calm_block hf (heap_prev _ (heap_last w (.cells #[.int .u16 av, .int .u16 ax, .int .u16 al, .int .i64 ae, .int .i64 ak] 33)))
  have kb := calm_block hf (heap_last (w.alloc (.cells #[.int .u16 av, .int .u16 ax, .int .u16 al, .int .i64 ae, .int .i64 ak] 33)) (.cells #[.int .u16 bv, .int .u16 bx, .int .u16 bl, .int .i64 be, .int .i64 bk] 33))
  simp only [World.size_alloc] at kb
  repeat (go_big_quiet_step ((first | (go_at_call 49; exact calm_of hf hg (votes_any _ _ _ _ _ _)) | (go_at_call 12; refine calm_of hf hg (count_any _ _ hn0)))))
  refine wpQuiet_nil ?_
  rintro _ ⟨u1, rfl⟩
  go_wp2
  all_goals
    refine wp_region_calm f (by kernel_rfl) (by kernel_rfl) (hg _ (hf u1).drew) ?_
    repeat (go_big_quiet_step ((first | (go_at_call 49; exact calm_of hf hg (votes_any _ _ _ _ _ _)) | (go_at_call 12; refine calm_of hf hg (count_any _ _ ho0)))))
    refine wpQuiet_nil ?_
    rintro _ ⟨u2, rfl⟩
    go_wp2
    go_ret
    exact ⟨ret_bool (by unfold meetC; rw [decide_eq_decide]; omega), (below_box _ _).trans ((below_box _ _).mono (by simp) |>.trans ((hf u2).mono (by simp; omega)))⟩
end Go.Proofs.Ytaaagidooieejaa
