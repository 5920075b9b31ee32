/- Contracts of package conf, three: who is in a joint. -/
import Derived.Test.YtaaagidooieejaaConf2
namespace Go.Proofs.Ytaaagidooieejaa
open Go.RowKit

set_option maxHeartbeats 400000 in
theorem Members1_any (cv cx cl ce ck : Int) (w : World) :
    Calls Try.prog 57 #[.agg #[.int .u16 cv, .int .u16 cx, .int .u16 cl, .int .i64 ce, .int .i64 ck]] w fun r w' => r = .returned (.int .u16 (bits .or .u16 (bits .or .u16 cv cx) cl)) ∧ Below w.heap.size w w' := by
  go_enter Try.func57, Try.ntmps57
  go_wp2
  go_ret
  exact ⟨rfl, below_box _ _⟩

set_option maxHeartbeats 1000000 in
theorem bothMembers_any (jov jox jol joe jok jnv jnx jnl jne jnk : Int) (jt : Bool) (w : World) :
    Calls Try.prog 55 #[.agg #[.int .u16 jov, .int .u16 jox, .int .u16 jol, .int .i64 joe, .int .i64 jok, .int .u16 jnv, .int .u16 jnx, .int .u16 jnl, .int .i64 jne, .int .i64 jnk, .bool jt], .func (.func 57) #[] #[]] w fun r w' => r = .returned (.int .u16 (pickB jt (bits .or .u16 (bits .or .u16 jov jox) jol) (bits .or .u16 (bits .or .u16 jnv jnx) jnl))) ∧ Below w.heap.size w w' := by
  cases jt
  · go_enter Try.func55, Try.ntmps55
    go_wp2_with (go_at_call 57; refine (Members1_any _ _ _ _ _ _).mono ?_; rintro r w1 ⟨rfl, hb⟩; replace hb := box_first hb)
    go_ret
    exact ⟨rfl, box_out hb⟩
  · go_enter Try.func55, Try.ntmps55
    go_wp2_with fail
    obtain ⟨U, f, hU, hf, hg⟩ := calm_class (w.alloc (.cells #[.int .u16 jov, .int .u16 jox, .int .u16 jol, .int .i64 joe, .int .i64 jok, .int .u16 jnv, .int .u16 jnx, .int .u16 jnl, .int .i64 jne, .int .i64 jnk, .bool true] 38))
    refine wp_region_calm f (by kernel_rfl) (by kernel_rfl) (hg _ (Below.refl _ _).drew) ?_
    have ka := calm_block hf (heap_last w (.cells #[.int .u16 jov, .int .u16 jox, .int .u16 jol, .int .i64 joe, .int .i64 jok, .int .u16 jnv, .int .u16 jnx, .int .u16 jnl, .int .i64 jne, .int .i64 jnk, .bool true] 38))
    repeat (go_big_quiet_step ((go_at_call 57; exact calm_of hf hg (Members1_any _ _ _ _ _ _))))
    refine wpQuiet_nil ?_
    rintro _ ⟨u1, rfl⟩
    go_wp2
    go_ret
    exact ⟨rfl, box_out (box_first (hf u1))⟩

set_option maxHeartbeats 400000 in
theorem confMembers_any (jov jox jol joe jok jnv jnx jnl jne jnk : Int) (jt : Bool) (w : World) :
    Calls Try.prog 32 #[.agg #[.int .u16 jov, .int .u16 jox, .int .u16 jol, .int .i64 joe, .int .i64 jok, .int .u16 jnv, .int .u16 jnx, .int .u16 jnl, .int .i64 jne, .int .i64 jnk, .bool jt]] w fun r w' => r = .returned (.int .u16 (pickB jt (bits .or .u16 (bits .or .u16 jov jox) jol) (bits .or .u16 (bits .or .u16 jnv jnx) jnl))) ∧ Below w.heap.size w w' := by
  go_enter Try.func32, Try.ntmps32
  go_wp2_with (go_at_call 55; refine (bothMembers_any _ _ _ _ _ _ _ _ _ _ _ _).mono ?_; rintro r w1 ⟨rfl, hb⟩; replace hb := box_first hb)
  go_ret
  exact ⟨rfl, box_out hb⟩
set_option maxHeartbeats 400000 in
theorem Voting1_any (cv cx cl ce ck : Int) (w : World) :
    Calls Try.prog 49 #[.agg #[.int .u16 cv, .int .u16 cx, .int .u16 cl, .int .i64 ce, .int .i64 ck]] w fun r w' => r = .returned (.int .u16 (bits .or .u16 cv cx)) ∧ Below w.heap.size w w' := by
  go_enter Try.func49, Try.ntmps49
  go_wp2
  go_ret
  exact ⟨rfl, below_box _ _⟩

set_option maxHeartbeats 1000000 in
theorem bothVoting_any (jov jox jol joe jok jnv jnx jnl jne jnk : Int) (jt : Bool) (w : World) :
    Calls Try.prog 55 #[.agg #[.int .u16 jov, .int .u16 jox, .int .u16 jol, .int .i64 joe, .int .i64 jok, .int .u16 jnv, .int .u16 jnx, .int .u16 jnl, .int .i64 jne, .int .i64 jnk, .bool jt], .func (.func 49) #[] #[]] w fun r w' => r = .returned (.int .u16 (pickB jt (bits .or .u16 jov jox) (bits .or .u16 jnv jnx))) ∧ Below w.heap.size w w' := by
  cases jt
  · go_enter Try.func55, Try.ntmps55
    go_wp2_with (go_at_call 49; refine (Voting1_any _ _ _ _ _ _).mono ?_; rintro r w1 ⟨rfl, hb⟩; replace hb := box_first hb)
    go_ret
    exact ⟨rfl, box_out hb⟩
  · go_enter Try.func55, Try.ntmps55
    go_wp2_with fail
    obtain ⟨U, f, hU, hf, hg⟩ := calm_class (w.alloc (.cells #[.int .u16 jov, .int .u16 jox, .int .u16 jol, .int .i64 joe, .int .i64 jok, .int .u16 jnv, .int .u16 jnx, .int .u16 jnl, .int .i64 jne, .int .i64 jnk, .bool true] 38))
    refine wp_region_calm f (by kernel_rfl) (by kernel_rfl) (hg _ (Below.refl _ _).drew) ?_
    have ka := calm_block hf (heap_last w (.cells #[.int .u16 jov, .int .u16 jox, .int .u16 jol, .int .i64 joe, .int .i64 jok, .int .u16 jnv, .int .u16 jnx, .int .u16 jnl, .int .i64 jne, .int .i64 jnk, .bool true] 38))
    repeat (go_big_quiet_step ((go_at_call 49; exact calm_of hf hg (Voting1_any _ _ _ _ _ _))))
    refine wpQuiet_nil ?_
    rintro _ ⟨u1, rfl⟩
    go_wp2
    go_ret
    exact ⟨rfl, box_out (box_first (hf u1))⟩

set_option maxHeartbeats 400000 in
theorem confVoting_any (jov jox jol joe jok jnv jnx jnl jne jnk : Int) (jt : Bool) (w : World) :
    Calls Try.prog 30 #[.agg #[.int .u16 jov, .int .u16 jox, .int .u16 jol, .int .i64 joe, .int .i64 jok, .int .u16 jnv, .int .u16 jnx, .int .u16 jnl, .int .i64 jne, .int .i64 jnk, .bool jt]] w fun r w' => r = .returned (.int .u16 (pickB jt (bits .or .u16 jov jox) (bits .or .u16 jnv jnx))) ∧ Below w.heap.size w w' := by
  go_enter Try.func30, Try.ntmps30
  go_wp2_with (go_at_call 55; refine (bothVoting_any _ _ _ _ _ _ _ _ _ _ _ _).mono ?_; rintro r w1 ⟨rfl, hb⟩; replace hb := box_first hb)
  go_ret
  exact ⟨rfl, box_out hb⟩
set_option maxHeartbeats 400000 in
theorem Data1_any (cv cx cl ce ck : Int) (w : World) :
    Calls Try.prog 58 #[.agg #[.int .u16 cv, .int .u16 cx, .int .u16 cl, .int .i64 ce, .int .i64 ck]] w fun r w' => r = .returned (.int .u16 (bits .or .u16 cv cl)) ∧ Below w.heap.size w w' := by
  go_enter Try.func58, Try.ntmps58
  go_wp2
  go_ret
  exact ⟨rfl, below_box _ _⟩

set_option maxHeartbeats 1000000 in
theorem bothData_any (jov jox jol joe jok jnv jnx jnl jne jnk : Int) (jt : Bool) (w : World) :
    Calls Try.prog 55 #[.agg #[.int .u16 jov, .int .u16 jox, .int .u16 jol, .int .i64 joe, .int .i64 jok, .int .u16 jnv, .int .u16 jnx, .int .u16 jnl, .int .i64 jne, .int .i64 jnk, .bool jt], .func (.func 58) #[] #[]] w fun r w' => r = .returned (.int .u16 (pickB jt (bits .or .u16 jov jol) (bits .or .u16 jnv jnl))) ∧ Below w.heap.size w w' := by
  cases jt
  · go_enter Try.func55, Try.ntmps55
    go_wp2_with (go_at_call 58; refine (Data1_any _ _ _ _ _ _).mono ?_; rintro r w1 ⟨rfl, hb⟩; replace hb := box_first hb)
    go_ret
    exact ⟨rfl, box_out hb⟩
  · go_enter Try.func55, Try.ntmps55
    go_wp2_with fail
    obtain ⟨U, f, hU, hf, hg⟩ := calm_class (w.alloc (.cells #[.int .u16 jov, .int .u16 jox, .int .u16 jol, .int .i64 joe, .int .i64 jok, .int .u16 jnv, .int .u16 jnx, .int .u16 jnl, .int .i64 jne, .int .i64 jnk, .bool true] 38))
    refine wp_region_calm f (by kernel_rfl) (by kernel_rfl) (hg _ (Below.refl _ _).drew) ?_
    have ka := calm_block hf (heap_last w (.cells #[.int .u16 jov, .int .u16 jox, .int .u16 jol, .int .i64 joe, .int .i64 jok, .int .u16 jnv, .int .u16 jnx, .int .u16 jnl, .int .i64 jne, .int .i64 jnk, .bool true] 38))
    repeat (go_big_quiet_step ((go_at_call 58; exact calm_of hf hg (Data1_any _ _ _ _ _ _))))
    refine wpQuiet_nil ?_
    rintro _ ⟨u1, rfl⟩
    go_wp2
    go_ret
    exact ⟨rfl, box_out (box_first (hf u1))⟩

set_option maxHeartbeats 400000 in
theorem confData_any (jov jox jol joe jok jnv jnx jnl jne jnk : Int) (jt : Bool) (w : World) :
    Calls Try.prog 35 #[.agg #[.int .u16 jov, .int .u16 jox, .int .u16 jol, .int .i64 joe, .int .i64 jok, .int .u16 jnv, .int .u16 jnx, .int .u16 jnl, .int .i64 jne, .int .i64 jnk, .bool jt]] w fun r w' => r = .returned (.int .u16 (pickB jt (bits .or .u16 jov jol) (bits .or .u16 jnv jnl))) ∧ Below w.heap.size w w' := by
  go_enter Try.func35, Try.ntmps35
  go_wp2_with (go_at_call 55; refine (bothData_any _ _ _ _ _ _ _ _ _ _ _ _).mono ?_; rintro r w1 ⟨rfl, hb⟩; replace hb := box_first hb)
  go_ret
  exact ⟨rfl, box_out hb⟩
set_option maxHeartbeats 400000 in
theorem Leads1_any (cv cx cl ce ck : Int) (w : World) :
    Calls Try.prog 59 #[.agg #[.int .u16 cv, .int .u16 cx, .int .u16 cl, .int .i64 ce, .int .i64 ck]] w fun r w' => r = .returned (.int .u16 (cv)) ∧ Below w.heap.size w w' := by
  go_enter Try.func59, Try.ntmps59
  go_wp2
  go_ret
  exact ⟨rfl, below_box _ _⟩

set_option maxHeartbeats 1000000 in
theorem bothLeads_any (jov jox jol joe jok jnv jnx jnl jne jnk : Int) (jt : Bool) (w : World) :
    Calls Try.prog 55 #[.agg #[.int .u16 jov, .int .u16 jox, .int .u16 jol, .int .i64 joe, .int .i64 jok, .int .u16 jnv, .int .u16 jnx, .int .u16 jnl, .int .i64 jne, .int .i64 jnk, .bool jt], .func (.func 59) #[] #[]] w fun r w' => r = .returned (.int .u16 (pickB jt (jov) (jnv))) ∧ Below w.heap.size w w' := by
  cases jt
  · go_enter Try.func55, Try.ntmps55
    go_wp2_with (go_at_call 59; refine (Leads1_any _ _ _ _ _ _).mono ?_; rintro r w1 ⟨rfl, hb⟩; replace hb := box_first hb)
    go_ret
    exact ⟨rfl, box_out hb⟩
  · go_enter Try.func55, Try.ntmps55
    go_wp2_with fail
    obtain ⟨U, f, hU, hf, hg⟩ := calm_class (w.alloc (.cells #[.int .u16 jov, .int .u16 jox, .int .u16 jol, .int .i64 joe, .int .i64 jok, .int .u16 jnv, .int .u16 jnx, .int .u16 jnl, .int .i64 jne, .int .i64 jnk, .bool true] 38))
    refine wp_region_calm f (by kernel_rfl) (by kernel_rfl) (hg _ (Below.refl _ _).drew) ?_
    have ka := calm_block hf (heap_last w (.cells #[.int .u16 jov, .int .u16 jox, .int .u16 jol, .int .i64 joe, .int .i64 jok, .int .u16 jnv, .int .u16 jnx, .int .u16 jnl, .int .i64 jne, .int .i64 jnk, .bool true] 38))
    repeat (go_big_quiet_step ((go_at_call 59; exact calm_of hf hg (Leads1_any _ _ _ _ _ _))))
    refine wpQuiet_nil ?_
    rintro _ ⟨u1, rfl⟩
    go_wp2
    go_ret
    exact ⟨rfl, box_out (box_first (hf u1))⟩

set_option maxHeartbeats 400000 in
theorem confLeads_any (jov jox jol joe jok jnv jnx jnl jne jnk n : Int) (jt : Bool) (w : World) (ho : 0 ≤ jov) :
    Calls Try.prog 37 #[.agg #[.int .u16 jov, .int .u16 jox, .int .u16 jol, .int .i64 joe, .int .i64 jok, .int .u16 jnv, .int .u16 jnx, .int .u16 jnl, .int .i64 jne, .int .i64 jnk, .bool jt], .int .i64 n] w fun r w' => r = .returned (.bool (hasB (pickB jt jov jnv) n)) ∧ Below w.heap.size w w' := by
  have h0 := pickB_0 jt jov jnv ho
  go_enter Try.func37, Try.ntmps37
  go_wp2_with fail
  refine (bothLeads_any _ _ _ _ _ _ _ _ _ _ _ _).mono ?_; rintro r w1 ⟨rfl, hb⟩; replace hb := box_first hb
  go_wp2_with fail
  refine (has_any _ _ _ h0).mono ?_; rintro r w2 ⟨rfl, rfl⟩
  go_wp2_with fail
  go_ret
  exact ⟨rfl, box_out hb⟩
end Go.Proofs.Ytaaagidooieejaa
