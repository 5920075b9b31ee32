/- antipodelaw11.Light. -/
import Derived.Test.YtihkkoldjllifaaZoneF
namespace Go.Proofs.Ytihkkoldjllifaa
open Go.RowKit

def lightB (rs load : List Int) (z : Zn) : Bool := decide (rs.length ≤ 30) && (decide (z.v.length ≤ 30) && (decide (z.w.length ≤ 30) && (decide (z.l.length ≤ 30) && decide (load.length ≤ 30))))
theorem lightB_iff {rs load : List Int} {z : Zn} (h : lightB rs load z = true) : rs.length ≤ 30 ∧ z.v.length ≤ 30 ∧ z.w.length ≤ 30 ∧ z.l.length ≤ 30 ∧ load.length ≤ 30 := by
  unfold lightB at h; simp only [Bool.and_eq_true, decide_eq_true_eq] at h; exact h
section
variable (rs load : List Int) (z : Zn) (p pld pv pw pl : Option Addr) (cap capl cv cw cl : Nat)
set_option maxHeartbeats 2000000 in
theorem light_any (w : World) (hr : rs.length ≤ maxLen) (h0 : z.v.length ≤ maxLen) (h1 : z.w.length ≤ maxLen) (h2 : z.l.length ≤ maxLen) (h3 : load.length ≤ maxLen) :
    Calls Try.prog 22 #[.slice p rs.length cap, .agg #[.slice pv z.v.length cv, .slice pw z.w.length cw, .slice pl z.l.length cl, .int .i64 z.e, .int .i64 z.k, .int .i64 z.s], .slice pld load.length capl] w fun r w' => r = .returned (.bool (lightB rs load z)) ∧ Below w.heap.size w w' := by
  unfold maxLen at hr h0 h1 h2 h3
  have hB := below_box w (.cells #[.slice pv z.v.length cv, .slice pw z.w.length cw, .slice pl z.l.length cl, .int .i64 z.e, .int .i64 z.k, .int .i64 z.s] 43)
  have HB := Lib.hid hB
  clear hB
  by_cases a : rs.length ≤ 30
  · by_cases b : z.v.length ≤ 30
    · by_cases c : z.w.length ≤ 30
      · by_cases d : z.l.length ≤ 30
        · by_cases e : load.length ≤ 30
          · have HX : Hid (lightB rs load z = true) := by show _ = _; unfold lightB; simp [a, b, c, d, e]
            have hd : decide ((load.length : Int) ≤ 30) = true := by simp; omega
            go_enter Try.func22, Try.ntmps22
            go_wp2_with fail
            go_ret
            exact ⟨ret_bool (by rw [HX.out]), HB.out⟩
          · have HX : Hid (lightB rs load z = false) := by show _ = _; unfold lightB; simp [e]
            have hd : decide ((load.length : Int) ≤ 30) = false := by simp; omega
            go_enter Try.func22, Try.ntmps22
            go_wp2_with fail
            go_ret
            exact ⟨ret_bool (by rw [HX.out]), HB.out⟩
        · have HX : Hid (lightB rs load z = false) := by show _ = _; unfold lightB; simp [d]
          have hd : decide ((z.l.length : Int) ≤ 30) = false := by simp; omega
          go_enter Try.func22, Try.ntmps22
          go_wp2_with fail
          go_ret
          exact ⟨ret_bool (by rw [HX.out]), HB.out⟩
      · have HX : Hid (lightB rs load z = false) := by show _ = _; unfold lightB; simp [c]
        have hd : decide ((z.w.length : Int) ≤ 30) = false := by simp; omega
        go_enter Try.func22, Try.ntmps22
        go_wp2_with fail
        go_ret
        exact ⟨ret_bool (by rw [HX.out]), HB.out⟩
    · have HX : Hid (lightB rs load z = false) := by show _ = _; unfold lightB; simp [b]
      have hd : decide ((z.v.length : Int) ≤ 30) = false := by simp; omega
      go_enter Try.func22, Try.ntmps22
      go_wp2_with fail
      go_ret
      exact ⟨ret_bool (by rw [HX.out]), HB.out⟩
  · have HX : Hid (lightB rs load z = false) := by show _ = _; unfold lightB; simp [a]
    have hd : decide ((rs.length : Int) ≤ 30) = false := by simp; omega
    go_enter Try.func22, Try.ntmps22
    go_wp2_with fail
    go_ret
    exact ⟨ret_bool (by rw [HX.out]), HB.out⟩
end
end Go.Proofs.Ytihkkoldjllifaa
