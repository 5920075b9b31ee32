/- ZoneRight: for every list of regions, zone and loads (30 numbers each at most; others are let through): what Check lets through has just what the zone asks for, region by region, and elects and commits without any one region (node); what it refuses as ErrZone does not; no condition. -/
import Derived.Test.YtihkkoldjllifaaBegun11
import Derived.Test.YtihkkoldjllifaaPlainRightD
import Derived.Test.YtihkkoldjllifaaLight11
import Derived.Test.YtihkkoldjllifaaOpenZone
import Derived.Test.YtihkkoldjllifaaRef10d
import Derived.Test.YtihkkoldjllifaaRows
namespace Go.Proofs.Ytihkkoldjllifaa
open Go.ChangeShapes Go.WideShapes Go.ChangeAt Go.RowKit

section
variable (av ax al ae ak g : Int) (fc : FitC av ax al) (g0 : 0 ≤ g) (g1 : g ≤ 65535) (w : World)
include fc g0 g1
theorem refElects0_is {b : Bool} (h : Hid (electsC av ax al ae ak g = b)) : Calls Try.prog 33 #[.agg #[.int .u16 av, .int .u16 ax, .int .u16 al, .int .i64 ae, .int .i64 ak, .int .u16 0, .int .u16 0, .int .u16 0, .int .i64 0, .int .i64 0, .bool false], .int .u16 g] w fun r w' => r = .returned (.bool b) ∧ Below w.heap.size w w' := by
  have f0 : FitC 0 0 0 := ⟨by decide, by decide, by decide, by decide, by decide, by decide⟩
  have := refElects_any av ax al ae ak 0 0 0 0 0 g false fc f0 g0 g1 w
  rw [elects_same av ax al ae ak 0 0 0 0 0 g false fc f0 g0, show electsJ av ax al ae ak 0 0 0 0 0 false g = b by unfold electsJ; rw [h.out]; simp] at this; exact this
theorem refCommits0_is {b : Bool} (h : Hid (commitsC av ax al ae ak g = b)) : Calls Try.prog 34 #[.agg #[.int .u16 av, .int .u16 ax, .int .u16 al, .int .i64 ae, .int .i64 ak, .int .u16 0, .int .u16 0, .int .u16 0, .int .i64 0, .int .i64 0, .bool false], .int .u16 g] w fun r w' => r = .returned (.bool b) ∧ Below w.heap.size w w' := by
  have f0 : FitC 0 0 0 := ⟨by decide, by decide, by decide, by decide, by decide, by decide⟩
  have := refCommits_any av ax al ae ak 0 0 0 0 0 g false fc f0 g0 g1 w
  rw [commits_same av ax al ae ak 0 0 0 0 0 g false fc f0 g0, show commitsJ av ax al ae ak 0 0 0 0 0 false g = b by unfold commitsJ; rw [h.out]; simp] at this; exact this
end
theorem refMeet9_is (a b : Int) (w : World) (a0 : 0 ≤ a) (a1 : a ≤ 65535) (b0 : 0 ≤ b) (b1 : b ≤ 65535) {M : Int} (h : Hid (meetB a b = M)) : Calls Try.prog 35 #[.int .u16 a, .int .u16 b] w fun e w' => e = .returned (.int .u16 M) ∧ w = w' := by
  have := refMeet_any a b w a0 a1 b0 b1
  rw [h.out] at this; exact this
theorem mayZ_s {z : Zn} (h : mayZ z = true) : z.s = 0 ∨ z.s = 1 ∨ z.s = 2 := by
  unfold mayZ at h
  simp only [Bool.and_eq_true, decide_eq_true_eq] at h
  obtain ⟨_, _, _, _, _, a, b⟩ := h; omega
section
variable (rs load : List Int) (z : Zn) (p pld pv pw pl : Option Addr) (cap capl cv cw cl : Nat)
theorem light_is' (w : World) (hr : rs.length ≤ maxLen) (h0 : z.v.length ≤ maxLen) (h1 : z.w.length ≤ maxLen) (h2 : z.l.length ≤ maxLen) (h3 : load.length ≤ maxLen) {b : Bool} (h : Hid (lightB rs load z = b)) :
    Calls Try.prog 22 #[.slice p rs.length cap, .agg #[.slice pv z.v.length cv, .slice pw z.w.length cw, .slice pl z.l.length cl, .int .i64 z.e, .int .i64 z.k, .int .i64 z.s], .slice pld load.length capl] w fun r w' => r = .returned (.bool b) ∧ Below w.heap.size w w' := by
  have := light_any rs load z p pld pv pw pl cap capl cv cw cl w hr h0 h1 h2 h3
  rw [h.out] at this; exact this
theorem check_is' (hl : rs.length ≤ 1000) (hll : load.length ≤ 1000) (l0 : z.v.length ≤ 1000) (l1 : z.w.length ≤ 1000) (l2 : z.l.length ≤ 1000) (w : World) (hc : NumsAt w p rs) (hcl : NumsAt w pld load) (hz : ZoneAt w z pv pw pl) {v x l e k err : Int} (h : Hid (checkP rs load z = (⟨v, x, l, e, k⟩, err))) :
    Calls Try.prog 25 #[.slice p rs.length cap, .agg #[.slice pv z.v.length cv, .slice pw z.w.length cw, .slice pl z.l.length cl, .int .i64 z.e, .int .i64 z.k, .int .i64 z.s], .slice pld load.length capl] w fun r w' => r = .returned (.tuple #[.agg #[.int .u16 v, .int .u16 x, .int .u16 l, .int .i64 e, .int .i64 k], .int .i64 err]) ∧ Below w.heap.size w w' := by
  have := check_any rs load z p pld pv pw pl cap capl cv cw cl hl hll l0 l1 l2 w hc hcl hz
  rw [h.out] at this; exact this
end
end Go.Proofs.Ytihkkoldjllifaa
