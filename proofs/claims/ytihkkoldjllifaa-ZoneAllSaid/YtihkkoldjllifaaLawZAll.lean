/- ZoneAll: for every list of regions, zone and loads (30 numbers each at most; others are let through): where replicas lie, which zones are refused, and why, is what the reference answers; no condition. -/
import Derived.Test.YtihkkoldjllifaaBegun11
import Derived.Test.YtihkkoldjllifaaZoneJ
import Derived.Test.YtihkkoldjllifaaLight11
import Derived.Test.YtihkkoldjllifaaOpenZone
import Derived.Test.YtihkkoldjllifaaRows
namespace Go.Proofs.Ytihkkoldjllifaa
open Go.ChangeShapes Go.WideShapes Go.ChangeAt Go.RowKit

theorem mayZone_is (z : Zn) (pv pw pl : Option Addr) (cv cw cl : Nat) (l0 : z.v.length ≤ 1000) (l1 : z.w.length ≤ 1000) (l2 : z.l.length ≤ 1000) (w : World) (hz : ZoneAt w z pv pw pl) {b : Bool} (h : Hid (mayZ z = b)) :
    Calls Try.prog 27 #[.agg #[.slice pv z.v.length cv, .slice pw z.w.length cw, .slice pl z.l.length cl, .int .i64 z.e, .int .i64 z.k, .int .i64 z.s]] w fun r w' => r = .returned (.bool b) ∧ Below w.heap.size w w' := by
  have := mayZone_any z pv pw pl cv cw cl l0 l1 l2 w hz
  rw [h.out] at this; exact this
theorem refMayZone_is (z : Zn) (pv pw pl : Option Addr) (cv cw cl : Nat) (l0 : z.v.length ≤ 1000) (l1 : z.w.length ≤ 1000) (l2 : z.l.length ≤ 1000) (w : World) (hz : ZoneAt w z pv pw pl) {b : Bool} (h : Hid (mayZ z = b)) :
    Calls Try.prog 28 #[.agg #[.slice pv z.v.length cv, .slice pw z.w.length cw, .slice pl z.l.length cl, .int .i64 z.e, .int .i64 z.k, .int .i64 z.s]] w fun r w' => r = .returned (.bool b) ∧ Below w.heap.size w w' := by
  have := refMayZone_any z pv pw pl cv cw cl l0 l1 l2 w hz
  rw [h.out] at this; exact this
section
variable (rs load : List Int) (z : Zn) (p pld pv pw pl : Option Addr) (cap capl cv cw cl : Nat)
theorem light_is (w : World) (hr : rs.length ≤ maxLen) (h0 : z.v.length ≤ maxLen) (h1 : z.w.length ≤ maxLen) (h2 : z.l.length ≤ maxLen) (h3 : load.length ≤ maxLen) {b : Bool} (h : Hid (lightB rs load z = b)) :
    Calls Try.prog 22 #[.slice p rs.length cap, .agg #[.slice pv z.v.length cv, .slice pw z.w.length cw, .slice pl z.l.length cl, .int .i64 z.e, .int .i64 z.k, .int .i64 z.s], .slice pld load.length capl] w fun r w' => r = .returned (.bool b) ∧ Below w.heap.size w w' := by
  have := light_any rs load z p pld pv pw pl cap capl cv cw cl w hr h0 h1 h2 h3
  rw [h.out] at this; exact this
theorem check_is (hl : rs.length ≤ 1000) (hll : load.length ≤ 1000) (l0 : z.v.length ≤ 1000) (l1 : z.w.length ≤ 1000) (l2 : z.l.length ≤ 1000) (w : World) (hc : NumsAt w p rs) (hcl : NumsAt w pld load) (hz : ZoneAt w z pv pw pl) {v x l e k err : Int} (h : Hid (checkP rs load z = (⟨v, x, l, e, k⟩, err))) :
    Calls Try.prog 25 #[.slice p rs.length cap, .agg #[.slice pv z.v.length cv, .slice pw z.w.length cw, .slice pl z.l.length cl, .int .i64 z.e, .int .i64 z.k, .int .i64 z.s], .slice pld load.length capl] w fun r w' => r = .returned (.tuple #[.agg #[.int .u16 v, .int .u16 x, .int .u16 l, .int .i64 e, .int .i64 k], .int .i64 err]) ∧ Below w.heap.size w w' := by
  have := check_any rs load z p pld pv pw pl cap capl cv cw cl hl hll l0 l1 l2 w hc hcl hz
  rw [h.out] at this; exact this
theorem refCheck_is (hl : rs.length ≤ 1000) (hll : load.length ≤ 1000) (l0 : z.v.length ≤ 1000) (l1 : z.w.length ≤ 1000) (l2 : z.l.length ≤ 1000) (w : World) (hc : NumsAt w p rs) (hcl : NumsAt w pld load) (hz : ZoneAt w z pv pw pl) {v x l e k err : Int} (h : Hid (checkP rs load z = (⟨v, x, l, e, k⟩, err))) :
    Calls Try.prog 26 #[.slice p rs.length cap, .agg #[.slice pv z.v.length cv, .slice pw z.w.length cw, .slice pl z.l.length cl, .int .i64 z.e, .int .i64 z.k, .int .i64 z.s], .slice pld load.length capl] w fun r w' => r = .returned (.tuple #[.agg #[.int .u16 v, .int .u16 x, .int .u16 l, .int .i64 e, .int .i64 k], .int .i64 err]) ∧ Below w.heap.size w w' := by
  have := refCheck_any rs load z p pld pv pw pl cap capl cv cw cl hl hll l0 l1 l2 w hc hcl hz
  rw [h.out] at this; exact this
set_option maxRecDepth 100000 in
set_option maxHeartbeats 8000000 in
theorem zall_walk (w : World) (hr : rs.length ≤ maxLen) (m0 : z.v.length ≤ maxLen) (m1 : z.w.length ≤ maxLen) (m2 : z.l.length ≤ maxLen) (m3 : load.length ≤ maxLen) (hc : NumsAt w p rs) (hcl : NumsAt w pld load) (hz : ZoneAt w z pv pw pl) :
    Calls Try.prog 7 #[.slice p rs.length cap, .agg #[.slice pv z.v.length cv, .slice pw z.w.length cw, .slice pl z.l.length cl, .int .i64 z.e, .int .i64 z.k, .int .i64 z.s], .slice pld load.length capl] w fun r w' => r = .returned (.bool true) ∧ Below w.heap.size w w' := by
  have HC := Lib.hid hc; have HCL := Lib.hid hcl; have HZ := Lib.hid hz
  clear hc hcl hz
  cases hlt : lightB rs load z
  · have HLT := Lib.hid hlt
    clear hlt
    go_enter Try.func7, Try.ntmps7
    go_wp2_with fail
    refine (begun11_any _).mono ?_; rintro r w1 ⟨rfl, hb1⟩
    have hA1 := below_block hb1 (by simp) (heap_last w (.cells #[.slice pv z.v.length cv, .slice pw z.w.length cw, .slice pl z.l.length cl, .int .i64 z.e, .int .i64 z.k, .int .i64 z.s] 43))
    have HB1 := Lib.hid (box_out (box_first hb1))
    have kA := block_cells hA1
    clear hb1 hA1
    go_wp2_with fail
    refine (light_is rs load z p pld pv pw pl cap capl cv cw cl _ hr m0 m1 m2 m3 HLT).mono ?_; rintro r w2 ⟨rfl, hb2⟩
    have HB2 := Lib.hid (bstep HB1.out hb2)
    clear hb2 kA
    go_wp2_with fail
    go_ret
    exact ⟨rfl, HB2.out⟩
  · have HLT := Lib.hid hlt
    obtain ⟨q0, q1, q2, q3, q4⟩ := lightB_iff hlt
    obtain ⟨⟨⟨av, ax, al, ae, ak⟩, ea⟩, hAl⟩ : ∃ A, allotP rs load z = A := ⟨_, rfl⟩
    obtain ⟨⟨⟨dv, dx, dl, de, dk⟩, ed⟩, hCh⟩ : ∃ A, checkP rs load z = A := ⟨_, rfl⟩
    obtain ⟨M, hM⟩ : ∃ M, mayZ z = M := ⟨_, rfl⟩
    have HAl := Lib.hid hAl; have HCh := Lib.hid hCh; have HM := Lib.hid hM
    clear hlt hAl hCh hM
    go_enter Try.func7, Try.ntmps7
    go_wp2_with fail
    refine (begun11_any _).mono ?_; rintro r w1 ⟨rfl, hb1⟩
    have hA := below_block hb1 (by simp) (heap_last w (.cells #[.slice pv z.v.length cv, .slice pw z.w.length cw, .slice pl z.l.length cl, .int .i64 z.e, .int .i64 z.k, .int .i64 z.s] 43))
    have HB1 := Lib.hid (box_out (box_first hb1))
    have kA := block_cells hA
    clear hb1
    go_wp2_with fail
    refine (light_is rs load z p pld pv pw pl cap capl cv cw cl _ hr m0 m1 m2 m3 HLT).mono ?_; rintro r w2 ⟨rfl, hb2⟩
    replace hA := below_block hb2 (block_lt hA) hA
    have HB2 := Lib.hid (bstep HB1.out hb2)
    clear hb2 kA
    have kA := block_cells hA
    have N0 := Lib.hid (HC.out.keep HB2.out (Nat.le_refl _)); have L0 := Lib.hid (HCL.out.keep HB2.out (Nat.le_refl _)); have Z0 := Lib.hid (HZ.out.keep HB2.out (Nat.le_refl _))
    go_wp2_with fail
    refine (allot_is rs load z p pld pv pw pl cap capl cv cw cl (by omega) (by omega) (by omega) (by omega) (by omega) _ N0.out L0.out Z0.out HAl).mono ?_; rintro r w3 ⟨rfl, hb⟩
    have hA' := heap_prev (.cells #[.int .u16 av, .int .u16 ax, .int .u16 al, .int .i64 ae, .int .i64 ak] 39) (below_block hb (block_lt hA) hA)
    have hX0 := heap_last w3 (.cells #[.int .u16 av, .int .u16 ax, .int .u16 al, .int .i64 ae, .int .i64 ak] 39)
    have HB3 : Hid (Below w.heap.size w (w3.alloc (.cells #[.int .u16 av, .int .u16 ax, .int .u16 al, .int .i64 ae, .int .i64 ak] 39))) := (bstep HB2.out hb).alloc (bstep HB2.out hb).size _
    clear kA hb hA
    have hA := hA'; clear hA'
    go_upto_region 6 with fail
    obtain ⟨D0, hD0⟩ : ∃ D, w3.heap.size = D := ⟨_, rfl⟩
    rw [hD0] at hX0 ⊢
    obtain ⟨W3, hW0⟩ : ∃ W, w3.alloc (.cells #[.int .u16 av, .int .u16 ax, .int .u16 al, .int .i64 ae, .int .i64 ak] 39) = W := ⟨_, rfl⟩
    rw [hW0] at hA hX0 HB3 ⊢
    clear hD0 hW0
    have kA := block_cells hA
    have N1 := Lib.hid (HC.out.keep HB3.out (Nat.le_refl _)); have L1 := Lib.hid (HCL.out.keep HB3.out (Nat.le_refl _)); have Z1 := Lib.hid (HZ.out.keep HB3.out (Nat.le_refl _))
    go_wp2_with fail
    refine (refAllot_is rs load z p pld pv pw pl cap capl cv cw cl (by omega) (by omega) (by omega) (by omega) (by omega) _ N1.out L1.out Z1.out HAl).mono ?_; rintro r w4 ⟨rfl, hb⟩
    have hA' := heap_prev (.cells #[.int .u16 av, .int .u16 ax, .int .u16 al, .int .i64 ae, .int .i64 ak] 39) (below_block hb (block_lt hA) hA)
    have hX0' := heap_prev (.cells #[.int .u16 av, .int .u16 ax, .int .u16 al, .int .i64 ae, .int .i64 ak] 39) (below_block hb (block_lt hX0) hX0)
    have hX1 := heap_last w4 (.cells #[.int .u16 av, .int .u16 ax, .int .u16 al, .int .i64 ae, .int .i64 ak] 39)
    have HB4 : Hid (Below w.heap.size w (w4.alloc (.cells #[.int .u16 av, .int .u16 ax, .int .u16 al, .int .i64 ae, .int .i64 ak] 39))) := (bstep HB3.out hb).alloc (bstep HB3.out hb).size _
    clear kA hb hA hX0
    have hA := hA'; clear hA'
    have hX0 := hX0'; clear hX0'
    go_upto_region 7 with fail
    obtain ⟨D1, hD1⟩ : ∃ D, w4.heap.size = D := ⟨_, rfl⟩
    rw [hD1] at hX1 ⊢
    obtain ⟨W4, hW1⟩ : ∃ W, w4.alloc (.cells #[.int .u16 av, .int .u16 ax, .int .u16 al, .int .i64 ae, .int .i64 ak] 39) = W := ⟨_, rfl⟩
    rw [hW1] at hA hX0 hX1 HB4 ⊢
    clear hD1 hW1
    have kA := block_cells hA
    have N2 := Lib.hid (HC.out.keep HB4.out (Nat.le_refl _)); have L2 := Lib.hid (HCL.out.keep HB4.out (Nat.le_refl _)); have Z2 := Lib.hid (HZ.out.keep HB4.out (Nat.le_refl _))
    go_wp2_with fail
    refine (check_is rs load z p pld pv pw pl cap capl cv cw cl (by omega) (by omega) (by omega) (by omega) (by omega) _ N2.out L2.out Z2.out HCh).mono ?_; rintro r w5 ⟨rfl, hb⟩
    have hA' := heap_prev (.cells #[.int .u16 dv, .int .u16 dx, .int .u16 dl, .int .i64 de, .int .i64 dk] 39) (below_block hb (block_lt hA) hA)
    have hX0' := heap_prev (.cells #[.int .u16 dv, .int .u16 dx, .int .u16 dl, .int .i64 de, .int .i64 dk] 39) (below_block hb (block_lt hX0) hX0)
    have hX1' := heap_prev (.cells #[.int .u16 dv, .int .u16 dx, .int .u16 dl, .int .i64 de, .int .i64 dk] 39) (below_block hb (block_lt hX1) hX1)
    have hX2 := heap_last w5 (.cells #[.int .u16 dv, .int .u16 dx, .int .u16 dl, .int .i64 de, .int .i64 dk] 39)
    have HB5 : Hid (Below w.heap.size w (w5.alloc (.cells #[.int .u16 dv, .int .u16 dx, .int .u16 dl, .int .i64 de, .int .i64 dk] 39))) := (bstep HB4.out hb).alloc (bstep HB4.out hb).size _
    clear kA hb hA hX0 hX1
    have hA := hA'; clear hA'
    have hX0 := hX0'; clear hX0'
    have hX1 := hX1'; clear hX1'
    go_upto_region 8 with fail
    obtain ⟨D2, hD2⟩ : ∃ D, w5.heap.size = D := ⟨_, rfl⟩
    rw [hD2] at hX2 ⊢
    obtain ⟨W5, hW2⟩ : ∃ W, w5.alloc (.cells #[.int .u16 dv, .int .u16 dx, .int .u16 dl, .int .i64 de, .int .i64 dk] 39) = W := ⟨_, rfl⟩
    rw [hW2] at hA hX0 hX1 hX2 HB5 ⊢
    clear hD2 hW2
    have kA := block_cells hA
    have N3 := Lib.hid (HC.out.keep HB5.out (Nat.le_refl _)); have L3 := Lib.hid (HCL.out.keep HB5.out (Nat.le_refl _)); have Z3 := Lib.hid (HZ.out.keep HB5.out (Nat.le_refl _))
    go_wp2_with fail
    refine (refCheck_is rs load z p pld pv pw pl cap capl cv cw cl (by omega) (by omega) (by omega) (by omega) (by omega) _ N3.out L3.out Z3.out HCh).mono ?_; rintro r w6 ⟨rfl, hb⟩
    have hA' := heap_prev (.cells #[.int .u16 dv, .int .u16 dx, .int .u16 dl, .int .i64 de, .int .i64 dk] 39) (below_block hb (block_lt hA) hA)
    have hX0' := heap_prev (.cells #[.int .u16 dv, .int .u16 dx, .int .u16 dl, .int .i64 de, .int .i64 dk] 39) (below_block hb (block_lt hX0) hX0)
    have hX1' := heap_prev (.cells #[.int .u16 dv, .int .u16 dx, .int .u16 dl, .int .i64 de, .int .i64 dk] 39) (below_block hb (block_lt hX1) hX1)
    have hX2' := heap_prev (.cells #[.int .u16 dv, .int .u16 dx, .int .u16 dl, .int .i64 de, .int .i64 dk] 39) (below_block hb (block_lt hX2) hX2)
    have hX3 := heap_last w6 (.cells #[.int .u16 dv, .int .u16 dx, .int .u16 dl, .int .i64 de, .int .i64 dk] 39)
    have HB6 : Hid (Below w.heap.size w (w6.alloc (.cells #[.int .u16 dv, .int .u16 dx, .int .u16 dl, .int .i64 de, .int .i64 dk] 39))) := (bstep HB5.out hb).alloc (bstep HB5.out hb).size _
    clear kA hb hA hX0 hX1 hX2
    have hA := hA'; clear hA'
    have hX0 := hX0'; clear hX0'
    have hX1 := hX1'; clear hX1'
    have hX2 := hX2'; clear hX2'
    go_upto_region 9 with fail
    obtain ⟨D3, hD3⟩ : ∃ D, w6.heap.size = D := ⟨_, rfl⟩
    rw [hD3] at hX3 ⊢
    obtain ⟨W6, hW3⟩ : ∃ W, w6.alloc (.cells #[.int .u16 dv, .int .u16 dx, .int .u16 dl, .int .i64 de, .int .i64 dk] 39) = W := ⟨_, rfl⟩
    rw [hW3] at hA hX0 hX1 hX2 hX3 HB6 ⊢
    clear hD3 hW3
    obtain ⟨U, f, hU, hf, hg⟩ := calm_class (W6); obtain ⟨u0, hu0⟩ := hg _ (Below.refl _ _); rw [hu0]; clear hu0
    have kA := fun u => block_cells (calm_heap hf hA u)
    have kX0 := fun u => block_cells (calm_heap hf hX0 u)
    have kX1 := fun u => block_cells (calm_heap hf hX1 u)
    have kX2 := fun u => block_cells (calm_heap hf hX2 u)
    have kX3 := fun u => block_cells (calm_heap hf hX3 u)
    have HZu : Hid (∀ u, ZoneAt (f u) z pv pw pl) := fun u => HZ.out.keep (HB6.out.trans ((hf u).mono HB6.out.size)) (Nat.le_refl _)
    have HBF : Hid (∀ u, Below w.heap.size w (f u)) := fun u => HB6.out.trans ((hf u).mono HB6.out.size)
    clear hA hX0 hX1 hX2 hX3
    refine wp_region_calm f (by kernel_rfl) (by kernel_rfl) (calm_drew hf hg _) ?_
    repeat (go_big_quiet_step ((first | (go_at_call 27; exact calm_of hf hg (mayZone_is z pv pw pl cv cw cl (by omega) (by omega) (by omega) _ (HZu.out _) HM)) | (go_at_call 28; exact calm_of hf hg (refMayZone_is z pv pw pl cv cw cl (by omega) (by omega) (by omega) _ (HZu.out _) HM)))))
    refine wpQuiet_nil ?_; rintro _ ⟨u, rfl⟩
    go_wp2_with fail
    go_ret
    exact ⟨rfl, HBF.out _⟩
end
theorem zall_sl (rs load : List Int) (z : Zn) (pv pw pl : Option Addr) (cv cw cl : Nat) (v0 v2 : Value) (w : World) (hs : Sl w.heap.size w v0 1 rs.length (rs.map (.int .i64))) (hs2 : Sl w.heap.size w v2 1 load.length (load.map (.int .i64)))
    (hz : ZoneAt w z pv pw pl) (m0 : z.v.length ≤ maxLen) (m1 : z.w.length ≤ maxLen) (m2 : z.l.length ≤ maxLen) :
    Calls Try.prog 7 #[v0, .agg #[.slice pv z.v.length cv, .slice pw z.w.length cw, .slice pl z.l.length cl, .int .i64 z.e, .int .i64 z.k, .int .i64 z.s], v2] w fun r w' => r = .returned (.bool true) ∧ Below w.heap.size w w' := by
  obtain ⟨p, cap, rfl, hx, hn⟩ := NumsAt.of_sl hs (Nat.le_refl _)
  obtain ⟨pld, capl, rfl, hx2, hn2⟩ := NumsAt.of_sl hs2 (Nat.le_refl _)
  exact zall_walk rs load z p pld pv pw pl cap capl cv cw cl w hx m0 m1 m2 hx2 hn hn2 hz

set_option maxRecDepth 100000 in
theorem zall_lifted (os : Os) (started : os.Started) (H : Type) (enc : TypeId × Value → H) :
    ReturnsInHanded {} Try.checked os 7 .any (Rows.zoneAllSpec.pre6 enc Try.prog Try.f7 Rows.zoneAllRow.domain false) (Rows.zoneAllSpec.post enc Try.prog Try.f7 false true false false) := by
  refine lift_law (C := Try.checked) (tb := 4) (by kernel_rfl) started (by kernel_rfl) Try.func7 (ChangeSpec.witness6 (enc := enc) (C := Try.checked) false ⟨#[], #[.slice none 0 0, .agg #[.slice none 0 0, .slice none 0 0, .slice none 0 0, .int .i64 0, .int .i64 0, .int .i64 0], .slice none 0 0], []⟩ 8 (by kernel_rfl) (by kernel_rfl) (by kernel_rfl) (by kernel_rfl)) (by kernel_rfl) (by kernel_rfl) rfl Try.underlying4 rfl ?_ ?_
  · intro ds h
    match ds, h with
    | [_, _, _], _ => rfl
  · intro W base args ds ps hval0 hA0 hlt hsz
    have hval : ∀ (j : Nat) t v, Try.f7.params[j]? = some t → args[j]? = some v → Value.okWide Try.prog W .any base t v := hval0
    have hA : DataW.TrodAll enc Try.prog W 0 (fun _ => true) true Try.f7.params.toList args.toList ds ps := hA0
    rw [Try.params7] at hA hval
    obtain ⟨v0, v1, v2, d0, d1, d2, p0, p1, p2, rfl, rfl, rfl, h0, h1, h2⟩ := trodAll_three hA
    obtain ⟨rs, hs, -⟩ := open_nums Try.underlying35 Try.underlying3 (by kernel_rfl) (hval 0 35 v0 rfl rfl) h0
    obtain ⟨z, pv, pw, pl, cv, cw, cl, rfl, hz, m0, m1, m2⟩ := open_zone (hval 1 43 v1 rfl rfl) h1
    obtain ⟨load, hs2, -⟩ := open_nums Try.underlying35 Try.underlying3 (by kernel_rfl) (hval 2 35 v2 rfl rfl) h2
    exact zall_sl rs load z pv pw pl cv cw cl v0 v2 W hs hs2 hz m0 m1 m2

theorem zall_holds : Rows.ZoneAllSaid :=
  OpenClaim.holds_of_wide 7 Try.f7 rfl rfl rfl rfl rfl rfl rfl ⟨rfl, rfl, rfl, rfl, rfl⟩ rfl rfl rfl rfl rfl (by kernel_rfl) Try.func7 (by kernel_rfl)
    (of_decide_eq_true (by kernel_rfl)) (by unfold Func.isWrapper; first | (rw [if_pos (by decide +kernel)]; kernel_rfl) | (rw [if_neg (by decide +kernel)]; exact ⟨rfl, rfl⟩))
    (fun os started H enc _ => zall_lifted os started H enc)
#print axioms zall_holds

end Go.Proofs.Ytihkkoldjllifaa
