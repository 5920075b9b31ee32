/- ZoneRight: for every list of regions, zone and loads (30 numbers each at most; others are let through): what Check lets through has just what the zone asks for, region by region, and elects and commits without any one region (node); what it refuses as ErrZone does not; no condition. -/
import Derived.Test.YtihkkoldjllifaaZRightA
import Derived.Test.YtihkkoldjllifaaZRightB
namespace Go.Proofs.Ytihkkoldjllifaa
open Go.ChangeShapes Go.WideShapes Go.ChangeAt Go.RowKit

section
variable (rs load : List Int) (z : Zn) (p pld pv pw pl : Option Addr) (cap capl cv cw cl : Nat)
set_option maxRecDepth 100000 in
set_option maxHeartbeats 32000000 in
theorem zright_walk (w : World) (hr : rs.length ≤ maxLen) (m0 : z.v.length ≤ maxLen) (m1 : z.w.length ≤ maxLen) (m2 : z.l.length ≤ maxLen) (m3 : load.length ≤ maxLen) (hc : NumsAt w p rs) (hcl : NumsAt w pld load) (hz : ZoneAt w z pv pw pl) :
    Calls Try.prog 9 #[.slice p rs.length cap, .agg #[.slice pv z.v.length cv, .slice pw z.w.length cw, .slice pl z.l.length cl, .int .i64 z.e, .int .i64 z.k, .int .i64 z.s], .slice pld load.length capl] w fun r w' => r = .returned (.bool true) ∧ Below w.heap.size w w' := by
  have HC := Lib.hid hc; have HCL := Lib.hid hcl; have HZ := Lib.hid hz
  clear hc hcl hz
  cases hlt : lightB rs load z
  · have HLT := Lib.hid hlt
    clear hlt
    go_enter Try.func9, Try.ntmps9
    go_wp2_with fail
    refine (begun11_any _).mono ?_; rintro r w1 ⟨rfl, hb1⟩
    have hA := below_block hb1 (by simp) (heap_last w (.cells #[.slice pv z.v.length cv, .slice pw z.w.length cw, .slice pl z.l.length cl, .int .i64 z.e, .int .i64 z.k, .int .i64 z.s] 43))
    have HB1 := Lib.hid (box_out (box_first hb1))
    have kA := block_cells hA
    clear hb1
    go_wp2_with fail
    refine (light_is' rs load z p pld pv pw pl cap capl cv cw cl _ hr m0 m1 m2 m3 HLT).mono ?_; rintro r w2 ⟨rfl, hb2⟩
    replace hA := below_block hb2 (block_lt hA) hA
    have HB2 := Lib.hid (bstep HB1.out hb2)
    clear hb2 kA
    go_wp2_with fail
    go_ret
    exact ⟨rfl, HB2.out⟩
  · have HLT := Lib.hid hlt
    obtain ⟨q0, q1, q2, q3, q4⟩ := lightB_iff hlt
    obtain ⟨⟨⟨dv, dx, dl, de, dk⟩, err⟩, hCh⟩ : ∃ A, checkP rs load z = A := ⟨_, rfl⟩
    have HCh := Lib.hid hCh
    clear hlt
    by_cases he0 : err = 0
    · subst he0
      exact zright_ok rs load z p pld pv pw pl cap capl cv cw cl w hr m0 m1 m2 m3 HC HCL HZ HLT HCh
    by_cases he12 : err = 12
    · subst he12
      exact zright_zone rs load z p pld pv pw pl cap capl cv cw cl w hr m0 m1 m2 m3 HC HCL HZ HLT HCh
    obtain ⟨rfl, rfl, rfl, rfl, rfl⟩ := check_bad hCh (by omega) (by omega)
    have he1 : (err != 0) = true := by simp; omega
    have he2 : (err != 12) = true := by simp; omega
    clear hCh he0 he12
    go_enter Try.func9, Try.ntmps9
    go_wp2_with fail
    refine (begun11_any _).mono ?_; rintro r w1 ⟨rfl, hb1⟩
    have hA := below_block hb1 (by simp) (heap_last w (.cells #[.slice pv z.v.length cv, .slice pw z.w.length cw, .slice pl z.l.length cl, .int .i64 z.e, .int .i64 z.k, .int .i64 z.s] 43))
    have HB1 := Lib.hid (box_out (box_first hb1))
    have kA := block_cells hA
    clear hb1
    go_wp2_with fail
    refine (light_is' rs load z p pld pv pw pl cap capl cv cw cl _ hr m0 m1 m2 m3 HLT).mono ?_; rintro r w2 ⟨rfl, hb2⟩
    replace hA := below_block hb2 (block_lt hA) hA
    have HB2 := Lib.hid (bstep HB1.out hb2)
    clear hb2 kA
    have kA := block_cells hA
    have N0 := Lib.hid (HC.out.keep HB2.out (Nat.le_refl _)); have L0 := Lib.hid (HCL.out.keep HB2.out (Nat.le_refl _)); have Z0 := Lib.hid (HZ.out.keep HB2.out (Nat.le_refl _))
    go_wp2_with fail
    refine (check_is' rs load z p pld pv pw pl cap capl cv cw cl (by omega) (by omega) (by omega) (by omega) (by omega) _ N0.out L0.out Z0.out HCh).mono ?_; rintro r w3 ⟨rfl, hb⟩
    have hA3 := heap_prev (.cells #[.int .u16 0, .int .u16 0, .int .u16 0, .int .i64 0, .int .i64 0] 39) (below_block hb (block_lt hA) hA)
    have hD3 := heap_last w3 (.cells #[.int .u16 0, .int .u16 0, .int .u16 0, .int .i64 0, .int .i64 0] 39)
    have HB3 := Lib.hid ((bstep HB2.out hb).alloc (bstep HB2.out hb).size (.cells #[.int .u16 0, .int .u16 0, .int .u16 0, .int .i64 0, .int .i64 0] 39))
    clear kA hb hA
    go_upto_region 6 with fail
    obtain ⟨D, hDe⟩ : ∃ D, w3.heap.size = D := ⟨_, rfl⟩
    rw [hDe] at hD3 ⊢
    obtain ⟨W3, hW⟩ : ∃ W, w3.alloc (.cells #[.int .u16 0, .int .u16 0, .int .u16 0, .int .i64 0, .int .i64 0] 39) = W := ⟨_, rfl⟩
    rw [hW] at hA3 hD3 HB3 ⊢
    clear hDe hW
    have kD := block_cells hD3
    go_wp2_with fail
    go_ret
    exact ⟨rfl, HB3.out⟩
end
theorem zright_sl (rs load : List Int) (z : Zn) (pv pw pl : Option Addr) (cv cw cl : Nat) (v0 v2 : Value) (w : World) (hs : Sl w.heap.size w v0 1 rs.length (rs.map (.int .i64))) (hs2 : Sl w.heap.size w v2 1 load.length (load.map (.int .i64)))
    (hz : ZoneAt w z pv pw pl) (m0 : z.v.length ≤ maxLen) (m1 : z.w.length ≤ maxLen) (m2 : z.l.length ≤ maxLen) :
    Calls Try.prog 9 #[v0, .agg #[.slice pv z.v.length cv, .slice pw z.w.length cw, .slice pl z.l.length cl, .int .i64 z.e, .int .i64 z.k, .int .i64 z.s], v2] w fun r w' => r = .returned (.bool true) ∧ Below w.heap.size w w' := by
  obtain ⟨p, cap, rfl, hx, hn⟩ := NumsAt.of_sl hs (Nat.le_refl _)
  obtain ⟨pld, capl, rfl, hx2, hn2⟩ := NumsAt.of_sl hs2 (Nat.le_refl _)
  exact zright_walk rs load z p pld pv pw pl cap capl cv cw cl w hx m0 m1 m2 hx2 hn hn2 hz

set_option maxRecDepth 100000 in
theorem zright_lifted (os : Os) (started : os.Started) (H : Type) (enc : TypeId × Value → H) :
    ReturnsInHanded {} Try.checked os 9 .any (Rows.zoneRightSpec.pre6 enc Try.prog Try.f9 Rows.zoneRightRow.domain false) (Rows.zoneRightSpec.post enc Try.prog Try.f9 false true false false) := by
  refine lift_law (C := Try.checked) (tb := 4) (by kernel_rfl) started (by kernel_rfl) Try.func9 (ChangeSpec.witness6 (enc := enc) (C := Try.checked) false ⟨#[], #[.slice none 0 0, .agg #[.slice none 0 0, .slice none 0 0, .slice none 0 0, .int .i64 0, .int .i64 0, .int .i64 0], .slice none 0 0], []⟩ 8 (by kernel_rfl) (by kernel_rfl) (by kernel_rfl) (by kernel_rfl)) (by kernel_rfl) (by kernel_rfl) rfl Try.underlying4 rfl ?_ ?_
  · intro ds h
    match ds, h with
    | [_, _, _], _ => rfl
  · intro W base args ds ps hval0 hA0 hlt hsz
    have hval : ∀ (j : Nat) t v, Try.f9.params[j]? = some t → args[j]? = some v → Value.okWide Try.prog W .any base t v := hval0
    have hA : DataW.TrodAll enc Try.prog W 0 (fun _ => true) true Try.f9.params.toList args.toList ds ps := hA0
    rw [Try.params9] at hA hval
    obtain ⟨v0, v1, v2, d0, d1, d2, p0, p1, p2, rfl, rfl, rfl, h0, h1, h2⟩ := trodAll_three hA
    obtain ⟨rs, hs, -⟩ := open_nums Try.underlying35 Try.underlying3 (by kernel_rfl) (hval 0 35 v0 rfl rfl) h0
    obtain ⟨z, pv, pw, pl, cv, cw, cl, rfl, hz, m0, m1, m2⟩ := open_zone (hval 1 43 v1 rfl rfl) h1
    obtain ⟨load, hs2, -⟩ := open_nums Try.underlying35 Try.underlying3 (by kernel_rfl) (hval 2 35 v2 rfl rfl) h2
    exact zright_sl rs load z pv pw pl cv cw cl v0 v2 W hs hs2 hz m0 m1 m2

theorem zright_holds : Rows.ZoneRightSaid :=
  OpenClaim.holds_of_wide 9 Try.f9 rfl rfl rfl rfl rfl rfl rfl ⟨rfl, rfl, rfl, rfl, rfl⟩ rfl rfl rfl rfl rfl (by kernel_rfl) Try.func9 (by kernel_rfl)
    (of_decide_eq_true (by kernel_rfl)) (by unfold Func.isWrapper; first | (rw [if_pos (by decide +kernel)]; kernel_rfl) | (rw [if_neg (by decide +kernel)]; exact ⟨rfl, rfl⟩))
    (fun os started H enc _ => zright_lifted os started H enc)
#print axioms zright_holds

end Go.Proofs.Ytihkkoldjllifaa
