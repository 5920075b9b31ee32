/- ZoneSurvives: for every list of at most 30 regions, every configuration and number: what it survives, and what it does not, is what the reference answers; no condition (a longer list is let through). -/
import Derived.Test.YtihkkoldjllifaaBegun11
import Derived.Test.YtihkkoldjllifaaOpenConf
import Derived.Test.YtihkkoldjllifaaRows
namespace Go.Proofs.Ytihkkoldjllifaa
open Go.ChangeShapes Go.WideShapes Go.ChangeAt Go.RowKit

theorem refSurvives_is (cv cx cl ce ck what : Int) (rs : List Int) (p : Option Addr) (cap : Nat) (hl : rs.length ≤ 1000) (fc : FitC cv cx cl) (w : World) (hc : NumsAt w p rs) {b : Bool} {d : Int} (h : Hid (survives rs cv cx cl ce ck what = (b, d))) :
    Calls Try.prog 30 #[.slice p rs.length cap, .agg #[.int .u16 cv, .int .u16 cx, .int .u16 cl, .int .i64 ce, .int .i64 ck], .int .i64 what] w fun r w' => r = .returned (.tuple #[.bool b, .int .i64 d]) ∧ Below w.heap.size w w' := by
  have := refSurvives_any cv cx cl ce ck what rs p cap hl fc w hc
  rw [h.out] at this; exact this
set_option maxRecDepth 100000 in
set_option maxHeartbeats 4000000 in
theorem zsurv_walk (rs : List Int) (p : Option Addr) (cap : Nat) (cv cx cl ce ck what : Int) (fc : FitC cv cx cl) (w : World) (hx : rs.length ≤ maxLen) (hc : NumsAt w p rs) :
    Calls Try.prog 8 #[.slice p rs.length cap, .agg #[.int .u16 cv, .int .u16 cx, .int .u16 cl, .int .i64 ce, .int .i64 ck], .int .i64 what] w fun r w' => r = .returned (.bool true) ∧ Below w.heap.size w w' := by
  unfold maxLen at hx
  have HC := Lib.hid hc
  have FC := Lib.hid fc
  clear hc fc
  by_cases hl : 30 < rs.length
  · go_enter Try.func8, Try.ntmps8
    go_wp2_with fail
    refine (begun11_any _).mono ?_; rintro r w1 ⟨rfl, hb1⟩
    go_wp2_with fail
    go_ret
    exact ⟨rfl, box_out (box_first hb1)⟩
  · obtain ⟨⟨b, d⟩, hS⟩ : ∃ S, survives rs cv cx cl ce ck what = S := ⟨_, rfl⟩
    have HS := Lib.hid hS
    clear hS
    go_enter Try.func8, Try.ntmps8
    go_wp2_with fail
    refine (begun11_any _).mono ?_; rintro r w1 ⟨rfl, hb1⟩
    have hA1 := below_block hb1 (by simp) (heap_last w (.cells #[.int .u16 cv, .int .u16 cx, .int .u16 cl, .int .i64 ce, .int .i64 ck] 39))
    have HB1 := Lib.hid (box_out (box_first hb1))
    have HC1 := Lib.hid (HC.out.keep HB1.out (Nat.le_refl _))
    have kA := block_cells hA1
    clear hb1
    go_wp2_with fail
    refine (survives_is _ _ _ _ _ _ rs p cap (by omega) _ HC1.out HS).mono ?_; rintro r w2 ⟨rfl, hb2⟩
    have hA2 := below_block hb2 (block_lt hA1) hA1
    have HB2 := Lib.hid (bstep HB1.out hb2)
    have HC2 := Lib.hid (HC.out.keep HB2.out (Nat.le_refl _))
    clear kA hA1 hb2
    have kA := block_cells hA2
    go_wp2_with fail
    refine (refSurvives_is _ _ _ _ _ _ rs p cap (by omega) FC.out _ HC2.out HS).mono ?_; rintro r w3 ⟨rfl, hb3⟩
    have HB3 := Lib.hid (bstep HB2.out hb3)
    clear hb3
    go_wp2_with fail
    go_ret
    exact ⟨rfl, HB3.out⟩
theorem zsurv_sl (rs : List Int) (v : Value) (cv cx cl ce ck what : Int) (fc : FitC cv cx cl) (w : World) (hs : Sl w.heap.size w v 1 rs.length (rs.map (.int .i64))) :
    Calls Try.prog 8 #[v, .agg #[.int .u16 cv, .int .u16 cx, .int .u16 cl, .int .i64 ce, .int .i64 ck], .int .i64 what] w fun r w' => r = .returned (.bool true) ∧ Below w.heap.size w w' := by
  obtain ⟨p, cap, rfl, hx, hn⟩ := NumsAt.of_sl hs (Nat.le_refl _)
  exact zsurv_walk rs p cap cv cx cl ce ck what fc w hx hn

set_option maxRecDepth 100000 in
theorem zsurv_lifted (os : Os) (started : os.Started) (H : Type) (enc : TypeId × Value → H) :
    ReturnsInHanded {} Try.checked os 8 .any (Rows.zoneSurvivesSpec.pre6 enc Try.prog Try.f8 Rows.zoneSurvivesRow.domain false) (Rows.zoneSurvivesSpec.post enc Try.prog Try.f8 false true false false) := by
  refine lift_law (C := Try.checked) (tb := 4) (by kernel_rfl) started (by kernel_rfl) Try.func8 (ChangeSpec.witness6 (enc := enc) (C := Try.checked) false ⟨#[], #[.slice none 0 0, .agg #[.int .u16 0, .int .u16 0, .int .u16 0, .int .i64 0, .int .i64 0], .int .i64 0], []⟩ 8 (by kernel_rfl) (by kernel_rfl) (by kernel_rfl) (by kernel_rfl)) (by kernel_rfl) (by kernel_rfl) rfl Try.underlying4 rfl ?_ ?_
  · intro ds h
    match ds, h with
    | [_, _, _], _ => rfl
  · intro W base args ds ps hval0 hA0 hlt hsz
    have hval : ∀ (j : Nat) t v, Try.f8.params[j]? = some t → args[j]? = some v → Value.okWide Try.prog W .any base t v := hval0
    have hA : DataW.TrodAll enc Try.prog W 0 (fun _ => true) true Try.f8.params.toList args.toList ds ps := hA0
    rw [Try.params8] at hA hval
    obtain ⟨v0, v1, v2, d0, d1, d2, p0, p1, p2, rfl, rfl, rfl, h0, h1, h2⟩ := trodAll_three hA
    obtain ⟨rs, hs, -⟩ := open_nums Try.underlying35 Try.underlying3 (by kernel_rfl) (hval 0 35 v0 rfl rfl) h0
    obtain ⟨cv, cx, cl, ce, ck, rfl, fc⟩ := open_cfg (hval 1 39 v1 rfl rfl) h1
    obtain ⟨what, rfl, rfl, rfl, wwhat⟩ := open_int Try.underlying3 (hval 2 3 v2 rfl rfl) h2
    exact zsurv_sl rs v0 cv cx cl ce ck what fc W hs

theorem zsurv_holds : Rows.ZoneSurvivesSaid :=
  OpenClaim.holds_of_wide 8 Try.f8 rfl rfl rfl rfl rfl rfl rfl ⟨rfl, rfl, rfl, rfl, rfl⟩ rfl rfl rfl rfl rfl (by kernel_rfl) Try.func8 (by kernel_rfl)
    (of_decide_eq_true (by kernel_rfl)) (by unfold Func.isWrapper; first | (rw [if_pos (by decide +kernel)]; kernel_rfl) | (rw [if_neg (by decide +kernel)]; exact ⟨rfl, rfl⟩))
    (fun os started H enc _ => zsurv_lifted os started H enc)
#print axioms zsurv_holds

end Go.Proofs.Ytihkkoldjllifaa
