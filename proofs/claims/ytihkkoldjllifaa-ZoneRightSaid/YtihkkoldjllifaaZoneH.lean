/- zone.Check. -/
import Derived.Test.YtihkkoldjllifaaZoneG
import Derived.Test.YtihkkoldjllifaaConf
import Derived.Deep.DeepCutAuto
namespace Go.Proofs.Ytihkkoldjllifaa
open Go.RowKit

theorem confMay_is (v x l e k : Int) (w : World) {b : Bool} (h : Hid (mayC v x l e k = b)) :
    Calls Try.prog 52 #[.agg #[.int .u16 v, .int .u16 x, .int .u16 l, .int .i64 e, .int .i64 k]] w fun r w' => r = .returned (.bool b) ∧ Below w.heap.size w w' := by
  have := confMay_any v x l e k w
  rw [h.out] at this; exact this
theorem survives_is (cv cx cl ce ck what : Int) (rs : List Int) (p : Option Addr) (cap : Nat) (hl : rs.length ≤ 1000) (w : World) (hc : NumsAt w p rs) {b : Bool} {d : Int} (h : Hid (survives rs cv cx cl ce ck what = (b, d))) :
    Calls Try.prog 29 #[.slice p rs.length cap, .agg #[.int .u16 cv, .int .u16 cx, .int .u16 cl, .int .i64 ce, .int .i64 ck], .int .i64 what] w fun r w' => r = .returned (.tuple #[.bool b, .int .i64 d]) ∧ Below w.heap.size w w' := by
  have := survives_any cv cx cl ce ck what rs p cap hl w hc
  rw [h.out] at this; exact this

section
variable (rs load : List Int) (z : Zn) (p pld pv pw pl : Option Addr) (cap capl cv cw cl : Nat)
theorem allot_is (hl : rs.length ≤ 1000) (hll : load.length ≤ 1000) (l0 : z.v.length ≤ 1000) (l1 : z.w.length ≤ 1000) (l2 : z.l.length ≤ 1000) (w : World) (hc : NumsAt w p rs) (hcl : NumsAt w pld load) (hz : ZoneAt w z pv pw pl) {v x l e k err : Int} (h : Hid (allotP rs load z = (⟨v, x, l, e, k⟩, err))) :
    Calls Try.prog 23 #[.slice p rs.length cap, .agg #[.slice pv z.v.length cv, .slice pw z.w.length cw, .slice pl z.l.length cl, .int .i64 z.e, .int .i64 z.k, .int .i64 z.s], .slice pld load.length capl] w fun r w' => r = .returned (.tuple #[.agg #[.int .u16 v, .int .u16 x, .int .u16 l, .int .i64 e, .int .i64 k], .int .i64 err]) ∧ Below w.heap.size w w' := by
  have := allot_any rs load z p pld pv pw pl cap capl cv cw cl hl hll l0 l1 l2 w hc hcl hz
  rw [h.out] at this; exact this

set_option maxRecDepth 100000 in
set_option maxHeartbeats 8000000 in
theorem check_any (hl : rs.length ≤ 1000) (hll : load.length ≤ 1000) (l0 : z.v.length ≤ 1000) (l1 : z.w.length ≤ 1000) (l2 : z.l.length ≤ 1000) (w : World) (hc : NumsAt w p rs) (hcl : NumsAt w pld load) (hz : ZoneAt w z pv pw pl) :
    Calls Try.prog 25 #[.slice p rs.length cap, .agg #[.slice pv z.v.length cv, .slice pw z.w.length cw, .slice pl z.l.length cl, .int .i64 z.e, .int .i64 z.k, .int .i64 z.s], .slice pld load.length capl] w fun r w' => r = .returned (cfgV (checkP rs load z)) ∧ Below w.heap.size w w' := by
  have HC := Lib.hid hc; have HCL := Lib.hid hcl; have HZ := Lib.hid hz
  clear hc hcl hz
  have B0 : Below w.heap.size w ((w.alloc (.cells #[.slice pv z.v.length cv, .slice pw z.w.length cw, .slice pl z.l.length cl, .int .i64 z.e, .int .i64 z.k, .int .i64 z.s] 43)).alloc (.cells #[.int .u16 0, .int .u16 0, .int .u16 0, .int .i64 0, .int .i64 0] 39)) := ((Below.refl _ _).alloc (Nat.le_refl _) _).alloc (by simp) _
  have HB0 := Lib.hid B0
  have HC0 := Lib.hid (HC.out.keep B0 (Nat.le_refl _))
  have HCL0 := Lib.hid (HCL.out.keep B0 (Nat.le_refl _))
  have HZ0 := Lib.hid (HZ.out.keep B0 (Nat.le_refl _))
  clear B0
  have hfit := allotP_fit rs load z
  obtain ⟨⟨⟨v, x, l, e, k⟩, err⟩, hA⟩ : ∃ A, allotP rs load z = A := ⟨_, rfl⟩
  rw [hA] at hfit
  have HFIT : Hid (FitC v x l) := hfit
  have HA := Lib.hid hA
  clear hA hfit
  have pre : True := trivial
  by_cases he : err = 0
  · subst he
    cases hm : mayC v x l e k
    · have HX := Lib.hid (check_may HA.out hm)
      have HM : Hid (mayC v x l e k = false) := hm
      clear hm
      go_enter Try.func25, Try.ntmps25
      go_wp2_with fail
      refine (allot_is rs load z p pld pv pw pl cap capl cv cw cl hl hll l0 l1 l2 _ HC0.out HCL0.out HZ0.out HA).mono ?_; rintro r W1 ⟨rfl, hb1⟩
      have hA1 := below_block hb1 (by simp; omega) (heap_prev (.cells #[.int .u16 0, .int .u16 0, .int .u16 0, .int .i64 0, .int .i64 0] 39) (heap_last w (.cells #[.slice pv z.v.length cv, .slice pw z.w.length cw, .slice pl z.l.length cl, .int .i64 z.e, .int .i64 z.k, .int .i64 z.s] 43)))
      have hR1 := below_block hb1 (by simp) (heap_last (w.alloc (.cells #[.slice pv z.v.length cv, .slice pw z.w.length cw, .slice pl z.l.length cl, .int .i64 z.e, .int .i64 z.k, .int .i64 z.s] 43)) (.cells #[.int .u16 0, .int .u16 0, .int .u16 0, .int .i64 0, .int .i64 0] 39))
      simp only [World.size_alloc] at hR1
      have hA2 := heap_prev (.cells #[.int .u16 v, .int .u16 x, .int .u16 l, .int .i64 e, .int .i64 k] 39) hA1
      have hR2 := heap_prev (.cells #[.int .u16 v, .int .u16 x, .int .u16 l, .int .i64 e, .int .i64 k] 39) hR1
      have hC2 := heap_last W1 (.cells #[.int .u16 v, .int .u16 x, .int .u16 l, .int .i64 e, .int .i64 k] 39)
      have hB1 := HB0.out.trans (hb1.mono (by simp; omega))
      have HB2 := Lib.hid (hB1.alloc hB1.size (.cells #[.int .u16 v, .int .u16 x, .int .u16 l, .int .i64 e, .int .i64 k] 39))
      have hszR := block_lt hR1
      obtain ⟨C, hCe⟩ : ∃ C, W1.heap.size = C := ⟨_, rfl⟩
      rw [hCe] at hC2 hszR
      have kA := block_cells hA2
      have kR := block_cells hR2
      have kRf := block_free hR2
      have kC := block_cells hC2
      have HA2 := Lib.hid hA2; have HR2 := Lib.hid hR2; have HC2 := Lib.hid hC2
      have HCe := Lib.hid hCe
      clear hA1 hR1 hA2 hR2 hC2 hB1 hb1 hCe
      go_upto_region 2 with fail
      rw [HCe.out]
      obtain ⟨W2, hW2⟩ : ∃ W2, W1.alloc (.cells #[.int .u16 v, .int .u16 x, .int .u16 l, .int .i64 e, .int .i64 k] 39) = W2 := ⟨_, rfl⟩
      rw [hW2] at kA kR kRf kC HA2 HR2 HC2 HB2 ⊢
      have hszC := block_lt HC2.out
      clear hW2
      go_wp2_with fail
      refine (confMay_is v x l e k _ HM).mono ?_; rintro r W3 ⟨rfl, hb3⟩
      have hC3 := below_block hb3 (block_lt HC2.out) HC2.out
      have hR3 := below_block hb3 (block_lt HR2.out) HR2.out
      have hA3 := below_block hb3 (block_lt HA2.out) HA2.out
      have HB3 := Lib.hid (HB2.out.trans (hb3.mono HB2.out.size))
      have HC3 := Lib.hid hC3; have HR3 := Lib.hid hR3
      clear kA kR kRf kC hb3
      have kA := block_cells hA3; have kR := block_cells hR3; have kRf := block_free hR3; have kC := block_cells hC3
      clear hC3 hR3 hA3
      go_wp2_with fail
      refine bodyPost_ret (v := cfgV (noCfg, 11)) (by simp [results, Try.results25, go_sem, cfgV, noCfg, kR]) rfl ⟨by rw [HX.out], ?_⟩
      repeat (with_reducible refine Below.setCell ?_ (show w.heap.size ≤ w.heap.size + 1 by omega) _)
      exact HB3.out
    · have HM : Hid (mayC v x l e k = true) := hm
      obtain ⟨⟨is, wh⟩, hS⟩ : ∃ S, survives rs v x l e k z.s = S := ⟨_, rfl⟩
      have HS := Lib.hid hS
      cases is
      · have HX := Lib.hid (check_zone HA.out hm (by rw [hS]))
        clear hm hS
        go_enter Try.func25, Try.ntmps25
        go_wp2_with fail
        refine (allot_is rs load z p pld pv pw pl cap capl cv cw cl hl hll l0 l1 l2 _ HC0.out HCL0.out HZ0.out HA).mono ?_; rintro r W1 ⟨rfl, hb1⟩
        have hA1 := below_block hb1 (by simp; omega) (heap_prev (.cells #[.int .u16 0, .int .u16 0, .int .u16 0, .int .i64 0, .int .i64 0] 39) (heap_last w (.cells #[.slice pv z.v.length cv, .slice pw z.w.length cw, .slice pl z.l.length cl, .int .i64 z.e, .int .i64 z.k, .int .i64 z.s] 43)))
        have hR1 := below_block hb1 (by simp) (heap_last (w.alloc (.cells #[.slice pv z.v.length cv, .slice pw z.w.length cw, .slice pl z.l.length cl, .int .i64 z.e, .int .i64 z.k, .int .i64 z.s] 43)) (.cells #[.int .u16 0, .int .u16 0, .int .u16 0, .int .i64 0, .int .i64 0] 39))
        simp only [World.size_alloc] at hR1
        have hA2 := heap_prev (.cells #[.int .u16 v, .int .u16 x, .int .u16 l, .int .i64 e, .int .i64 k] 39) hA1
        have hR2 := heap_prev (.cells #[.int .u16 v, .int .u16 x, .int .u16 l, .int .i64 e, .int .i64 k] 39) hR1
        have hC2 := heap_last W1 (.cells #[.int .u16 v, .int .u16 x, .int .u16 l, .int .i64 e, .int .i64 k] 39)
        have hB1 := HB0.out.trans (hb1.mono (by simp; omega))
        have HB2 := Lib.hid (hB1.alloc hB1.size (.cells #[.int .u16 v, .int .u16 x, .int .u16 l, .int .i64 e, .int .i64 k] 39))
        have hszR := block_lt hR1
        obtain ⟨C, hCe⟩ : ∃ C, W1.heap.size = C := ⟨_, rfl⟩
        rw [hCe] at hC2 hszR
        have kA := block_cells hA2
        have kR := block_cells hR2
        have kRf := block_free hR2
        have kC := block_cells hC2
        have HA2 := Lib.hid hA2; have HR2 := Lib.hid hR2; have HC2 := Lib.hid hC2
        have HCe := Lib.hid hCe
        clear hA1 hR1 hA2 hR2 hC2 hB1 hb1 hCe
        go_upto_region 2 with fail
        rw [HCe.out]
        obtain ⟨W2, hW2⟩ : ∃ W2, W1.alloc (.cells #[.int .u16 v, .int .u16 x, .int .u16 l, .int .i64 e, .int .i64 k] 39) = W2 := ⟨_, rfl⟩
        rw [hW2] at kA kR kRf kC HA2 HR2 HC2 HB2 ⊢
        have hszC := block_lt HC2.out
        clear hW2
        go_wp2_with fail
        refine (confMay_is v x l e k _ HM).mono ?_; rintro r W3 ⟨rfl, hb3⟩
        have hC3 := below_block hb3 (block_lt HC2.out) HC2.out
        have hR3 := below_block hb3 (block_lt HR2.out) HR2.out
        have hA3 := below_block hb3 (block_lt HA2.out) HA2.out
        have HB3 := Lib.hid (HB2.out.trans (hb3.mono HB2.out.size))
        have HC3 := Lib.hid hC3; have HR3 := Lib.hid hR3
        clear kA kR kRf kC hb3
        have kA := block_cells hA3; have kR := block_cells hR3; have kRf := block_free hR3; have kC := block_cells hC3
        clear hC3 hR3 hA3
        go_wp2_with fail
        refine (survives_is v x l e k z.s rs p cap hl _ (HC.out.keep HB3.out (Nat.le_refl _)) HS).mono ?_; rintro r W4 ⟨rfl, hb4⟩
        have hC4 := below_block hb4 (block_lt HC3.out) HC3.out
        have hR4 := below_block hb4 (block_lt HR3.out) HR3.out
        have HB4 := Lib.hid (HB3.out.trans (hb4.mono HB3.out.size))
        clear kA kR kRf kC hb4
        have kR := block_cells hR4; have kRf := block_free hR4; have kC := block_cells hC4
        clear hC4 hR4
        go_wp2_with fail
        refine bodyPost_ret (v := cfgV (noCfg, 12)) (by simp [results, Try.results25, go_sem, cfgV, noCfg, kR]) rfl ⟨by rw [HX.out], ?_⟩
        repeat (with_reducible refine Below.setCell ?_ (show w.heap.size ≤ w.heap.size + 1 by omega) _)
        exact HB4.out
      · have HX := Lib.hid (check_ok HA.out hm (by rw [hS]))
        clear hm hS
        go_enter Try.func25, Try.ntmps25
        go_wp2_with fail
        refine (allot_is rs load z p pld pv pw pl cap capl cv cw cl hl hll l0 l1 l2 _ HC0.out HCL0.out HZ0.out HA).mono ?_; rintro r W1 ⟨rfl, hb1⟩
        have hA1 := below_block hb1 (by simp; omega) (heap_prev (.cells #[.int .u16 0, .int .u16 0, .int .u16 0, .int .i64 0, .int .i64 0] 39) (heap_last w (.cells #[.slice pv z.v.length cv, .slice pw z.w.length cw, .slice pl z.l.length cl, .int .i64 z.e, .int .i64 z.k, .int .i64 z.s] 43)))
        have hR1 := below_block hb1 (by simp) (heap_last (w.alloc (.cells #[.slice pv z.v.length cv, .slice pw z.w.length cw, .slice pl z.l.length cl, .int .i64 z.e, .int .i64 z.k, .int .i64 z.s] 43)) (.cells #[.int .u16 0, .int .u16 0, .int .u16 0, .int .i64 0, .int .i64 0] 39))
        simp only [World.size_alloc] at hR1
        have hA2 := heap_prev (.cells #[.int .u16 v, .int .u16 x, .int .u16 l, .int .i64 e, .int .i64 k] 39) hA1
        have hR2 := heap_prev (.cells #[.int .u16 v, .int .u16 x, .int .u16 l, .int .i64 e, .int .i64 k] 39) hR1
        have hC2 := heap_last W1 (.cells #[.int .u16 v, .int .u16 x, .int .u16 l, .int .i64 e, .int .i64 k] 39)
        have hB1 := HB0.out.trans (hb1.mono (by simp; omega))
        have HB2 := Lib.hid (hB1.alloc hB1.size (.cells #[.int .u16 v, .int .u16 x, .int .u16 l, .int .i64 e, .int .i64 k] 39))
        have hszR := block_lt hR1
        obtain ⟨C, hCe⟩ : ∃ C, W1.heap.size = C := ⟨_, rfl⟩
        rw [hCe] at hC2 hszR
        have kA := block_cells hA2
        have kR := block_cells hR2
        have kRf := block_free hR2
        have kC := block_cells hC2
        have HA2 := Lib.hid hA2; have HR2 := Lib.hid hR2; have HC2 := Lib.hid hC2
        have HCe := Lib.hid hCe
        clear hA1 hR1 hA2 hR2 hC2 hB1 hb1 hCe
        go_upto_region 2 with fail
        rw [HCe.out]
        obtain ⟨W2, hW2⟩ : ∃ W2, W1.alloc (.cells #[.int .u16 v, .int .u16 x, .int .u16 l, .int .i64 e, .int .i64 k] 39) = W2 := ⟨_, rfl⟩
        rw [hW2] at kA kR kRf kC HA2 HR2 HC2 HB2 ⊢
        have hszC := block_lt HC2.out
        clear hW2
        go_wp2_with fail
        refine (confMay_is v x l e k _ HM).mono ?_; rintro r W3 ⟨rfl, hb3⟩
        have hC3 := below_block hb3 (block_lt HC2.out) HC2.out
        have hR3 := below_block hb3 (block_lt HR2.out) HR2.out
        have hA3 := below_block hb3 (block_lt HA2.out) HA2.out
        have HB3 := Lib.hid (HB2.out.trans (hb3.mono HB2.out.size))
        have HC3 := Lib.hid hC3; have HR3 := Lib.hid hR3
        clear kA kR kRf kC hb3
        have kA := block_cells hA3; have kR := block_cells hR3; have kRf := block_free hR3; have kC := block_cells hC3
        clear hC3 hR3 hA3
        go_wp2_with fail
        refine (survives_is v x l e k z.s rs p cap hl _ (HC.out.keep HB3.out (Nat.le_refl _)) HS).mono ?_; rintro r W4 ⟨rfl, hb4⟩
        have hC4 := below_block hb4 (block_lt HC3.out) HC3.out
        have hR4 := below_block hb4 (block_lt HR3.out) HR3.out
        have HB4 := Lib.hid (HB3.out.trans (hb4.mono HB3.out.size))
        clear kA kR kRf kC hb4
        have kR := block_cells hR4; have kRf := block_free hR4; have kC := block_cells hC4
        clear hC4 hR4
        go_wp2_with fail
        refine bodyPost_ret (v := cfgV (⟨v, x, l, e, k⟩, 0)) (by simp [results, Try.results25, go_sem, cfgV, kR]) rfl ⟨by rw [HX.out], ?_⟩
        repeat (with_reducible refine Below.setCell ?_ (show w.heap.size ≤ w.heap.size + 1 by omega) _)
        exact HB4.out
  · have HX := Lib.hid (check_err HA.out he)
    have hd : (err != 0) = true := by simp [he]
    clear he
    go_enter Try.func25, Try.ntmps25
    go_wp2_with fail
    refine (allot_is rs load z p pld pv pw pl cap capl cv cw cl hl hll l0 l1 l2 _ HC0.out HCL0.out HZ0.out HA).mono ?_; rintro r W1 ⟨rfl, hb1⟩
    have hA1 := below_block hb1 (by simp; omega) (heap_prev (.cells #[.int .u16 0, .int .u16 0, .int .u16 0, .int .i64 0, .int .i64 0] 39) (heap_last w (.cells #[.slice pv z.v.length cv, .slice pw z.w.length cw, .slice pl z.l.length cl, .int .i64 z.e, .int .i64 z.k, .int .i64 z.s] 43)))
    have hR1 := below_block hb1 (by simp) (heap_last (w.alloc (.cells #[.slice pv z.v.length cv, .slice pw z.w.length cw, .slice pl z.l.length cl, .int .i64 z.e, .int .i64 z.k, .int .i64 z.s] 43)) (.cells #[.int .u16 0, .int .u16 0, .int .u16 0, .int .i64 0, .int .i64 0] 39))
    simp only [World.size_alloc] at hR1
    have hA2 := heap_prev (.cells #[.int .u16 v, .int .u16 x, .int .u16 l, .int .i64 e, .int .i64 k] 39) hA1
    have hR2 := heap_prev (.cells #[.int .u16 v, .int .u16 x, .int .u16 l, .int .i64 e, .int .i64 k] 39) hR1
    have hC2 := heap_last W1 (.cells #[.int .u16 v, .int .u16 x, .int .u16 l, .int .i64 e, .int .i64 k] 39)
    have hB1 := HB0.out.trans (hb1.mono (by simp; omega))
    have HB2 := Lib.hid (hB1.alloc hB1.size (.cells #[.int .u16 v, .int .u16 x, .int .u16 l, .int .i64 e, .int .i64 k] 39))
    have hszR := block_lt hR1
    obtain ⟨C, hCe⟩ : ∃ C, W1.heap.size = C := ⟨_, rfl⟩
    rw [hCe] at hC2 hszR
    have kA := block_cells hA2
    have kR := block_cells hR2
    have kRf := block_free hR2
    have kC := block_cells hC2
    have HA2 := Lib.hid hA2; have HR2 := Lib.hid hR2; have HC2 := Lib.hid hC2
    have HCe := Lib.hid hCe
    clear hA1 hR1 hA2 hR2 hC2 hB1 hb1 hCe
    go_upto_region 2 with fail
    rw [HCe.out]
    obtain ⟨W2, hW2⟩ : ∃ W2, W1.alloc (.cells #[.int .u16 v, .int .u16 x, .int .u16 l, .int .i64 e, .int .i64 k] 39) = W2 := ⟨_, rfl⟩
    rw [hW2] at kA kR kRf kC HA2 HR2 HC2 HB2 ⊢
    have hszC := block_lt HC2.out
    clear hW2
    go_wp2_with fail
    refine bodyPost_ret (v := cfgV (noCfg, err)) (by simp [results, Try.results25, go_sem, cfgV, noCfg, kR]) rfl ⟨by rw [HX.out], ?_⟩
    repeat (with_reducible refine Below.setCell ?_ (show w.heap.size ≤ w.heap.size + 1 by omega) _)
    exact HB2.out
end
end Go.Proofs.Ytihkkoldjllifaa
