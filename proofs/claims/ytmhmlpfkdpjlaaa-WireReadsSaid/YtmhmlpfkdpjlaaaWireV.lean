/- Wire: are two states the same? Package wire's. -/
import Derived.Test.YtmhmlpfkdpjlaaaPlainPart
import Derived.Test.YtmhmlpfkdpjlaaaWireG0
namespace Go.Proofs.Ytmhmlpfkdpjlaaa
open Go.ChangeShapes Go.WideShapes Go.ChangeAt Go.RowKit

set_option maxRecDepth 100000 in
set_option maxHeartbeats 8000000 in
theorem wpart_no0 (ae ah afw aft acl alo be bh bfw bft bcl blo : Int) (acs bcs : List CeL) (ars ads brs bds : List OuX) (ap aq as' bp bq bs : Option Addr) (ac ad at' bc bd bt : Nat) (w : World) (h : ¬ (ae = be)) :
    Calls Try.prog 12 #[.agg #[.int .i64 ae, .int .i64 ah, .int .i64 afw, .int .i64 aft, .int .i64 acl, .int .i64 alo, .slice ap acs.length ac, .slice aq ars.length ad, .slice as' ads.length at'], .agg #[.int .i64 be, .int .i64 bh, .int .i64 bfw, .int .i64 bft, .int .i64 bcl, .int .i64 blo, .slice bp bcs.length bc, .slice bq brs.length bd, .slice bs bds.length bt]] w fun e w' => e = .returned (.bool (decide (PaX.mk ae ah afw aft acl alo (acs.map (·.1)) ars ads = PaX.mk be bh bfw bft bcl blo (bcs.map (·.1)) brs bds))) ∧ Below w.heap.size w w' := by
  have HB : Hid (Below w.heap.size w ((w.alloc (.cells #[.int .i64 ae, .int .i64 ah, .int .i64 afw, .int .i64 aft, .int .i64 acl, .int .i64 alo, .slice ap acs.length ac, .slice aq ars.length ad, .slice as' ads.length at'] 33)).alloc (.cells #[.int .i64 be, .int .i64 bh, .int .i64 bfw, .int .i64 bft, .int .i64 bcl, .int .i64 blo, .slice bp bcs.length bc, .slice bq brs.length bd, .slice bs bds.length bt] 33))) := ((Below.refl _ _).alloc (Nat.le_refl _) _).alloc (by simp) _
  have HN : Hid (decide (PaX.mk ae ah afw aft acl alo (acs.map (·.1)) ars ads = PaX.mk be bh bfw bft bcl blo (bcs.map (·.1)) brs bds) = false) := by
    show _ = _; rw [decide_eq_false_iff_not]; intro e; injection e; exact h (by simp_all)
  have hq := (by simpa using h : (ae == be) = false)
  have hu : undef = Value.tuple #[] := rfl
  clear h
  go_enter Try.func12, Try.ntmps12
  go_wp2_with fail
  go_ret
  exact ⟨ret_boolW HN.out.symm, HB.out⟩
set_option maxRecDepth 100000 in
set_option maxHeartbeats 8000000 in
theorem wpart_no1 (ae ah afw aft acl alo bh bfw bft bcl blo : Int) (acs bcs : List CeL) (ars ads brs bds : List OuX) (ap aq as' bp bq bs : Option Addr) (ac ad at' bc bd bt : Nat) (w : World) (h : ¬ (ah = bh)) :
    Calls Try.prog 12 #[.agg #[.int .i64 ae, .int .i64 ah, .int .i64 afw, .int .i64 aft, .int .i64 acl, .int .i64 alo, .slice ap acs.length ac, .slice aq ars.length ad, .slice as' ads.length at'], .agg #[.int .i64 ae, .int .i64 bh, .int .i64 bfw, .int .i64 bft, .int .i64 bcl, .int .i64 blo, .slice bp bcs.length bc, .slice bq brs.length bd, .slice bs bds.length bt]] w fun e w' => e = .returned (.bool (decide (PaX.mk ae ah afw aft acl alo (acs.map (·.1)) ars ads = PaX.mk ae bh bfw bft bcl blo (bcs.map (·.1)) brs bds))) ∧ Below w.heap.size w w' := by
  have HB : Hid (Below w.heap.size w ((w.alloc (.cells #[.int .i64 ae, .int .i64 ah, .int .i64 afw, .int .i64 aft, .int .i64 acl, .int .i64 alo, .slice ap acs.length ac, .slice aq ars.length ad, .slice as' ads.length at'] 33)).alloc (.cells #[.int .i64 ae, .int .i64 bh, .int .i64 bfw, .int .i64 bft, .int .i64 bcl, .int .i64 blo, .slice bp bcs.length bc, .slice bq brs.length bd, .slice bs bds.length bt] 33))) := ((Below.refl _ _).alloc (Nat.le_refl _) _).alloc (by simp) _
  have HN : Hid (decide (PaX.mk ae ah afw aft acl alo (acs.map (·.1)) ars ads = PaX.mk ae bh bfw bft bcl blo (bcs.map (·.1)) brs bds) = false) := by
    show _ = _; rw [decide_eq_false_iff_not]; intro e; injection e; exact h (by simp_all)
  have hq := (by simpa using h : (ah == bh) = false)
  have hu : undef = Value.tuple #[] := rfl
  clear h
  go_enter Try.func12, Try.ntmps12
  go_wp2_with fail
  go_ret
  exact ⟨ret_boolW HN.out.symm, HB.out⟩
set_option maxRecDepth 100000 in
set_option maxHeartbeats 8000000 in
theorem wpart_no2 (ae ah afw aft acl alo bfw bft bcl blo : Int) (acs bcs : List CeL) (ars ads brs bds : List OuX) (ap aq as' bp bq bs : Option Addr) (ac ad at' bc bd bt : Nat) (w : World) (h : ¬ (afw = bfw ∧ aft = bft)) :
    Calls Try.prog 12 #[.agg #[.int .i64 ae, .int .i64 ah, .int .i64 afw, .int .i64 aft, .int .i64 acl, .int .i64 alo, .slice ap acs.length ac, .slice aq ars.length ad, .slice as' ads.length at'], .agg #[.int .i64 ae, .int .i64 ah, .int .i64 bfw, .int .i64 bft, .int .i64 bcl, .int .i64 blo, .slice bp bcs.length bc, .slice bq brs.length bd, .slice bs bds.length bt]] w fun e w' => e = .returned (.bool (decide (PaX.mk ae ah afw aft acl alo (acs.map (·.1)) ars ads = PaX.mk ae ah bfw bft bcl blo (bcs.map (·.1)) brs bds))) ∧ Below w.heap.size w w' := by
  have HB : Hid (Below w.heap.size w ((w.alloc (.cells #[.int .i64 ae, .int .i64 ah, .int .i64 afw, .int .i64 aft, .int .i64 acl, .int .i64 alo, .slice ap acs.length ac, .slice aq ars.length ad, .slice as' ads.length at'] 33)).alloc (.cells #[.int .i64 ae, .int .i64 ah, .int .i64 bfw, .int .i64 bft, .int .i64 bcl, .int .i64 blo, .slice bp bcs.length bc, .slice bq brs.length bd, .slice bs bds.length bt] 33))) := ((Below.refl _ _).alloc (Nat.le_refl _) _).alloc (by simp) _
  have HN : Hid (decide (PaX.mk ae ah afw aft acl alo (acs.map (·.1)) ars ads = PaX.mk ae ah bfw bft bcl blo (bcs.map (·.1)) brs bds) = false) := by
    show _ = _; rw [decide_eq_false_iff_not]; intro e; injection e; exact h (by simp_all)
  have hq := fun w => eql_st_no afw bfw aft bft w h
  have hu : undef = Value.tuple #[] := rfl
  clear h
  go_enter Try.func12, Try.ntmps12
  go_wp2_with fail
  go_ret
  exact ⟨ret_boolW HN.out.symm, HB.out⟩
set_option maxRecDepth 100000 in
set_option maxHeartbeats 8000000 in
theorem wpart_no3 (ae ah afw aft acl alo bcl blo : Int) (acs bcs : List CeL) (ars ads brs bds : List OuX) (ap aq as' bp bq bs : Option Addr) (ac ad at' bc bd bt : Nat) (w : World) (h : ¬ (acl = bcl)) :
    Calls Try.prog 12 #[.agg #[.int .i64 ae, .int .i64 ah, .int .i64 afw, .int .i64 aft, .int .i64 acl, .int .i64 alo, .slice ap acs.length ac, .slice aq ars.length ad, .slice as' ads.length at'], .agg #[.int .i64 ae, .int .i64 ah, .int .i64 afw, .int .i64 aft, .int .i64 bcl, .int .i64 blo, .slice bp bcs.length bc, .slice bq brs.length bd, .slice bs bds.length bt]] w fun e w' => e = .returned (.bool (decide (PaX.mk ae ah afw aft acl alo (acs.map (·.1)) ars ads = PaX.mk ae ah afw aft bcl blo (bcs.map (·.1)) brs bds))) ∧ Below w.heap.size w w' := by
  have HB : Hid (Below w.heap.size w ((w.alloc (.cells #[.int .i64 ae, .int .i64 ah, .int .i64 afw, .int .i64 aft, .int .i64 acl, .int .i64 alo, .slice ap acs.length ac, .slice aq ars.length ad, .slice as' ads.length at'] 33)).alloc (.cells #[.int .i64 ae, .int .i64 ah, .int .i64 afw, .int .i64 aft, .int .i64 bcl, .int .i64 blo, .slice bp bcs.length bc, .slice bq brs.length bd, .slice bs bds.length bt] 33))) := ((Below.refl _ _).alloc (Nat.le_refl _) _).alloc (by simp) _
  have HN : Hid (decide (PaX.mk ae ah afw aft acl alo (acs.map (·.1)) ars ads = PaX.mk ae ah afw aft bcl blo (bcs.map (·.1)) brs bds) = false) := by
    show _ = _; rw [decide_eq_false_iff_not]; intro e; injection e; exact h (by simp_all)
  have hq := (by simpa using h : (acl == bcl) = false)
  have hqs := fun w => eql_st_yes afw aft w
  have hu : undef = Value.tuple #[] := rfl
  clear h
  go_enter Try.func12, Try.ntmps12
  go_wp2_with fail
  go_ret
  exact ⟨ret_boolW HN.out.symm, HB.out⟩
set_option maxRecDepth 100000 in
set_option maxHeartbeats 8000000 in
theorem wpart_no4 (ae ah afw aft acl alo blo : Int) (acs bcs : List CeL) (ars ads brs bds : List OuX) (ap aq as' bp bq bs : Option Addr) (ac ad at' bc bd bt : Nat) (w : World) (h : ¬ (alo = blo)) :
    Calls Try.prog 12 #[.agg #[.int .i64 ae, .int .i64 ah, .int .i64 afw, .int .i64 aft, .int .i64 acl, .int .i64 alo, .slice ap acs.length ac, .slice aq ars.length ad, .slice as' ads.length at'], .agg #[.int .i64 ae, .int .i64 ah, .int .i64 afw, .int .i64 aft, .int .i64 acl, .int .i64 blo, .slice bp bcs.length bc, .slice bq brs.length bd, .slice bs bds.length bt]] w fun e w' => e = .returned (.bool (decide (PaX.mk ae ah afw aft acl alo (acs.map (·.1)) ars ads = PaX.mk ae ah afw aft acl blo (bcs.map (·.1)) brs bds))) ∧ Below w.heap.size w w' := by
  have HB : Hid (Below w.heap.size w ((w.alloc (.cells #[.int .i64 ae, .int .i64 ah, .int .i64 afw, .int .i64 aft, .int .i64 acl, .int .i64 alo, .slice ap acs.length ac, .slice aq ars.length ad, .slice as' ads.length at'] 33)).alloc (.cells #[.int .i64 ae, .int .i64 ah, .int .i64 afw, .int .i64 aft, .int .i64 acl, .int .i64 blo, .slice bp bcs.length bc, .slice bq brs.length bd, .slice bs bds.length bt] 33))) := ((Below.refl _ _).alloc (Nat.le_refl _) _).alloc (by simp) _
  have HN : Hid (decide (PaX.mk ae ah afw aft acl alo (acs.map (·.1)) ars ads = PaX.mk ae ah afw aft acl blo (bcs.map (·.1)) brs bds) = false) := by
    show _ = _; rw [decide_eq_false_iff_not]; intro e; injection e; exact h (by simp_all)
  have hq := (by simpa using h : (alo == blo) = false)
  have hqs := fun w => eql_st_yes afw aft w
  have hu : undef = Value.tuple #[] := rfl
  clear h
  go_enter Try.func12, Try.ntmps12
  go_wp2_with fail
  go_ret
  exact ⟨ret_boolW HN.out.symm, HB.out⟩
set_option maxRecDepth 100000 in
set_option maxHeartbeats 8000000 in
theorem wpart_yes (ae ah afw aft acl alo : Int) (acs bcs : List CeL) (ars ads brs bds : List OuX) (ap aq as' bp bq bs : Option Addr) (ac ad at' bc bd bt : Nat) (w : World) (k1 : acs.length ≤ 1000000 ∧ bcs.length ≤ 1000000) (k2 : (∀ x ∈ acs, x.1.vs.length ≤ 1000000) ∧ ∀ x ∈ bcs, x.1.vs.length ≤ 1000000) (k3 : ars.length ≤ 1000000 ∧ brs.length ≤ 1000000) (k4 : ads.length ≤ 1000000 ∧ bds.length ≤ 1000000) (h1 : CesAt w ap acs) (h2 : CesAt w bp bcs) (h3 : OusAt w aq ars) (h4 : OusAt w bq brs) (h5 : OusAt w as' ads) (h6 : OusAt w bs bds) :
    Calls Try.prog 12 #[.agg #[.int .i64 ae, .int .i64 ah, .int .i64 afw, .int .i64 aft, .int .i64 acl, .int .i64 alo, .slice ap acs.length ac, .slice aq ars.length ad, .slice as' ads.length at'], .agg #[.int .i64 ae, .int .i64 ah, .int .i64 afw, .int .i64 aft, .int .i64 acl, .int .i64 alo, .slice bp bcs.length bc, .slice bq brs.length bd, .slice bs bds.length bt]] w fun e w' => e = .returned (.bool (decide (PaX.mk ae ah afw aft acl alo (acs.map (·.1)) ars ads = PaX.mk ae ah afw aft acl alo (bcs.map (·.1)) brs bds))) ∧ Below w.heap.size w w' := by
  have hB : Below w.heap.size w ((w.alloc (.cells #[.int .i64 ae, .int .i64 ah, .int .i64 afw, .int .i64 aft, .int .i64 acl, .int .i64 alo, .slice ap acs.length ac, .slice aq ars.length ad, .slice as' ads.length at'] 33)).alloc (.cells #[.int .i64 ae, .int .i64 ah, .int .i64 afw, .int .i64 aft, .int .i64 acl, .int .i64 alo, .slice bp bcs.length bc, .slice bq brs.length bd, .slice bs bds.length bt] 33)) := ((Below.refl _ _).alloc (Nat.le_refl _) _).alloc (by simp) _
  have hqs := fun w => eql_st_yes afw aft w
  have HN : Hid (decide (PaX.mk ae ah afw aft acl alo (acs.map (·.1)) ars ads = PaX.mk ae ah afw aft acl alo (bcs.map (·.1)) brs bds) = (decide (acs.map (·.1) = bcs.map (·.1)) && (decide (ars = brs) && decide (ads = bds)))) := by
    show _ = _; simp [PaX.mk.injEq]
  have hA := heap_prev (.cells #[.int .i64 ae, .int .i64 ah, .int .i64 afw, .int .i64 aft, .int .i64 acl, .int .i64 alo, .slice bp bcs.length bc, .slice bq brs.length bd, .slice bs bds.length bt] 33) (heap_last w (.cells #[.int .i64 ae, .int .i64 ah, .int .i64 afw, .int .i64 aft, .int .i64 acl, .int .i64 alo, .slice ap acs.length ac, .slice aq ars.length ad, .slice as' ads.length at'] 33))
  have hD := heap_last (w.alloc (.cells #[.int .i64 ae, .int .i64 ah, .int .i64 afw, .int .i64 aft, .int .i64 acl, .int .i64 alo, .slice ap acs.length ac, .slice aq ars.length ad, .slice as' ads.length at'] 33)) (.cells #[.int .i64 ae, .int .i64 ah, .int .i64 afw, .int .i64 aft, .int .i64 acl, .int .i64 alo, .slice bp bcs.length bc, .slice bq brs.length bd, .slice bs bds.length bt] 33)
  have sz : (w.alloc (.cells #[.int .i64 ae, .int .i64 ah, .int .i64 afw, .int .i64 aft, .int .i64 acl, .int .i64 alo, .slice ap acs.length ac, .slice aq ars.length ad, .slice as' ads.length at'] 33)).heap.size = w.heap.size + 1 := by simp
  obtain ⟨W, hW⟩ : ∃ W : World, ((w.alloc (.cells #[.int .i64 ae, .int .i64 ah, .int .i64 afw, .int .i64 aft, .int .i64 acl, .int .i64 alo, .slice ap acs.length ac, .slice aq ars.length ad, .slice as' ads.length at'] 33)).alloc (.cells #[.int .i64 ae, .int .i64 ah, .int .i64 afw, .int .i64 aft, .int .i64 acl, .int .i64 alo, .slice bp bcs.length bc, .slice bq brs.length bd, .slice bs bds.length bt] 33)) = W := ⟨_, rfl⟩
  rw [hW] at hA hD hB
  rw [sz] at hD
  have HA := Lib.hid hA; have HD := Lib.hid hD; have HB := Lib.hid hB; have HW := Lib.hid hW
  obtain ⟨b1, e1⟩ : ∃ b, decide (acs.map (·.1) = bcs.map (·.1)) = b := ⟨_, rfl⟩
  obtain ⟨b2, e2⟩ : ∃ b, decide (ars = brs) = b := ⟨_, rfl⟩
  obtain ⟨b3, e3⟩ : ∃ b, decide (ads = bds) = b := ⟨_, rfl⟩
  have C1 := Lib.hid (eqCe_any acs bcs ap bp ac bc W k1.1 k1.2 k2.1 k2.2 (h1.keep hB (Nat.le_refl _)) (h2.keep hB (Nat.le_refl _)))
  have C2 : Hid (∀ w', Below W.heap.size W w' → Calls Try.prog 37 #[.slice aq ars.length ad, .slice bq brs.length bd] w' fun r w'' => r = .returned (.bool b2) ∧ Below w'.heap.size w' w'') := fun w' h => by
    have := eqOu_any ars brs aq bq ad bd w' k3.1 k3.2 ((h3.keep hB (Nat.le_refl _)).keep h (Nat.le_refl _)) ((h4.keep hB (Nat.le_refl _)).keep h (Nat.le_refl _)); rw [e2] at this; exact this
  have C3 : Hid (∀ w', Below W.heap.size W w' → Calls Try.prog 37 #[.slice as' ads.length at', .slice bs bds.length bt] w' fun r w'' => r = .returned (.bool b3) ∧ Below w'.heap.size w' w'') := fun w' h => by
    have := eqOu_any ads bds as' bs at' bt w' k4.1 k4.2 ((h5.keep hB (Nat.le_refl _)).keep h (Nat.le_refl _)) ((h6.keep hB (Nat.le_refl _)).keep h (Nat.le_refl _)); rw [e3] at this; exact this
  rw [e1] at C1 HN
  rw [e2, e3] at HN
  have hu : undef = Value.tuple #[] := rfl
  clear e1 e2 e3 sz hA hD hB hW h1 h2 h3 h4 h5 h6 k1 k2 k3 k4
  go_enter Try.func12, Try.ntmps12
  go_wp2_with fail
  rw [HW.out]
  refine C1.out.mono ?_; rintro r w1 ⟨rfl, hb1⟩
  have kA := block_cells (below_block hb1 (block_lt HA.out) HA.out)
  have kD := block_cells (below_block hb1 (block_lt HD.out) HD.out)
  have HB1 := Lib.hid (HB.out.trans (hb1.mono HB.out.size))
  have HC2 := Lib.hid (C2.out w1 hb1)
  have HX1 := Lib.hid hb1
  clear hb1 C1 C2 HW
  cases b1 with
  | false =>
    have hu : undef = Value.tuple #[] := rfl
    go_wp2_with fail
    go_ret
    exact ⟨ret_boolW HN.out.symm, HB1.out⟩
  | true =>
  go_wp2_with fail
  refine HC2.out.mono ?_; rintro r w2 ⟨rfl, hb2⟩
  have hx2 := HX1.out.trans (hb2.mono HX1.out.size)
  have kA2 := block_cells (below_block hx2 (block_lt HA.out) HA.out)
  have kD2 := block_cells (below_block hx2 (block_lt HD.out) HD.out)
  have HB2 := Lib.hid (HB1.out.trans (hb2.mono HB1.out.size))
  have HC3 := Lib.hid (C3.out w2 hx2)
  clear hb2 hx2 HC2 C3 HX1 kA kD
  cases b2 with
  | false =>
    have hu : undef = Value.tuple #[] := rfl
    go_wp2_with fail
    go_ret
    exact ⟨ret_boolW HN.out.symm, HB2.out⟩
  | true =>
  go_wp2_with fail
  refine HC3.out.mono ?_; rintro r w3 ⟨rfl, hb3⟩
  have HB3 := Lib.hid (HB2.out.trans (hb3.mono HB2.out.size))
  clear hb3 HC3 kA2 kD2
  go_wp2_with fail
  go_ret
  exact ⟨ret_boolW (by rw [HN.out]; rfl), HB3.out⟩
theorem wpart_any (ae ah afw aft acl alo be bh bfw bft bcl blo : Int) (acs bcs : List CeL) (ars ads brs bds : List OuX) (ap aq as' bp bq bs : Option Addr) (ac ad at' bc bd bt : Nat) (w : World) (k1 : acs.length ≤ 1000000 ∧ bcs.length ≤ 1000000) (k2 : (∀ x ∈ acs, x.1.vs.length ≤ 1000000) ∧ ∀ x ∈ bcs, x.1.vs.length ≤ 1000000) (k3 : ars.length ≤ 1000000 ∧ brs.length ≤ 1000000) (k4 : ads.length ≤ 1000000 ∧ bds.length ≤ 1000000) (h1 : CesAt w ap acs) (h2 : CesAt w bp bcs) (h3 : OusAt w aq ars) (h4 : OusAt w bq brs) (h5 : OusAt w as' ads) (h6 : OusAt w bs bds) :
    Calls Try.prog 12 #[.agg #[.int .i64 ae, .int .i64 ah, .int .i64 afw, .int .i64 aft, .int .i64 acl, .int .i64 alo, .slice ap acs.length ac, .slice aq ars.length ad, .slice as' ads.length at'], .agg #[.int .i64 be, .int .i64 bh, .int .i64 bfw, .int .i64 bft, .int .i64 bcl, .int .i64 blo, .slice bp bcs.length bc, .slice bq brs.length bd, .slice bs bds.length bt]] w fun e w' => e = .returned (.bool (decide (PaX.mk ae ah afw aft acl alo (acs.map (·.1)) ars ads = PaX.mk be bh bfw bft bcl blo (bcs.map (·.1)) brs bds))) ∧ Below w.heap.size w w' := by
  by_cases h : ae = be
  rotate_left
  · exact wpart_no0 ae ah afw aft acl alo be bh bfw bft bcl blo acs bcs ars ads brs bds ap aq as' bp bq bs ac ad at' bc bd bt w h
  subst h
  by_cases h : ah = bh
  rotate_left
  · exact wpart_no1 ae ah afw aft acl alo bh bfw bft bcl blo acs bcs ars ads brs bds ap aq as' bp bq bs ac ad at' bc bd bt w h
  subst h
  by_cases h : afw = bfw ∧ aft = bft
  rotate_left
  · exact wpart_no2 ae ah afw aft acl alo bfw bft bcl blo acs bcs ars ads brs bds ap aq as' bp bq bs ac ad at' bc bd bt w h
  obtain ⟨rfl, rfl⟩ := h
  by_cases h : acl = bcl
  rotate_left
  · exact wpart_no3 ae ah afw aft acl alo bcl blo acs bcs ars ads brs bds ap aq as' bp bq bs ac ad at' bc bd bt w h
  subst h
  by_cases h : alo = blo
  rotate_left
  · exact wpart_no4 ae ah afw aft acl alo blo acs bcs ars ads brs bds ap aq as' bp bq bs ac ad at' bc bd bt w h
  subst h
  exact wpart_yes ae ah afw aft acl alo acs bcs ars ads brs bds ap aq as' bp bq bs ac ad at' bc bd bt w k1 k2 k3 k4 h1 h2 h3 h4 h5 h6
end Go.Proofs.Ytmhmlpfkdpjlaaa
