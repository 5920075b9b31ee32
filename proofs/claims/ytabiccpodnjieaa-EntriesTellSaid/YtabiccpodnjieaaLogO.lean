/- The law: begun; newer. -/
import Derived.Test.YtabiccpodnjieaaLogN
namespace Go.Proofs.Ytabiccpodnjieaa
open Go.ChangeShapes Go.WideShapes Go.ChangeAt Go.RowKit

def entT (t : Int) : Ent := ⟨t, 0, ⟨#[]⟩, jn0⟩
theorem EnSl.two {w : World} {g : Nat} {e f : Ent} {t : TypeId} (h : w.heap[g]? = some (.cells #[.int .i64 e.t, .int .i64 e.k, .string e.d, .int .u16 e.j.ov, .int .u16 e.j.ox, .int .u16 e.j.ol, .int .i64 e.j.oe, .int .i64 e.j.ok, .int .u16 e.j.nv, .int .u16 e.j.nx, .int .u16 e.j.nl, .int .i64 e.j.ne, .int .i64 e.j.nk, .bool e.j.two, .int .i64 f.t, .int .i64 f.k, .string f.d, .int .u16 f.j.ov, .int .u16 f.j.ox, .int .u16 f.j.ol, .int .i64 f.j.oe, .int .i64 f.j.ok, .int .u16 f.j.nv, .int .u16 f.j.nx, .int .u16 f.j.nl, .int .i64 f.j.ne, .int .i64 f.j.nk, .bool f.j.two] t (0, 0))) : EnSl w (.slice (some ⟨g, 0, none⟩) 2 2) [e, f] := by
  refine ⟨rfl, .inr ⟨⟨g, 0, none⟩, 2, rfl, Nat.le_refl _, by unfold maxLen; omega, fun _ => ⟨g, 0, rfl, block_lt h, fun j hj => ?_⟩⟩⟩
  rw [Nat.zero_add, block_cells h j]
  simp [entRow, entC]
def l0B : Lg := ⟨0, 0, jn0, []⟩
def lmB : Lg := ⟨0, 0, jn0, [entT 1, entT 2]⟩
def cmB : Lg := ⟨1, 1, jn0, [entT 2]⟩
theorem merge_B : mergeL l0B 0 0 [entT 1, entT 2] = (lmB, 2, true) := by decide +kernel
theorem compact_B : compactL lmB 1 = (cmB, 0) := by decide +kernel
theorem newer_B : newerL lmB 1 3 = true := by decide +kernel
set_option maxRecDepth 100000 in
set_option maxHeartbeats 4000000 in
theorem begun_any (w : World) : Calls Try.prog 9 #[] w fun r w' => r = .returned (.bool true) ∧ Below w.heap.size w w' := by
  obtain ⟨lm, hlm⟩ : ∃ lm, lmB = lm := ⟨_, rfl⟩
  obtain ⟨cm, hcm⟩ : ∃ cm, cmB = cm := ⟨_, rfl⟩
  have hmg := merge_B; have hcp := compact_B; have hnw := newer_B
  have hf0 : LgFit l0B := ⟨by decide, by decide, by decide⟩
  have hfm : LgFit lm := by rw [← hlm]; exact ⟨by decide, by decide, by decide⟩
  have hl2 : lm.last = 2 := by rw [← hlm]; decide
  have hc1 : cm.b = 1 := by rw [← hcm]; rfl
  have hc2 : cm.bt = 1 := by rw [← hcm]; rfl
  have hc3 : cm.es.length = 1 := by rw [← hcm]; rfl
  rw [hlm] at hmg hcp hnw
  rw [hcm] at hcp
  have HFM := Lib.hid hfm; have HL2' := Lib.hid hl2; have HCP := Lib.hid hcp; have HNW := Lib.hid hnw; have HMG := Lib.hid hmg
  have HC1 := Lib.hid hc1; have HC2 := Lib.hid hc2; have HC3 := Lib.hid hc3
  clear hlm hcm hmg hcp hnw hfm hl2 hc1 hc2 hc3
  go_enter Try.func9, Try.ntmps9
  go_wp2_with fail
  have hM := merge_any l0B none 0 0 0 [entT 1, entT 2] (some ⟨w.heap.size, 0, none⟩) 2 (w.alloc (.cells #[.int .i64 1, .int .i64 0, .string ⟨#[]⟩, .int .u16 0, .int .u16 0, .int .u16 0, .int .i64 0, .int .i64 0, .int .u16 0, .int .u16 0, .int .u16 0, .int .i64 0, .int .i64 0, .bool false, .int .i64 2, .int .i64 0, .string ⟨#[]⟩, .int .u16 0, .int .u16 0, .int .u16 0, .int .i64 0, .int .i64 0, .int .u16 0, .int .u16 0, .int .u16 0, .int .i64 0, .int .i64 0, .bool false] 47)) hf0 ⟨by decide, by decide⟩ (EnSl.nil _) (EnSl.two (e := entT 1) (f := entT 2) (heap_last w _)) (by decide)
  rw [HMG.out] at hM
  refine hM.mono ?_
  rintro r w1 ⟨p1, c1, rfl, ho1, hb1⟩
  have HB1 : Hid (Below w.heap.size w w1) := ((Below.refl _ _).alloc (Nat.le_refl _) _).trans (hb1.mono (by simp))
  have HE1 : Hid (EnSl w1 (.slice p1 lm.es.length c1) lm.es) := EnSl.of_own ho1
  dsimp only at *
  clear hM ho1 hb1
  go_upto_region 2 with fail
  obtain ⟨W2, hW2⟩ : ∃ W2, w1.alloc (.cells #[.int .i64 lm.b, .int .i64 lm.bt, .int .u16 lm.j.ov, .int .u16 lm.j.ox, .int .u16 lm.j.ol, .int .i64 lm.j.oe, .int .i64 lm.j.ok, .int .u16 lm.j.nv, .int .u16 lm.j.nx, .int .u16 lm.j.nl, .int .i64 lm.j.ne, .int .i64 lm.j.nk, .bool lm.j.two, .slice p1 lm.es.length c1] 32) = W2 := ⟨_, rfl⟩
  obtain ⟨A1, hA1⟩ : ∃ A1, w1.heap.size = A1 := ⟨_, rfl⟩
  have HL2 : Hid (W2.heap[A1]? = some (.cells #[.int .i64 lm.b, .int .i64 lm.bt, .int .u16 lm.j.ov, .int .u16 lm.j.ox, .int .u16 lm.j.ol, .int .i64 lm.j.oe, .int .i64 lm.j.ok, .int .u16 lm.j.nv, .int .u16 lm.j.nx, .int .u16 lm.j.nl, .int .i64 lm.j.ne, .int .i64 lm.j.nk, .bool lm.j.two, .slice p1 lm.es.length c1] 32 (0, 0))) := by show _ = _; rw [← hW2, ← hA1]; exact heap_last w1 _
  have hb12 : Below w1.heap.size w1 W2 := by rw [← hW2]; exact (Below.refl _ _).alloc (Nat.le_refl _) _
  have HB2 : Hid (Below w.heap.size w W2) := HB1.out.trans (hb12.mono HB1.out.size)
  have HE2 : Hid (EnSl W2 (.slice p1 lm.es.length c1) lm.es) := HE1.out.keep hb12 (Nat.le_refl _)
  rw [hW2, hA1]
  clear hW2 hA1 hb12
  have k2 := block_cells HL2.out
  have hC := compact_any lm p1 c1 1 W2 HFM.out ⟨by decide, by decide⟩ HE2.out
  rw [HCP.out] at hC
  have HC := Lib.hid hC
  clear hC
  go_wp2_with fail
  refine HC.out.mono ?_
  rintro r w3 ⟨p3, c3, rfl, -, hb3⟩
  dsimp only at *
  have HL3 := Lib.hid (below_block hb3 (block_lt HL2.out) HL2.out)
  have HB3 : Hid (Below w.heap.size w w3) := HB2.out.trans (hb3.mono HB2.out.size)
  have HE3 : Hid (EnSl w3 (.slice p1 lm.es.length c1) lm.es) := HE2.out.keep hb3 (Nat.le_refl _)
  clear hb3 k2
  go_upto_region 3 with fail
  obtain ⟨W4, hW4⟩ : ∃ W4, w3.alloc (.cells #[.int .i64 cm.b, .int .i64 cm.bt, .int .u16 cm.j.ov, .int .u16 cm.j.ox, .int .u16 cm.j.ol, .int .i64 cm.j.oe, .int .i64 cm.j.ok, .int .u16 cm.j.nv, .int .u16 cm.j.nx, .int .u16 cm.j.nl, .int .i64 cm.j.ne, .int .i64 cm.j.nk, .bool cm.j.two, .slice p3 cm.es.length c3] 32) = W4 := ⟨_, rfl⟩
  obtain ⟨A3, hA3⟩ : ∃ A3, w3.heap.size = A3 := ⟨_, rfl⟩
  have HL4 : Hid (W4.heap[A3]? = some (.cells #[.int .i64 cm.b, .int .i64 cm.bt, .int .u16 cm.j.ov, .int .u16 cm.j.ox, .int .u16 cm.j.ol, .int .i64 cm.j.oe, .int .i64 cm.j.ok, .int .u16 cm.j.nv, .int .u16 cm.j.nx, .int .u16 cm.j.nl, .int .i64 cm.j.ne, .int .i64 cm.j.nk, .bool cm.j.two, .slice p3 cm.es.length c3] 32 (0, 0))) := by show _ = _; rw [← hW4, ← hA3]; exact heap_last w3 _
  have hb34 : Below w3.heap.size w3 W4 := by rw [← hW4]; exact (Below.refl _ _).alloc (Nat.le_refl _) _
  have HM4 := Lib.hid (below_block hb34 (block_lt HL3.out) HL3.out)
  have HB4 : Hid (Below w.heap.size w W4) := HB3.out.trans (hb34.mono HB3.out.size)
  have HE4 : Hid (EnSl W4 (.slice p1 lm.es.length c1) lm.es) := HE3.out.keep hb34 (Nat.le_refl _)
  rw [hW4, hA3]
  clear hW4 hA3 hb34
  have hc1 := HC1.out; have hc2 := HC2.out; have hc3 := HC3.out
  have kM4 := block_cells HM4.out
  have kL4 := block_cells HL4.out
  have hLA := last_any lm p1 c1 W4 HFM.out.b0 HFM.out.b1 HFM.out.n
  rw [HL2'.out] at hLA
  have HLA := Lib.hid hLA
  clear hLA
  go_wp2_with fail
  refine HLA.out.mono ?_
  rintro r w5 ⟨rfl, hb5⟩
  have HL5 := Lib.hid (below_block hb5 (block_lt HL4.out) HL4.out)
  have HM5 := Lib.hid (below_block hb5 (block_lt HM4.out) HM4.out)
  have HB5 : Hid (Below w.heap.size w w5) := HB4.out.trans (hb5.mono HB4.out.size)
  have hN := newer_any lm p1 c1 1 3 w5 HFM.out (HE4.out.keep hb5 (Nat.le_refl _))
  rw [HNW.out] at hN
  have HN := Lib.hid hN
  clear hN hb5 kM4 kL4
  have kM5 := block_cells HM5.out
  have kL5 := block_cells HL5.out
  go_wp2_with fail
  refine HN.out.mono ?_
  rintro r w6 ⟨rfl, hb6⟩
  have HB6 : Hid (Below w.heap.size w w6) := HB5.out.trans (hb6.mono HB5.out.size)
  clear hb6
  go_wp2_with fail
  go_ret
  exact ⟨rfl, HB6.out⟩
set_option maxRecDepth 100000 in
set_option maxHeartbeats 4000000 in
theorem newer12_any (x y : Lg) (px py : Option Addr) (cx cy : Nat) (w : World) (hx : LgFit x) (hy : LgFit y) (ex : EnSl w (.slice px x.es.length cx) x.es) (ey : EnSl w (.slice py y.es.length cy) y.es) :
    Calls Try.prog 17 #[.agg #[.int .i64 x.b, .int .i64 x.bt, .int .u16 x.j.ov, .int .u16 x.j.ox, .int .u16 x.j.ol, .int .i64 x.j.oe, .int .i64 x.j.ok, .int .u16 x.j.nv, .int .u16 x.j.nx, .int .u16 x.j.nl, .int .i64 x.j.ne, .int .i64 x.j.nk, .bool x.j.two, .slice px x.es.length cx], .agg #[.int .i64 y.b, .int .i64 y.bt, .int .u16 y.j.ov, .int .u16 y.j.ox, .int .u16 y.j.ol, .int .i64 y.j.oe, .int .i64 y.j.ok, .int .u16 y.j.nv, .int .u16 y.j.nx, .int .u16 y.j.nl, .int .i64 y.j.ne, .int .i64 y.j.nk, .bool y.j.two, .slice py y.es.length cy]] w fun r w' => r = .returned (.bool (newerL y x.last (lastTerm x))) ∧ Below w.heap.size w w' := by
  have HX : Hid (LgFit x) := hx
  have HY : Hid (LgFit y) := hy
  have HEX := Lib.hid ex
  have HEY := Lib.hid ey
  have hA := heap_prev (.cells #[.int .i64 y.b, .int .i64 y.bt, .int .u16 y.j.ov, .int .u16 y.j.ox, .int .u16 y.j.ol, .int .i64 y.j.oe, .int .i64 y.j.ok, .int .u16 y.j.nv, .int .u16 y.j.nx, .int .u16 y.j.nl, .int .i64 y.j.ne, .int .i64 y.j.nk, .bool y.j.two, .slice py y.es.length cy] 32) (heap_last w (.cells #[.int .i64 x.b, .int .i64 x.bt, .int .u16 x.j.ov, .int .u16 x.j.ox, .int .u16 x.j.ol, .int .i64 x.j.oe, .int .i64 x.j.ok, .int .u16 x.j.nv, .int .u16 x.j.nx, .int .u16 x.j.nl, .int .i64 x.j.ne, .int .i64 x.j.nk, .bool x.j.two, .slice px x.es.length cx] 32))
  have hC : ((w.alloc (.cells #[.int .i64 x.b, .int .i64 x.bt, .int .u16 x.j.ov, .int .u16 x.j.ox, .int .u16 x.j.ol, .int .i64 x.j.oe, .int .i64 x.j.ok, .int .u16 x.j.nv, .int .u16 x.j.nx, .int .u16 x.j.nl, .int .i64 x.j.ne, .int .i64 x.j.nk, .bool x.j.two, .slice px x.es.length cx] 32)).alloc (.cells #[.int .i64 y.b, .int .i64 y.bt, .int .u16 y.j.ov, .int .u16 y.j.ox, .int .u16 y.j.ol, .int .i64 y.j.oe, .int .i64 y.j.ok, .int .u16 y.j.nv, .int .u16 y.j.nx, .int .u16 y.j.nl, .int .i64 y.j.ne, .int .i64 y.j.nk, .bool y.j.two, .slice py y.es.length cy] 32)).heap[w.heap.size + 1]? = some (.cells #[.int .i64 y.b, .int .i64 y.bt, .int .u16 y.j.ov, .int .u16 y.j.ox, .int .u16 y.j.ol, .int .i64 y.j.oe, .int .i64 y.j.ok, .int .u16 y.j.nv, .int .u16 y.j.nx, .int .u16 y.j.nl, .int .i64 y.j.ne, .int .i64 y.j.nk, .bool y.j.two, .slice py y.es.length cy] 32 (0, 0)) := heap_atL (by simp)
  have hB : Below w.heap.size w ((w.alloc (.cells #[.int .i64 x.b, .int .i64 x.bt, .int .u16 x.j.ov, .int .u16 x.j.ox, .int .u16 x.j.ol, .int .i64 x.j.oe, .int .i64 x.j.ok, .int .u16 x.j.nv, .int .u16 x.j.nx, .int .u16 x.j.nl, .int .i64 x.j.ne, .int .i64 x.j.nk, .bool x.j.two, .slice px x.es.length cx] 32)).alloc (.cells #[.int .i64 y.b, .int .i64 y.bt, .int .u16 y.j.ov, .int .u16 y.j.ox, .int .u16 y.j.ol, .int .i64 y.j.oe, .int .i64 y.j.ok, .int .u16 y.j.nv, .int .u16 y.j.nx, .int .u16 y.j.nl, .int .i64 y.j.ne, .int .i64 y.j.nk, .bool y.j.two, .slice py y.es.length cy] 32)) := ((Below.refl _ w).alloc (Nat.le_refl _) _).alloc (by simp) _
  have HW := Lib.hid (And.intro hA (And.intro hC hB))
  clear hA hC hB hx hy ex ey
  obtain ⟨X, hX⟩ : ∃ X, x.last = X := ⟨_, rfl⟩
  obtain ⟨T, hT⟩ : ∃ T, termL x X = T := ⟨_, rfl⟩
  have hlt : lastTerm x = T.1 := by unfold lastTerm; rw [hX, hT]
  have HLX := Lib.hid hX; have HTX := Lib.hid hT
  rw [hlt, hX]
  have HXb : Hid (-9223372036854775808 ≤ X ∧ X ≤ 9223372036854775807) := by show _ ∧ _; rw [← hX]; exact HX.out.last0
  clear hX hT hlt
  go_enter Try.func17, Try.ntmps17
  go_upto_region 1 with fail
  obtain ⟨W, hW⟩ : ∃ W, (w.alloc (.cells #[.int .i64 x.b, .int .i64 x.bt, .int .u16 x.j.ov, .int .u16 x.j.ox, .int .u16 x.j.ol, .int .i64 x.j.oe, .int .i64 x.j.ok, .int .u16 x.j.nv, .int .u16 x.j.nx, .int .u16 x.j.nl, .int .i64 x.j.ne, .int .i64 x.j.nk, .bool x.j.two, .slice px x.es.length cx] 32)).alloc (.cells #[.int .i64 y.b, .int .i64 y.bt, .int .u16 y.j.ov, .int .u16 y.j.ox, .int .u16 y.j.ol, .int .i64 y.j.oe, .int .i64 y.j.ok, .int .u16 y.j.nv, .int .u16 y.j.nx, .int .u16 y.j.nl, .int .i64 y.j.ne, .int .i64 y.j.nk, .bool y.j.two, .slice py y.es.length cy] 32) = W := ⟨_, rfl⟩
  rw [hW] at HW ⊢
  clear hW
  obtain ⟨U, f, hU, hf, hg⟩ := calm_class (W); obtain ⟨u0, hu0⟩ := hg _ (Below.refl _ _); rw [hu0]; clear hu0
  have kA := fun u => block_cells (calm_heap hf HW.out.1 u)
  have kC := fun u => block_cells (calm_heap hf HW.out.2.1 u)
  have HBu : Hid (∀ u, Below w.heap.size w (f u)) := fun u => HW.out.2.2.trans ((hf u).mono HW.out.2.2.size)
  have LA : Hid (∀ u, Calls Try.prog 12 #[.agg #[.int .i64 x.b, .int .i64 x.bt, .int .u16 x.j.ov, .int .u16 x.j.ox, .int .u16 x.j.ol, .int .i64 x.j.oe, .int .i64 x.j.ok, .int .u16 x.j.nv, .int .u16 x.j.nx, .int .u16 x.j.nl, .int .i64 x.j.ne, .int .i64 x.j.nk, .bool x.j.two, .slice px x.es.length cx]] (f u) fun r w' => r = .returned (.int .i64 X) ∧ Below (f u).heap.size (f u) w') := fun u => by
    have := last_any x px cx (f u) HX.out.b0 HX.out.b1 HX.out.n; rw [HLX.out] at this; exact this
  have TA : Hid (∀ u, Calls Try.prog 14 #[.agg #[.int .i64 x.b, .int .i64 x.bt, .int .u16 x.j.ov, .int .u16 x.j.ox, .int .u16 x.j.ol, .int .i64 x.j.oe, .int .i64 x.j.ok, .int .u16 x.j.nv, .int .u16 x.j.nx, .int .u16 x.j.nl, .int .i64 x.j.ne, .int .i64 x.j.nk, .bool x.j.two, .slice px x.es.length cx], .int .i64 X] (f u) fun r w' => r = .returned (.tuple #[.int .i64 T.1, .bool T.2]) ∧ Below (f u).heap.size (f u) w') := fun u => by
    have := term_is x px cx (f u) HX.out HXb.out (HEX.out.keep (HBu.out u) (Nat.le_refl _)); rw [HTX.out] at this; exact this
  have NA : Hid (∀ u, Calls Try.prog 36 #[.agg #[.int .i64 y.b, .int .i64 y.bt, .int .u16 y.j.ov, .int .u16 y.j.ox, .int .u16 y.j.ol, .int .i64 y.j.oe, .int .i64 y.j.ok, .int .u16 y.j.nv, .int .u16 y.j.nx, .int .u16 y.j.nl, .int .i64 y.j.ne, .int .i64 y.j.nk, .bool y.j.two, .slice py y.es.length cy], .int .i64 X, .int .i64 T.1] (f u) fun r w' => r = .returned (.bool (newerL y X T.1)) ∧ Below (f u).heap.size (f u) w') := fun u => newer_any y py cy X T.1 (f u) HY.out (HEY.out.keep (HBu.out u) (Nat.le_refl _))
  refine wp_region_calm f (by kernel_rfl) (by kernel_rfl) (calm_drew hf hg _) ?_
  repeat (go_big_quiet_step ((first | (go_at_call 12; with_reducible exact calm_of hf hg (LA.out _)) | (go_at_call 14; with_reducible exact calm_of hf hg (TA.out _)))))
  refine wpQuiet_nil ?_; rintro _ ⟨u, rfl⟩
  go_upto_region 2 with fail
  refine wp_region_calm f (by kernel_rfl) (by kernel_rfl) (calm_drew hf hg _) ?_
  repeat (go_big_quiet_step ((first | (go_at_call 12; with_reducible exact calm_of hf hg (LA.out _)) | (go_at_call 36; with_reducible exact calm_of hf hg (NA.out _)))))
  refine wpQuiet_nil ?_; rintro _ ⟨u, rfl⟩
  go_wp2_with fail
  go_ret
  exact ⟨rfl, HBu.out _⟩
end Go.Proofs.Ytabiccpodnjieaa
