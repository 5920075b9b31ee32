/- zone: what survives; the reference's 'without'. -/
import Derived.Test.YtihkkoldjllifaaZoneA
namespace Go.Proofs.Ytihkkoldjllifaa
open Go.RowKit

theorem stands_is (cv cx cl ce ck g : Int) (w : World) {b : Bool} (h : Hid (standsC cv cx cl ce ck g = b)) :
    Calls Try.prog 54 #[.agg #[.int .u16 cv, .int .u16 cx, .int .u16 cl, .int .i64 ce, .int .i64 ck], .int .u16 g] w fun r w' => r = .returned (.bool b) ∧ Below w.heap.size w w' := by
  have := stands_any cv cx cl ce ck g w
  rw [h.out] at this; exact this
theorem bstep {W0 W1 W2 : World} (h : Below W0.heap.size W0 W1) (k : Below W1.heap.size W1 W2) : Below W0.heap.size W0 W2 := h.trans (k.mono h.size)
theorem refHas_is (s n : Int) (w : World) (h0 : 0 ≤ s) (h1 : s ≤ 65535) {b : Bool} (h : Hid (hasB s n = b)) :
    Calls Try.prog 31 #[.int .u16 s, .int .i64 n] w fun e w' => e = .returned (.bool b) ∧ w = w' := by
  have := refHas_any s n w h0 h1
  rw [h.out] at this; exact this

set_option maxRecDepth 100000 in
set_option maxHeartbeats 4000000 in
theorem without_any (cv cx cl ce ck g : Int) (fc : FitC cv cx cl) (g0 : 0 ≤ g) (g1 : g ≤ 65535) (w : World) :
    Calls Try.prog 56 #[.agg #[.int .u16 cv, .int .u16 cx, .int .u16 cl, .int .i64 ce, .int .i64 ck], .int .u16 g] w fun r w' => r = .returned (.bool (standsC cv cx cl ce ck g)) ∧ Below w.heap.size w w' := by
  obtain ⟨v0, v1, x0, x1, l0, l1⟩ := fc
  have FC := Lib.hid (FitC.mk v0 v1 x0 x1 l0 l1)
  have hL := left_cnt cv cx g v0 x0 g0
  have hV := voters_cnt cv g v0 g0
  obtain ⟨j0, j1⟩ := joinB_fit cv cx
  have HS : Hid (standsC cv cx cl ce ck g = (decide (ce ≤ bs (leftF cv cx g) 9) && (decide (ck ≤ bs (leftF cv cx g) 9) && decide (0 < (bs (votersF cv g) 9 : Int))))) := by show _ = _; unfold standsC; rw [hL, hV]
  clear hL hV
  go_enter Try.func56, Try.ntmps56
  go_wp2_with fail
  obtain ⟨U, f, hU, hf, hg⟩ := calm_class (w.alloc (.cells #[.int .u16 cv, .int .u16 cx, .int .u16 cl, .int .i64 ce, .int .i64 ck] 39)); obtain ⟨u0, hu0⟩ := hg _ (Below.refl _ _); rw [hu0]; clear hu0
  have hA := calm_heap hf (heap_last w (.cells #[.int .u16 cv, .int .u16 cx, .int .u16 cl, .int .i64 ce, .int .i64 ck] 39))
  have kA := fun u => block_cells (hA u)
  have HB : Hid (∀ u, Below w.heap.size w (f u)) := fun u => box_out (box_first (hf u))
  clear hA
  go_loopw [5, 6, 7] (fun l v i wr => ∃ (k : Nat), k ≤ 9 ∧ i = .int .i64 (k + 1) ∧ l = .int .i64 (bs (leftF cv cx g) k) ∧ v = .int .i64 (bs (votersF cv g) k) ∧ ∃ u, wr = f u) (fun _ _ i _ => 10 - (intOf i).toNat)
  case atStart => exact ⟨0, by omega, rfl, rfl, rfl, _, rfl⟩
  case round =>
    obtain ⟨k, hk, rfl, rfl, rfl, ur, rfl⟩ := hrel
    have bl := bs_max (leftF cv cx g) k
    have bv := bs_max (votersF cv g) k
    by_cases hlt : k < 9
    · cases hG : hasB g ((k : Int) + 1)
      · have HG := Lib.hid hG
        cases hV : hasB cv ((k : Int) + 1)
        all_goals
          have HV := Lib.hid hV
          cases hJ : hasB (joinB cv cx) ((k : Int) + 1)
          all_goals
            have HJ := Lib.hid hJ
            have HL := Lib.hid (show leftF cv cx g (k + 1) = hasB (joinB cv cx) ((k : Int) + 1) by unfold leftF; rw [show (((k + 1 : Nat)) : Int) = (k : Int) + 1 by omega, hG]; simp)
            have HVo := Lib.hid (show votersF cv g (k + 1) = hasB cv ((k : Int) + 1) by unfold votersF; rw [show (((k + 1 : Nat)) : Int) = (k : Int) + 1 by omega, hG]; simp)
            clear hJ
            first
              | (have HBL : Hid (bs (leftF cv cx g) (k + 1) = bs (leftF cv cx g) k) := bs_not (HL.out.trans HJ.out))
              | (have HBL : Hid (bs (leftF cv cx g) (k + 1) = bs (leftF cv cx g) k + 1) := bs_yes (HL.out.trans HJ.out))
            first
              | (have HBV : Hid (bs (votersF cv g) (k + 1) = bs (votersF cv g) k) := bs_not (HVo.out.trans HV.out))
              | (have HBV : Hid (bs (votersF cv g) (k + 1) = bs (votersF cv g) k + 1) := bs_yes (HVo.out.trans HV.out))
            clear hV hG HL HVo
            go_wp2_with fail
            refine (refHas_is _ _ _ g0 g1 HG).mono ?_; rintro r w' ⟨rfl, rfl⟩
            go_wp2_with fail
            refine (refHas_is _ _ _ v0 v1 HV).mono ?_; rintro r w' ⟨rfl, rfl⟩
            go_wp2_with fail
            refine (refVotes_any _ _ _ _ _ FC.out _).mono ?_; rintro r w' ⟨rfl, hb⟩; obtain ⟨u, rfl⟩ := calm_step hf hg hb; clear hb
            go_wp2_with fail
            refine (refHas_is _ _ _ j0 j1 HJ).mono ?_; rintro r w' ⟨rfl, rfl⟩
            go_wp2_with fail
            go_roundw
            case rel => exact ⟨k + 1, by omega, by go_num, (by rw [HBL.out]; try go_num), (by rw [HBV.out]; try go_num), _, rfl⟩
            case measure => simp [intOf]; omega
      · have HG := Lib.hid hG
        have HBL : Hid (bs (leftF cv cx g) (k + 1) = bs (leftF cv cx g) k) := bs_not (by unfold leftF; rw [show (((k + 1 : Nat)) : Int) = (k : Int) + 1 by omega, hG]; simp)
        have HBV : Hid (bs (votersF cv g) (k + 1) = bs (votersF cv g) k) := bs_not (by unfold votersF; rw [show (((k + 1 : Nat)) : Int) = (k : Int) + 1 by omega, hG]; simp)
        clear hG
        go_wp2_with fail
        refine (refHas_is _ _ _ g0 g1 HG).mono ?_; rintro r w' ⟨rfl, rfl⟩
        go_wp2_with fail
        go_roundw
        case rel => exact ⟨k + 1, by omega, by go_num, by rw [HBL.out], by rw [HBV.out], _, rfl⟩
        case measure => simp [intOf]; omega
    · obtain rfl : k = 9 := by omega
      obtain ⟨L, hLL⟩ : ∃ L, bs (leftF cv cx g) 9 = L := ⟨_, rfl⟩
      obtain ⟨V, hVV⟩ : ∃ V, bs (votersF cv g) 9 = V := ⟨_, rfl⟩
      rw [hLL, hVV] at HS
      rw [hLL] at bl ⊢; rw [hVV] at bv ⊢
      clear hLL hVV
      by_cases h1 : ce ≤ L
      · by_cases h2 : ck ≤ L
        · by_cases h3 : (0 : Int) < V
          · go_wp2_with fail
            go_ret
            exact ⟨ret_bool (by rw [HS.out, decide_eq_true h1, decide_eq_true h2]; simp; try omega), HB.out _⟩
          · go_wp2_with fail
            go_ret
            exact ⟨ret_bool (by rw [HS.out, decide_eq_true h1, decide_eq_true h2]; simp; try omega), HB.out _⟩
        · have hd := decide_eq_false h2
          go_wp2_with fail
          go_ret
          exact ⟨ret_bool (by rw [HS.out, decide_eq_true h1, hd]; rfl), HB.out _⟩
      · have hd := decide_eq_false h1
        go_wp2_with fail
        go_ret
        exact ⟨ret_bool (by rw [HS.out, hd]; rfl), HB.out _⟩
theorem without_is (cv cx cl ce ck g : Int) (fc : FitC cv cx cl) (g0 : 0 ≤ g) (g1 : g ≤ 65535) (w : World) {b : Bool} (h : Hid (standsC cv cx cl ce ck g = b)) :
    Calls Try.prog 56 #[.agg #[.int .u16 cv, .int .u16 cx, .int .u16 cl, .int .i64 ce, .int .i64 ck], .int .u16 g] w fun r w' => r = .returned (.bool b) ∧ Below w.heap.size w w' := by
  have := without_any cv cx cl ce ck g fc g0 g1 w
  rw [h.out] at this; exact this
end Go.Proofs.Ytihkkoldjllifaa
