/- zone.Survives, the reference's. -/
import Derived.Test.YtihkkoldjllifaaZoneB
namespace Go.Proofs.Ytihkkoldjllifaa
open Go.RowKit

section
variable (cv cx cl ce ck what : Int) (rs : List Int) (p : Option Addr) (cap : Nat)
set_option maxRecDepth 100000 in
set_option maxHeartbeats 4000000 in
theorem survives_any (hl : rs.length ≤ 1000) (w : World) (hc : NumsAt w p rs) :
    Calls Try.prog 29 #[.slice p rs.length cap, .agg #[.int .u16 cv, .int .u16 cx, .int .u16 cl, .int .i64 ce, .int .i64 ck], .int .i64 what] w fun r w' => r = .returned (.tuple #[.bool (survives rs cv cx cl ce ck what).1, .int .i64 (survives rs cv cx cl ce ck what).2]) ∧ Below w.heap.size w w' := by
  obtain ⟨F, hF⟩ : ∃ F, survives rs cv cx cl ce ck what = F := ⟨_, rfl⟩
  rw [hF]
  have HF := Lib.hid hF
  have HC := Lib.hid hc
  clear hF hc
  have HB0 : Hid (∀ w', Below (w.alloc (.cells #[.int .u16 cv, .int .u16 cx, .int .u16 cl, .int .i64 ce, .int .i64 ck] 39)).heap.size (w.alloc (.cells #[.int .u16 cv, .int .u16 cx, .int .u16 cl, .int .i64 ce, .int .i64 ck] 39)) w' → Below w.heap.size w w') := fun w' h => box_out (box_first h)
  have HC1 : Hid (NumsAt (w.alloc (.cells #[.int .u16 cv, .int .u16 cx, .int .u16 cl, .int .i64 ce, .int .i64 ck] 39)) p rs) := HC.out.keep ((Below.refl _ _).alloc (Nat.le_refl _) _) (Nat.le_refl _)
  cases hb : regB rs
  · have HR := Lib.hid hb
    have HE : Hid (F = (false, -1)) := by show _ = _; rw [← HF.out]; exact surv_no hb
    clear hb
    go_enter Try.func29, Try.ntmps29
    go_wp2_with fail
    refine (mayRegions_any rs p cap _ hl HC1.out).mono ?_; rintro r w' ⟨rfl, rfl⟩; rw [HR.out]
    go_wp2_with fail
    go_ret2
    exact ⟨ret_bi (by rw [HE.out]), HB0.out _ (Below.refl _ _)⟩
  · have HR := Lib.hid hb
    obtain ⟨l1, l2⟩ := regB_len hb
    clear hb
    by_cases e1 : what = 1
    · subst e1
      obtain ⟨S, hS⟩ : ∃ S, scan (nodeF cv cx cl ce ck) rs.length 0 = S := ⟨_, rfl⟩
      have HE : Hid (F = toldN S) := by show _ = _; rw [← HF.out, ← hS]; exact surv_1 HR.out
      have HS : Hid (scan (nodeF cv cx cl ce ck) (rs.length - 0) 0 = S) := hS
      clear hS
      go_enter Try.func29, Try.ntmps29
      go_wp2_with fail
      refine (mayRegions_any rs p cap _ hl HC1.out).mono ?_; rintro r w' ⟨rfl, rfl⟩; rw [HR.out]
      go_wp2_with fail
      obtain ⟨U, f, hU, hf, hg⟩ := calm_class (w.alloc (.cells #[.int .u16 cv, .int .u16 cx, .int .u16 cl, .int .i64 ce, .int .i64 ck] 39)); obtain ⟨u0, hu0⟩ := hg _ (Below.refl _ _); rw [hu0]; clear hu0
      have hA := calm_heap hf (heap_last w (.cells #[.int .u16 cv, .int .u16 cx, .int .u16 cl, .int .i64 ce, .int .i64 ck] 39))
      have kA := fun u => block_cells (hA u)
      have HB : Hid (∀ u, Below w.heap.size w (f u)) := fun u => HB0.out _ (hf u)
      clear hA
      go_loopw [22] (fun i wr => ∃ (k : Nat), k ≤ rs.length ∧ i = .int .i64 k ∧ Hid (scan (nodeF cv cx cl ce ck) (rs.length - k) k = S) ∧ ∃ u, wr = f u) (fun i _ => rs.length - (intOf i).toNat)
      case atStart => exact ⟨0, by omega, rfl, HS, _, rfl⟩
      case round =>
        obtain ⟨k, hk, rfl, hs, ur, rfl⟩ := hrel
        by_cases hlt : k < rs.length
        · cases hG : standsC cv cx cl ce ck (bits .or .u16 0 (oneB ((k : Int) + 1)))
          · have HG := Lib.hid hG
            have HX : Hid (F = (false, (k : Int) + 1)) := by show _ = _; rw [HE.out, ← hs.out, scan_hit hlt (by unfold nodeF; rw [hG]; rfl)]; rfl
            clear hG hs
            go_wp2_with fail
            refine wp_region_calm f (by kernel_rfl) (by kernel_rfl) (calm_drew hf hg _) ?_
            repeat (go_big_quiet_step ((first | (go_at_call 55; exact calm_same (with_any _ _ _)) | (go_at_call 54; exact calm_of hf hg (stands_is _ _ _ _ _ _ _ HG)))))
            refine wpQuiet_nil ?_; rintro _ ⟨u, rfl⟩
            go_wp2_with fail
            go_ret2
            exact ⟨ret_bi (by rw [HX.out]), HB.out _⟩
          · have HG := Lib.hid hG
            have HN : Hid (scan (nodeF cv cx cl ce ck) (rs.length - (k + 1)) (k + 1) = S) := by show _ = _; rw [← hs.out, scan_miss hlt (by unfold nodeF; rw [hG]; rfl)]
            clear hG hs
            go_wp2_with fail
            refine wp_region_calm f (by kernel_rfl) (by kernel_rfl) (calm_drew hf hg _) ?_
            repeat (go_big_quiet_step ((first | (go_at_call 55; exact calm_same (with_any _ _ _)) | (go_at_call 54; exact calm_of hf hg (stands_is _ _ _ _ _ _ _ HG)))))
            refine wpQuiet_nil ?_; rintro _ ⟨u, rfl⟩
            go_wp2_with fail
            go_roundw
            case rel => exact ⟨k + 1, by omega, by go_num, HN, _, rfl⟩
            case measure => simp [intOf]; omega
        · obtain rfl : k = rs.length := by omega
          have HX : Hid (F = (true, -1)) := by show _ = _; rw [HE.out, ← hs.out, Nat.sub_self]; rfl
          clear hs
          go_wp2_with fail
          go_ret2
          exact ⟨ret_bi (by rw [HX.out]), HB.out _⟩
    · by_cases e2 : what = 2
      · subst e2
        obtain ⟨S, hS⟩ : ∃ S, scan (regF cv cx cl ce ck rs) 4 0 = S := ⟨_, rfl⟩
        have HE : Hid (F = toldR S) := by show _ = _; rw [← HF.out, ← hS]; exact surv_2 HR.out
        have HS : Hid (scan (regF cv cx cl ce ck rs) (4 - 0) 0 = S) := hS
        clear hS e1
        go_enter Try.func29, Try.ntmps29
        go_wp2_with fail
        refine (mayRegions_any rs p cap _ hl HC1.out).mono ?_; rintro r w' ⟨rfl, rfl⟩; rw [HR.out]
        go_wp2_with fail
        obtain ⟨U, f, hU, hf, hg⟩ := calm_class (w.alloc (.cells #[.int .u16 cv, .int .u16 cx, .int .u16 cl, .int .i64 ce, .int .i64 ck] 39)); obtain ⟨u0, hu0⟩ := hg _ (Below.refl _ _); rw [hu0]; clear hu0
        have hA := calm_heap hf (heap_last w (.cells #[.int .u16 cv, .int .u16 cx, .int .u16 cl, .int .i64 ce, .int .i64 ck] 39))
        have kA := fun u => block_cells (hA u)
        have HB : Hid (∀ u, Below w.heap.size w (f u)) := fun u => HB0.out _ (hf u)
        have HCu : Hid (∀ u, NumsAt (f u) p rs) := fun u => HC1.out.keep (hf u) (Nat.le_refl _)
        clear hA
        go_loopw [37] (fun i wr => ∃ (k : Nat), k ≤ 4 ∧ i = .int .i64 k ∧ Hid (scan (regF cv cx cl ce ck rs) (4 - k) k = S) ∧ ∃ u, wr = f u) (fun i _ => 4 - (intOf i).toNat)
        case atStart => exact ⟨0, by omega, rfl, HS, _, rfl⟩
        case round =>
          obtain ⟨k, hk, rfl, hs, ur, rfl⟩ := hrel
          by_cases hlt : k < 4
          · have hd4 : decide ((k : Int) < 4) = true := by simp; omega
            go_wp2_with fail
            go_loopw [10, 42] (fun g i wr => ∃ (j : Nat), j ≤ rs.length ∧ i = .int .i64 j ∧ g = .int .u16 (goneTo rs k j) ∧ ∃ u, wr = f u) (fun _ i _ => rs.length - (intOf i).toNat)
            case atStart => exact ⟨0, by omega, rfl, rfl, _, rfl⟩
            case round =>
              obtain ⟨j, hj, rfl, rfl, uj, rfl⟩ := hrel
              by_cases hjt : j < rs.length
              · obtain ⟨g, o, rfl, hg', hcell⟩ := HCu.out uj j hjt
                obtain ⟨y, hy⟩ : ∃ y, rs[j] = y := ⟨_, rfl⟩
                rw [hy] at hcell
                by_cases hyk : y = (k : Int)
                · have HT := Lib.hid (goneTo_hit hjt (hy.trans hyk))
                  clear hy
                  subst hyk
                  go_wp2_with fail
                  refine (with_any _ _ _).mono ?_; rintro r w' ⟨rfl, rfl⟩
                  go_wp2_with fail
                  go_roundw
                  case rel => exact ⟨j + 1, by omega, by go_num, by rw [HT.out], _, rfl⟩
                  case measure => simp [intOf]; omega
                · have HT := Lib.hid (goneTo_miss hjt (by rw [hy]; exact hyk))
                  have hq : (y == (k : Int)) = false := by simp [hyk]
                  clear hy hyk
                  go_wp2_with fail
                  go_roundw
                  case rel => exact ⟨j + 1, by omega, by go_num, by rw [HT.out], _, rfl⟩
                  case measure => simp [intOf]; omega
              · obtain rfl : j = rs.length := by omega
                cases hG : standsC cv cx cl ce ck (goneTo rs k rs.length)
                · have HG := Lib.hid hG
                  have HX : Hid (F = (false, (k : Int))) := by show _ = _; rw [HE.out, ← hs.out, scan_hit hlt (by unfold regF; rw [hG]; rfl)]; rfl
                  clear hG hs
                  go_wp2_with fail
                  refine (stands_is _ _ _ _ _ _ _ HG).mono ?_; rintro r w' ⟨rfl, hb⟩; obtain ⟨u, rfl⟩ := calm_step hf hg hb; clear hb
                  go_wp2_with fail
                  go_ret2
                  exact ⟨ret_bi (by rw [HX.out]), HB.out _⟩
                · have HG := Lib.hid hG
                  have HN : Hid (scan (regF cv cx cl ce ck rs) (4 - (k + 1)) (k + 1) = S) := by show _ = _; rw [← hs.out, scan_miss hlt (by unfold regF; rw [hG]; rfl)]
                  clear hG hs
                  go_wp2_with fail
                  refine (stands_is _ _ _ _ _ _ _ HG).mono ?_; rintro r w' ⟨rfl, hb⟩; obtain ⟨u, rfl⟩ := calm_step hf hg hb; clear hb
                  go_wp2_with fail
                  go_roundw
                  case rel => exact ⟨k + 1, by omega, by go_num, HN, _, rfl⟩
                  case measure => simp [intOf]; omega
          · obtain rfl : k = 4 := by omega
            have HX : Hid (F = (true, -1)) := by show _ = _; rw [HE.out, ← hs.out, Nat.sub_self]; rfl
            clear hs
            go_wp2_with fail
            go_ret2
            exact ⟨ret_bi (by rw [HX.out]), HB.out _⟩
      · by_cases e0 : what = 0
        · subst e0
          have HE : Hid (F = (true, -1)) := by show _ = _; rw [← HF.out]; exact surv_0 HR.out
          clear e1 e2
          go_enter Try.func29, Try.ntmps29
          go_wp2_with fail
          refine (mayRegions_any rs p cap _ hl HC1.out).mono ?_; rintro r w' ⟨rfl, rfl⟩; rw [HR.out]
          go_wp2_with fail
          go_ret2
          exact ⟨ret_bi (by rw [HE.out]), HB0.out _ (Below.refl _ _)⟩
        · have HE : Hid (F = (false, -1)) := by show _ = _; rw [← HF.out]; exact surv_x HR.out e0 e1 e2
          have d0 : (what == 1) = false := by simp [e1]
          have d1 : (what == 2) = false := by simp [e2]
          have d2 : (what != 0) = true := by simp [e0]
          clear e0 e1 e2
          go_enter Try.func29, Try.ntmps29
          go_wp2_with fail
          refine (mayRegions_any rs p cap _ hl HC1.out).mono ?_; rintro r w' ⟨rfl, rfl⟩; rw [HR.out]
          go_wp2_with fail
          go_ret2
          exact ⟨ret_bi (by rw [HE.out]), HB0.out _ (Below.refl _ _)⟩

set_option maxRecDepth 100000 in
set_option maxHeartbeats 4000000 in
theorem refSurvives_any (hl : rs.length ≤ 1000) (fc : FitC cv cx cl) (w : World) (hc : NumsAt w p rs) :
    Calls Try.prog 30 #[.slice p rs.length cap, .agg #[.int .u16 cv, .int .u16 cx, .int .u16 cl, .int .i64 ce, .int .i64 ck], .int .i64 what] w fun r w' => r = .returned (.tuple #[.bool (survives rs cv cx cl ce ck what).1, .int .i64 (survives rs cv cx cl ce ck what).2]) ∧ Below w.heap.size w w' := by
  obtain ⟨F, hF⟩ : ∃ F, survives rs cv cx cl ce ck what = F := ⟨_, rfl⟩
  rw [hF]
  have HF := Lib.hid hF
  have HC := Lib.hid hc
  clear hF hc
  have HB0 : Hid (∀ w', Below (w.alloc (.cells #[.int .u16 cv, .int .u16 cx, .int .u16 cl, .int .i64 ce, .int .i64 ck] 39)).heap.size (w.alloc (.cells #[.int .u16 cv, .int .u16 cx, .int .u16 cl, .int .i64 ce, .int .i64 ck] 39)) w' → Below w.heap.size w w') := fun w' h => box_out (box_first h)
  have HC1 : Hid (NumsAt (w.alloc (.cells #[.int .u16 cv, .int .u16 cx, .int .u16 cl, .int .i64 ce, .int .i64 ck] 39)) p rs) := HC.out.keep ((Below.refl _ _).alloc (Nat.le_refl _) _) (Nat.le_refl _)
  cases hb : regB rs
  · have HR := Lib.hid hb
    have HE : Hid (F = (false, -1)) := by show _ = _; rw [← HF.out]; exact surv_no hb
    clear hb
    go_enter Try.func30, Try.ntmps30
    go_wp2_with fail
    refine (refMayRegions_any rs p cap _ hl HC1.out).mono ?_; rintro r w' ⟨rfl, rfl⟩; rw [HR.out]
    go_wp2_with fail
    go_ret2
    exact ⟨ret_bi (by rw [HE.out]), HB0.out _ (Below.refl _ _)⟩
  · have HR := Lib.hid hb
    obtain ⟨l1, l2⟩ := regB_len hb
    clear hb
    by_cases e1 : what = 1
    · subst e1
      obtain ⟨S, hS⟩ : ∃ S, scan (nodeF cv cx cl ce ck) rs.length 0 = S := ⟨_, rfl⟩
      have HE : Hid (F = toldN S) := by show _ = _; rw [← HF.out, ← hS]; exact surv_1 HR.out
      have HS : Hid (scan (nodeF cv cx cl ce ck) (rs.length - 0) 0 = S) := hS
      clear hS
      go_enter Try.func30, Try.ntmps30
      go_wp2_with fail
      refine (refMayRegions_any rs p cap _ hl HC1.out).mono ?_; rintro r w' ⟨rfl, rfl⟩; rw [HR.out]
      go_wp2_with fail
      obtain ⟨U, f, hU, hf, hg⟩ := calm_class (w.alloc (.cells #[.int .u16 cv, .int .u16 cx, .int .u16 cl, .int .i64 ce, .int .i64 ck] 39)); obtain ⟨u0, hu0⟩ := hg _ (Below.refl _ _); rw [hu0]; clear hu0
      have hA := calm_heap hf (heap_last w (.cells #[.int .u16 cv, .int .u16 cx, .int .u16 cl, .int .i64 ce, .int .i64 ck] 39))
      have kA := fun u => block_cells (hA u)
      have HB : Hid (∀ u, Below w.heap.size w (f u)) := fun u => HB0.out _ (hf u)
      clear hA
      go_loopw [8] (fun i wr => ∃ (k : Nat), k ≤ rs.length ∧ i = .int .i64 (k + 1) ∧ Hid (scan (nodeF cv cx cl ce ck) (rs.length - k) k = S) ∧ ∃ u, wr = f u) (fun i _ => rs.length + 1 - (intOf i).toNat)
      case atStart => exact ⟨0, by omega, rfl, HS, _, rfl⟩
      case round =>
        obtain ⟨k, hk, rfl, hs, ur, rfl⟩ := hrel
        by_cases hlt : k < rs.length
        · obtain ⟨q0, q1⟩ := bits_fit .or 0 (oneB ((k : Int) + 1))
          cases hG : standsC cv cx cl ce ck (bits .or .u16 0 (oneB ((k : Int) + 1)))
          · have HG := Lib.hid hG
            have HX : Hid (F = (false, (k : Int) + 1)) := by show _ = _; rw [HE.out, ← hs.out, scan_hit hlt (by unfold nodeF; rw [hG]; rfl)]; rfl
            clear hG hs
            go_wp2_with fail
            refine wp_region_calm f (by kernel_rfl) (by kernel_rfl) (calm_drew hf hg _) ?_
            repeat (go_big_quiet_step ((first | (go_at_call 32; exact calm_same (refWith_any _ _ _ (by omega) (by omega))) | (go_at_call 56; exact calm_of hf hg (without_is _ _ _ _ _ _ fc q0 q1 _ HG)))))
            refine wpQuiet_nil ?_; rintro _ ⟨u, rfl⟩
            go_wp2_with fail
            go_ret2
            exact ⟨ret_bi (by rw [HX.out]), HB.out _⟩
          · have HG := Lib.hid hG
            have HN : Hid (scan (nodeF cv cx cl ce ck) (rs.length - (k + 1)) (k + 1) = S) := by show _ = _; rw [← hs.out, scan_miss hlt (by unfold nodeF; rw [hG]; rfl)]
            clear hG hs
            go_wp2_with fail
            refine wp_region_calm f (by kernel_rfl) (by kernel_rfl) (calm_drew hf hg _) ?_
            repeat (go_big_quiet_step ((first | (go_at_call 32; exact calm_same (refWith_any _ _ _ (by omega) (by omega))) | (go_at_call 56; exact calm_of hf hg (without_is _ _ _ _ _ _ fc q0 q1 _ HG)))))
            refine wpQuiet_nil ?_; rintro _ ⟨u, rfl⟩
            go_wp2_with fail
            go_roundw
            case rel => exact ⟨k + 1, by omega, by go_num, HN, _, rfl⟩
            case measure => simp [intOf]; omega
        · obtain rfl : k = rs.length := by omega
          have HX : Hid (F = (true, -1)) := by show _ = _; rw [HE.out, ← hs.out, Nat.sub_self]; rfl
          clear hs
          go_wp2_with fail
          go_ret2
          exact ⟨ret_bi (by rw [HX.out]), HB.out _⟩
    · by_cases e2 : what = 2
      · subst e2
        obtain ⟨S, hS⟩ : ∃ S, scan (regF cv cx cl ce ck rs) 4 0 = S := ⟨_, rfl⟩
        have HE : Hid (F = toldR S) := by show _ = _; rw [← HF.out, ← hS]; exact surv_2 HR.out
        have HS : Hid (scan (regF cv cx cl ce ck rs) (4 - 0) 0 = S) := hS
        clear hS e1
        go_enter Try.func30, Try.ntmps30
        go_wp2_with fail
        refine (refMayRegions_any rs p cap _ hl HC1.out).mono ?_; rintro r w' ⟨rfl, rfl⟩; rw [HR.out]
        go_wp2_with fail
        obtain ⟨U, f, hU, hf, hg⟩ := calm_class (w.alloc (.cells #[.int .u16 cv, .int .u16 cx, .int .u16 cl, .int .i64 ce, .int .i64 ck] 39)); obtain ⟨u0, hu0⟩ := hg _ (Below.refl _ _); rw [hu0]; clear hu0
        have hA := calm_heap hf (heap_last w (.cells #[.int .u16 cv, .int .u16 cx, .int .u16 cl, .int .i64 ce, .int .i64 ck] 39))
        have kA := fun u => block_cells (hA u)
        have HB : Hid (∀ u, Below w.heap.size w (f u)) := fun u => HB0.out _ (hf u)
        have HCu : Hid (∀ u, NumsAt (f u) p rs) := fun u => HC1.out.keep (hf u) (Nat.le_refl _)
        clear hA
        go_loopw [9] (fun i wr => ∃ (k : Nat), k ≤ 4 ∧ i = .int .i64 k ∧ Hid (scan (regF cv cx cl ce ck rs) (4 - k) k = S) ∧ ∃ u, wr = f u) (fun i _ => 4 - (intOf i).toNat)
        case atStart => exact ⟨0, by omega, rfl, HS, _, rfl⟩
        case round =>
          obtain ⟨k, hk, rfl, hs, ur, rfl⟩ := hrel
          by_cases hlt : k < 4
          · have hd4 : decide ((k : Int) < 4) = true := by simp; omega
            go_wp2_with fail
            go_loopw [10, 11] (fun g i wr => ∃ (j : Nat), j ≤ rs.length ∧ i = .int .i64 (j + 1) ∧ g = .int .u16 (goneTo rs k j) ∧ ∃ u, wr = f u) (fun _ i _ => rs.length + 1 - (intOf i).toNat)
            case atStart => exact ⟨0, by omega, rfl, rfl, _, rfl⟩
            case round =>
              obtain ⟨j, hj, rfl, rfl, uj, rfl⟩ := hrel
              obtain ⟨q0, q1⟩ := goneTo_fit rs k j
              by_cases hjt : j < rs.length
              · obtain ⟨g, o, rfl, hg', hcell⟩ := HCu.out uj j hjt
                obtain ⟨y, hy⟩ : ∃ y, rs[j] = y := ⟨_, rfl⟩
                rw [hy] at hcell
                by_cases hyk : y = (k : Int)
                · have HT := Lib.hid (goneTo_hit hjt (hy.trans hyk))
                  clear hy
                  subst hyk
                  go_wp2_with fail
                  refine (refWith_any _ _ _ q0 q1).mono ?_; rintro r w' ⟨rfl, rfl⟩
                  go_wp2_with fail
                  go_roundw
                  case rel => exact ⟨j + 1, by omega, by go_num, by rw [HT.out], _, rfl⟩
                  case measure => simp [intOf]; omega
                · have HT := Lib.hid (goneTo_miss hjt (by rw [hy]; exact hyk))
                  have hq : (y == (k : Int)) = false := by simp [hyk]
                  clear hy hyk
                  go_wp2_with fail
                  go_roundw
                  case rel => exact ⟨j + 1, by omega, by go_num, by rw [HT.out], _, rfl⟩
                  case measure => simp [intOf]; omega
              · obtain rfl : j = rs.length := by omega
                cases hG : standsC cv cx cl ce ck (goneTo rs k rs.length)
                · have HG := Lib.hid hG
                  have HX : Hid (F = (false, (k : Int))) := by show _ = _; rw [HE.out, ← hs.out, scan_hit hlt (by unfold regF; rw [hG]; rfl)]; rfl
                  clear hG hs
                  go_wp2_with fail
                  refine (without_is _ _ _ _ _ _ fc q0 q1 _ HG).mono ?_; rintro r w' ⟨rfl, hb⟩; obtain ⟨u, rfl⟩ := calm_step hf hg hb; clear hb
                  go_wp2_with fail
                  go_ret2
                  exact ⟨ret_bi (by rw [HX.out]), HB.out _⟩
                · have HG := Lib.hid hG
                  have HN : Hid (scan (regF cv cx cl ce ck rs) (4 - (k + 1)) (k + 1) = S) := by show _ = _; rw [← hs.out, scan_miss hlt (by unfold regF; rw [hG]; rfl)]
                  clear hG hs
                  go_wp2_with fail
                  refine (without_is _ _ _ _ _ _ fc q0 q1 _ HG).mono ?_; rintro r w' ⟨rfl, hb⟩; obtain ⟨u, rfl⟩ := calm_step hf hg hb; clear hb
                  go_wp2_with fail
                  go_roundw
                  case rel => exact ⟨k + 1, by omega, by go_num, HN, _, rfl⟩
                  case measure => simp [intOf]; omega
          · obtain rfl : k = 4 := by omega
            have HX : Hid (F = (true, -1)) := by show _ = _; rw [HE.out, ← hs.out, Nat.sub_self]; rfl
            clear hs
            go_wp2_with fail
            go_ret2
            exact ⟨ret_bi (by rw [HX.out]), HB.out _⟩
      · by_cases e0 : what = 0
        · subst e0
          have HE : Hid (F = (true, -1)) := by show _ = _; rw [← HF.out]; exact surv_0 HR.out
          clear e1 e2
          go_enter Try.func30, Try.ntmps30
          go_wp2_with fail
          refine (refMayRegions_any rs p cap _ hl HC1.out).mono ?_; rintro r w' ⟨rfl, rfl⟩; rw [HR.out]
          go_wp2_with fail
          go_ret2
          exact ⟨ret_bi (by rw [HE.out]), HB0.out _ (Below.refl _ _)⟩
        · have HE : Hid (F = (false, -1)) := by show _ = _; rw [← HF.out]; exact surv_x HR.out e0 e1 e2
          by_cases n0 : what < 0
          · go_enter Try.func30, Try.ntmps30
            go_wp2_with fail
            refine (refMayRegions_any rs p cap _ hl HC1.out).mono ?_; rintro r w' ⟨rfl, rfl⟩; rw [HR.out]
            go_wp2_with fail
            go_ret2
            exact ⟨ret_bi (by rw [HE.out]), HB0.out _ (Below.refl _ _)⟩
          · have n1 : 2 < what := by omega
            clear e0 e1 e2
            go_enter Try.func30, Try.ntmps30
            go_wp2_with fail
            refine (refMayRegions_any rs p cap _ hl HC1.out).mono ?_; rintro r w' ⟨rfl, rfl⟩; rw [HR.out]
            go_wp2_with fail
            go_ret2
            exact ⟨ret_bi (by rw [HE.out]), HB0.out _ (Below.refl _ _)⟩
end
end Go.Proofs.Ytihkkoldjllifaa
