/- zone: regions, what stands without some nodes, and what survives; the reference's. -/
import Derived.Test.YtihkkoldjllifaaPlainZone
import Derived.Test.YtihkkoldjllifaaNums
import Derived.Test.YtihkkoldjllifaaRef10
namespace Go.Proofs.Ytihkkoldjllifaa
open Go.RowKit

theorem ret_bi {a c : Bool} {b d : Int} (h : (a, b) = (c, d)) : Ending.returned (.tuple #[.bool a, .int .i64 b]) = .returned (.tuple #[.bool c, .int .i64 d]) := by cases h; rfl

set_option maxRecDepth 100000 in
set_option maxHeartbeats 1000000 in
theorem mayRegions_any (rs : List Int) (p : Option Addr) (cap : Nat) (w : World) (hl : rs.length ≤ 1000) (hc : NumsAt w p rs) :
    Calls Try.prog 44 #[.slice p rs.length cap] w fun r w' => r = .returned (.bool (regB rs)) ∧ w = w' := by
  have HC := Lib.hid hc
  clear hc
  go_enter Try.func44, Try.ntmps44
  go_wp2_with fail
  go_loop [7] (fun i => ∃ (k : Nat), k ≤ rs.length ∧ i = .int .i64 k ∧ Hid (∀ j, (hj : j < rs.length) → j < k → regOk rs[j] = true)) (fun i => rs.length - (intOf i).toNat)
  case atStart => exact ⟨0, Nat.zero_le _, rfl, fun j _ h => absurd h (by omega)⟩
  case round =>
    obtain ⟨k, hk, rfl, hq⟩ := hrel
    by_cases hlt : k < rs.length
    · obtain ⟨g, o, rfl, hg, hcell⟩ := HC.out k hlt
      obtain ⟨y, hy⟩ : ∃ y, rs[k] = y := ⟨_, rfl⟩
      rw [hy] at hcell
      have HY := Lib.hid hy
      clear hy
      by_cases h1 : y < 0
      · have HN : Hid (regB rs = false) := regB_no (all_drop_no hlt (by rw [HY.out]; simp [regOk, h1]))
        go_wp2_with fail
        go_ret
        exact ⟨ret_bool HN.out.symm, rfl⟩
      · by_cases h2 : 4 ≤ y
        · have HN : Hid (regB rs = false) := regB_no (all_drop_no hlt (by rw [HY.out]; simp [regOk, h2]))
          go_wp2_with fail
          go_ret
          exact ⟨ret_bool HN.out.symm, rfl⟩
        · have HQ : Hid (∀ j, (hj : j < rs.length) → j < k + 1 → regOk rs[j] = true) := fun j hj hj1 => by
            by_cases e : j = k
            · subst e; rw [HY.out]; simp [regOk]; omega
            · exact hq.out j hj (by omega)
          clear hq
          go_wp2_with fail
          go_round
          case rel => exact ⟨k + 1, by omega, by go_num, HQ⟩
          case measure => simp [intOf]; omega
    · obtain rfl : k = rs.length := by omega
      have HR : Hid (regB rs = (decide (1 ≤ rs.length) && decide (rs.length ≤ 9))) := by
        show _ = _
        have : rs.all regOk = true := by rw [List.all_eq_true]; intro x hx; obtain ⟨j, hj, rfl⟩ := List.getElem_of_mem hx; exact hq.out j hj hj
        simp [regB, this]
      clear hq
      by_cases h1 : 1 ≤ rs.length
      · by_cases h2 : rs.length ≤ 9
        · go_wp2_with fail
          go_ret
          exact ⟨ret_bool (by rw [HR.out]; simp [h1, h2]; try omega), rfl⟩
        · go_wp2_with fail
          go_ret
          exact ⟨ret_bool (by rw [HR.out]; simp [h1, h2]; try omega), rfl⟩
      · go_wp2_with fail
        go_ret
        exact ⟨ret_bool (by rw [HR.out]; simp [h1]; try omega), rfl⟩

set_option maxRecDepth 100000 in
set_option maxHeartbeats 1000000 in
theorem refMayRegions_any (rs : List Int) (p : Option Addr) (cap : Nat) (w : World) (hl : rs.length ≤ 1000) (hc : NumsAt w p rs) :
    Calls Try.prog 48 #[.slice p rs.length cap] w fun r w' => r = .returned (.bool (regB rs)) ∧ w = w' := by
  have HC := Lib.hid hc
  clear hc
  go_enter Try.func48, Try.ntmps48
  go_wp2_with fail
  go_loop [3] (fun i => ∃ (k : Nat), k ≤ rs.length ∧ i = .int .i64 k ∧ Hid (∀ j, (hj : j < rs.length) → j < k → regOk rs[j] = true)) (fun i => rs.length - (intOf i).toNat)
  case atStart => exact ⟨0, Nat.zero_le _, rfl, fun j _ h => absurd h (by omega)⟩
  case round =>
    obtain ⟨k, hk, rfl, hq⟩ := hrel
    by_cases hlt : k < rs.length
    · obtain ⟨g, o, rfl, hg, hcell⟩ := HC.out k hlt
      obtain ⟨y, hy⟩ : ∃ y, rs[k] = y := ⟨_, rfl⟩
      rw [hy] at hcell
      have HY := Lib.hid hy
      clear hy
      by_cases h1 : y < 0
      · have HN : Hid (regB rs = false) := regB_no (all_drop_no hlt (by rw [HY.out]; simp [regOk, h1]))
        go_wp2_with fail
        go_ret
        exact ⟨ret_bool HN.out.symm, rfl⟩
      · by_cases h2 : 4 ≤ y
        · have HN : Hid (regB rs = false) := regB_no (all_drop_no hlt (by rw [HY.out]; simp [regOk, h2]))
          go_wp2_with fail
          go_ret
          exact ⟨ret_bool HN.out.symm, rfl⟩
        · have HQ : Hid (∀ j, (hj : j < rs.length) → j < k + 1 → regOk rs[j] = true) := fun j hj hj1 => by
            by_cases e : j = k
            · subst e; rw [HY.out]; simp [regOk]; omega
            · exact hq.out j hj (by omega)
          clear hq
          go_wp2_with fail
          go_round
          case rel => exact ⟨k + 1, by omega, by go_num, HQ⟩
          case measure => simp [intOf]; omega
    · obtain rfl : k = rs.length := by omega
      have HR : Hid (regB rs = (decide (1 ≤ rs.length) && decide (rs.length ≤ 9))) := by
        show _ = _
        have : rs.all regOk = true := by rw [List.all_eq_true]; intro x hx; obtain ⟨j, hj, rfl⟩ := List.getElem_of_mem hx; exact hq.out j hj hj
        simp [regB, this]
      clear hq
      by_cases h1 : 1 ≤ rs.length
      · by_cases h2 : rs.length ≤ 9
        · go_wp2_with fail
          go_ret
          exact ⟨ret_bool (by rw [HR.out]; simp [h1, h2]; try omega), rfl⟩
        · go_wp2_with fail
          go_ret
          exact ⟨ret_bool (by rw [HR.out]; simp [h1, h2]; try omega), rfl⟩
      · go_wp2_with fail
        go_ret
        exact ⟨ret_bool (by rw [HR.out]; simp [h1]; try omega), rfl⟩

theorem count_is (s : Int) (w : World) (h0 : 0 ≤ s) {N : Int} (h : Hid (cnt s = N)) :
    Calls Try.prog 47 #[.int .u16 s] w fun e w' => e = .returned (.int .i64 N) ∧ Below w.heap.size w w' := by
  have := count_any s w h0
  rw [h.out] at this; exact this

set_option maxRecDepth 100000 in
set_option maxHeartbeats 2000000 in
theorem stands_any (cv cx cl ce ck g : Int) (w : World) :
    Calls Try.prog 54 #[.agg #[.int .u16 cv, .int .u16 cx, .int .u16 cl, .int .i64 ce, .int .i64 ck], .int .u16 g] w fun r w' => r = .returned (.bool (standsC cv cx cl ce ck g)) ∧ Below w.heap.size w w' := by
  obtain ⟨N, hN⟩ : ∃ N, cnt (bits .andNot .u16 (bits .or .u16 cv cx) g) = N := ⟨_, rfl⟩
  obtain ⟨M, hM⟩ : ∃ M, cnt (bits .andNot .u16 cv g) = M := ⟨_, rfl⟩
  have HS : Hid (standsC cv cx cl ce ck g = (decide (ce ≤ N) && (decide (ck ≤ N) && decide (0 < M)))) := by show _ = _; unfold standsC; rw [hN, hM]
  have q0 := (bits_fit .andNot (bits .or .u16 cv cx) g).1
  have q1 := (bits_fit .andNot cv g).1
  have HN := Lib.hid hN; have HM := Lib.hid hM
  clear hN hM
  by_cases h1 : ce ≤ N
  · by_cases h2 : ck ≤ N
    · go_enter Try.func54, Try.ntmps54
      go_wp2_with fail
      refine (count_is _ _ q0 HN).mono ?_; rintro r w1 ⟨rfl, hb1⟩
      have HA := below_block hb1 (by simp) (heap_last w (.cells #[.int .u16 cv, .int .u16 cx, .int .u16 cl, .int .i64 ce, .int .i64 ck] 39))
      have kA := block_cells HA
      go_wp2_with fail
      refine (count_is _ _ q1 HM).mono ?_; rintro r w2 ⟨rfl, hb2⟩
      go_wp2_with fail
      go_ret
      exact ⟨ret_bool (by rw [HS.out]; simp [h1, h2]), box_out (box_step (box_first hb1) hb2)⟩
    · go_enter Try.func54, Try.ntmps54
      go_wp2_with fail
      refine (count_is _ _ q0 HN).mono ?_; rintro r w1 ⟨rfl, hb1⟩
      have HA := below_block hb1 (by simp) (heap_last w (.cells #[.int .u16 cv, .int .u16 cx, .int .u16 cl, .int .i64 ce, .int .i64 ck] 39))
      have kA := block_cells HA
      go_wp2_with fail
      go_ret
      exact ⟨ret_bool (by rw [HS.out, decide_eq_true h1, decide_eq_false (show ¬ ck ≤ N by omega)]; rfl), box_out (box_first hb1)⟩
  · go_enter Try.func54, Try.ntmps54
    go_wp2_with fail
    refine (count_is _ _ q0 HN).mono ?_; rintro r w1 ⟨rfl, hb1⟩
    have HA := below_block hb1 (by simp) (heap_last w (.cells #[.int .u16 cv, .int .u16 cx, .int .u16 cl, .int .i64 ce, .int .i64 ck] 39))
    have kA := block_cells HA
    go_wp2_with fail
    go_ret
    exact ⟨ret_bool (by rw [HS.out, decide_eq_false (show ¬ ce ≤ N by omega)]; rfl), box_out (box_first hb1)⟩
end Go.Proofs.Ytihkkoldjllifaa
