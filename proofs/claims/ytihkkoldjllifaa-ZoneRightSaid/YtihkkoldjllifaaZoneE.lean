/- The reference's best node. -/
import Derived.Test.YtihkkoldjllifaaZoneD
namespace Go.Proofs.Ytihkkoldjllifaa
open Go.RowKit

section
variable (rs load : List Int) (p pl : Option Addr) (cap capl : Nat)
set_option maxRecDepth 100000 in
set_option maxHeartbeats 4000000 in
theorem best_any (r used : Int) (hl : rs.length ≤ 1000) (hll : load.length ≤ 1000) (u0 : 0 ≤ used) (u1 : used ≤ 65535) (w : World) (hc : NumsAt w p rs) (hcl : NumsAt w pl load) :
    Calls Try.prog 49 #[.slice p rs.length cap, .int .i64 r, .int .u16 used, .slice pl load.length capl] w fun e w' =>
      e = .returned (.int .i64 (bestP rs r used load : Nat)) ∧ w = w' := by
  obtain ⟨B, hB⟩ : ∃ B, bestP rs r used load = B := ⟨_, rfl⟩
  rw [hB]
  have HB : Hid (bestU (okP rs r used) (ldP load) rs.length = B) := hB
  have HC := Lib.hid hc; have HCL := Lib.hid hcl
  clear hB hc hcl
  go_enter Try.func49, Try.ntmps49
  go_wp2_with fail
  go_loop [9, 10] (fun b i => ∃ (m bn : Nat), m ≤ rs.length ∧ bn ≤ rs.length ∧ i = .int .i64 ((m : Int) + 1) ∧ b = .int .i64 bn ∧ Hid (bestU (okP rs r used) (ldP load) m = bn)) (fun _ i => rs.length + 1 - (intOf i).toNat)
  case atStart => exact ⟨0, 0, by omega, by omega, rfl, rfl, rfl⟩
  case round =>
    obtain ⟨m, bn, hj, hbn, rfl, rfl, hb⟩ := hrel
    by_cases hm : m < rs.length
    · obtain ⟨ga, o, hpa, hga, hcell⟩ := HC.out m hm
      have hok := okP_succ rs r used m hm
      obtain ⟨y, hy⟩ : ∃ y, rs[m] = y := ⟨_, rfl⟩
      rw [hy] at hcell hok
      have HS : Hid (bestU (okP rs r used) (ldP load) (m + 1) = buStep (okP rs r used) (ldP load) (m + 1) bn) := by show _ = _; rw [← hb.out]; rfl
      clear hb hy
      by_cases hyr : y = r
      · subst hyr
        cases hh : hasB used ((m : Int) + 1)
        · have HH := Lib.hid hh
          have HO : Hid (okP rs y used (m + 1) = true) := by show _ = _; rw [hok, hh]; simp
          clear hok hh
          by_cases hb0 : bn = 0
          · subst hb0
            have HN : Hid (bestU (okP rs y used) (ldP load) (m + 1) = m + 1) := by show _ = _; rw [HS.out, bu_zero HO.out]
            clear HS
            subst hpa
            go_wp2_with fail
            refine (refHas_is' _ _ _ u0 u1 HH).mono ?_; rintro e w' ⟨rfl, rfl⟩
            go_wp2_with fail
            go_round
            case rel => exact ⟨m + 1, m + 1, by omega, by omega, by go_num, by go_num, HN⟩
            case measure => simp [intOf]; omega
          · obtain ⟨b', rfl⟩ : ∃ b', bn = b' + 1 := ⟨bn - 1, by omega⟩
            have eb : ((b' + 1 : Nat) : Int) = (b' : Int) + 1 := by omega
            rw [eb]
            have hz : ((b' : Int) + 1 == 0) = false := by simp; omega
            obtain ⟨X, hX⟩ : ∃ X, load.getD m 0 = X := ⟨_, rfl⟩
            obtain ⟨Y, hY⟩ : ∃ Y, load.getD b' 0 = Y := ⟨_, rfl⟩
            have HX := Lib.hid hX; have HY := Lib.hid hY
            clear eb hb0
            by_cases hle : X < Y
            · have HN : Hid (bestU (okP rs y used) (ldP load) (m + 1) = m + 1) := by show _ = _; rw [HS.out, bu_lt HO.out (by show load.getD m 0 < load.getD b' 0; rw [hX, hY]; exact hle)]
              clear HS hX hY
              subst hpa
              go_wp2_with fail
              refine (refHas_is' _ _ _ u0 u1 HH).mono ?_; rintro e w' ⟨rfl, rfl⟩
              go_wp2_with fail
              refine (of_is load pl capl m _ hll HCL HX).mono ?_; rintro e w' ⟨rfl, rfl⟩
              go_wp2_with fail
              refine (of_is load pl capl b' _ hll HCL HY).mono ?_; rintro e w' ⟨rfl, rfl⟩
              go_wp2_with fail
              go_round
              case rel => exact ⟨m + 1, m + 1, by omega, by omega, by go_num, by go_num, HN⟩
              case measure => simp [intOf]; omega
            · have HN : Hid (bestU (okP rs y used) (ldP load) (m + 1) = b' + 1) := by show _ = _; rw [HS.out, bu_ge (by omega) (by show ¬ load.getD m 0 < load.getD b' 0; rw [hX, hY]; exact hle)]
              have hd := decide_eq_false hle
              clear HS hX hY hle
              subst hpa
              go_wp2_with fail
              refine (refHas_is' _ _ _ u0 u1 HH).mono ?_; rintro e w' ⟨rfl, rfl⟩
              go_wp2_with fail
              refine (of_is load pl capl m _ hll HCL HX).mono ?_; rintro e w' ⟨rfl, rfl⟩
              go_wp2_with fail
              refine (of_is load pl capl b' _ hll HCL HY).mono ?_; rintro e w' ⟨rfl, rfl⟩
              go_wp2_with fail
              go_round
              case rel => exact ⟨m + 1, b' + 1, by omega, by omega, by go_num, by go_num, HN⟩
              case measure => simp [intOf]; omega
        · have HH := Lib.hid hh
          have HN : Hid (bestU (okP rs y used) (ldP load) (m + 1) = bn) := by show _ = _; rw [HS.out, bu_no (by rw [hok, hh]; simp)]
          clear hok hh HS
          subst hpa
          go_wp2_with fail
          refine (refHas_is' _ _ _ u0 u1 HH).mono ?_; rintro e w' ⟨rfl, rfl⟩
          go_wp2_with fail
          go_round
          case rel => exact ⟨m + 1, bn, by omega, by omega, by go_num, rfl, HN⟩
          case measure => simp [intOf]; omega
      · have hq : (y == r) = false := by simp [hyr]
        have HN : Hid (bestU (okP rs r used) (ldP load) (m + 1) = bn) := by show _ = _; rw [HS.out, bu_no (by rw [hok]; simp [hyr])]
        clear hok hyr HS
        subst hpa
        go_wp2_with fail
        go_round
        case rel => exact ⟨m + 1, bn, by omega, by omega, by go_num, rfl, HN⟩
        case measure => simp [intOf]; omega
    · obtain rfl : m = rs.length := by omega
      have hbB : Hid (bn = B) := hb.out.symm.trans HB.out
      clear hb
      go_wp2_with fail
      go_ret
      exact ⟨ret_int (by rw [hbB.out]), rfl⟩
end
end Go.Proofs.Ytihkkoldjllifaa
