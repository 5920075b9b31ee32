/- zone: a list's number, the nodes that are taken; the reference's best node. -/
import Derived.Test.YtihkkoldjllifaaPlainAllot
import Derived.Test.YtihkkoldjllifaaNums
import Derived.Test.YtihkkoldjllifaaSets
namespace Go.Proofs.Ytihkkoldjllifaa
open Go.RowKit

theorem ret_ui {a c b d : Int} (h : (a, b) = (c, d)) : Ending.returned (.tuple #[.int .u16 a, .int .i64 b]) = .returned (.tuple #[.int .u16 c, .int .i64 d]) := by cases h; rfl
theorem has_is (s n : Int) (w : World) (h0 : 0 ≤ s) {b : Bool} (h : Hid (hasB s n = b)) :
    Calls Try.prog 68 #[.int .u16 s, .int .i64 n] w fun e w' => e = .returned (.bool b) ∧ w = w' := by
  have := has_any s n w h0
  rw [h.out] at this; exact this
theorem refHas_is' (s n : Int) (w : World) (h0 : 0 ≤ s) (h1 : s ≤ 65535) {b : Bool} (h : Hid (hasB s n = b)) :
    Calls Try.prog 31 #[.int .u16 s, .int .i64 n] w fun e w' => e = .returned (.bool b) ∧ w = w' := by
  have := refHas_any s n w h0 h1
  rw [h.out] at this; exact this

set_option maxHeartbeats 400000 in
theorem at_any (xs : List Int) (p : Option Addr) (cap i : Nat) (w : World) (_hl : xs.length ≤ 1000) (hc : NumsAt w p xs) :
    Calls Try.prog 46 #[.slice p xs.length cap, .int .i64 i] w fun r w' => r = .returned (.int .i64 (xs.getD i 0)) ∧ w = w' := by
  by_cases hlt : i < xs.length
  · obtain ⟨g, o, rfl, hg, hcell⟩ := hc i hlt
    have hd : xs.getD i 0 = xs[i] := by simp [hlt]
    obtain ⟨y, hy⟩ : ∃ y, xs[i] = y := ⟨_, rfl⟩
    rw [hy] at hcell hd
    rw [hd]
    clear hc hd hy
    go_enter Try.func46, Try.ntmps46
    go_wp2_with fail
    go_ret
    exact ⟨rfl, rfl⟩
  · have hd : xs.getD i 0 = 0 := by simp [List.getD, List.getElem?_eq_none (show xs.length ≤ i by omega)]
    rw [hd]
    clear hc hd
    go_enter Try.func46, Try.ntmps46
    go_wp2_with fail
    go_ret
    exact ⟨rfl, rfl⟩
set_option maxHeartbeats 400000 in
theorem refOf11_any (xs : List Int) (p : Option Addr) (cap i : Nat) (w : World) (hl : xs.length ≤ 1000) (hc : NumsAt w p xs) :
    Calls Try.prog 70 #[.slice p xs.length cap, .int .i64 ((i : Int) + 1)] w fun r w' => r = .returned (.int .i64 (xs.getD i 0)) ∧ w = w' := by
  by_cases hi : i ≤ 2000
  · by_cases hlt : i < xs.length
    · obtain ⟨g, o, rfl, hg, hcell⟩ := hc i hlt
      have hd : xs.getD i 0 = xs[i] := by simp [hlt]
      obtain ⟨y, hy⟩ : ∃ y, xs[i] = y := ⟨_, rfl⟩
      rw [hy] at hcell hd
      rw [hd]
      clear hc hd hy
      go_enter Try.func70, Try.ntmps70
      go_wp2_with fail
      go_ret
      exact ⟨rfl, rfl⟩
    · have hd : xs.getD i 0 = 0 := by simp [List.getD, List.getElem?_eq_none (show xs.length ≤ i by omega)]
      rw [hd]
      clear hc hd
      go_enter Try.func70, Try.ntmps70
      go_wp2_with fail
      go_ret
      exact ⟨rfl, rfl⟩
  · have hd : xs.getD i 0 = 0 := by simp [List.getD, List.getElem?_eq_none (show xs.length ≤ i by omega)]
    rw [hd]
    clear hc hd
    have hn : ¬ ((i : Int) + 1 ≤ xs.length) := by omega
    go_enter Try.func70, Try.ntmps70
    go_wp2_with fail
    go_ret
    exact ⟨rfl, rfl⟩

theorem at_is (xs : List Int) (p : Option Addr) (cap i : Nat) (w : World) (hl : xs.length ≤ 1000) (hc : Hid (NumsAt w p xs)) {X : Int} (h : Hid (xs.getD i 0 = X)) :
    Calls Try.prog 46 #[.slice p xs.length cap, .int .i64 i] w fun r w' => r = .returned (.int .i64 X) ∧ w = w' := by
  have := at_any xs p cap i w hl hc.out
  rw [h.out] at this; exact this
theorem of_is (xs : List Int) (p : Option Addr) (cap i : Nat) (w : World) (hl : xs.length ≤ 1000) (hc : Hid (NumsAt w p xs)) {X : Int} (h : Hid (xs.getD i 0 = X)) :
    Calls Try.prog 70 #[.slice p xs.length cap, .int .i64 ((i : Int) + 1)] w fun r w' => r = .returned (.int .i64 X) ∧ w = w' := by
  have := refOf11_any xs p cap i w hl hc.out
  rw [h.out] at this; exact this
/-- What take answers. -/
def takeV : Option Int → Value
  | none => .tuple #[.int .u16 0, .int .i64 8]
  | some g => .tuple #[.int .u16 g, .int .i64 0]
section
variable (rs load : List Int) (p pl : Option Addr) (cap capl : Nat)
/-- What a step of the search makes of the best node so far. -/
theorem okP_succ (r used : Int) (m : Nat) (hm : m < rs.length) : okP rs r used (m + 1) = (decide (rs[m] = r) && !hasB used ((m : Int) + 1)) := by
  unfold okP
  rw [show (m + 1 : Nat) - 1 = m by omega, List.getD_eq_getElem?_getD, List.getElem?_eq_getElem hm]
  have : ((m + 1 : Nat) : Int) = (m : Int) + 1 := by omega
  rw [this]; rfl

set_option maxRecDepth 100000 in
set_option maxHeartbeats 4000000 in
theorem take_any (r taken : Int) (N : Nat) (hl : rs.length ≤ 1000) (hll : load.length ≤ 1000) (hN : N ≤ 1000) (w : World) (hc : NumsAt w p rs) (hcl : NumsAt w pl load) :
    Calls Try.prog 45 #[.slice p rs.length cap, .int .i64 r, .int .i64 N, .slice pl load.length capl, .int .u16 taken] w fun e w' =>
      e = .returned (takeV (takeP rs r load taken N 0)) ∧ w = w' := by
  obtain ⟨T, hT⟩ : ∃ T, takeP rs r load taken N 0 = T := ⟨_, rfl⟩
  rw [hT]
  have HT : Hid (takeP rs r load taken (N - 0) 0 = T) := hT
  have HC := Lib.hid hc; have HCL := Lib.hid hcl
  clear hT hc hcl
  go_enter Try.func45, Try.ntmps45
  go_wp2_with fail
  go_loop [12, 16] (fun g i => ∃ (k : Nat) (got : Int), k ≤ N ∧ i = .int .i64 k ∧ g = .int .u16 got ∧ 0 ≤ got ∧ got ≤ 65535 ∧ Hid (takeP rs r load taken (N - k) got = T)) (fun _ i => N - (intOf i).toNat)
  case atStart => exact ⟨0, 0, by omega, rfl, rfl, by omega, by omega, HT⟩
  case round =>
    obtain ⟨k, got, hk, rfl, rfl, g0, g1, ht⟩ := hrel
    by_cases hlt : k < N
    · obtain ⟨B, hB⟩ : ∃ B, bestP rs r (bits .or .u16 taken got) load = B := ⟨_, rfl⟩
      have u0 := (bits_fit .or taken got).1
      have HBD : Hid (bestD (okP rs r (bits .or .u16 taken got)) (ldP load) rs.length 0 = B) := by show _ = _; rw [bestD_eq]; exact hB
      have HB := Lib.hid hB
      clear hB
      have hd1 : decide ((k : Int) < (N : Int)) = true := by simp; omega
      go_wp2_with fail
      go_loop [13, 14] (fun b i => ∃ (j bn : Nat), j ≤ rs.length ∧ bn ≤ rs.length ∧ i = .int .i64 j ∧ b = .int .i64 bn ∧ Hid (bestD (okP rs r (bits .or .u16 taken got)) (ldP load) j bn = B)) (fun _ i => (intOf i).toNat)
      case atStart => exact ⟨rs.length, 0, by omega, by omega, rfl, rfl, HBD⟩
      case round =>
        obtain ⟨j, bn, hj, hbn, rfl, rfl, hb⟩ := hrel
        by_cases hj1 : 1 ≤ j
        · obtain ⟨m, rfl⟩ : ∃ m, j = m + 1 := ⟨j - 1, by omega⟩
          have hm : m < rs.length := by omega
          obtain ⟨ga, o, hpa, hga, hcell⟩ := HC.out m hm
          have hok := okP_succ rs r (bits .or .u16 taken got) m hm
          obtain ⟨y, hy⟩ : ∃ y, rs[m] = y := ⟨_, rfl⟩
          rw [hy] at hcell hok
          have ec : ((m + 1 : Nat) : Int) = (m : Int) + 1 := by omega
          rw [ec]
          have HS : Hid (bestD (okP rs r (bits .or .u16 taken got)) (ldP load) m (bdStep (okP rs r (bits .or .u16 taken got)) (ldP load) (m + 1) bn) = B) := hb.out
          clear hb hy ec
          by_cases hyr : y = r
          · subst hyr
            cases hh : hasB (bits .or .u16 taken got) ((m : Int) + 1)
            · have HH := Lib.hid hh
              have HO : Hid (okP rs y (bits .or .u16 taken got) (m + 1) = true) := by show _ = _; rw [hok, hh]; simp
              clear hok hh
              by_cases hb0 : bn = 0
              · subst hb0
                have HN : Hid (bestD (okP rs y (bits .or .u16 taken got)) (ldP load) m (m + 1) = B) := by show _ = _; rw [← HS.out, bd_zero HO.out]
                clear HS
                subst hpa
                go_wp2_with fail
                refine (has_is _ _ _ u0 HH).mono ?_; rintro e w' ⟨rfl, rfl⟩
                go_wp2_with fail
                go_round
                case rel => exact ⟨m, m + 1, by omega, by omega, by go_num, by go_num, HN⟩
                case measure => simp [intOf]
              · obtain ⟨b', rfl⟩ : ∃ b', bn = b' + 1 := ⟨bn - 1, by omega⟩
                have eb : ((b' + 1 : Nat) : Int) = (b' : Int) + 1 := by omega
                rw [eb]
                have hz : ((b' : Int) + 1 == 0) = false := by simp; omega
                obtain ⟨X, hX⟩ : ∃ X, load.getD m 0 = X := ⟨_, rfl⟩
                obtain ⟨Y, hY⟩ : ∃ Y, load.getD b' 0 = Y := ⟨_, rfl⟩
                have HX := Lib.hid hX; have HY := Lib.hid hY
                clear eb hb0
                by_cases hle : X ≤ Y
                · have HN : Hid (bestD (okP rs y (bits .or .u16 taken got)) (ldP load) m (m + 1) = B) := by show _ = _; rw [← HS.out, bd_le HO.out (by show load.getD m 0 ≤ load.getD b' 0; rw [hX, hY]; exact hle)]
                  clear HS hX hY
                  subst hpa
                  go_wp2_with fail
                  refine (has_is _ _ _ u0 HH).mono ?_; rintro e w' ⟨rfl, rfl⟩
                  go_wp2_with fail
                  refine (at_is load pl capl m _ hll HCL HX).mono ?_; rintro e w' ⟨rfl, rfl⟩
                  go_wp2_with fail
                  refine (at_is load pl capl b' _ hll HCL HY).mono ?_; rintro e w' ⟨rfl, rfl⟩
                  go_wp2_with fail
                  go_round
                  case rel => exact ⟨m, m + 1, by omega, by omega, by go_num, by go_num, HN⟩
                  case measure => simp [intOf]
                · have HN : Hid (bestD (okP rs y (bits .or .u16 taken got)) (ldP load) m (b' + 1) = B) := by show _ = _; rw [← HS.out, bd_gt (by omega) (by show ¬ load.getD m 0 ≤ load.getD b' 0; rw [hX, hY]; exact hle)]
                  have hd := decide_eq_false hle
                  clear HS hX hY hle
                  subst hpa
                  go_wp2_with fail
                  refine (has_is _ _ _ u0 HH).mono ?_; rintro e w' ⟨rfl, rfl⟩
                  go_wp2_with fail
                  refine (at_is load pl capl m _ hll HCL HX).mono ?_; rintro e w' ⟨rfl, rfl⟩
                  go_wp2_with fail
                  refine (at_is load pl capl b' _ hll HCL HY).mono ?_; rintro e w' ⟨rfl, rfl⟩
                  go_wp2_with fail
                  go_round
                  case rel => exact ⟨m, b' + 1, by omega, by omega, by go_num, by go_num, HN⟩
                  case measure => simp [intOf]
            · have HH := Lib.hid hh
              have HN : Hid (bestD (okP rs y (bits .or .u16 taken got)) (ldP load) m bn = B) := by show _ = _; rw [← HS.out, bd_no (by rw [hok, hh]; simp)]
              clear hok hh HS
              subst hpa
              go_wp2_with fail
              refine (has_is _ _ _ u0 HH).mono ?_; rintro e w' ⟨rfl, rfl⟩
              go_wp2_with fail
              go_round
              case rel => exact ⟨m, bn, by omega, by omega, by go_num, by go_num, HN⟩
              case measure => simp [intOf]
          · have hq : (y == r) = false := by simp [hyr]
            have HN : Hid (bestD (okP rs r (bits .or .u16 taken got)) (ldP load) m bn = B) := by show _ = _; rw [← HS.out, bd_no (by rw [hok]; simp [hyr])]
            clear hok hyr HS
            subst hpa
            go_wp2_with fail
            go_round
            case rel => exact ⟨m, bn, by omega, by omega, by go_num, by go_num, HN⟩
            case measure => simp [intOf]
        · obtain rfl : j = 0 := by omega
          have hbB : Hid (bn = B) := hb.out
          clear hb hj1
          by_cases hb0 : bn = 0
          · subst hb0
            have HX : Hid (T = none) := by show _ = _; rw [← ht.out, takeP_no (by omega) (HB.out.trans hbB.out.symm)]
            clear ht
            go_wp2_with fail
            go_ret2
            rw [HX.out]
            exact ⟨rfl, rfl⟩
          · have hz : ((bn : Int) == 0) = false := by simp; omega
            have HX : Hid (takeP rs r load taken (N - (k + 1)) (bits .or .u16 got (oneB bn)) = T) := by
              show _ = _; rw [← ht.out, takeP_yes (n := N - k) (by omega) (by rw [HB.out, ← hbB.out]; exact hb0), HB.out, ← hbB.out]; rfl
            obtain ⟨q0, q1⟩ := bits_fit .or got (oneB bn)
            clear ht hb0
            go_wp2_with fail
            refine (with_any _ _ _).mono ?_; rintro e w' ⟨rfl, rfl⟩
            go_wp2_with fail
            go_round
            case rel => exact ⟨k + 1, _, by omega, by go_num, rfl, q0, q1, HX⟩
            case measure => simp [intOf]; omega
    · obtain rfl : k = N := by omega
      have HX : Hid (T = some got) := by show _ = _; rw [← ht.out, Nat.sub_self]; rfl
      clear ht
      go_wp2_with fail
      go_ret2
      rw [HX.out]
      exact ⟨rfl, rfl⟩
end
end Go.Proofs.Ytihkkoldjllifaa
