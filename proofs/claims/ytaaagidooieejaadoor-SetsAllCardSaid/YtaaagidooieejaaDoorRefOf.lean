/- The reference's Less and Of. -/
import Derived.Test.YtaaagidooieejaaDoorOf
namespace Go.Proofs.YtaaagidooieejaaDoor
open Go.RowKit

set_option maxHeartbeats 400000 in
theorem refLess_any (s n : Int) (w : World) (h0 : 0 ≤ s) (hs : s ≤ 65535) :
    Calls Tryd.prog 16 #[.int .u16 s, .int .i64 n] w fun e w' => e = .returned (.int .u16 (bits .andNot .u16 s (oneB n))) ∧ w = w' := by
  obtain ⟨hf1, hf2⟩ := oneB_fit n
  cases hb : hasB s n
  · have HO := Lib.hid (less_not s n h0 hs hb)
    have HB := Lib.hid hb
    clear hb
    go_enter Tryd.func16, Tryd.ntmps16
    go_wp2_with (go_at_call 12; refine (refHas_any _ _ _ h0 hs).mono ?_; rintro e w' ⟨rfl, rfl⟩; rw [HB.out])
    go_ret
    exact ⟨ret_int HO.out.symm, rfl⟩
  · have HO := Lib.hid (less_ref s n h0 hb)
    have HB := Lib.hid hb
    clear hb
    go_enter Tryd.func16, Tryd.ntmps16
    go_wp2_with (first | (go_at_call 12; refine (refHas_any _ _ _ h0 hs).mono ?_; rintro e w' ⟨rfl, rfl⟩; rw [HB.out]) | (go_at_call 22; refine (bit_any _ _).mono ?_; rintro e w' ⟨rfl, rfl⟩))
    go_ret
    exact ⟨ret_int HO.out, rfl⟩

set_option maxRecDepth 100000 in
set_option maxHeartbeats 1000000 in
theorem refOf_any (xs : List Int) (p : Option Addr) (cap : Nat) (w : World) (hl : xs.length ≤ 1000) (hc : ∀ j, (h : j < xs.length) → ∃ a, p = some a ∧ w.cell? (a.add j) = some (.int .i64 xs[j])) :
    Calls Tryd.prog 7 #[.slice p xs.length cap] w fun r w' => r = .returned (.tuple #[.int .u16 (ofGo xs 0).1, .int .i64 (ofGo xs 0).2]) ∧ w = w' := by
  obtain ⟨F, hF⟩ : ∃ F, ofGo xs 0 = F := ⟨_, rfl⟩
  rw [hF]
  have HF := Lib.hid hF
  have HC := Lib.hid hc
  clear hF hc
  go_enter Tryd.func7, Tryd.ntmps7
  go_wp2_with fail
  go_loop [4, 5] (fun s i => ∃ (k : Nat) (v : Int), k ≤ xs.length ∧ i = .int .i64 k ∧ s = .int .u16 v ∧ 0 ≤ v ∧ v ≤ 65535 ∧ Hid (ofGo (xs.drop k) v = F)) (fun _ i => xs.length - (intOf i).toNat)
  case atStart => exact ⟨0, 0, Nat.zero_le _, rfl, rfl, by omega, by omega, HF⟩
  case round =>
    obtain ⟨k, v, hk, rfl, rfl, v0, v1, ht⟩ := hrel
    by_cases hlt : k < xs.length
    · obtain ⟨a, rfl, hcell⟩ := HC.out k hlt
      obtain ⟨y, hy⟩ : ∃ y, xs[k] = y := ⟨_, rfl⟩
      rw [hy] at hcell
      by_cases h0 : oneB y = 0
      · have HM : Hid (F = (0, 1)) := by show _ = _; rw [← ht.out]; exact ofGo_miss hlt (by rw [hy]; exact h0)
        have HO := Lib.hid h0
        clear ht hy h0
        go_wp2_with fail
        refine (bit_any _ _).mono ?_; rintro r w' ⟨rfl, rfl⟩; rw [HO.out]
        go_wp2_with fail
        go_ret2
        exact ⟨ret_two' (by rw [HM.out]), rfl⟩
      · have HM : Hid (ofGo (xs.drop (k + 1)) (bits .or .u16 v (oneB y)) = F) := by show _ = _; rw [← ht.out, ofGo_hit hlt (by rw [hy]; exact h0), hy]
        have hne : (oneB y == 0) = false := by simp [h0]
        have hfit := bits_fit .or v (oneB y)
        obtain ⟨q0, q1⟩ := hfit
        clear ht hy h0
        go_wp2_with fail
        refine (bit_any _ _).mono ?_; rintro r w' ⟨rfl, rfl⟩
        go_wp2_with fail
        refine (refWith_any _ _ _ v0 v1).mono ?_; rintro r w' ⟨rfl, rfl⟩
        go_wp2_with fail
        go_round
        case rel => exact ⟨k + 1, _, by omega, by go_num, rfl, q0, q1, HM⟩
        case measure => simp [intOf]; omega
    · obtain rfl : k = xs.length := by omega
      have HM : Hid (F = (v, 0)) := by show _ = _; rw [← ht.out, List.drop_length]; rfl
      clear ht
      go_wp2_with fail
      go_ret2
      exact ⟨ret_two' (by rw [HM.out]), rfl⟩
end Go.Proofs.YtaaagidooieejaaDoor
