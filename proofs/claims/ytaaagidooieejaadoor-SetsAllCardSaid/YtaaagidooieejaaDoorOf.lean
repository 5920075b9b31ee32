/- sets.Of: the set of a list. -/
import Derived.Test.YtaaagidooieejaaDoorSets
namespace Go.Proofs.YtaaagidooieejaaDoor
open Go.RowKit

/-- The set of a list, and the error. -/
def ofGo : List Int → Int → Int × Int
  | [], s => (s, 0)
  | x :: l, s => if oneB x = 0 then (0, 1) else ofGo l (bits .or .u16 s (oneB x))
theorem ofGo_miss {xs : List Int} {k : Nat} {v : Int} (h : k < xs.length) (h0 : oneB xs[k] = 0) : ofGo (xs.drop k) v = (0, 1) := by
  rw [List.drop_eq_getElem_cons h]; unfold ofGo; rw [if_pos h0]
theorem ofGo_hit {xs : List Int} {k : Nat} {v : Int} (h : k < xs.length) (h0 : oneB xs[k] ≠ 0) : ofGo (xs.drop k) v = ofGo (xs.drop (k + 1)) (bits .or .u16 v (oneB xs[k])) := by
  rw [List.drop_eq_getElem_cons h]; conv => lhs; unfold ofGo
  rw [if_neg h0]
theorem ret_two' {a b c d : Int} (h : (a, b) = (c, d)) : Ending.returned (.tuple #[.int .u16 a, .int .i64 b]) = .returned (.tuple #[.int .u16 c, .int .i64 d]) := by cases h; rfl

set_option maxRecDepth 100000 in
set_option maxHeartbeats 1000000 in
theorem of_any (xs : List Int) (p : Option Addr) (cap : Nat) (w : World) (hl : xs.length ≤ 1000) (hc : ∀ j, (h : j < xs.length) → ∃ a, p = some a ∧ w.cell? (a.add j) = some (.int .i64 xs[j])) :
    Calls Tryd.prog 6 #[.slice p xs.length cap] w fun r w' => r = .returned (.tuple #[.int .u16 (ofGo xs 0).1, .int .i64 (ofGo xs 0).2]) ∧ w = w' := by
  obtain ⟨F, hF⟩ : ∃ F, ofGo xs 0 = F := ⟨_, rfl⟩
  rw [hF]
  have HF := Lib.hid hF
  have HC := Lib.hid hc
  clear hF hc
  go_enter Tryd.func6, Tryd.ntmps6
  go_wp2_with fail
  go_loop [4, 6, 9] (fun s _ i => ∃ (k : Nat) (v : Int), k ≤ xs.length ∧ i = .int .i64 k ∧ s = .int .u16 v ∧ Hid (ofGo (xs.drop k) v = F)) (fun _ _ i => xs.length - (intOf i).toNat)
  case atStart => exact ⟨0, 0, Nat.zero_le _, rfl, rfl, HF⟩
  case round =>
    obtain ⟨k, v, hk, rfl, rfl, ht⟩ := hrel
    by_cases hlt : k < xs.length
    · obtain ⟨a, rfl, hcell⟩ := HC.out k hlt
      obtain ⟨y, hy⟩ : ∃ y, xs[k] = y := ⟨_, rfl⟩
      rw [hy] at hcell
      by_cases h0 : oneB y = 0
      · have HM : Hid (F = (0, 1)) := by show _ = _; rw [← ht.out]; exact ofGo_miss hlt (by rw [hy]; exact h0)
        have HO := Lib.hid h0
        clear ht hy h0
        go_wp2_with fail
        refine (one_any _ _).mono ?_; rintro r w' ⟨rfl, rfl⟩; rw [HO.out]
        go_wp2_with fail
        go_ret2
        exact ⟨ret_two' (by rw [HM.out]), rfl⟩
      · have HM : Hid (ofGo (xs.drop (k + 1)) (bits .or .u16 v (oneB y)) = F) := by show _ = _; rw [← ht.out, ofGo_hit hlt (by rw [hy]; exact h0), hy]
        have hne : (oneB y == 0) = false := by simp [h0]
        clear ht hy h0
        go_wp2_with fail
        refine (one_any _ _).mono ?_; rintro r w' ⟨rfl, rfl⟩
        go_wp2_with fail
        refine (one_any _ _).mono ?_; rintro r w' ⟨rfl, rfl⟩
        go_wp2_with fail
        go_round
        case rel => exact ⟨k + 1, _, by omega, by go_num, rfl, HM⟩
        case measure => simp [intOf]; omega
    · obtain rfl : k = xs.length := by omega
      have HM : Hid (F = (v, 0)) := by show _ = _; rw [← ht.out, List.drop_length]; rfl
      clear ht
      go_wp2_with fail
      go_ret2
      exact ⟨ret_two' (by rw [HM.out]), rfl⟩
end Go.Proofs.YtaaagidooieejaaDoor
