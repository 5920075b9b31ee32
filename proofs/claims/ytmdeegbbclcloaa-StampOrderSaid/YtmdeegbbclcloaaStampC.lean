/- The contract of the reference's order of attempts. -/
import Derived.Test.YtmdeegbbclcloaaStampB
import Derived.Deep.RegionHeld3
import Derived.Deep.DeepCutAuto
namespace Go.Proofs.Ytmdeegbbclcloaa
open Go.RowKit

/-- Two arrays in two new blocks, whichever was made first. -/
def TwoArr (w : World) (xs ys : Array Value) (t : TypeId) (v5 v6 : Value) (wx : World) : Prop :=
  ∃ p q, v5 = .pointer (some ⟨p, 0, none⟩) ∧ v6 = .pointer (some ⟨q, 0, none⟩) ∧ wx.heap[p]? = some (.cells xs t (0, 0)) ∧ wx.heap[q]? = some (.cells ys t (0, 0)) ∧ Below w.heap.size w wx

theorem twoArr_1 (W : World) (xs ys : Array Value) (t : TypeId) : TwoArr W xs ys t (.pointer (some ⟨W.heap.size, 0, none⟩)) (.pointer (some ⟨W.heap.size + 1, 0, none⟩)) (((W.alloc (.cells xs t)).alloc (.cells ys t)).drew) :=
  ⟨_, _, rfl, rfl, (two_blocks W (.cells xs t) (.cells ys t)).1, (two_blocks W (.cells xs t) (.cells ys t)).2, (below_two W _ _).drew⟩
theorem twoArr_2 (W : World) (xs ys : Array Value) (t : TypeId) : TwoArr W xs ys t (.pointer (some ⟨W.heap.size + 1, 0, none⟩)) (.pointer (some ⟨W.heap.size, 0, none⟩)) (((W.alloc (.cells ys t)).alloc (.cells xs t)).drew) :=
  ⟨_, _, rfl, rfl, (two_blocks W (.cells ys t) (.cells xs t)).2, (two_blocks W (.cells ys t) (.cells xs t)).1, (below_two W _ _).drew⟩
def Arr4 (p q : Nat) (a b c d x y z u : Int) (wx : World) : Prop :=
  wx.heap[p]? = some (.cells #[.int .i64 a, .int .i64 b, .int .i64 c, .int .i64 d] 58 (0, 0)) ∧ wx.heap[q]? = some (.cells #[.int .i64 x, .int .i64 y, .int .i64 z, .int .i64 u] 58 (0, 0))

set_option maxRecDepth 100000 in
set_option maxHeartbeats 4000000 in
theorem refLessTry_any (a b c d x y z u : Int) (w : World) :
    Calls Try.prog 23 #[.agg #[.int .i64 a, .int .i64 b, .int .i64 c, .int .i64 d], .agg #[.int .i64 x, .int .i64 y, .int .i64 z, .int .i64 u]] w fun e w' => e = .returned (.bool (lessT a b c d x y z u)) ∧ Below w.heap.size w w' := by
  obtain ⟨HA, HB⟩ := two_blocks w (.cells #[.int .i64 a, .int .i64 b, .int .i64 c, .int .i64 d] 23) (.cells #[.int .i64 x, .int .i64 y, .int .i64 z, .int .i64 u] 23)
  have B0 := Lib.hid (below_two w (.cells #[.int .i64 a, .int .i64 b, .int .i64 c, .int .i64 d] 23) (.cells #[.int .i64 x, .int .i64 y, .int .i64 z, .int .i64 u] 23))
  go_enter Try.func23, Try.ntmps23
  go_wp2_with fail
  obtain ⟨W, hW⟩ : ∃ W, (w.alloc (.cells #[.int .i64 a, .int .i64 b, .int .i64 c, .int .i64 d] 23)).alloc (.cells #[.int .i64 x, .int .i64 y, .int .i64 z, .int .i64 u] 23) = W := ⟨_, rfl⟩
  rw [hW] at HA HB B0 ⊢
  clear hW
  have h0 : Below W.heap.size W W.drew := (Below.refl _ _).drew
  have HS : Hid (∀ w', Below W.heap.size W w' → Below W.heap.size W w' ∧ (∀ j, w'.cell? ⟨w.heap.size, j, none⟩ = #[Value.int .i64 a, .int .i64 b, .int .i64 c, .int .i64 d][j]?) ∧ (∀ j, w'.cell? ⟨w.heap.size + 1, j, none⟩ = #[Value.int .i64 x, .int .i64 y, .int .i64 z, .int .i64 u][j]?)) := fun w' h => ⟨h, block_cells (below_block h (block_lt HA) HA), block_cells (below_block h (block_lt HB) HB)⟩
  clear HA HB
  go_cut [5, 6] (fun v5 v6 wx => TwoArr W #[.int .i64 a, .int .i64 b, .int .i64 c, .int .i64 d] #[.int .i64 x, .int .i64 y, .int .i64 z, .int .i64 u] 58 v5 v6 wx)
  case first =>
    go_region_held3 (fun w' => Below W.heap.size W w' ∧ (∀ j, w'.cell? ⟨w.heap.size, j, none⟩ = #[Value.int .i64 a, .int .i64 b, .int .i64 c, .int .i64 d][j]?) ∧ (∀ j, w'.cell? ⟨w.heap.size + 1, j, none⟩ = #[Value.int .i64 x, .int .i64 y, .int .i64 z, .int .i64 u][j]?)) ((refine HS.out _ ?_; first | exact h0 | exact (by repeat (first | exact Below.refl _ _ | assumption | refine Below.alloc ?_ (by simp) _ | refine Below.setCell ?_ (by simp) _ | refine Below.drew ?_)))) (fail)
    · go_wp2_with fail
      go_meet
      exact twoArr_1 _ _ _ _
    · go_wp2_with fail
      go_meet
      exact twoArr_2 _ _ _ _
  case rest =>
    obtain ⟨p, q, rfl, rfl, HP, HQ, hb⟩ := hcut
    have B1 := Lib.hid (B0.out.trans (hb.mono B0.out.size))
    clear h0 HS hb B0
    go_wp2_with fail
    go_loopw [7] (fun i wr => ∃ k : Nat, k ≤ 4 ∧ i = .int .i64 k ∧ Hid (lexL ([a, b, c, d].drop k) ([x, y, z, u].drop k) = lexL [a, b, c, d] [x, y, z, u]) ∧ Arr4 p q a b c d x y z u wr ∧ Below w.heap.size w wr) (fun i _ => 4 - (intOf i).toNat)
    case atStart => exact ⟨0, by omega, rfl, rfl, ⟨HP, HQ⟩, B1.out⟩
    case round =>
      obtain ⟨k, hk, rfl, HD, ⟨HP', HQ'⟩, hb⟩ := hrel
      obtain ⟨wk, rfl⟩ : ∃ wk : World, wk = wr := ⟨_, rfl⟩
      have c5 := block_cells HP'
      have c6 := block_cells HQ'
      have HA := Lib.hid (And.intro HP' HQ')
      have HBl := Lib.hid hb
      clear HP' HQ' hb HP HQ
      obtain h4 | rfl | rfl | rfl | rfl : k = 4 ∨ k = 0 ∨ k = 1 ∨ k = 2 ∨ k = 3 := by omega
      · subst h4
        have HE : Hid (false = lessT a b c d x y z u) := by show _ = _; rw [← lexL_T, ← HD.out]; rfl
        clear c5 c6
        go_wp2_with fail
        go_ret
        exact ⟨ret_bool HE.out, HBl.out⟩
      · by_cases hpq : a = x
        · have h1 : (a != x) = false := by simpa using hpq
          have HD' : Hid (lexL ([a, b, c, d].drop (0 + 1)) ([x, y, z, u].drop (0 + 1)) = lexL [a, b, c, d] [x, y, z, u]) := by show _ = _; rw [← HD.out]; simp [lexL, hpq]
          clear hpq HD
          go_wp2_with fail
          go_quiet (fail)
          go_wp2_with fail
          go_roundw
          case rel => exact ⟨0 + 1, by omega, by go_num, HD', HA.out, below_drewN HBl.out _⟩
          case measure => simp [intOf]
        · have h1 : (a != x) = true := by simpa using hpq
          have HE : Hid (decide (a < x) = lessT a b c d x y z u) := by show _ = _; rw [← lexL_T, ← HD.out]; simp [lexL, hpq]
          clear hpq HD
          go_wp2_with fail
          go_quiet (fail)
          go_wp2_with fail
          go_quiet (fail)
          go_wp2_with fail
          go_ret
          exact ⟨ret_bool HE.out, below_drewN (below_drewN HBl.out _) _⟩
      · by_cases hpq : b = y
        · have h1 : (b != y) = false := by simpa using hpq
          have HD' : Hid (lexL ([a, b, c, d].drop (1 + 1)) ([x, y, z, u].drop (1 + 1)) = lexL [a, b, c, d] [x, y, z, u]) := by show _ = _; rw [← HD.out]; simp [lexL, hpq]
          clear hpq HD
          go_wp2_with fail
          go_quiet (fail)
          go_wp2_with fail
          go_roundw
          case rel => exact ⟨1 + 1, by omega, by go_num, HD', HA.out, below_drewN HBl.out _⟩
          case measure => simp [intOf]
        · have h1 : (b != y) = true := by simpa using hpq
          have HE : Hid (decide (b < y) = lessT a b c d x y z u) := by show _ = _; rw [← lexL_T, ← HD.out]; simp [lexL, hpq]
          clear hpq HD
          go_wp2_with fail
          go_quiet (fail)
          go_wp2_with fail
          go_quiet (fail)
          go_wp2_with fail
          go_ret
          exact ⟨ret_bool HE.out, below_drewN (below_drewN HBl.out _) _⟩
      · by_cases hpq : c = z
        · have h1 : (c != z) = false := by simpa using hpq
          have HD' : Hid (lexL ([a, b, c, d].drop (2 + 1)) ([x, y, z, u].drop (2 + 1)) = lexL [a, b, c, d] [x, y, z, u]) := by show _ = _; rw [← HD.out]; simp [lexL, hpq]
          clear hpq HD
          go_wp2_with fail
          go_quiet (fail)
          go_wp2_with fail
          go_roundw
          case rel => exact ⟨2 + 1, by omega, by go_num, HD', HA.out, below_drewN HBl.out _⟩
          case measure => simp [intOf]
        · have h1 : (c != z) = true := by simpa using hpq
          have HE : Hid (decide (c < z) = lessT a b c d x y z u) := by show _ = _; rw [← lexL_T, ← HD.out]; simp [lexL, hpq]
          clear hpq HD
          go_wp2_with fail
          go_quiet (fail)
          go_wp2_with fail
          go_quiet (fail)
          go_wp2_with fail
          go_ret
          exact ⟨ret_bool HE.out, below_drewN (below_drewN HBl.out _) _⟩
      · by_cases hpq : d = u
        · have h1 : (d != u) = false := by simpa using hpq
          have HD' : Hid (lexL ([a, b, c, d].drop (3 + 1)) ([x, y, z, u].drop (3 + 1)) = lexL [a, b, c, d] [x, y, z, u]) := by show _ = _; rw [← HD.out]; simp [lexL, hpq]
          clear hpq HD
          go_wp2_with fail
          go_quiet (fail)
          go_wp2_with fail
          go_roundw
          case rel => exact ⟨3 + 1, by omega, by go_num, HD', HA.out, below_drewN HBl.out _⟩
          case measure => simp [intOf]
        · have h1 : (d != u) = true := by simpa using hpq
          have HE : Hid (decide (d < u) = lessT a b c d x y z u) := by show _ = _; rw [← lexL_T, ← HD.out]; simp [lexL, hpq]
          clear hpq HD
          go_wp2_with fail
          go_quiet (fail)
          go_wp2_with fail
          go_quiet (fail)
          go_wp2_with fail
          go_ret
          exact ⟨ret_bool HE.out, below_drewN (below_drewN HBl.out _) _⟩
end Go.Proofs.Ytmdeegbbclcloaa
