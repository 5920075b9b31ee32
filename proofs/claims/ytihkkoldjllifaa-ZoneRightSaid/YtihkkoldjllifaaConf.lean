/- Contracts of package conf and of its reference. -/
import Derived.Test.YtihkkoldjllifaaSets
import Derived.Test.YtihkkoldjllifaaCalm
import Derived.Test.YtihkkoldjllifaaPlainConf
namespace Go.Proofs.Ytihkkoldjllifaa
open Go.RowKit

set_option maxHeartbeats 800000 in
theorem refJoin_any (x y : Int) (w : World) (hx0 : 0 ≤ x) (hx1 : x ≤ 65535) (hy0 : 0 ≤ y) (hy1 : y ≤ 65535) :
    Calls Try.prog 59 #[.int .u16 x, .int .u16 y] w fun e w' => e = .returned (.int .u16 (joinB x y)) ∧ w = w' := by
  have HM := Lib.hid (gat_join x y hx0 hy0)
  go_enter Try.func59, Try.ntmps59
  go_wp2
  go_loop [5, 6] (fun v i => ∃ (k : Nat) (g : Int), k ≤ 9 ∧ i = .int .i64 (k + 1) ∧ v = .int .u16 g ∧ Hid (g = gat (fun n => hasB x n || hasB y n) k)) (fun _ i => 10 - (intOf i).toNat)
  case atStart => exact ⟨0, 0, by omega, rfl, rfl, rfl⟩
  case round =>
    obtain ⟨k, g, hk, rfl, rfl, hg⟩ := hrel
    obtain ⟨hg0, hg1⟩ : 0 ≤ g ∧ g ≤ 65535 := by rw [hg.out]; exact gat_fit _ _
    by_cases hlt : k < 9
    · cases hbx : hasB x ((k : Int) + 1)
      · have HX := Lib.hid hbx
        cases hby : hasB y ((k : Int) + 1)
        · have HY := Lib.hid hby
          have HS : Hid (gat (fun n => hasB x n || hasB y n) (k + 1) = g) := by show _ = _; rw [gat_step _ k false (by simp [hbx, hby]), hg.out]; rfl
          clear hbx hby
          go_wp2_with fail
          refine (refHas_any _ _ _ hx0 hx1).mono ?_; rintro e w' ⟨rfl, rfl⟩; rw [HX.out]
          go_wp2_with fail
          refine (refHas_any _ _ _ hy0 hy1).mono ?_; rintro e w' ⟨rfl, rfl⟩; rw [HY.out]
          go_wp2_with fail
          go_round
          case rel => exact ⟨k + 1, g, by omega, by go_num, rfl, HS.out.symm⟩
          case measure => simp [intOf]; omega
        · have HY := Lib.hid hby
          have HS : Hid (gat (fun n => hasB x n || hasB y n) (k + 1) = bits .or .u16 g (oneB ((k : Int) + 1))) := by show _ = _; rw [gat_step _ k true (by simp [hby]), hg.out]; rfl
          clear hbx hby
          go_wp2_with fail
          refine (refHas_any _ _ _ hx0 hx1).mono ?_; rintro e w' ⟨rfl, rfl⟩; rw [HX.out]
          go_wp2_with fail
          refine (refHas_any _ _ _ hy0 hy1).mono ?_; rintro e w' ⟨rfl, rfl⟩; rw [HY.out]
          go_wp2_with fail
          refine (refWith_any _ _ _ hg0 hg1).mono ?_; rintro e w' ⟨rfl, rfl⟩
          go_wp2_with fail
          go_round
          case rel => exact ⟨k + 1, _, by omega, by go_num, rfl, HS.out.symm⟩
          case measure => simp [intOf]; omega
      · have HX := Lib.hid hbx
        have HS : Hid (gat (fun n => hasB x n || hasB y n) (k + 1) = bits .or .u16 g (oneB ((k : Int) + 1))) := by show _ = _; rw [gat_step _ k true (by simp [hbx]), hg.out]; rfl
        clear hbx
        go_wp2_with fail
        refine (refHas_any _ _ _ hx0 hx1).mono ?_; rintro e w' ⟨rfl, rfl⟩; rw [HX.out]
        go_wp2_with fail
        refine (refWith_any _ _ _ hg0 hg1).mono ?_; rintro e w' ⟨rfl, rfl⟩
        go_wp2_with fail
        go_round
        case rel => exact ⟨k + 1, _, by omega, by go_num, rfl, HS.out.symm⟩
        case measure => simp [intOf]; omega
    · obtain rfl : k = 9 := by omega
      go_wp2
      go_ret
      exact ⟨ret_int (by rw [hg.out, HM.out]), rfl⟩

theorem Below.step {W0 W1 W2 : World} (h : Below W0.heap.size W0 W1) (k : Below W1.heap.size W1 W2) : Below W0.heap.size W0 W2 := h.trans (k.mono h.size)
theorem below_box (w : World) (o : Obj) : Below w.heap.size w (w.alloc o) := (Below.refl _ _).alloc (Nat.le_refl _) o

set_option maxHeartbeats 400000 in
theorem votes_any (v x l e k : Int) (w : World) :
    Calls Try.prog 73 #[.agg #[.int .u16 v, .int .u16 x, .int .u16 l, .int .i64 e, .int .i64 k]] w fun r w' => r = .returned (.int .u16 (bits .or .u16 v x)) ∧ Below w.heap.size w w' := by
  go_enter Try.func73, Try.ntmps73
  go_wp2
  go_ret
  exact ⟨rfl, below_box _ _⟩

theorem cnt_le (s : Int) : 0 ≤ cnt s ∧ cnt s ≤ 9 := by have := lst_le s 9; unfold cnt; omega

set_option maxHeartbeats 4000000 in
theorem confMay_any (v x l e k : Int) (w : World) :
    Calls Try.prog 52 #[.agg #[.int .u16 v, .int .u16 x, .int .u16 l, .int .i64 e, .int .i64 k]] w fun r w' => r = .returned (.bool (mayC v x l e k)) ∧ Below w.heap.size w w' := by
  obtain ⟨hc0, hc1⟩ := cnt_le (bits .or .u16 v x)
  have hv0 := (bits_fit .or v x).1
  have B0 := below_box w (.cells #[.int .u16 v, .int .u16 x, .int .u16 l, .int .i64 e, .int .i64 k] 39)
  have K3 : ∀ w', Below (w.heap.size + 1) (w.alloc (.cells #[.int .u16 v, .int .u16 x, .int .u16 l, .int .i64 e, .int .i64 k] 39)) w' → w'.cell? ⟨w.heap.size, 3, none⟩ = some (.int .i64 e) := fun w' h => by
    rw [h.cell (by simp)]; simp
  have K4 : ∀ w', Below (w.heap.size + 1) (w.alloc (.cells #[.int .u16 v, .int .u16 x, .int .u16 l, .int .i64 e, .int .i64 k] 39)) w' → w'.cell? ⟨w.heap.size, 4, none⟩ = some (.int .i64 k) := fun w' h => by
    rw [h.cell (by simp)]; simp
  by_cases hvz : v = 0
  · have hvb : (v == 0) = true := by rw [hvz]; rfl
    have HZ := Lib.hid hvz
    clear hvz
    go_enter Try.func52, Try.ntmps52
    go_wp2_with (first | (go_at_call 72; refine (may_any _ _).mono ?_; rintro e w' ⟨rfl, rfl⟩) | (go_at_call 73; refine (votes_any _ _ _ _ _ _).mono ?_; rintro e w1 ⟨rfl, hb1⟩; rw [World.size_alloc] at hb1) | (go_at_call 47; refine (count_any _ _ hv0).mono ?_; rintro e w2 ⟨rfl, hb2⟩; replace hb2 := hb1.trans (hb2.mono (by have := hb1.size; simpa using this))))
    all_goals (go_ret; refine ⟨ret_bool (by have hz := HZ.out; simp [mayC, mayB, hz]), ?_⟩; first | exact B0 | exact B0.trans (hb2.mono (by omega)))
  · have hvb : (v == 0) = false := by simpa using hvz
    go_enter Try.func52, Try.ntmps52
    go_wp2_with (first | (go_at_call 72; refine (may_any _ _).mono ?_; rintro e w' ⟨rfl, rfl⟩) | (go_at_call 73; refine (votes_any _ _ _ _ _ _).mono ?_; rintro e w1 ⟨rfl, hb1⟩; rw [World.size_alloc] at hb1) | (go_at_call 47; refine (count_any _ _ hv0).mono ?_; rintro e w2 ⟨rfl, hb2⟩; replace hb2 := hb1.trans (hb2.mono (by have := hb1.size; simpa using this))))
    all_goals (go_ret; refine ⟨ret_bool (by simp [mayC, mayB, *]; try omega), ?_⟩; first | exact B0 | exact B0.trans (hb2.mono (by omega)))
end Go.Proofs.Ytihkkoldjllifaa
