/- Contracts of package conf, five: changes. -/
import Derived.Test.YtaaagidooieejaaConf4
namespace Go.Proofs.Ytaaagidooieejaa
open Go.RowKit

set_option maxHeartbeats 2000000 in
theorem confChange_ok (jov jox jol joe jok jnv jnx jnl jne jnk : Int) (jt : Bool) (tv tx tl te tk : Int) (w : World) (h : changeE jov jox jol jt tv tx tl te tk = 0) :
    Calls Try.prog 20 #[.agg #[.int .u16 jov, .int .u16 jox, .int .u16 jol, .int .i64 joe, .int .i64 jok, .int .u16 jnv, .int .u16 jnx, .int .u16 jnl, .int .i64 jne, .int .i64 jnk, .bool jt], .agg #[.int .u16 tv, .int .u16 tx, .int .u16 tl, .int .i64 te, .int .i64 tk]] w fun r w' =>
      r = .returned (.tuple #[.agg #[.int .u16 jov, .int .u16 jox, .int .u16 jol, .int .i64 joe, .int .i64 jok, .int .u16 tv, .int .u16 tx, .int .u16 tl, .int .i64 te, .int .i64 tk, .bool true], .int .i64 0]) ∧ Below w.heap.size w w' := by
  cases jt
  · cases hm : mayC tv tx tl te tk
    · simp [changeE, hm] at h
    · by_cases h1 : jox = tx
      · subst h1
        by_cases h2 : bits .andNot .u16 tv (bits .or .u16 jov jol) = 0
        · have h2' : (bits .andNot .u16 tv (bits .or .u16 jov jol) == 0) = true := by simpa using h2
          have HM := Lib.hid hm
          clear hm h h2
          go_enter Try.func20, Try.ntmps20
          go_wp2_with fail
          refine (confMay_any _ _ _ _ _ _).mono ?_; rintro r w1 ⟨rfl, hb⟩; rw [HM.out]; simp only [World.size_alloc] at hb
          have kA := block_cells (below_block hb (by omega) (heap_prev _ (heap_prev _ (heap_last w _))))
          have kB := block_cells (below_block hb (by simp) (heap_prev _ (heap_last (w.alloc _) _)))
          have HC := below_block hb (by simp) (heap_last ((w.alloc _).alloc _) _)
          have kC := block_cells HC
          have kF := block_free HC
          have FIN : Hid (Below w.heap.size w w1) := ((below_box w _).trans ((below_box _ _).mono (by simp))).trans (((below_box _ _).mono (by simp; omega)).trans (hb.mono (by omega)))
          clear hb HC
          simp only [World.size_alloc] at kB kC kF

          go_wp2_with fail
          refine bodyPost_ret (v := .tuple #[.agg #[.int .u16 jov, .int .u16 jox, .int .u16 jol, .int .i64 joe, .int .i64 jok, .int .u16 tv, .int .u16 jox, .int .u16 tl, .int .i64 te, .int .i64 tk, .bool true], .int .i64 0]) (by simp [results, Try.results20, go_sem, kC]) rfl ⟨rfl, ?_⟩
          iterate 11 (with_reducible refine Below.setCell ?_ ?_ _; rotate_left; (show w.heap.size ≤ w.heap.size + 1 + 1; omega))
          exact FIN.out
        · simp [changeE, hm, h2] at h
      · simp [changeE, hm, Ne.symm h1] at h
  · simp [changeE] at h

set_option maxHeartbeats 4000000 in
theorem confChange_no (jov jox jol joe jok jnv jnx jnl jne jnk : Int) (jt : Bool) (tv tx tl te tk : Int) (w : World) (h : changeE jov jox jol jt tv tx tl te tk ≠ 0) :
    Calls Try.prog 20 #[.agg #[.int .u16 jov, .int .u16 jox, .int .u16 jol, .int .i64 joe, .int .i64 jok, .int .u16 jnv, .int .u16 jnx, .int .u16 jnl, .int .i64 jne, .int .i64 jnk, .bool jt], .agg #[.int .u16 tv, .int .u16 tx, .int .u16 tl, .int .i64 te, .int .i64 tk]] w fun r w' =>
      r = .returned (.tuple #[.agg #[.int .u16 0, .int .u16 0, .int .u16 0, .int .i64 0, .int .i64 0, .int .u16 0, .int .u16 0, .int .u16 0, .int .i64 0, .int .i64 0, .bool false], .int .i64 (changeE jov jox jol jt tv tx tl te tk)]) ∧ Below w.heap.size w w' := by
  cases jt
  · cases hm : mayC tv tx tl te tk
    · rw [show changeE jov jox jol false tv tx tl te tk = 11 by simp [changeE, hm]]
      have HM := Lib.hid hm
      clear hm h
      go_enter Try.func20, Try.ntmps20
      go_wp2_with fail
      refine (confMay_any _ _ _ _ _ _).mono ?_; rintro r w1 ⟨rfl, hb⟩; rw [HM.out]; simp only [World.size_alloc] at hb
      have kA := block_cells (below_block hb (by omega) (heap_prev _ (heap_prev _ (heap_last w _))))
      have kB := block_cells (below_block hb (by simp) (heap_prev _ (heap_last (w.alloc _) _)))
      have HC := below_block hb (by simp) (heap_last ((w.alloc _).alloc _) _)
      have kC := block_cells HC
      have kF := block_free HC
      have FIN : Hid (Below w.heap.size w w1) := ((below_box w _).trans ((below_box _ _).mono (by simp))).trans (((below_box _ _).mono (by simp; omega)).trans (hb.mono (by omega)))
      clear hb HC
      simp only [World.size_alloc] at kB kC kF
      go_wp2_with fail
      refine bodyPost_ret (v := .tuple #[.agg #[.int .u16 0, .int .u16 0, .int .u16 0, .int .i64 0, .int .i64 0, .int .u16 0, .int .u16 0, .int .u16 0, .int .i64 0, .int .i64 0, .bool false], .int .i64 11]) (by simp [results, Try.results20, go_sem, kC]) rfl ⟨rfl, ?_⟩
      iterate 11 (with_reducible refine Below.setCell ?_ ?_ _; rotate_left; (show w.heap.size ≤ w.heap.size + 1 + 1; omega))
      exact FIN.out
    · have HM := Lib.hid hm
      by_cases h1 : tx = jox
      · by_cases h2 : bits .andNot .u16 tv (bits .or .u16 jov jol) = 0
        · exact absurd (by rw [h1] at hm; simp [changeE, hm, h1, h2]) h
        · rw [show changeE jov jox jol false tv tx tl te tk = 10 by rw [h1] at hm; simp [changeE, hm, h1, h2]]
          have h2' : (bits .andNot .u16 tv (bits .or .u16 jov jol) == 0) = false := by simpa using h2
          have h1' : (tx == jox) = true := by simpa using h1
          clear hm h h2 h1
          go_enter Try.func20, Try.ntmps20
          go_wp2_with fail
          refine (confMay_any _ _ _ _ _ _).mono ?_; rintro r w1 ⟨rfl, hb⟩; rw [HM.out]; simp only [World.size_alloc] at hb
          have kA := block_cells (below_block hb (by omega) (heap_prev _ (heap_prev _ (heap_last w _))))
          have kB := block_cells (below_block hb (by simp) (heap_prev _ (heap_last (w.alloc _) _)))
          have HC := below_block hb (by simp) (heap_last ((w.alloc _).alloc _) _)
          have kC := block_cells HC
          have kF := block_free HC
          have FIN : Hid (Below w.heap.size w w1) := ((below_box w _).trans ((below_box _ _).mono (by simp))).trans (((below_box _ _).mono (by simp; omega)).trans (hb.mono (by omega)))
          clear hb HC
          simp only [World.size_alloc] at kB kC kF
          go_wp2_with fail
          refine bodyPost_ret (v := .tuple #[.agg #[.int .u16 0, .int .u16 0, .int .u16 0, .int .i64 0, .int .i64 0, .int .u16 0, .int .u16 0, .int .u16 0, .int .i64 0, .int .i64 0, .bool false], .int .i64 10]) (by simp [results, Try.results20, go_sem, kC]) rfl ⟨rfl, ?_⟩
          iterate 11 (with_reducible refine Below.setCell ?_ ?_ _; rotate_left; (show w.heap.size ≤ w.heap.size + 1 + 1; omega))
          exact FIN.out
      · rw [show changeE jov jox jol false tv tx tl te tk = 10 by simp [changeE, hm, h1]]
        have h1' : (tx == jox) = false := by simpa using h1
        clear hm h h1
        go_enter Try.func20, Try.ntmps20
        go_wp2_with fail
        refine (confMay_any _ _ _ _ _ _).mono ?_; rintro r w1 ⟨rfl, hb⟩; rw [HM.out]; simp only [World.size_alloc] at hb
        have kA := block_cells (below_block hb (by omega) (heap_prev _ (heap_prev _ (heap_last w _))))
        have kB := block_cells (below_block hb (by simp) (heap_prev _ (heap_last (w.alloc _) _)))
        have HC := below_block hb (by simp) (heap_last ((w.alloc _).alloc _) _)
        have kC := block_cells HC
        have kF := block_free HC
        have FIN : Hid (Below w.heap.size w w1) := ((below_box w _).trans ((below_box _ _).mono (by simp))).trans (((below_box _ _).mono (by simp; omega)).trans (hb.mono (by omega)))
        clear hb HC
        simp only [World.size_alloc] at kB kC kF
        go_wp2_with fail
        refine bodyPost_ret (v := .tuple #[.agg #[.int .u16 0, .int .u16 0, .int .u16 0, .int .i64 0, .int .i64 0, .int .u16 0, .int .u16 0, .int .u16 0, .int .i64 0, .int .i64 0, .bool false], .int .i64 10]) (by simp [results, Try.results20, go_sem, kC]) rfl ⟨rfl, ?_⟩
        iterate 11 (with_reducible refine Below.setCell ?_ ?_ _; rotate_left; (show w.heap.size ≤ w.heap.size + 1 + 1; omega))
        exact FIN.out
  · rw [show changeE jov jox jol true tv tx tl te tk = 10 from rfl]
    clear h
    go_enter Try.func20, Try.ntmps20
    go_wp2_with fail
    refine bodyPost_ret (v := .tuple #[.agg #[.int .u16 0, .int .u16 0, .int .u16 0, .int .i64 0, .int .i64 0, .int .u16 0, .int .u16 0, .int .u16 0, .int .i64 0, .int .i64 0, .bool false], .int .i64 10]) (by simp [results, Try.results20, go_sem]) rfl ⟨rfl, ?_⟩
    exact ((below_box w _).trans ((below_box _ _).mono (by simp))).trans ((below_box _ _).mono (by simp; omega))

set_option maxHeartbeats 1000000 in
theorem confFinal_any (jov jox jol joe jok jnv jnx jnl jne jnk : Int) (jt : Bool) (w : World) :
    Calls Try.prog 22 #[.agg #[.int .u16 jov, .int .u16 jox, .int .u16 jol, .int .i64 joe, .int .i64 jok, .int .u16 jnv, .int .u16 jnx, .int .u16 jnl, .int .i64 jne, .int .i64 jnk, .bool jt]] w fun r w' =>
      r = .returned (if jt then .agg #[.int .u16 jnv, .int .u16 jnx, .int .u16 jnl, .int .i64 jne, .int .i64 jnk, .int .u16 0, .int .u16 0, .int .u16 0, .int .i64 0, .int .i64 0, .bool false] else .agg #[.int .u16 jov, .int .u16 jox, .int .u16 jol, .int .i64 joe, .int .i64 jok, .int .u16 jnv, .int .u16 jnx, .int .u16 jnl, .int .i64 jne, .int .i64 jnk, .bool jt]) ∧ Below w.heap.size w w' := by
  cases jt
  · go_enter Try.func22, Try.ntmps22
    go_wp2_with fail
    refine bodyPost_ret (v := .agg #[.int .u16 jov, .int .u16 jox, .int .u16 jol, .int .i64 joe, .int .i64 jok, .int .u16 jnv, .int .u16 jnx, .int .u16 jnl, .int .i64 jne, .int .i64 jnk, .bool false]) (by simp [results, Try.results22, go_sem]) rfl ⟨rfl, ?_⟩
    exact (below_box w _).trans ((below_box _ _).mono (by simp))
  · go_enter Try.func22, Try.ntmps22
    go_wp2_with fail
    refine bodyPost_ret (v := .agg #[.int .u16 jnv, .int .u16 jnx, .int .u16 jnl, .int .i64 jne, .int .i64 jnk, .int .u16 0, .int .u16 0, .int .u16 0, .int .i64 0, .int .i64 0, .bool false]) (by simp [results, Try.results22, go_sem]) rfl ⟨rfl, ?_⟩
    exact (below_box w _).trans ((below_box _ _).mono (by simp))
end Go.Proofs.Ytaaagidooieejaa
