/- Contracts of package stamp and of its reference: the later one of two stamps; ties. -/
import Derived.Test.YtmdeegbbclcloaaStampB
namespace Go.Proofs.Ytmdeegbbclcloaa
open Go.RowKit

theorem below_three (w : World) (o o' o'' : Obj) : Below w.heap.size w (((w.alloc o).alloc o').alloc o'') := (below_two w o o').alloc (by simp; omega) _
theorem tieOk_bd {n l s a : Int} (h : tieOk n l s a = true) : 1 ≤ n ∧ n ≤ 9 ∧ 0 ≤ a ∧ a ≤ 15 ∧ 0 ≤ l ∧ l ≤ 1048575 ∧ 0 ≤ s ∧ s ≤ 16777215 := by
  unfold tieOk at h; simp at h; omega
theorem tieOk_mk {n l s a : Int} (h0 : 1 ≤ n) (h1 : n ≤ 9) (h2 : 0 ≤ a) (h3 : a ≤ 15) (h4 : 0 ≤ l) (h5 : l ≤ 1048575) (h6 : 0 ≤ s) (h7 : s ≤ 16777215) : tieOk n l s a = true := by
  unfold tieOk; simp; omega

set_option maxHeartbeats 1000000 in
theorem max_any (aw at' bw bt : Int) (w : World) :
    Calls Try.prog 20 #[.agg #[.int .i64 aw, .int .i64 at'], .agg #[.int .i64 bw, .int .i64 bt]] w fun e w' => e = .returned (.agg #[.int .i64 (mxW aw at' bw bt), .int .i64 (mxT aw at' bw bt)]) ∧ Below w.heap.size w w' := by
  cases hl : lessS aw at' bw bt
  · have HO : Hid (mxW aw at' bw bt = aw ∧ mxT aw at' bw bt = at') := ⟨by unfold mxW; rw [hl]; rfl, by unfold mxT; rw [hl]; rfl⟩
    have HL := Lib.hid hl
    clear hl
    go_enter Try.func20, Try.ntmps20
    go_wp2_with fail
    refine (less_any _ _ _ _ _).mono ?_; rintro r w1 ⟨rfl, hb⟩; rw [HL.out]
    simp only [World.size_alloc] at hb
    have HA := below_block hb (by omega) (heap_prev _ (heap_prev _ (heap_last w _)))
    have HB := below_block hb (by simp) (heap_prev _ (heap_last (w.alloc _) _))
    have HZ := below_block hb (by simp) (heap_last ((w.alloc _).alloc _) _)
    simp only [World.size_alloc] at HB HZ
    have FIN := Lib.hid ((below_three w _ _ _).trans (hb.mono (by omega)))
    clear hb
    have kA := block_cells HA
    have kB := block_cells HB
    have kZ := block_cells HZ
    have kF := block_free HZ
    clear HA HB HZ
    go_wp2_with fail
    refine bodyPost_ret (v := .agg #[.int .i64 aw, .int .i64 at']) (by simp [results, Try.results20, go_sem, kZ]) rfl ⟨by rw [HO.out.1, HO.out.2], ?_⟩
    exact (FIN.out.setCell (by show w.heap.size ≤ w.heap.size + 1 + 1; omega) _).setCell (by show w.heap.size ≤ w.heap.size + 1 + 1; omega) _
  · have HO : Hid (mxW aw at' bw bt = bw ∧ mxT aw at' bw bt = bt) := ⟨by unfold mxW; rw [hl]; rfl, by unfold mxT; rw [hl]; rfl⟩
    have HL := Lib.hid hl
    clear hl
    go_enter Try.func20, Try.ntmps20
    go_wp2_with fail
    refine (less_any _ _ _ _ _).mono ?_; rintro r w1 ⟨rfl, hb⟩; rw [HL.out]
    simp only [World.size_alloc] at hb
    have HA := below_block hb (by omega) (heap_prev _ (heap_prev _ (heap_last w _)))
    have HB := below_block hb (by simp) (heap_prev _ (heap_last (w.alloc _) _))
    have HZ := below_block hb (by simp) (heap_last ((w.alloc _).alloc _) _)
    simp only [World.size_alloc] at HB HZ
    have FIN := Lib.hid ((below_three w _ _ _).trans (hb.mono (by omega)))
    clear hb
    have kA := block_cells HA
    have kB := block_cells HB
    have kZ := block_cells HZ
    have kF := block_free HZ
    clear HA HB HZ
    go_wp2_with fail
    refine bodyPost_ret (v := .agg #[.int .i64 bw, .int .i64 bt]) (by simp [results, Try.results20, go_sem, kZ]) rfl ⟨by rw [HO.out.1, HO.out.2], ?_⟩
    exact (FIN.out.setCell (by show w.heap.size ≤ w.heap.size + 1 + 1; omega) _).setCell (by show w.heap.size ≤ w.heap.size + 1 + 1; omega) _

set_option maxHeartbeats 1000000 in
theorem refMax_any (aw at' bw bt : Int) (w : World) :
    Calls Try.prog 21 #[.agg #[.int .i64 aw, .int .i64 at'], .agg #[.int .i64 bw, .int .i64 bt]] w fun e w' => e = .returned (.agg #[.int .i64 (mxW aw at' bw bt), .int .i64 (mxT aw at' bw bt)]) ∧ Below w.heap.size w w' := by
  cases hl : lessS aw at' bw bt
  · have HO : Hid (mxW aw at' bw bt = aw ∧ mxT aw at' bw bt = at') := ⟨by unfold mxW; rw [hl]; rfl, by unfold mxT; rw [hl]; rfl⟩
    have HL := Lib.hid hl
    clear hl
    go_enter Try.func21, Try.ntmps21
    go_wp2_with fail
    refine (refLess_any _ _ _ _ _).mono ?_; rintro r w1 ⟨rfl, hb⟩; rw [HL.out]
    simp only [World.size_alloc] at hb
    have HA := below_block hb (by omega) (heap_prev _ (heap_prev _ (heap_last w _)))
    have HB := below_block hb (by simp) (heap_prev _ (heap_last (w.alloc _) _))
    have HZ := below_block hb (by simp) (heap_last ((w.alloc _).alloc _) _)
    simp only [World.size_alloc] at HB HZ
    have FIN := Lib.hid ((below_three w _ _ _).trans (hb.mono (by omega)))
    clear hb
    have kA := block_cells HA
    have kB := block_cells HB
    have kZ := block_cells HZ
    have kF := block_free HZ
    clear HA HB HZ
    go_wp2_with fail
    refine bodyPost_ret (v := .agg #[.int .i64 aw, .int .i64 at']) (by simp [results, Try.results21, go_sem, kZ]) rfl ⟨by rw [HO.out.1, HO.out.2], ?_⟩
    exact (FIN.out.setCell (by show w.heap.size ≤ w.heap.size + 1 + 1; omega) _).setCell (by show w.heap.size ≤ w.heap.size + 1 + 1; omega) _
  · have HO : Hid (mxW aw at' bw bt = bw ∧ mxT aw at' bw bt = bt) := ⟨by unfold mxW; rw [hl]; rfl, by unfold mxT; rw [hl]; rfl⟩
    have HL := Lib.hid hl
    clear hl
    go_enter Try.func21, Try.ntmps21
    go_wp2_with fail
    refine (refLess_any _ _ _ _ _).mono ?_; rintro r w1 ⟨rfl, hb⟩; rw [HL.out]
    simp only [World.size_alloc] at hb
    have HA := below_block hb (by omega) (heap_prev _ (heap_prev _ (heap_last w _)))
    have HB := below_block hb (by simp) (heap_prev _ (heap_last (w.alloc _) _))
    have HZ := below_block hb (by simp) (heap_last ((w.alloc _).alloc _) _)
    simp only [World.size_alloc] at HB HZ
    have FIN := Lib.hid ((below_three w _ _ _).trans (hb.mono (by omega)))
    clear hb
    have kA := block_cells HA
    have kB := block_cells HB
    have kZ := block_cells HZ
    have kF := block_free HZ
    clear HA HB HZ
    go_wp2_with fail
    refine bodyPost_ret (v := .agg #[.int .i64 bw, .int .i64 bt]) (by simp [results, Try.results21, go_sem, kZ]) rfl ⟨by rw [HO.out.1, HO.out.2], ?_⟩
    exact (FIN.out.setCell (by show w.heap.size ≤ w.heap.size + 1 + 1; omega) _).setCell (by show w.heap.size ≤ w.heap.size + 1 + 1; omega) _

set_option maxRecDepth 100000 in
set_option maxHeartbeats 2000000 in
theorem refTie_ok (n l s a : Int) (w : World) (h : tieOk n l s a = true) :
    Calls Try.prog 12 #[.int .i64 n, .int .i64 l, .int .i64 s, .int .i64 a] w fun e w' => e = .returned (.tuple #[.int .i64 (tieI n l s a), .int .i64 0]) ∧ w = w' := by
  obtain ⟨n0, n1, a0, a1, l0, l1, s0, s1⟩ := tieOk_bd h
  clear h
  have HO : Hid (((n * 1048576 + l) * 16777216 + s) * 16 + a = tieI n l s a) := rfl
  go_enter Try.func12, Try.ntmps12
  go_wp2_with fail
  go_ret2
  exact ⟨congrArg (fun z => Ending.returned (Value.tuple #[Value.int .i64 z, Value.int .i64 0])) HO.out, rfl⟩

set_option maxRecDepth 100000 in
set_option maxHeartbeats 4000000 in
theorem refTie_no (n l s a : Int) (w : World) (h : tieOk n l s a = false) :
    Calls Try.prog 12 #[.int .i64 n, .int .i64 l, .int .i64 s, .int .i64 a] w fun e w' => e = .returned (.tuple #[.int .i64 0, .int .i64 1]) ∧ w = w' := by
  have HH := Lib.hid h
  clear h
  by_cases t0 : n < 1
  · go_enter Try.func12, Try.ntmps12
    go_wp2_with fail
    go_ret2
    exact ⟨rfl, rfl⟩
  by_cases t1 : 9 < n
  · go_enter Try.func12, Try.ntmps12
    go_wp2_with fail
    go_ret2
    exact ⟨rfl, rfl⟩
  by_cases t2 : a < 0
  · go_enter Try.func12, Try.ntmps12
    go_wp2_with fail
    go_ret2
    exact ⟨rfl, rfl⟩
  by_cases t3 : 15 < a
  · go_enter Try.func12, Try.ntmps12
    go_wp2_with fail
    go_ret2
    exact ⟨rfl, rfl⟩
  by_cases t4 : l < 0
  · go_enter Try.func12, Try.ntmps12
    go_wp2_with fail
    go_ret2
    exact ⟨rfl, rfl⟩
  by_cases t5 : 1048576 ≤ l
  · go_enter Try.func12, Try.ntmps12
    go_wp2_with fail
    go_ret2
    exact ⟨rfl, rfl⟩
  by_cases t6 : s < 0
  · go_enter Try.func12, Try.ntmps12
    go_wp2_with fail
    go_ret2
    exact ⟨rfl, rfl⟩
  by_cases t7 : 16777216 ≤ s
  · go_enter Try.func12, Try.ntmps12
    go_wp2_with fail
    go_ret2
    exact ⟨rfl, rfl⟩
  exact absurd HH.out (by rw [tieOk_mk (by omega) (by omega) (by omega) (by omega) (by omega) (by omega) (by omega) (by omega)]; decide)
end Go.Proofs.Ytmdeegbbclcloaa
