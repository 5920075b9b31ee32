/- Contracts of stamp.Less, of the reference's, and of the two of attempts. -/
import Derived.Test.YtmdeegbbclcloaaStampA
import Derived.Test.YtmdeegbbclcloaaCalmTail
import Derived.Outline
namespace Go.Proofs.Ytmdeegbbclcloaa
open Go.RowKit

theorem two_blocks (w : World) (o o' : Obj) : ((w.alloc o).alloc o').heap[w.heap.size]? = some o ∧ ((w.alloc o).alloc o').heap[w.heap.size + 1]? = some o' :=
  ⟨heap_prev _ (heap_last w o), by have := heap_last (w.alloc o) o'; simpa using this⟩
theorem below_two (w : World) (o o' : Obj) : Below w.heap.size w ((w.alloc o).alloc o') := ((Below.refl _ _).alloc (Nat.le_refl _) _).alloc (by simp) _

theorem four_boxes (w : World) (o1 o2 o3 o4 : Obj) : ∃ W, W = (((w.alloc o1).alloc o2).alloc o3).alloc o4 ∧ Below w.heap.size w W ∧ W.heap[w.heap.size]? = some o1 ∧ W.heap[w.heap.size + 1]? = some o2 ∧ W.heap[w.heap.size + 1 + 1]? = some o3 ∧ W.heap[w.heap.size + 1 + 1 + 1]? = some o4 :=
  ⟨_, rfl, ((below_two w o1 o2).alloc (by simp; omega) _).alloc (by simp; omega) _, heap_prev _ (heap_prev _ (two_blocks w o1 o2).1), heap_prev _ (heap_prev _ (two_blocks w o1 o2).2),
    by have := heap_prev o4 (heap_last ((w.alloc o1).alloc o2) o3); simpa using this, by have := heap_last (((w.alloc o1).alloc o2).alloc o3) o4; simpa using this⟩
theorem row_cells {w : World} {b : Nat} {xs : List Int} {t : TypeId} (h : w.heap[b]? = some (.cells (xs.map (Value.int .i64)).toArray t (0, 0))) (j : Nat) (hj : j < xs.length) : w.cell? ⟨b, j, none⟩ = some (.int .i64 (xs.getD j 0)) := by
  rw [block_cells h j]; simp [List.getD, hj]

set_option maxHeartbeats 1000000 in
theorem less_any (aw at' bw bt : Int) (w : World) :
    Calls Try.prog 18 #[.agg #[.int .i64 aw, .int .i64 at'], .agg #[.int .i64 bw, .int .i64 bt]] w fun e w' => e = .returned (.bool (lessS aw at' bw bt)) ∧ Below w.heap.size w w' := by
  have HO := Lib.hid (lessS_or aw at' bw bt)
  obtain ⟨HA, HB⟩ := two_blocks w (.cells #[.int .i64 aw, .int .i64 at'] 40) (.cells #[.int .i64 bw, .int .i64 bt] 40)
  have B0 := Lib.hid (below_two w (.cells #[.int .i64 aw, .int .i64 at'] 40) (.cells #[.int .i64 bw, .int .i64 bt] 40))
  go_enter Try.func18, Try.ntmps18
  go_wp2_with fail
  obtain ⟨W, hW⟩ : ∃ W, (w.alloc (.cells #[.int .i64 aw, .int .i64 at'] 40)).alloc (.cells #[.int .i64 bw, .int .i64 bt] 40) = W := ⟨_, rfl⟩
  rw [hW] at HA HB B0 ⊢
  clear hW
  obtain ⟨U, f, hU, hf, hg⟩ := calm_class (W); obtain ⟨u0, hu0⟩ := hg _ (Below.refl _ _); rw [hu0]; clear hu0
  have kA := fun u => block_cells (calm_heap hf HA u)
  have kB := fun u => block_cells (calm_heap hf HB u)
  refine wp_region_calm_tail f 10 (by kernel_rfl) (by kernel_rfl) (calm_drew hf hg _) ?_
  simp only [List.take_succ_cons, List.take_zero, List.drop_succ_cons, List.drop_zero]
  repeat (go_big_quiet_step ((first | (go_at_call 31; exact calm_same (cmp_i64 _ _ _)))))
  refine wpQuiet_nil ?_
  intro u
  go_wp2_with fail
  refine (or_any _ 2 [cmpI aw bw, cmpI at' bt] rfl (by omega) _ (fun j hj => row_cells (xs := [cmpI aw bw, cmpI at' bt]) (heap_last (f u) _) j hj)).mono ?_; rintro r w' ⟨rfl, rfl⟩
  go_wp2_with fail
  go_ret
  exact ⟨ret_bool HO.out, (B0.out.trans ((hf u).mono B0.out.size)).alloc (Nat.le_trans B0.out.size (hf u).size) _⟩

set_option maxHeartbeats 1000000 in
theorem refLess_any (aw at' bw bt : Int) (w : World) :
    Calls Try.prog 19 #[.agg #[.int .i64 aw, .int .i64 at'], .agg #[.int .i64 bw, .int .i64 bt]] w fun e w' => e = .returned (.bool (lessS aw at' bw bt)) ∧ Below w.heap.size w w' := by
  have B0 := Lib.hid (below_two w (.cells #[.int .i64 aw, .int .i64 at'] 40) (.cells #[.int .i64 bw, .int .i64 bt] 40))
  by_cases h1 : aw < bw
  · have HO : Hid (lessS aw at' bw bt = true) := by show _ = _; unfold lessS; simp [h1]
    go_enter Try.func19, Try.ntmps19
    go_wp2_with fail
    go_ret
    exact ⟨ret_bool HO.out.symm, B0.out⟩
  · by_cases h2 : aw = bw
    · have HO : Hid (lessS aw at' bw bt = decide (at' < bt)) := by show _ = _; unfold lessS; simp [h2]
      subst h2
      go_enter Try.func19, Try.ntmps19
      go_wp2_with fail
      go_ret
      exact ⟨ret_bool HO.out.symm, B0.out⟩
    · have HO : Hid (lessS aw at' bw bt = false) := by show _ = _; unfold lessS; simp [h1, h2]
      have h3 : (aw == bw) = false := by simpa using h2
      go_enter Try.func19, Try.ntmps19
      go_wp2_with fail
      go_ret
      exact ⟨ret_bool HO.out.symm, B0.out⟩

set_option maxRecDepth 100000 in
set_option maxHeartbeats 1000000 in
theorem lessTry_any (a b c d x y z u : Int) (w : World) :
    Calls Try.prog 22 #[.agg #[.int .i64 a, .int .i64 b, .int .i64 c, .int .i64 d], .agg #[.int .i64 x, .int .i64 y, .int .i64 z, .int .i64 u]] w fun e w' => e = .returned (.bool (lessT a b c d x y z u)) ∧ Below w.heap.size w w' := by
  have HO := Lib.hid (lessT_or a b c d x y z u)
  obtain ⟨HA, HB⟩ := two_blocks w (.cells #[.int .i64 a, .int .i64 b, .int .i64 c, .int .i64 d] 23) (.cells #[.int .i64 x, .int .i64 y, .int .i64 z, .int .i64 u] 23)
  have B0 := Lib.hid (below_two w (.cells #[.int .i64 a, .int .i64 b, .int .i64 c, .int .i64 d] 23) (.cells #[.int .i64 x, .int .i64 y, .int .i64 z, .int .i64 u] 23))
  go_enter Try.func22, Try.ntmps22
  go_wp2_with fail
  obtain ⟨W, hW⟩ : ∃ W, (w.alloc (.cells #[.int .i64 a, .int .i64 b, .int .i64 c, .int .i64 d] 23)).alloc (.cells #[.int .i64 x, .int .i64 y, .int .i64 z, .int .i64 u] 23) = W := ⟨_, rfl⟩
  rw [hW] at HA HB B0 ⊢
  clear hW
  obtain ⟨U, f, hU, hf, hg⟩ := calm_class (W); obtain ⟨u0, hu0⟩ := hg _ (Below.refl _ _); rw [hu0]; clear hu0
  have kA := fun u => block_cells (calm_heap hf HA u)
  have kB := fun u => block_cells (calm_heap hf HB u)
  refine wp_region_calm_tail f 20 (by kernel_rfl) (by kernel_rfl) (calm_drew hf hg _) ?_
  simp only [List.take_succ_cons, List.take_zero, List.drop_succ_cons, List.drop_zero]
  repeat (go_big_quiet_step ((first | (go_at_call 32; exact calm_same (cmp_int _ _ _)))))
  refine wpQuiet_nil ?_
  intro v
  go_wp2_with fail
  refine (or_any _ 4 [cmpI a x, cmpI b y, cmpI c z, cmpI d u] rfl (by omega) _ (fun j hj => row_cells (xs := [cmpI a x, cmpI b y, cmpI c z, cmpI d u]) (heap_last (f v) _) j hj)).mono ?_; rintro r w' ⟨rfl, rfl⟩
  go_wp2_with fail
  go_ret
  exact ⟨ret_bool HO.out, (B0.out.trans ((hf v).mono B0.out.size)).alloc (Nat.le_trans B0.out.size (hf v).size) _⟩
end Go.Proofs.Ytmdeegbbclcloaa
