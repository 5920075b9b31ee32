/- Layer 11's 'begun': it answers true. -/
import Derived.Test.YtihkkoldjllifaaZoneH
namespace Go.Proofs.Ytihkkoldjllifaa
open Go.RowKit

abbrev zn0 : Zn := ⟨[1, 1], [0, 0, 1], [], 0, 0, 2⟩
theorem begun_parts : (checkP [0, 0, 1, 1, 2] [] zn0).1.v = 10 ∧ (checkP [0, 0, 1, 1, 2] [] zn0).1.x = 32 ∧ (checkP [0, 0, 1, 1, 2] [] zn0).1.l = 0 ∧ (checkP [0, 0, 1, 1, 2] [] zn0).1.e = 2 ∧ (checkP [0, 0, 1, 1, 2] [] zn0).1.k = 2 ∧ (checkP [0, 0, 1, 1, 2] [] zn0).2 = 0 := by decide +kernel
theorem begun_check : checkP [0, 0, 1, 1, 2] [] zn0 = (⟨10, 32, 0, 2, 2⟩, 0) := by
  have h := begun_parts
  obtain ⟨⟨⟨v, x, l, e, k⟩, err⟩, hA⟩ : ∃ A, checkP [0, 0, 1, 1, 2] [] zn0 = A := ⟨_, rfl⟩
  rw [hA] at h ⊢
  obtain ⟨rfl, rfl, rfl, rfl, rfl, rfl⟩ := h
  rfl
theorem begun_surv : survives [0, 1] 6 0 0 2 2 2 = (false, 0) := by decide +kernel
theorem nums_list {w : World} {g : Nat} {L : List Int} {t : TypeId} (h : w.heap[g]? = some (.cells (L.map (Value.int .i64)).toArray t (0, 0))) : NumsAt w (some ⟨g, 0, none⟩) L :=
  NumsAt.of_cells h fun j hj => by simp [hj]
set_option maxRecDepth 100000 in
set_option maxHeartbeats 4000000 in
theorem begun11_any (w : World) :
    Calls Try.prog 21 #[] w fun r w' => r = .returned (.bool true) ∧ Below w.heap.size w w' := by
  go_enter Try.func21, Try.ntmps21
  go_wp2_with fail
  have h1 := heap_prev (.cells #[.int .i64 0, .int .i64 0, .int .i64 1] 3) (heap_prev (.cells #[.int .i64 1, .int .i64 1] 3) (heap_last w (.cells #[.int .i64 0, .int .i64 0, .int .i64 1, .int .i64 1, .int .i64 2] 3)))
  have h2 := heap_prev (.cells #[.int .i64 0, .int .i64 0, .int .i64 1] 3) (heap_last (w.alloc (.cells #[.int .i64 0, .int .i64 0, .int .i64 1, .int .i64 1, .int .i64 2] 3)) (.cells #[.int .i64 1, .int .i64 1] 3))
  have h3 := heap_last ((w.alloc (.cells #[.int .i64 0, .int .i64 0, .int .i64 1, .int .i64 1, .int .i64 2] 3)).alloc (.cells #[.int .i64 1, .int .i64 1] 3)) (.cells #[.int .i64 0, .int .i64 0, .int .i64 1] 3)
  have hB : Below w.heap.size w (((w.alloc (.cells #[.int .i64 0, .int .i64 0, .int .i64 1, .int .i64 1, .int .i64 2] 3)).alloc (.cells #[.int .i64 1, .int .i64 1] 3)).alloc (.cells #[.int .i64 0, .int .i64 0, .int .i64 1] 3)) := (((Below.refl _ _).alloc (Nat.le_refl _) _).alloc (by simp) _).alloc (by simp; omega) _
  simp only [World.size_alloc] at h2 h3
  have n1 : NumsAt _ _ [0, 0, 1, 1, 2] := nums_list h1
  have n2 : NumsAt _ _ [1, 1] := nums_list h2
  have n3 : NumsAt _ _ [0, 0, 1] := nums_list h3
  have HN1 := Lib.hid n1; have HN2 := Lib.hid n2; have HN3 := Lib.hid n3; have HB := Lib.hid hB
  clear h1 h2 h3 n1 n2 n3 hB
  refine (check_any [0, 0, 1, 1, 2] [] zn0 _ none _ _ none _ 0 _ _ 0 (by decide) (by decide) (by decide) (by decide) (by decide) _ HN1.out (NumsAt.nil _ _) ⟨HN2.out, HN3.out, NumsAt.nil _ _⟩).mono ?_
  rintro r w1 ⟨rfl, hb1⟩
  rw [begun_check]
  have HB1 := Lib.hid (bstep HB.out hb1)
  clear hb1
  unfold cfgV
  go_wp2_with fail
  have hA := heap_last (w1.alloc (.cells #[.int .u16 10, .int .u16 32, .int .u16 0, .int .i64 2, .int .i64 2] 39)) (.cells #[.int .i64 0, .int .i64 1] 3)
  have hC := heap_prev (.cells #[.int .i64 0, .int .i64 1] 3) (heap_last w1 (.cells #[.int .u16 10, .int .u16 32, .int .u16 0, .int .i64 2, .int .i64 2] 39))
  have hB2 : Below w1.heap.size w1 ((w1.alloc (.cells #[.int .u16 10, .int .u16 32, .int .u16 0, .int .i64 2, .int .i64 2] 39)).alloc (.cells #[.int .i64 0, .int .i64 1] 3)) := ((Below.refl _ _).alloc (Nat.le_refl _) _).alloc (by simp) _
  simp only [World.size_alloc] at hA
  have n4 : NumsAt _ _ [0, 1] := nums_list hA
  have HN4 := Lib.hid n4; have HB2 := Lib.hid (bstep HB1.out hB2); have HC := Lib.hid hC
  clear hA n4 hB2 hC
  refine (survives_is 6 0 0 2 2 2 [0, 1] _ _ (by decide) _ HN4.out begun_surv).mono ?_; rintro r w2 ⟨rfl, hb2⟩
  have hC2 := below_block hb2 (block_lt HC.out) HC.out
  have kC := block_cells hC2
  have HB3 := Lib.hid (bstep HB2.out hb2)
  clear hC2 hb2
  go_wp2_with fail
  go_ret
  exact ⟨rfl, HB3.out⟩
end Go.Proofs.Ytihkkoldjllifaa
