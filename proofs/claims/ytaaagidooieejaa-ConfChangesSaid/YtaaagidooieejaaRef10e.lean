/- Contracts of the reference of conf, five: changes. -/
import Derived.Test.YtaaagidooieejaaRef10d
namespace Go.Proofs.Ytaaagidooieejaa
open Go.RowKit

theorem bool_c1 : ∀ a b c : Bool, a = (a && (b && c) && c) → (a && !b) = false := by decide
theorem bool_c2 : ∀ a b c : Bool, false = (a && !b) → (a = true → c = true) → (a && (b && c) && c) = a := by decide
theorem change_same (tv jov jol : Int) (t0 : 0 ≤ tv) (t1 : tv ≤ 65535) (v0 : 0 ≤ jov) (l0 : 0 ≤ jol) (hm : mayB tv = true) : (meetB tv (joinB jov jol) == tv) = (bits .andNot .u16 tv (bits .or .u16 jov jol) == 0) := by
  have hd := joinB_fit jov jol
  have hm1 := meetB_fit tv (joinB jov jol)
  have ho := (bits_fit .or jov jol).1
  have hn := bits_fit .andNot tv (bits .or .u16 jov jol)
  have h9 := (mayB_iff tv t0).1 hm
  rw [Bool.eq_iff_iff, beq_iff_eq, beq_iff_eq]
  constructor
  · intro h
    apply tb_ext _ _ hn.1 (by omega) hn.2 (by omega)
    intro i hi
    have := tb_meetB tv (joinB jov jol) t0 hd.1 i hi
    rw [h, tb_joinB jov jol v0 l0 i hi] at this
    rw [tb_andNot _ _ t0 ho i hi, tb_or _ _ v0 l0 i hi, tb_zero]
    exact bool_c1 _ _ _ this
  · intro h
    apply tb_ext _ _ hm1.1 t0 hm1.2 t1
    intro i hi
    have h1 := tb_andNot tv (bits .or .u16 jov jol) t0 ho i hi
    rw [h, tb_zero, tb_or _ _ v0 l0 i hi] at h1
    rw [tb_meetB tv (joinB jov jol) t0 hd.1 i hi, tb_joinB jov jol v0 l0 i hi]
    have h2 := h9 i hi
    have h3 : tb tv i = true → (decide (1 ≤ i) && decide (i ≤ 9)) = true := fun h => by have := h2 h; simp [this.1, this.2]
    exact bool_c2 _ _ _ h1 h3
theorem calm_free {W : World} {U : Type} {f : U → World} (hf : ∀ u, Below W.heap.size W (f u)) {n : Nat} {cs : Array Value} {t : TypeId} (h : W.heap[n]? = some (.cells cs t (0, 0))) :
    ∀ u j, (f u).frozen? ⟨n, j, none⟩ = false := fun u j => by
  have hn : n < W.heap.size := (Array.getElem?_eq_some_iff.1 h).1
  rw [(hf u).frozen (by exact hn)]; exact frozen_of_row W n j cs t h

set_option maxHeartbeats 4000000 in
theorem refChange_ok (jov jox jol joe jok jnv jnx jnl jne jnk : Int) (jt : Bool) (tv tx tl te tk : Int) (fo : FitC jov jox jol) (ft : FitC tv tx tl) (w : World) (h : changeE jov jox jol jt tv tx tl te tk = 0) :
    Calls Try.prog 21 #[.agg #[.int .u16 jov, .int .u16 jox, .int .u16 jol, .int .i64 joe, .int .i64 jok, .int .u16 jnv, .int .u16 jnx, .int .u16 jnl, .int .i64 jne, .int .i64 jnk, .bool jt], .agg #[.int .u16 tv, .int .u16 tx, .int .u16 tl, .int .i64 te, .int .i64 tk]] w fun r w' =>
      r = .returned (.tuple #[.agg #[.int .u16 jov, .int .u16 jox, .int .u16 jol, .int .i64 joe, .int .i64 jok, .int .u16 tv, .int .u16 tx, .int .u16 tl, .int .i64 te, .int .i64 tk, .bool true], .int .i64 0]) ∧ Below w.heap.size w w' := by
  obtain ⟨d0, d1⟩ := joinB_fit jov jol
  cases jt
  · cases hm : mayC tv tx tl te tk
    · simp [changeE, hm] at h
    · by_cases h1 : tx = jox
      · by_cases h2 : bits .andNot .u16 tv (bits .or .u16 jov jol) = 0
        · have h2' : (meetB tv (joinB jov jol) == tv) = true := by rw [change_same tv jov jol ft.v0 ft.v1 fo.v0 fo.l0 ((mayC_iff _ _ _ _ _).1 hm).mv]; simpa using h2
          have h2n : (meetB tv (joinB jov jol) != tv) = false := by rw [bne, h2']; rfl
          have h1' : (tx == jox) = true := by simpa using h1
          have h1n : (tx != jox) = false := by rw [bne, h1']; rfl
          have HM := Lib.hid hm
          clear hm h h2 h1
          go_enter Try.func21, Try.ntmps21
          go_wp2_with fail
          obtain ⟨U, f, hU, hf, hg⟩ := calm_class (((w.alloc (.cells #[.int .u16 jov, .int .u16 jox, .int .u16 jol, .int .i64 joe, .int .i64 jok, .int .u16 jnv, .int .u16 jnx, .int .u16 jnl, .int .i64 jne, .int .i64 jnk, .bool false] 38)).alloc (.cells #[.int .u16 tv, .int .u16 tx, .int .u16 tl, .int .i64 te, .int .i64 tk] 33)).alloc (.cells #[.int .u16 0, .int .u16 0, .int .u16 0, .int .i64 0, .int .i64 0, .int .u16 0, .int .u16 0, .int .u16 0, .int .i64 0, .int .i64 0, .bool false] 38)); obtain ⟨u0, hu0⟩ := hg _ (Below.refl _ _); rw [hu0]; clear hu0
          have HB : Hid (∀ u, Below w.heap.size w (f u)) := fun u => below_three w _ _ _ (hf u)
          have kA := calm_block hf (heap_prev (.cells #[.int .u16 0, .int .u16 0, .int .u16 0, .int .i64 0, .int .i64 0, .int .u16 0, .int .u16 0, .int .u16 0, .int .i64 0, .int .i64 0, .bool false] 38) (heap_prev (.cells #[.int .u16 tv, .int .u16 tx, .int .u16 tl, .int .i64 te, .int .i64 tk] 33) (heap_last w (.cells #[.int .u16 jov, .int .u16 jox, .int .u16 jol, .int .i64 joe, .int .i64 jok, .int .u16 jnv, .int .u16 jnx, .int .u16 jnl, .int .i64 jne, .int .i64 jnk, .bool false] 38))))
          have kB := calm_block hf (heap_prev (.cells #[.int .u16 0, .int .u16 0, .int .u16 0, .int .i64 0, .int .i64 0, .int .u16 0, .int .u16 0, .int .u16 0, .int .i64 0, .int .i64 0, .bool false] 38) (heap_last (w.alloc (.cells #[.int .u16 jov, .int .u16 jox, .int .u16 jol, .int .i64 joe, .int .i64 jok, .int .u16 jnv, .int .u16 jnx, .int .u16 jnl, .int .i64 jne, .int .i64 jnk, .bool false] 38)) (.cells #[.int .u16 tv, .int .u16 tx, .int .u16 tl, .int .i64 te, .int .i64 tk] 33)))
          have kC := calm_block hf (heap_last ((w.alloc (.cells #[.int .u16 jov, .int .u16 jox, .int .u16 jol, .int .i64 joe, .int .i64 jok, .int .u16 jnv, .int .u16 jnx, .int .u16 jnl, .int .i64 jne, .int .i64 jnk, .bool false] 38)).alloc (.cells #[.int .u16 tv, .int .u16 tx, .int .u16 tl, .int .i64 te, .int .i64 tk] 33)) (.cells #[.int .u16 0, .int .u16 0, .int .u16 0, .int .i64 0, .int .i64 0, .int .u16 0, .int .u16 0, .int .u16 0, .int .i64 0, .int .i64 0, .bool false] 38))
          have kF := calm_free hf (heap_last ((w.alloc (.cells #[.int .u16 jov, .int .u16 jox, .int .u16 jol, .int .i64 joe, .int .i64 jok, .int .u16 jnv, .int .u16 jnx, .int .u16 jnl, .int .i64 jne, .int .i64 jnk, .bool false] 38)).alloc (.cells #[.int .u16 tv, .int .u16 tx, .int .u16 tl, .int .i64 te, .int .i64 tk] 33)) (.cells #[.int .u16 0, .int .u16 0, .int .u16 0, .int .i64 0, .int .i64 0, .int .u16 0, .int .u16 0, .int .u16 0, .int .i64 0, .int .i64 0, .bool false] 38))
          simp only [World.size_alloc] at kB kC kF
          refine (refMay10_any _ _ _ _ _ ft _).mono ?_; rintro r w' ⟨rfl, hb⟩; obtain ⟨u, rfl⟩ := calm_step hf hg hb; clear hb; rw [HM.out]
          go_wp2_with (go_at_call 51; refine (refJoin_any _ _ _ fo.v0 fo.v1 fo.l0 fo.l1).mono ?_; rintro r w' ⟨rfl, rfl⟩)
          refine wp_region_calm f (by kernel_rfl) (by kernel_rfl) (calm_drew hf hg _) ?_
          repeat (go_big_quiet_step (((go_at_call 29; exact calm_same (refMeet_any _ _ _ ft.v0 ft.v1 d0 d1)))))
          refine wpQuiet_nil ?_; rintro _ ⟨u, rfl⟩
          go_wp2
          refine bodyPost_ret (v := .tuple #[.agg #[.int .u16 jov, .int .u16 jox, .int .u16 jol, .int .i64 joe, .int .i64 jok, .int .u16 tv, .int .u16 tx, .int .u16 tl, .int .i64 te, .int .i64 tk, .bool true], .int .i64 0]) (by simp [results, Try.results21, go_sem, kC]) rfl ⟨rfl, ?_⟩
          iterate 11 (with_reducible refine Below.setCell ?_ ?_ _; rotate_left; (show w.heap.size ≤ w.heap.size + 1 + 1; omega))
          exact HB.out _
        · exact absurd h (by rw [h1] at hm; simp [changeE, hm, h1, h2])
      · exact absurd h (by simp [changeE, hm, h1])
  · simp [changeE] at h

set_option maxHeartbeats 4000000 in
theorem refChange_no (jov jox jol joe jok jnv jnx jnl jne jnk : Int) (jt : Bool) (tv tx tl te tk : Int) (fo : FitC jov jox jol) (ft : FitC tv tx tl) (w : World) (h : changeE jov jox jol jt tv tx tl te tk ≠ 0) :
    Calls Try.prog 21 #[.agg #[.int .u16 jov, .int .u16 jox, .int .u16 jol, .int .i64 joe, .int .i64 jok, .int .u16 jnv, .int .u16 jnx, .int .u16 jnl, .int .i64 jne, .int .i64 jnk, .bool jt], .agg #[.int .u16 tv, .int .u16 tx, .int .u16 tl, .int .i64 te, .int .i64 tk]] w fun r w' =>
      r = .returned (.tuple #[.agg #[.int .u16 0, .int .u16 0, .int .u16 0, .int .i64 0, .int .i64 0, .int .u16 0, .int .u16 0, .int .u16 0, .int .i64 0, .int .i64 0, .bool false], .int .i64 (changeE jov jox jol jt tv tx tl te tk)]) ∧ Below w.heap.size w w' := by
  obtain ⟨d0, d1⟩ := joinB_fit jov jol
  cases jt
  · cases hm : mayC tv tx tl te tk
    · rw [show changeE jov jox jol false tv tx tl te tk = 11 by simp [changeE, hm]]
      have HM := Lib.hid hm
      clear hm h
      go_enter Try.func21, Try.ntmps21
      go_wp2_with fail
      obtain ⟨U, f, hU, hf, hg⟩ := calm_class (((w.alloc (.cells #[.int .u16 jov, .int .u16 jox, .int .u16 jol, .int .i64 joe, .int .i64 jok, .int .u16 jnv, .int .u16 jnx, .int .u16 jnl, .int .i64 jne, .int .i64 jnk, .bool false] 38)).alloc (.cells #[.int .u16 tv, .int .u16 tx, .int .u16 tl, .int .i64 te, .int .i64 tk] 33)).alloc (.cells #[.int .u16 0, .int .u16 0, .int .u16 0, .int .i64 0, .int .i64 0, .int .u16 0, .int .u16 0, .int .u16 0, .int .i64 0, .int .i64 0, .bool false] 38)); obtain ⟨u0, hu0⟩ := hg _ (Below.refl _ _); rw [hu0]; clear hu0
      have HB : Hid (∀ u, Below w.heap.size w (f u)) := fun u => below_three w _ _ _ (hf u)
      have kA := calm_block hf (heap_prev (.cells #[.int .u16 0, .int .u16 0, .int .u16 0, .int .i64 0, .int .i64 0, .int .u16 0, .int .u16 0, .int .u16 0, .int .i64 0, .int .i64 0, .bool false] 38) (heap_prev (.cells #[.int .u16 tv, .int .u16 tx, .int .u16 tl, .int .i64 te, .int .i64 tk] 33) (heap_last w (.cells #[.int .u16 jov, .int .u16 jox, .int .u16 jol, .int .i64 joe, .int .i64 jok, .int .u16 jnv, .int .u16 jnx, .int .u16 jnl, .int .i64 jne, .int .i64 jnk, .bool false] 38))))
      have kB := calm_block hf (heap_prev (.cells #[.int .u16 0, .int .u16 0, .int .u16 0, .int .i64 0, .int .i64 0, .int .u16 0, .int .u16 0, .int .u16 0, .int .i64 0, .int .i64 0, .bool false] 38) (heap_last (w.alloc (.cells #[.int .u16 jov, .int .u16 jox, .int .u16 jol, .int .i64 joe, .int .i64 jok, .int .u16 jnv, .int .u16 jnx, .int .u16 jnl, .int .i64 jne, .int .i64 jnk, .bool false] 38)) (.cells #[.int .u16 tv, .int .u16 tx, .int .u16 tl, .int .i64 te, .int .i64 tk] 33)))
      have kC := calm_block hf (heap_last ((w.alloc (.cells #[.int .u16 jov, .int .u16 jox, .int .u16 jol, .int .i64 joe, .int .i64 jok, .int .u16 jnv, .int .u16 jnx, .int .u16 jnl, .int .i64 jne, .int .i64 jnk, .bool false] 38)).alloc (.cells #[.int .u16 tv, .int .u16 tx, .int .u16 tl, .int .i64 te, .int .i64 tk] 33)) (.cells #[.int .u16 0, .int .u16 0, .int .u16 0, .int .i64 0, .int .i64 0, .int .u16 0, .int .u16 0, .int .u16 0, .int .i64 0, .int .i64 0, .bool false] 38))
      have kF := calm_free hf (heap_last ((w.alloc (.cells #[.int .u16 jov, .int .u16 jox, .int .u16 jol, .int .i64 joe, .int .i64 jok, .int .u16 jnv, .int .u16 jnx, .int .u16 jnl, .int .i64 jne, .int .i64 jnk, .bool false] 38)).alloc (.cells #[.int .u16 tv, .int .u16 tx, .int .u16 tl, .int .i64 te, .int .i64 tk] 33)) (.cells #[.int .u16 0, .int .u16 0, .int .u16 0, .int .i64 0, .int .i64 0, .int .u16 0, .int .u16 0, .int .u16 0, .int .i64 0, .int .i64 0, .bool false] 38))
      simp only [World.size_alloc] at kB kC kF
      refine (refMay10_any _ _ _ _ _ ft _).mono ?_; rintro r w' ⟨rfl, hb⟩; obtain ⟨u, rfl⟩ := calm_step hf hg hb; clear hb; rw [HM.out]
      go_wp2_with fail
      refine bodyPost_ret (v := .tuple #[.agg #[.int .u16 0, .int .u16 0, .int .u16 0, .int .i64 0, .int .i64 0, .int .u16 0, .int .u16 0, .int .u16 0, .int .i64 0, .int .i64 0, .bool false], .int .i64 11]) (by simp [results, Try.results21, go_sem, kC]) rfl ⟨rfl, ?_⟩
      iterate 11 (with_reducible refine Below.setCell ?_ ?_ _; rotate_left; (show w.heap.size ≤ w.heap.size + 1 + 1; omega))
      exact HB.out _
    · by_cases h1 : tx = jox
      · by_cases h2 : bits .andNot .u16 tv (bits .or .u16 jov jol) = 0
        · exact absurd (by rw [h1] at hm; simp [changeE, hm, h1, h2]) h
        · rw [show changeE jov jox jol false tv tx tl te tk = 10 by rw [h1] at hm; simp [changeE, hm, h1, h2]]
          have h2' : (meetB tv (joinB jov jol) == tv) = false := by rw [change_same tv jov jol ft.v0 ft.v1 fo.v0 fo.l0 ((mayC_iff _ _ _ _ _).1 hm).mv]; simpa using h2
          have h2n : (meetB tv (joinB jov jol) != tv) = true := by rw [bne, h2']; rfl
          have h1' : (tx == jox) = true := by simpa using h1
          have h1n : (tx != jox) = false := by rw [bne, h1']; rfl
          have HM := Lib.hid hm
          clear hm h h2 h1
          go_enter Try.func21, Try.ntmps21
          go_wp2_with fail
          obtain ⟨U, f, hU, hf, hg⟩ := calm_class (((w.alloc (.cells #[.int .u16 jov, .int .u16 jox, .int .u16 jol, .int .i64 joe, .int .i64 jok, .int .u16 jnv, .int .u16 jnx, .int .u16 jnl, .int .i64 jne, .int .i64 jnk, .bool false] 38)).alloc (.cells #[.int .u16 tv, .int .u16 tx, .int .u16 tl, .int .i64 te, .int .i64 tk] 33)).alloc (.cells #[.int .u16 0, .int .u16 0, .int .u16 0, .int .i64 0, .int .i64 0, .int .u16 0, .int .u16 0, .int .u16 0, .int .i64 0, .int .i64 0, .bool false] 38)); obtain ⟨u0, hu0⟩ := hg _ (Below.refl _ _); rw [hu0]; clear hu0
          have HB : Hid (∀ u, Below w.heap.size w (f u)) := fun u => below_three w _ _ _ (hf u)
          have kA := calm_block hf (heap_prev (.cells #[.int .u16 0, .int .u16 0, .int .u16 0, .int .i64 0, .int .i64 0, .int .u16 0, .int .u16 0, .int .u16 0, .int .i64 0, .int .i64 0, .bool false] 38) (heap_prev (.cells #[.int .u16 tv, .int .u16 tx, .int .u16 tl, .int .i64 te, .int .i64 tk] 33) (heap_last w (.cells #[.int .u16 jov, .int .u16 jox, .int .u16 jol, .int .i64 joe, .int .i64 jok, .int .u16 jnv, .int .u16 jnx, .int .u16 jnl, .int .i64 jne, .int .i64 jnk, .bool false] 38))))
          have kB := calm_block hf (heap_prev (.cells #[.int .u16 0, .int .u16 0, .int .u16 0, .int .i64 0, .int .i64 0, .int .u16 0, .int .u16 0, .int .u16 0, .int .i64 0, .int .i64 0, .bool false] 38) (heap_last (w.alloc (.cells #[.int .u16 jov, .int .u16 jox, .int .u16 jol, .int .i64 joe, .int .i64 jok, .int .u16 jnv, .int .u16 jnx, .int .u16 jnl, .int .i64 jne, .int .i64 jnk, .bool false] 38)) (.cells #[.int .u16 tv, .int .u16 tx, .int .u16 tl, .int .i64 te, .int .i64 tk] 33)))
          have kC := calm_block hf (heap_last ((w.alloc (.cells #[.int .u16 jov, .int .u16 jox, .int .u16 jol, .int .i64 joe, .int .i64 jok, .int .u16 jnv, .int .u16 jnx, .int .u16 jnl, .int .i64 jne, .int .i64 jnk, .bool false] 38)).alloc (.cells #[.int .u16 tv, .int .u16 tx, .int .u16 tl, .int .i64 te, .int .i64 tk] 33)) (.cells #[.int .u16 0, .int .u16 0, .int .u16 0, .int .i64 0, .int .i64 0, .int .u16 0, .int .u16 0, .int .u16 0, .int .i64 0, .int .i64 0, .bool false] 38))
          have kF := calm_free hf (heap_last ((w.alloc (.cells #[.int .u16 jov, .int .u16 jox, .int .u16 jol, .int .i64 joe, .int .i64 jok, .int .u16 jnv, .int .u16 jnx, .int .u16 jnl, .int .i64 jne, .int .i64 jnk, .bool false] 38)).alloc (.cells #[.int .u16 tv, .int .u16 tx, .int .u16 tl, .int .i64 te, .int .i64 tk] 33)) (.cells #[.int .u16 0, .int .u16 0, .int .u16 0, .int .i64 0, .int .i64 0, .int .u16 0, .int .u16 0, .int .u16 0, .int .i64 0, .int .i64 0, .bool false] 38))
          simp only [World.size_alloc] at kB kC kF
          refine (refMay10_any _ _ _ _ _ ft _).mono ?_; rintro r w' ⟨rfl, hb⟩; obtain ⟨u, rfl⟩ := calm_step hf hg hb; clear hb; rw [HM.out]
          go_wp2_with (go_at_call 51; refine (refJoin_any _ _ _ fo.v0 fo.v1 fo.l0 fo.l1).mono ?_; rintro r w' ⟨rfl, rfl⟩)
          refine wp_region_calm f (by kernel_rfl) (by kernel_rfl) (calm_drew hf hg _) ?_
          repeat (go_big_quiet_step (((go_at_call 29; exact calm_same (refMeet_any _ _ _ ft.v0 ft.v1 d0 d1)))))
          refine wpQuiet_nil ?_; rintro _ ⟨u, rfl⟩
          go_wp2
          refine bodyPost_ret (v := .tuple #[.agg #[.int .u16 0, .int .u16 0, .int .u16 0, .int .i64 0, .int .i64 0, .int .u16 0, .int .u16 0, .int .u16 0, .int .i64 0, .int .i64 0, .bool false], .int .i64 10]) (by simp [results, Try.results21, go_sem, kC]) rfl ⟨rfl, ?_⟩
          iterate 11 (with_reducible refine Below.setCell ?_ ?_ _; rotate_left; (show w.heap.size ≤ w.heap.size + 1 + 1; omega))
          exact HB.out _
      · rw [show changeE jov jox jol false tv tx tl te tk = 10 by simp [changeE, hm, h1]]
        have h1' : (tx == jox) = false := by simpa using h1
        have h1n : (tx != jox) = true := by rw [bne, h1']; rfl
        have HM := Lib.hid hm
        clear hm h h1
        go_enter Try.func21, Try.ntmps21
        go_wp2_with fail
        obtain ⟨U, f, hU, hf, hg⟩ := calm_class (((w.alloc (.cells #[.int .u16 jov, .int .u16 jox, .int .u16 jol, .int .i64 joe, .int .i64 jok, .int .u16 jnv, .int .u16 jnx, .int .u16 jnl, .int .i64 jne, .int .i64 jnk, .bool false] 38)).alloc (.cells #[.int .u16 tv, .int .u16 tx, .int .u16 tl, .int .i64 te, .int .i64 tk] 33)).alloc (.cells #[.int .u16 0, .int .u16 0, .int .u16 0, .int .i64 0, .int .i64 0, .int .u16 0, .int .u16 0, .int .u16 0, .int .i64 0, .int .i64 0, .bool false] 38)); obtain ⟨u0, hu0⟩ := hg _ (Below.refl _ _); rw [hu0]; clear hu0
        have HB : Hid (∀ u, Below w.heap.size w (f u)) := fun u => below_three w _ _ _ (hf u)
        have kA := calm_block hf (heap_prev (.cells #[.int .u16 0, .int .u16 0, .int .u16 0, .int .i64 0, .int .i64 0, .int .u16 0, .int .u16 0, .int .u16 0, .int .i64 0, .int .i64 0, .bool false] 38) (heap_prev (.cells #[.int .u16 tv, .int .u16 tx, .int .u16 tl, .int .i64 te, .int .i64 tk] 33) (heap_last w (.cells #[.int .u16 jov, .int .u16 jox, .int .u16 jol, .int .i64 joe, .int .i64 jok, .int .u16 jnv, .int .u16 jnx, .int .u16 jnl, .int .i64 jne, .int .i64 jnk, .bool false] 38))))
        have kB := calm_block hf (heap_prev (.cells #[.int .u16 0, .int .u16 0, .int .u16 0, .int .i64 0, .int .i64 0, .int .u16 0, .int .u16 0, .int .u16 0, .int .i64 0, .int .i64 0, .bool false] 38) (heap_last (w.alloc (.cells #[.int .u16 jov, .int .u16 jox, .int .u16 jol, .int .i64 joe, .int .i64 jok, .int .u16 jnv, .int .u16 jnx, .int .u16 jnl, .int .i64 jne, .int .i64 jnk, .bool false] 38)) (.cells #[.int .u16 tv, .int .u16 tx, .int .u16 tl, .int .i64 te, .int .i64 tk] 33)))
        have kC := calm_block hf (heap_last ((w.alloc (.cells #[.int .u16 jov, .int .u16 jox, .int .u16 jol, .int .i64 joe, .int .i64 jok, .int .u16 jnv, .int .u16 jnx, .int .u16 jnl, .int .i64 jne, .int .i64 jnk, .bool false] 38)).alloc (.cells #[.int .u16 tv, .int .u16 tx, .int .u16 tl, .int .i64 te, .int .i64 tk] 33)) (.cells #[.int .u16 0, .int .u16 0, .int .u16 0, .int .i64 0, .int .i64 0, .int .u16 0, .int .u16 0, .int .u16 0, .int .i64 0, .int .i64 0, .bool false] 38))
        have kF := calm_free hf (heap_last ((w.alloc (.cells #[.int .u16 jov, .int .u16 jox, .int .u16 jol, .int .i64 joe, .int .i64 jok, .int .u16 jnv, .int .u16 jnx, .int .u16 jnl, .int .i64 jne, .int .i64 jnk, .bool false] 38)).alloc (.cells #[.int .u16 tv, .int .u16 tx, .int .u16 tl, .int .i64 te, .int .i64 tk] 33)) (.cells #[.int .u16 0, .int .u16 0, .int .u16 0, .int .i64 0, .int .i64 0, .int .u16 0, .int .u16 0, .int .u16 0, .int .i64 0, .int .i64 0, .bool false] 38))
        simp only [World.size_alloc] at kB kC kF
        refine (refMay10_any _ _ _ _ _ ft _).mono ?_; rintro r w' ⟨rfl, hb⟩; obtain ⟨u, rfl⟩ := calm_step hf hg hb; clear hb; rw [HM.out]
        go_wp2_with (go_at_call 51; refine (refJoin_any _ _ _ fo.v0 fo.v1 fo.l0 fo.l1).mono ?_; rintro r w' ⟨rfl, rfl⟩)
        refine wp_region_calm f (by kernel_rfl) (by kernel_rfl) (calm_drew hf hg _) ?_
        repeat (go_big_quiet_step (((go_at_call 29; exact calm_same (refMeet_any _ _ _ ft.v0 ft.v1 d0 d1)))))
        refine wpQuiet_nil ?_; rintro _ ⟨u, rfl⟩
        go_wp2
        refine bodyPost_ret (v := .tuple #[.agg #[.int .u16 0, .int .u16 0, .int .u16 0, .int .i64 0, .int .i64 0, .int .u16 0, .int .u16 0, .int .u16 0, .int .i64 0, .int .i64 0, .bool false], .int .i64 10]) (by simp [results, Try.results21, go_sem, kC]) rfl ⟨rfl, ?_⟩
        iterate 11 (with_reducible refine Below.setCell ?_ ?_ _; rotate_left; (show w.heap.size ≤ w.heap.size + 1 + 1; omega))
        exact HB.out _
  · rw [show changeE jov jox jol true tv tx tl te tk = 10 from rfl]
    clear h
    go_enter Try.func21, Try.ntmps21
    go_wp2_with fail
    refine bodyPost_ret (v := .tuple #[.agg #[.int .u16 0, .int .u16 0, .int .u16 0, .int .i64 0, .int .i64 0, .int .u16 0, .int .u16 0, .int .u16 0, .int .i64 0, .int .i64 0, .bool false], .int .i64 10]) (by simp [results, Try.results21, go_sem]) rfl ⟨rfl, ?_⟩
    exact ((below_box w _).trans ((below_box _ _).mono (by simp))).trans ((below_box _ _).mono (by simp; omega))
end Go.Proofs.Ytaaagidooieejaa
