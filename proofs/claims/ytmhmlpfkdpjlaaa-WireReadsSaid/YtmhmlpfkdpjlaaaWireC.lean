/- Wire: the reference's bytes of a command. -/
import Derived.Test.YtmhmlpfkdpjlaaaWireB
import Derived.Deep.RegionHeld3
namespace Go.Proofs.Ytmhmlpfkdpjlaaa
open Go.ChangeShapes Go.WideShapes Go.ChangeAt Go.RowKit

def SpsAt (w : World) (p : Option Addr) (L : List SpX) : Prop := ∀ j, (hj : j < L.length) → ∃ g o, p = some ⟨g, o, none⟩ ∧ g < w.heap.size ∧ w.cell? ⟨g, o + j * 2, none⟩ = some (.string L[j].lo) ∧ w.cell? ⟨g, o + j * 2 + 1, none⟩ = some (.string L[j].hi)
theorem SpsAt.keep {w w' : World} {p : Option Addr} {L : List SpX} (h : SpsAt w p L) {B : Nat} (hb : Below B w w') (hB : w.heap.size ≤ B) : SpsAt w' p L := fun j hj => by
  obtain ⟨g, o, e, hg, h1, h2⟩ := h j hj
  exact ⟨g, o, e, Nat.lt_of_lt_of_le hg hb.size, (hb.cell (p := ⟨g, o + j * 2, none⟩) (by show g < B; omega)).trans h1, (hb.cell (p := ⟨g, o + j * 2 + 1, none⟩) (by show g < B; omega)).trans h2⟩
def WrsAt (w : World) (p : Option Addr) (L : List WrX) : Prop := ∀ j, (hj : j < L.length) → ∃ g o, p = some ⟨g, o, none⟩ ∧ g < w.heap.size ∧ w.cell? ⟨g, o + j * 3, none⟩ = some (.string L[j].k) ∧ w.cell? ⟨g, o + j * 3 + 1, none⟩ = some (.bool L[j].r) ∧ w.cell? ⟨g, o + j * 3 + 2, none⟩ = some (.string L[j].d)
theorem WrsAt.keep {w w' : World} {p : Option Addr} {L : List WrX} (h : WrsAt w p L) {B : Nat} (hb : Below B w w') (hB : w.heap.size ≤ B) : WrsAt w' p L := fun j hj => by
  obtain ⟨g, o, e, hg, h1, h2, h3⟩ := h j hj
  exact ⟨g, o, e, Nat.lt_of_lt_of_le hg hb.size, (hb.cell (p := ⟨g, o + j * 3, none⟩) (by show g < B; omega)).trans h1, (hb.cell (p := ⟨g, o + j * 3 + 1, none⟩) (by show g < B; omega)).trans h2, (hb.cell (p := ⟨g, o + j * 3 + 2, none⟩) (by show g < B; omega)).trans h3⟩
theorem own_oneW (w : World) (x : Int) : (w.alloc (.cells #[.int .u8 x] 5)).ownsRow w.heap.size 5 1 (.slice (some ⟨w.heap.size, 0, none⟩) 1 1) [x].length (byt [x]) :=
  ⟨rfl, .inr ⟨w.heap.size, 1, _, rfl, Nat.le_refl _, heap_last w _, Nat.le_refl _, by unfold maxLen; decide, rfl, rfl⟩⟩
/-- What a call wrote over was its row's: a world below which the row does not lie is as it was. -/
theorem below_gr {B base : Nat} {w w1 w2 : World} {v : Value} {n : Nat} {ys : List Value} (hb : Below B w w1) (hB : B ≤ w1.heap.size) (ho : w1.ownsRow base 5 1 v n ys) (hl : B ≤ base) (hg : w1.grownBy w2 v.ownBlock) : Below B w w2 :=
  hb.grown hg hB (fun k hk => Nat.le_trans hl (ho.lt k hk).1)
theorem encHd_len {c : CmX} (h : CmF c) : (encHd c).length ≤ 200 := by
  unfold encHd encY encF
  have := (encN_len h.k).2; have := (encN_len h.e).2; have := (encN_len h.n).2; have := (encN_len h.h).2; have := (encN_len h.yn).2; have := (encN_len h.yl).2; have := (encN_len h.ys).2; have := (encN_len h.ya).2; have := (encN_len h.w).2
  have := stampB_len c.sw c.st
  simp only [List.length_append, List.length_cons, List.length_nil]; omega
set_option maxRecDepth 100000 in
set_option maxHeartbeats 16000000 in
theorem rcmd_any (c : CmX) (ps pw : Option Addr) (cs cw : Nat) (w : World) (F : CmF c) (hsp : SpsAt w ps c.sp) (hwr : WrsAt w pw c.wr) (hl : ((encCm c).length : Int) ≤ 140737488300000) (hn1 : c.sp.length ≤ 1000000) (hn2 : c.wr.length ≤ 1000000) :
    Calls Try.prog 17 #[.agg #[.int .i64 c.k, .int .i64 c.e, .int .i64 c.n, .int .i64 c.h, .int .i64 c.yn, .int .i64 c.yl, .int .i64 c.ys, .int .i64 c.ya, .int .i64 c.sw, .int .i64 c.st, .int .i64 c.w, .bool c.yes, .slice ps c.sp.length cs, .slice pw c.wr.length cw]] w (WEnd w.heap.size w.heap.size w (encCm c)) := by
  have HF := Lib.hid F; have HSP := Lib.hid hsp; have HWR := Lib.hid hwr
  have hl1 : ((encHd c ++ encN c.sp.length ++ c.sp.flatMap encSp).length : Int) ≤ 140737488300000 := by
    have : (encCm c).length = (encHd c ++ encN c.sp.length ++ c.sp.flatMap encSp).length + (encWrs c.wr).length := by simp only [encCm, encSps, List.length_append]; omega
    omega
  have HL1 := Lib.hid hl1
  have HL2 : Hid (((encHd c ++ encN c.sp.length ++ c.sp.flatMap encSp ++ encN c.wr.length ++ c.wr.flatMap encWr).length : Int) ≤ 140737488300000) := by
    have : encCm c = encHd c ++ encN c.sp.length ++ c.sp.flatMap encSp ++ encN c.wr.length ++ c.wr.flatMap encWr := by simp [encCm, encSps, encWrs]
    show _ ≤ _
    rw [← this]; exact hl
  have HHD := Lib.hid (encHd_len F)
  clear F hsp hwr hl hl1
  go_enter Try.func17, Try.ntmps17
  go_upto_region 1 with fail
  obtain ⟨W, hW⟩ : ∃ W, w.alloc (.cells #[.int .i64 c.k, .int .i64 c.e, .int .i64 c.n, .int .i64 c.h, .int .i64 c.yn, .int .i64 c.yl, .int .i64 c.ys, .int .i64 c.ya, .int .i64 c.sw, .int .i64 c.st, .int .i64 c.w, .bool c.yes, .slice ps c.sp.length cs, .slice pw c.wr.length cw] 29) = W := ⟨_, rfl⟩
  have hA : W.heap[w.heap.size]? = some (.cells #[.int .i64 c.k, .int .i64 c.e, .int .i64 c.n, .int .i64 c.h, .int .i64 c.yn, .int .i64 c.yl, .int .i64 c.ys, .int .i64 c.ya, .int .i64 c.sw, .int .i64 c.st, .int .i64 c.w, .bool c.yes, .slice ps c.sp.length cs, .slice pw c.wr.length cw] 29 (0, 0)) := by rw [← hW]; exact heap_last w _
  have HB1 : Hid (Below w.heap.size w W) := by show Below _ _ _; rw [← hW]; exact (Below.refl _ _).alloc (Nat.le_refl _) _
  have HA := Lib.hid hA
  rw [hW]
  obtain ⟨A, eA⟩ : ∃ A, w.heap.size = A := ⟨_, rfl⟩
  have HEA := Lib.hid eA
  rw [eA] at HA ⊢
  clear hW hA eA
  have h0 : Below W.heap.size W W.drew := (Below.refl _ _).drew
  have kA : ∀ w', Below W.heap.size W w' → ∀ j, w'.cell? ⟨A, j, none⟩ = #[.int .i64 c.k, .int .i64 c.e, .int .i64 c.n, .int .i64 c.h, .int .i64 c.yn, .int .i64 c.yl, .int .i64 c.ys, .int .i64 c.ya, .int .i64 c.sw, .int .i64 c.st, .int .i64 c.w, .bool c.yes, .slice ps c.sp.length cs, .slice pw c.wr.length cw][j]? := fun w' h => block_cells (below_block h (block_lt HA.out) HA.out)
  refine wp_region_held_drew (S := fun w' => Below W.heap.size W w') (by kernel_rfl) h0 (fun hHeld => ?_)
  refine wpAnyH_take (i := 1) (v := ?_) rfl (by kernel_rfl) (by kernel_rfl) (by kernel_rfl) (fun _ _ _ h => h) (Or.inl ⟨by rfl, ?_⟩) hHeld ?_
  rotate_left
  · (intro wz hSw; (try dsimp only at hSw); (try simp only [List.getElem_toArray, List.getElem_cons_succ, List.getElem_cons_zero]); go_simp; try with_reducible rfl)
  try simp only [List.getElem_toArray, List.getElem_cons_succ, List.getElem_cons_zero, Act.put, List.setIfInBounds_toArray, List.set_cons_zero, List.set_cons_succ]
  refine wpAnyH_take (i := 2) (v := ?_) rfl (by kernel_rfl) (by kernel_rfl) (by kernel_rfl) (fun _ _ _ h => h) (Or.inl ⟨by rfl, ?_⟩) hHeld ?_
  rotate_left
  · (intro wz hSw; (try dsimp only at hSw); (try simp only [List.getElem_toArray, List.getElem_cons_succ, List.getElem_cons_zero]); go_simp; try with_reducible rfl)
  try simp only [List.getElem_toArray, List.getElem_cons_succ, List.getElem_cons_zero, Act.put, List.setIfInBounds_toArray, List.set_cons_zero, List.set_cons_succ]
  refine wpAnyH_take (i := 4) (v := ?_) rfl (by kernel_rfl) (by kernel_rfl) (by kernel_rfl) (fun _ _ _ h => h) (Or.inl ⟨by rfl, ?_⟩) hHeld ?_
  rotate_left
  · (intro wz hSw; (try dsimp only at hSw); (try simp only [List.getElem_toArray, List.getElem_cons_succ, List.getElem_cons_zero]); go_simp; try with_reducible rfl)
  try simp only [List.getElem_toArray, List.getElem_cons_succ, List.getElem_cons_zero, Act.put, List.setIfInBounds_toArray, List.set_cons_zero, List.set_cons_succ]
  refine wpAnyH_take (i := 5) (v := ?_) rfl (by kernel_rfl) (by kernel_rfl) (by kernel_rfl) (fun _ _ _ h => h) (Or.inl ⟨by rfl, ?_⟩) hHeld ?_
  rotate_left
  · (intro wz hSw; (try dsimp only at hSw); (try simp only [List.getElem_toArray, List.getElem_cons_succ, List.getElem_cons_zero]); go_simp; try with_reducible rfl)
  try simp only [List.getElem_toArray, List.getElem_cons_succ, List.getElem_cons_zero, Act.put, List.setIfInBounds_toArray, List.set_cons_zero, List.set_cons_succ]
  refine wpAnyH_take (i := 7) (v := ?_) rfl (by kernel_rfl) (by kernel_rfl) (by kernel_rfl) (fun _ _ _ h => h) (Or.inl ⟨by rfl, ?_⟩) hHeld ?_
  rotate_left
  · (intro wz hSw; (try dsimp only at hSw); (try simp only [List.getElem_toArray, List.getElem_cons_succ, List.getElem_cons_zero]); go_simp; try with_reducible rfl)
  try simp only [List.getElem_toArray, List.getElem_cons_succ, List.getElem_cons_zero, Act.put, List.setIfInBounds_toArray, List.set_cons_zero, List.set_cons_succ]
  refine wpAnyH_take (i := 8) (v := ?_) rfl (by kernel_rfl) (by kernel_rfl) (by kernel_rfl) (fun _ _ _ h => h) (Or.inl ⟨by rfl, ?_⟩) hHeld ?_
  rotate_left
  · (intro wz hSw; (try dsimp only at hSw); (try simp only [List.getElem_toArray, List.getElem_cons_succ, List.getElem_cons_zero]); go_simp; try with_reducible rfl)
  try simp only [List.getElem_toArray, List.getElem_cons_succ, List.getElem_cons_zero, Act.put, List.setIfInBounds_toArray, List.set_cons_zero, List.set_cons_succ]
  refine wpAnyH_take (i := 10) (v := ?_) rfl (by kernel_rfl) (by kernel_rfl) (by kernel_rfl) (fun _ _ _ h => h) (Or.inl ⟨by rfl, ?_⟩) hHeld ?_
  rotate_left
  · (intro wz hSw; (try dsimp only at hSw); (try simp only [List.getElem_toArray, List.getElem_cons_succ, List.getElem_cons_zero]); go_simp; try with_reducible rfl)
  try simp only [List.getElem_toArray, List.getElem_cons_succ, List.getElem_cons_zero, Act.put, List.setIfInBounds_toArray, List.set_cons_zero, List.set_cons_succ]
  refine wpAnyH_take (i := 11) (v := ?_) rfl (by kernel_rfl) (by kernel_rfl) (by kernel_rfl) (fun _ _ _ h => h) (Or.inl ⟨by rfl, ?_⟩) hHeld ?_
  rotate_left
  · (intro wz hSw; (try dsimp only at hSw); (try simp only [List.getElem_toArray, List.getElem_cons_succ, List.getElem_cons_zero]); go_simp; try with_reducible rfl)
  try simp only [List.getElem_toArray, List.getElem_cons_succ, List.getElem_cons_zero, Act.put, List.setIfInBounds_toArray, List.set_cons_zero, List.set_cons_succ]
  refine wpAnyH_ready (rs := [0]) (by kernel_rfl) (by simp) ?_; refine AllReadyH.cons rfl (fun K hK => ?_) AllReadyH.nil; (try simp only [List.getElem_toArray, List.getElem_cons_zero]); go_simp
  have h1 : Below W.heap.size W (W.drew.alloc (.cells #[.int .u8 1] 5)) := h0.alloc (Nat.le_refl _) _
  have ho1 := own_oneW W.drew 1
  have hz1 : W.heap.size ≤ (W.drew.alloc (.cells #[.int .u8 1] 5)).heap.size := h1.size
  refine hK.out _ _ h1 (fun _ => ?_)
  clear hK K hHeld
  try simp only [List.getElem_toArray, List.getElem_cons_succ, List.getElem_cons_zero, Act.put, List.setIfInBounds_toArray, List.set_cons_zero, List.set_cons_succ]
  have hHeld := h1
  refine wpAnyH_ready (rs := [3]) (by kernel_rfl) (by simp) ?_; refine AllReadyH.cons rfl (fun K hK => ?_) AllReadyH.nil; (try simp only [List.getElem_toArray, List.getElem_cons_succ, List.getElem_cons_zero]); go_simp
  refine (rn_any _ _ [1] c.k _ ho1 hz1 HF.out.k (by simp)).mono ?_; rintro r w2 ⟨v2, rfl, ho2, hb⟩
  have h2 := h1.trans (hb.mono h1.size)
  have hz2 := hb.size
  refine hK.out _ _ h2 (fun _ => ?_)
  clear hK K hHeld hb ho1
  try simp only [List.getElem_toArray, List.getElem_cons_succ, List.getElem_cons_zero, Act.put, List.setIfInBounds_toArray, List.set_cons_zero, List.set_cons_succ]
  have hHeld := h2
  refine wpAnyH_ready (rs := [6]) (by kernel_rfl) (by simp) ?_; refine AllReadyH.cons rfl (fun K hK => ?_) AllReadyH.nil; (try simp only [List.getElem_toArray, List.getElem_cons_succ, List.getElem_cons_zero]); go_simp
  refine (rn_any _ v2 _ c.e _ ho2 hz2 HF.out.e (by have := (encN_len HF.out.k).2; simp only [List.length_append, List.length_cons, List.length_nil]; omega)).mono ?_; rintro r w3 ⟨v3, rfl, ho3, hb⟩
  have h3 := h2.trans (hb.mono h2.size)
  have hz3 := hb.size
  refine hK.out _ _ h3 (fun _ => ?_)
  clear hK K hHeld hb ho2
  try simp only [List.getElem_toArray, List.getElem_cons_succ, List.getElem_cons_zero, Act.put, List.setIfInBounds_toArray, List.set_cons_zero, List.set_cons_succ]
  have hHeld := h3
  refine wpAnyH_ready (rs := [9]) (by kernel_rfl) (by simp) ?_; refine AllReadyH.cons rfl (fun K hK => ?_) AllReadyH.nil; (try simp only [List.getElem_toArray, List.getElem_cons_succ, List.getElem_cons_zero]); go_simp
  refine (rn_any _ v3 _ c.n _ ho3 hz3 HF.out.n (by have := (encN_len HF.out.k).2; have := (encN_len HF.out.e).2; simp only [List.length_append, List.length_cons, List.length_nil]; omega)).mono ?_; rintro r w4 ⟨v4, rfl, ho4, hb⟩
  have h4 := h3.trans (hb.mono h3.size)
  have hz4 := hb.size
  refine hK.out _ _ h4 (fun _ => ?_)
  clear hK K hHeld hb ho3
  try simp only [List.getElem_toArray, List.getElem_cons_succ, List.getElem_cons_zero, Act.put, List.setIfInBounds_toArray, List.set_cons_zero, List.set_cons_succ]
  have hHeld := h4
  refine wpAnyH_ready (rs := [12]) (by kernel_rfl) (by simp) ?_; refine AllReadyH.cons rfl (fun K hK => ?_) AllReadyH.nil; (try simp only [List.getElem_toArray, List.getElem_cons_succ, List.getElem_cons_zero]); go_simp
  refine (rn_any _ v4 _ c.h _ ho4 hz4 HF.out.h (by have := (encN_len HF.out.k).2; have := (encN_len HF.out.e).2; have := (encN_len HF.out.n).2; simp only [List.length_append, List.length_cons, List.length_nil]; omega)).mono ?_; rintro r w5 ⟨v5, rfl, ho5, hb⟩
  have h5 := h4.trans (hb.mono h4.size)
  have hz5 := Nat.le_trans h4.size (Nat.le_refl _)
  refine hK.out _ _ h5 (fun _ => ?_)
  clear hK K hHeld hb ho4
  try simp only [List.getElem_toArray, List.getElem_cons_succ, List.getElem_cons_zero, Act.put, List.setIfInBounds_toArray, List.set_cons_zero, List.set_cons_succ]
  have hHeld := h5
  refine wpAnyH_take (i := 13) (v := ?_) rfl (by kernel_rfl) (by kernel_rfl) (by kernel_rfl) (fun _ _ _ h => h) (Or.inl ⟨by rfl, ?_⟩) hHeld ?_
  rotate_left
  · (intro wz hSw; (try dsimp only at hSw); (try simp only [List.getElem_toArray, List.getElem_cons_succ, List.getElem_cons_zero]); go_simp; try with_reducible rfl)
  try simp only [List.getElem_toArray, List.getElem_cons_succ, List.getElem_cons_zero, Act.put, List.setIfInBounds_toArray, List.set_cons_zero, List.set_cons_succ]
  refine wpAnyH_done (by kernel_rfl) ?_ _
  have hl5 : ([1] ++ encN c.k ++ encN c.e ++ encN c.n ++ encN c.h).length ≤ 41 := by have := (encN_len HF.out.k).2; have := (encN_len HF.out.e).2; have := (encN_len HF.out.n).2; have := (encN_len HF.out.h).2; simp only [List.length_append, List.length_cons, List.length_nil]; omega
  obtain ⟨X5, hX5⟩ : ∃ X, [1] ++ encN c.k ++ encN c.e ++ encN c.n ++ encN c.h = X := ⟨_, rfl⟩
  rw [hX5] at ho5 hl5
  have HX5 := Lib.hid hX5
  have HO5 : Hid (w5.ownsRow W.heap.size 5 1 v5 X5.length (byt X5)) := own_baseW ho5 h4.size
  have H5 := Lib.hid h5
  clear ho5 hX5 h0 h1 h2 h3 h4 h5 hz1 hz2 hz3 hz4 hz5 hHeld kA
  go_upto_region 2 with fail
  have kA : ∀ w', Below w5.heap.size w5 w' → ∀ j, w'.cell? ⟨A, j, none⟩ = #[.int .i64 c.k, .int .i64 c.e, .int .i64 c.n, .int .i64 c.h, .int .i64 c.yn, .int .i64 c.yl, .int .i64 c.ys, .int .i64 c.ya, .int .i64 c.sw, .int .i64 c.st, .int .i64 c.w, .bool c.yes, .slice ps c.sp.length cs, .slice pw c.wr.length cw][j]? := fun w' h => block_cells (below_block (H5.out.trans (h.mono H5.out.size)) (block_lt HA.out) HA.out)
  have h0 : Below w5.heap.size w5 w5.drew := (Below.refl _ _).drew
  refine wp_region_held_drew (S := fun w' => Below w5.heap.size w5 w') (by kernel_rfl) h0 (fun hHeld => ?_)
  have ho0 : w5.drew.ownsRow W.heap.size 5 1 v5 X5.length (byt X5) := own_less HO5.out h0
  have hz0 : W.heap.size ≤ w5.drew.heap.size := H5.out.size
  refine wpAnyH_take (i := 0) (v := ?_) rfl (by kernel_rfl) (by kernel_rfl) (by kernel_rfl) (fun _ _ _ h => h) (Or.inl ⟨by rfl, ?_⟩) hHeld ?_
  rotate_left
  · (intro wz hSw; (try dsimp only at hSw); (try simp only [List.getElem_toArray, List.getElem_cons_zero]); go_simp; try with_reducible rfl)
  try simp only [List.getElem_toArray, List.getElem_cons_zero, Act.put, List.setIfInBounds_toArray, List.set_cons_zero, List.set_cons_succ]
  refine wpAnyH_take (i := 1) (v := ?_) rfl (by kernel_rfl) (by kernel_rfl) (by kernel_rfl) (fun _ _ _ h => h) (Or.inl ⟨by rfl, ?_⟩) hHeld ?_
  rotate_left
  · (intro wz hSw; (try dsimp only at hSw); (try simp only [List.getElem_toArray, List.getElem_cons_succ, List.getElem_cons_zero]); go_simp; try with_reducible rfl)
  try simp only [List.getElem_toArray, List.getElem_cons_succ, List.getElem_cons_zero, Act.put, List.setIfInBounds_toArray, List.set_cons_zero, List.set_cons_succ]
  refine wpAnyH_take (i := 2) (v := ?_) rfl (by kernel_rfl) (by kernel_rfl) (by kernel_rfl) (fun _ _ _ h => h) (Or.inl ⟨by rfl, ?_⟩) hHeld ?_
  rotate_left
  · (intro wz hSw; (try dsimp only at hSw); (try simp only [List.getElem_toArray, List.getElem_cons_succ, List.getElem_cons_zero]); go_simp; try with_reducible rfl)
  try simp only [List.getElem_toArray, List.getElem_cons_succ, List.getElem_cons_zero, Act.put, List.setIfInBounds_toArray, List.set_cons_zero, List.set_cons_succ]
  refine wpAnyH_take (i := 4) (v := ?_) rfl (by kernel_rfl) (by kernel_rfl) (by kernel_rfl) (fun _ _ _ h => h) (Or.inl ⟨by rfl, ?_⟩) hHeld ?_
  rotate_left
  · (intro wz hSw; (try dsimp only at hSw); (try simp only [List.getElem_toArray, List.getElem_cons_succ, List.getElem_cons_zero]); go_simp; try with_reducible rfl)
  try simp only [List.getElem_toArray, List.getElem_cons_succ, List.getElem_cons_zero, Act.put, List.setIfInBounds_toArray, List.set_cons_zero, List.set_cons_succ]
  refine wpAnyH_take (i := 5) (v := ?_) rfl (by kernel_rfl) (by kernel_rfl) (by kernel_rfl) (fun _ _ _ h => h) (Or.inl ⟨by rfl, ?_⟩) hHeld ?_
  rotate_left
  · (intro wz hSw; (try dsimp only at hSw); (try simp only [List.getElem_toArray, List.getElem_cons_succ, List.getElem_cons_zero]); go_simp; try with_reducible rfl)
  try simp only [List.getElem_toArray, List.getElem_cons_succ, List.getElem_cons_zero, Act.put, List.setIfInBounds_toArray, List.set_cons_zero, List.set_cons_succ]
  refine wpAnyH_take (i := 7) (v := ?_) rfl (by kernel_rfl) (by kernel_rfl) (by kernel_rfl) (fun _ _ _ h => h) (Or.inl ⟨by rfl, ?_⟩) hHeld ?_
  rotate_left
  · (intro wz hSw; (try dsimp only at hSw); (try simp only [List.getElem_toArray, List.getElem_cons_succ, List.getElem_cons_zero]); go_simp; try with_reducible rfl)
  try simp only [List.getElem_toArray, List.getElem_cons_succ, List.getElem_cons_zero, Act.put, List.setIfInBounds_toArray, List.set_cons_zero, List.set_cons_succ]
  refine wpAnyH_take (i := 8) (v := ?_) rfl (by kernel_rfl) (by kernel_rfl) (by kernel_rfl) (fun _ _ _ h => h) (Or.inl ⟨by rfl, ?_⟩) hHeld ?_
  rotate_left
  · (intro wz hSw; (try dsimp only at hSw); (try simp only [List.getElem_toArray, List.getElem_cons_succ, List.getElem_cons_zero]); go_simp; try with_reducible rfl)
  try simp only [List.getElem_toArray, List.getElem_cons_succ, List.getElem_cons_zero, Act.put, List.setIfInBounds_toArray, List.set_cons_zero, List.set_cons_succ]
  refine wpAnyH_take (i := 10) (v := ?_) rfl (by kernel_rfl) (by kernel_rfl) (by kernel_rfl) (fun _ _ _ h => h) (Or.inl ⟨by rfl, ?_⟩) hHeld ?_
  rotate_left
  · (intro wz hSw; (try dsimp only at hSw); (try simp only [List.getElem_toArray, List.getElem_cons_succ, List.getElem_cons_zero]); go_simp; try with_reducible rfl)
  try simp only [List.getElem_toArray, List.getElem_cons_succ, List.getElem_cons_zero, Act.put, List.setIfInBounds_toArray, List.set_cons_zero, List.set_cons_succ]
  refine wpAnyH_take (i := 11) (v := ?_) rfl (by kernel_rfl) (by kernel_rfl) (by kernel_rfl) (fun _ _ _ h => h) (Or.inl ⟨by rfl, ?_⟩) hHeld ?_
  rotate_left
  · (intro wz hSw; (try dsimp only at hSw); (try simp only [List.getElem_toArray, List.getElem_cons_succ, List.getElem_cons_zero]); go_simp; try with_reducible rfl)
  try simp only [List.getElem_toArray, List.getElem_cons_succ, List.getElem_cons_zero, Act.put, List.setIfInBounds_toArray, List.set_cons_zero, List.set_cons_succ]
  refine wpAnyH_ready (rs := [3]) (by kernel_rfl) (by simp) ?_; refine AllReadyH.cons rfl (fun K hK => ?_) AllReadyH.nil; (try simp only [List.getElem_toArray, List.getElem_cons_succ, List.getElem_cons_zero]); go_simp
  refine (ry_any _ v5 X5 c.yn c.yl c.ys c.ya _ ho0 hz0 HF.out.yn HF.out.yl HF.out.ys HF.out.ya (by omega)).mono ?_; rintro r w6 ⟨v6, rfl, ho6, hb⟩
  have h1 := h0.trans (hb.mono h0.size)
  have hz6 := hb.size
  have hl6 : (encY c.yn c.yl c.ys c.ya).length ≤ 40 := by have := (encN_len HF.out.yn).2; have := (encN_len HF.out.yl).2; have := (encN_len HF.out.ys).2; have := (encN_len HF.out.ya).2; unfold encY; simp only [List.length_append]; omega
  refine hK.out _ _ h1 (fun _ => ?_)
  clear hK K hHeld hb ho0
  try simp only [List.getElem_toArray, List.getElem_cons_succ, List.getElem_cons_zero, Act.put, List.setIfInBounds_toArray, List.set_cons_zero, List.set_cons_succ]
  have hHeld := h1
  refine wpAnyH_ready (rs := [6]) (by kernel_rfl) (by simp) ?_; refine AllReadyH.cons rfl (fun K hK => ?_) AllReadyH.nil; (try simp only [List.getElem_toArray, List.getElem_cons_succ, List.getElem_cons_zero]); go_simp
  refine (rs_any _ v6 _ c.sw c.st _ ho6 hz6 HF.out.sw HF.out.st (by rw [List.length_append]; omega)).mono ?_; rintro r w7 ⟨v7, rfl, ho7, hg⟩
  have h2 := below_gr h1 h1.size ho6 (Nat.le_refl _) hg
  have hz7 := Nat.le_trans hz6 hg.size
  refine hK.out _ _ h2 (fun _ => ?_)
  clear hK K hHeld hg ho6
  try simp only [List.getElem_toArray, List.getElem_cons_succ, List.getElem_cons_zero, Act.put, List.setIfInBounds_toArray, List.set_cons_zero, List.set_cons_succ]
  have hHeld := h2
  refine wpAnyH_ready (rs := [9]) (by kernel_rfl) (by simp) ?_; refine AllReadyH.cons rfl (fun K hK => ?_) AllReadyH.nil; (try simp only [List.getElem_toArray, List.getElem_cons_succ, List.getElem_cons_zero]); go_simp
  refine (rn_any _ v7 _ c.w _ ho7 hz7 HF.out.w (by have := stampB_len c.sw c.st; simp only [List.length_append]; omega)).mono ?_; rintro r w8 ⟨v8, rfl, ho8, hb⟩
  have h3 := h2.trans (hb.mono h2.size)
  have hz8 := hb.size
  refine hK.out _ _ h3 (fun _ => ?_)
  clear hK K hHeld hb ho7
  try simp only [List.getElem_toArray, List.getElem_cons_succ, List.getElem_cons_zero, Act.put, List.setIfInBounds_toArray, List.set_cons_zero, List.set_cons_succ]
  have hHeld := h3
  refine wpAnyH_ready (rs := [12]) (by kernel_rfl) (by simp) ?_; refine AllReadyH.cons rfl (fun K hK => ?_) AllReadyH.nil; (try simp only [List.getElem_toArray, List.getElem_cons_succ, List.getElem_cons_zero]); go_simp
  refine (rf_any _ v8 _ c.yes _ ho8 hz8 (by have := stampB_len c.sw c.st; have := (encN_len HF.out.w).2; simp only [List.length_append]; omega)).mono ?_; rintro r w9 ⟨v9, rfl, ho9, hg⟩
  have h4 := below_gr h3 h3.size ho8 h2.size hg
  refine hK.out _ _ h4 (fun _ => ?_)
  clear hK K hHeld hg ho8
  try simp only [List.getElem_toArray, List.getElem_cons_succ, List.getElem_cons_zero, Act.put, List.setIfInBounds_toArray, List.set_cons_zero, List.set_cons_succ]
  have hHeld := h4
  refine wpAnyH_take (i := 13) (v := ?_) rfl (by kernel_rfl) (by kernel_rfl) (by kernel_rfl) (fun _ _ _ h => h) (Or.inl ⟨by rfl, ?_⟩) hHeld ?_
  rotate_left
  · (intro wz hSw; (try dsimp only at hSw); (try simp only [List.getElem_toArray, List.getElem_cons_succ, List.getElem_cons_zero]); go_simp; try with_reducible rfl)
  try simp only [List.getElem_toArray, List.getElem_cons_succ, List.getElem_cons_zero, Act.put, List.setIfInBounds_toArray, List.set_cons_zero, List.set_cons_succ]
  refine wpAnyH_done (by kernel_rfl) ?_ _
  have HO9 : Hid (w9.ownsRow W.heap.size 5 1 v9 (encHd c).length (byt (encHd c))) := by
    have : X5 ++ encY c.yn c.yl c.ys c.ya ++ stampB c.sw c.st ++ encN c.w ++ encF c.yes = encHd c := by rw [← HX5.out]; simp [encHd]
    rw [this] at ho9; exact own_baseW ho9 (Nat.le_trans H5.out.size h2.size)
  have H9 := Lib.hid (H5.out.trans (h4.mono H5.out.size))
  clear ho9 h0 h1 h2 h3 h4 hz0 hz6 hz7 hz8 hl6 hHeld kA H5 HO5 HX5 hl5
  have kA := block_cells (below_block H9.out (block_lt HA.out) HA.out)
  have HN1 := Lib.hid (rn_any _ v9 (encHd c) (c.sp.length : Int) w9 HO9.out H9.out.size ⟨by omega, by omega⟩ (by have := HHD.out; omega))
  go_wp2_with fail
  refine HN1.out.mono ?_; rintro e w10 ⟨v10, rfl, ho10, hb10⟩
  obtain ⟨X1, hX1⟩ : ∃ X, encHd c ++ encN c.sp.length = X := ⟨_, rfl⟩
  rw [hX1] at ho10
  have HX1 := Lib.hid hX1
  have HL1' : Hid (((X1 ++ c.sp.flatMap encSp).length : Int) ≤ 140737488300000) := by show _ ≤ _; rw [← HX1.out]; exact HL1.out
  have HO : Hid (w10.ownsRow W.heap.size 5 1 v10 (X1 ++ (c.sp.take 0).flatMap encSp).length (byt (X1 ++ (c.sp.take 0).flatMap encSp)) ∧ Below W.heap.size W w10) := by show _ ∧ _; simp only [List.take_zero, List.flatMap_nil, List.append_nil]; exact ⟨own_baseW ho10 H9.out.size, H9.out.trans (hb10.mono H9.out.size)⟩
  clear ho10 hX1 hb10 kA HN1 HO9 H9 HL1
  go_wp2_with fail
  go_loopw [3, 4] (fun u i wr => ∃ k : Nat, k ≤ c.sp.length ∧ i = .int .i64 k ∧ Hid (wr.ownsRow W.heap.size 5 1 u (X1 ++ (c.sp.take k).flatMap encSp).length (byt (X1 ++ (c.sp.take k).flatMap encSp)) ∧ Below W.heap.size W wr)) (fun _ i _ => c.sp.length - (intOf i).toNat)
  case atStart => exact ⟨0, Nat.zero_le _, rfl, HO⟩
  case round =>
    clear HO
    obtain ⟨k, hk, rfl, HO⟩ := hrel
    obtain ⟨wk, rfl⟩ : ∃ wk : World, wk = wr := ⟨_, rfl⟩
    by_cases hlt : k < c.sp.length
    · have hd : decide ((k : Int) < (c.sp.length : Int)) = true := by simp; omega
      have kB := block_cells (below_block HO.out.2 (block_lt HA.out) HA.out)
      obtain ⟨g, o, hpe, hg, hc1, hc2⟩ := (HSP.out.keep (HB1.out.trans (HO.out.2.mono HB1.out.size)) (Nat.le_refl _)) k hlt
      obtain ⟨x, hx⟩ : ∃ x, c.sp[k] = x := ⟨_, rfl⟩
      rw [hx] at hc1 hc2
      subst hpe
      have HC := Lib.hid (And.intro hg (And.intro hc1 hc2))
      have hfl : (X1 ++ (c.sp.take k).flatMap encSp).length + (encSp x).length ≤ (X1 ++ c.sp.flatMap encSp).length := by
        rw [List.length_append, List.length_append]; have := flat_le (f := encSp) c.sp (k + 1); rw [flat_next hlt, hx, List.length_append] at this; omega
      have hes : (encSp x).length = (encT x.lo).length + (encT x.hi).length := by unfold encSp; rw [List.length_append]
      have et1 : (encT x.lo).length = (varN x.lo.size).length + x.lo.size := by unfold encT; rw [List.length_append, txW_len]
      have et2 : (encT x.hi).length = (varN x.hi.size).length + x.hi.size := by unfold encT; rw [List.length_append, txW_len]
      have hbb := HL1'.out
      have hb1 : ((X1 ++ (c.sp.take k).flatMap encSp).length : Int) + x.lo.size ≤ 140737488300000 := by omega
      have hb2 : ((X1 ++ (c.sp.take k).flatMap encSp ++ encT x.lo).length : Int) + x.hi.size ≤ 140737488300000 := by rw [List.length_append (bs := encT x.lo)]; omega
      have HFL := Lib.hid (And.intro hb1 hb2)
      have HNX : Hid (X1 ++ (c.sp.take k).flatMap encSp ++ encT x.lo ++ encT x.hi = X1 ++ (c.sp.take (k + 1)).flatMap encSp) := by show _ = _; rw [flat_next hlt, hx]; simp [encSp]
      clear hx hc1 hc2 hg hfl hes et1 et2 hbb hb1 hb2
      go_upto_region 7 with fail
      clear kB
      have hgt : (k : Int) < (c.sp.length : Int) := by omega
      have h0 : Below wk.heap.size wk wk.drew := (Below.refl _ _).drew
      have kA : ∀ w', Below wk.heap.size wk w' → ∀ j, w'.cell? ⟨A, j, none⟩ = #[.int .i64 c.k, .int .i64 c.e, .int .i64 c.n, .int .i64 c.h, .int .i64 c.yn, .int .i64 c.yl, .int .i64 c.ys, .int .i64 c.ya, .int .i64 c.sw, .int .i64 c.st, .int .i64 c.w, .bool c.yes, .slice (some ⟨g, o, none⟩) c.sp.length cs, .slice pw c.wr.length cw][j]? := fun w' h => block_cells (below_block (HO.out.2.trans (h.mono HO.out.2.size)) (block_lt HA.out) HA.out)
      have k1 : ∀ w', Below wk.heap.size wk w' → w'.cell? ⟨g, o + k * 2, none⟩ = some (.string x.lo) := fun w' h => (h.cell (p := ⟨g, o + k * 2, none⟩) HC.out.1).trans HC.out.2.1
      have k2 : ∀ w', Below wk.heap.size wk w' → w'.cell? ⟨g, o + k * 2 + 1, none⟩ = some (.string x.hi) := fun w' h => (h.cell (p := ⟨g, o + k * 2 + 1, none⟩) HC.out.1).trans HC.out.2.2
      have ho0 := own_less HO.out.1 h0
      have hz0 : W.heap.size ≤ wk.drew.heap.size := HO.out.2.size
      refine wp_region_noPanic ?_
      refine wp_region_held_drew (S := fun w' => Below wk.heap.size wk w') (by kernel_rfl) h0 (fun hHeld => ?_)
      refine wpAnyH_take (i := 0) (v := ?_) rfl (by kernel_rfl) (by kernel_rfl) (by kernel_rfl) (fun _ _ _ h => h) (Or.inl ⟨by rfl, ?_⟩) hHeld ?_
      rotate_left
      · (intro wz hSw; (try dsimp only at hSw); (try simp only [List.getElem_toArray, List.getElem_cons_zero]); go_simp; try with_reducible rfl)
      try simp only [List.getElem_toArray, List.getElem_cons_zero, Act.put, List.setIfInBounds_toArray, List.set_cons_zero, List.set_cons_succ]
      refine wpAnyH_take (i := 1) (v := ?_) rfl (by kernel_rfl) (by kernel_rfl) (by kernel_rfl) (fun _ _ _ h => h) (Or.inl ⟨by rfl, ?_⟩) hHeld ?_
      rotate_left
      · (intro wz hSw; (try dsimp only at hSw); (try simp only [List.getElem_toArray, List.getElem_cons_succ, List.getElem_cons_zero]); go_simp; try with_reducible rfl)
      try simp only [List.getElem_toArray, List.getElem_cons_succ, List.getElem_cons_zero, Act.put, List.setIfInBounds_toArray, List.set_cons_zero, List.set_cons_succ]
      refine wpAnyH_take (i := 2) (v := ?_) rfl (by kernel_rfl) (by kernel_rfl) (by kernel_rfl) (fun _ _ _ h => h) (Or.inl ⟨by rfl, ?_⟩) hHeld ?_
      rotate_left
      · (intro wz hSw; (try dsimp only at hSw); (try simp only [List.getElem_toArray, List.getElem_cons_succ, List.getElem_cons_zero]); go_simp; try with_reducible rfl)
      try simp only [List.getElem_toArray, List.getElem_cons_succ, List.getElem_cons_zero, Act.put, List.setIfInBounds_toArray, List.set_cons_zero, List.set_cons_succ]
      refine wpAnyH_take (i := 3) (v := ?_) rfl (by kernel_rfl) (by kernel_rfl) (by kernel_rfl) (fun _ _ _ h => h) (Or.inl ⟨by rfl, ?_⟩) hHeld ?_
      rotate_left
      · (intro wz hSw; (try dsimp only at hSw); (try simp only [List.getElem_toArray, List.getElem_cons_succ, List.getElem_cons_zero]); go_simp; try with_reducible rfl)
      try simp only [List.getElem_toArray, List.getElem_cons_succ, List.getElem_cons_zero, Act.put, List.setIfInBounds_toArray, List.set_cons_zero, List.set_cons_succ]
      refine wpAnyH_take (i := 4) (v := ?_) rfl (by kernel_rfl) (by kernel_rfl) (by kernel_rfl) (fun _ _ _ h => h) (Or.inl ⟨by rfl, ?_⟩) hHeld ?_
      rotate_left
      · (intro wz hSw; (try dsimp only at hSw); (try simp only [List.getElem_toArray, List.getElem_cons_succ, List.getElem_cons_zero]); go_simp; try with_reducible rfl)
      try simp only [List.getElem_toArray, List.getElem_cons_succ, List.getElem_cons_zero, Act.put, List.setIfInBounds_toArray, List.set_cons_zero, List.set_cons_succ]
      refine wpAnyH_take (i := 5) (v := ?_) rfl (by kernel_rfl) (by kernel_rfl) (by kernel_rfl) (fun _ _ _ h => h) (Or.inl ⟨by rfl, ?_⟩) hHeld ?_
      rotate_left
      · (intro wz hSw; (try dsimp only at hSw); (try simp only [List.getElem_toArray, List.getElem_cons_succ, List.getElem_cons_zero]); go_simp; try with_reducible rfl)
      try simp only [List.getElem_toArray, List.getElem_cons_succ, List.getElem_cons_zero, Act.put, List.setIfInBounds_toArray, List.set_cons_zero, List.set_cons_succ]
      refine wpAnyH_take (i := 6) (v := ?_) rfl (by kernel_rfl) (by kernel_rfl) (by kernel_rfl) (fun _ _ _ h => h) (Or.inl ⟨by rfl, ?_⟩) hHeld ?_
      rotate_left
      · (intro wz hSw; (try dsimp only at hSw); (try simp only [List.getElem_toArray, List.getElem_cons_succ, List.getElem_cons_zero]); go_simp; try with_reducible rfl)
      try simp only [List.getElem_toArray, List.getElem_cons_succ, List.getElem_cons_zero, Act.put, List.setIfInBounds_toArray, List.set_cons_zero, List.set_cons_succ]
      refine wpAnyH_take (i := 8) (v := ?_) rfl (by kernel_rfl) (by kernel_rfl) (by kernel_rfl) (fun _ _ _ h => h) (Or.inl ⟨by rfl, ?_⟩) hHeld ?_
      rotate_left
      · (intro wz hSw; (try dsimp only at hSw); (try simp only [List.getElem_toArray, List.getElem_cons_succ, List.getElem_cons_zero]); go_simp; try with_reducible rfl)
      try simp only [List.getElem_toArray, List.getElem_cons_succ, List.getElem_cons_zero, Act.put, List.setIfInBounds_toArray, List.set_cons_zero, List.set_cons_succ]
      refine wpAnyH_take (i := 9) (v := ?_) rfl (by kernel_rfl) (by kernel_rfl) (by kernel_rfl) (fun _ _ _ h => h) (Or.inl ⟨by rfl, ?_⟩) hHeld ?_
      rotate_left
      · (intro wz hSw; (try dsimp only at hSw); (try simp only [List.getElem_toArray, List.getElem_cons_succ, List.getElem_cons_zero]); go_simp; try with_reducible rfl)
      try simp only [List.getElem_toArray, List.getElem_cons_succ, List.getElem_cons_zero, Act.put, List.setIfInBounds_toArray, List.set_cons_zero, List.set_cons_succ]
      refine wpAnyH_take (i := 10) (v := ?_) rfl (by kernel_rfl) (by kernel_rfl) (by kernel_rfl) (fun _ _ _ h => h) (Or.inl ⟨by rfl, ?_⟩) hHeld ?_
      rotate_left
      · (intro wz hSw; (try dsimp only at hSw); (try simp only [List.getElem_toArray, List.getElem_cons_succ, List.getElem_cons_zero]); go_simp; try with_reducible rfl)
      try simp only [List.getElem_toArray, List.getElem_cons_succ, List.getElem_cons_zero, Act.put, List.setIfInBounds_toArray, List.set_cons_zero, List.set_cons_succ]
      refine wpAnyH_take (i := 11) (v := ?_) rfl (by kernel_rfl) (by kernel_rfl) (by kernel_rfl) (fun _ _ _ h => h) (Or.inl ⟨by rfl, ?_⟩) hHeld ?_
      rotate_left
      · (intro wz hSw; (try dsimp only at hSw); (try simp only [List.getElem_toArray, List.getElem_cons_succ, List.getElem_cons_zero]); go_simp; try with_reducible rfl)
      try simp only [List.getElem_toArray, List.getElem_cons_succ, List.getElem_cons_zero, Act.put, List.setIfInBounds_toArray, List.set_cons_zero, List.set_cons_succ]
      refine wpAnyH_take (i := 12) (v := ?_) rfl (by kernel_rfl) (by kernel_rfl) (by kernel_rfl) (fun _ _ _ h => h) (Or.inl ⟨by rfl, ?_⟩) hHeld ?_
      rotate_left
      · (intro wz hSw; (try dsimp only at hSw); (try simp only [List.getElem_toArray, List.getElem_cons_succ, List.getElem_cons_zero]); go_simp; try with_reducible rfl)
      try simp only [List.getElem_toArray, List.getElem_cons_succ, List.getElem_cons_zero, Act.put, List.setIfInBounds_toArray, List.set_cons_zero, List.set_cons_succ]
      refine wpAnyH_take (i := 13) (v := ?_) rfl (by kernel_rfl) (by kernel_rfl) (by kernel_rfl) (fun _ _ _ h => h) (Or.inl ⟨by rfl, ?_⟩) hHeld ?_
      rotate_left
      · (intro wz hSw; (try dsimp only at hSw); (try simp only [List.getElem_toArray, List.getElem_cons_succ, List.getElem_cons_zero]); go_simp; try with_reducible rfl)
      try simp only [List.getElem_toArray, List.getElem_cons_succ, List.getElem_cons_zero, Act.put, List.setIfInBounds_toArray, List.set_cons_zero, List.set_cons_succ]
      refine wpAnyH_ready (rs := [7]) (by kernel_rfl) (by simp) ?_; refine AllReadyH.cons rfl (fun K hK => ?_) AllReadyH.nil; (try simp only [List.getElem_toArray, List.getElem_cons_succ, List.getElem_cons_zero]); go_simp
      refine (rt_any _ _ _ x.lo _ ho0 hz0 (by have := HFL.out.1; omega)).mono ?_; rintro r w2 ⟨v2, rfl, ho2, hb⟩
      have h1 := h0.trans (hb.mono h0.size)
      have hz2 := hb.size
      refine hK.out _ _ h1 (fun _ => ?_)
      clear hK K hHeld hb ho0
      try simp only [List.getElem_toArray, List.getElem_cons_succ, List.getElem_cons_zero, Act.put, List.setIfInBounds_toArray, List.set_cons_zero, List.set_cons_succ]
      have hHeld := h1
      refine wpAnyH_ready (rs := [14]) (by kernel_rfl) (by simp) ?_; refine AllReadyH.cons rfl (fun K hK => ?_) AllReadyH.nil; (try simp only [List.getElem_toArray, List.getElem_cons_succ, List.getElem_cons_zero]); go_simp
      refine (rt_any _ v2 _ x.hi _ ho2 hz2 (by have := HFL.out.2; omega)).mono ?_; rintro r w3 ⟨v3, rfl, ho3, hb⟩
      have h2 := h1.trans (hb.mono h1.size)
      refine hK.out _ _ h2 (fun _ => ?_)
      clear hK K hHeld hb ho2
      try simp only [List.getElem_toArray, List.getElem_cons_succ, List.getElem_cons_zero, Act.put, List.setIfInBounds_toArray, List.set_cons_zero, List.set_cons_succ]
      have hHeld := h2
      refine wpAnyH_take (i := 15) (v := ?_) rfl (by kernel_rfl) (by kernel_rfl) (by kernel_rfl) (fun _ _ _ h => h) (Or.inl ⟨by rfl, ?_⟩) hHeld ?_
      rotate_left
      · (intro wz hSw; (try dsimp only at hSw); (try simp only [List.getElem_toArray, List.getElem_cons_succ, List.getElem_cons_zero]); go_simp; try with_reducible rfl)
      try simp only [List.getElem_toArray, List.getElem_cons_succ, List.getElem_cons_zero, Act.put, List.setIfInBounds_toArray, List.set_cons_zero, List.set_cons_succ]
      refine wpAnyH_done (by kernel_rfl) ?_ _
      refine NoPanic.normal ?_
      rw [HNX.out] at ho3
      have HO3 : Hid (w3.ownsRow W.heap.size 5 1 v3 (X1 ++ (c.sp.take (k + 1)).flatMap encSp).length (byt (X1 ++ (c.sp.take (k + 1)).flatMap encSp)) ∧ Below W.heap.size W w3) := ⟨own_baseW ho3 (Nat.le_trans HO.out.2.size h1.size), HO.out.2.trans (h2.mono HO.out.2.size)⟩
      clear ho3 h0 h1 h2 hz0 hz2 hHeld kA k1 k2 HO HNX HFL HC
      go_wp2_with fail
      go_roundw
      case rel => exact ⟨k + 1, by omega, by go_num, HO3⟩
      case measure => simp [intOf]; omega
    · obtain rfl : k = c.sp.length := by omega
      have hd : decide ((c.sp.length : Int) < (c.sp.length : Int)) = false := by simp
      have hh := HO.out
      rw [flat_all] at hh
      obtain ⟨X2, hX2⟩ : ∃ X, X1 ++ c.sp.flatMap encSp = X := ⟨_, rfl⟩
      rw [hX2] at hh
      have HX2 := Lib.hid hX2
      have hl2 := HL1'.out
      rw [hX2] at hl2
      have HH := Lib.hid hh
      have kA := block_cells (below_block hh.2 (block_lt HA.out) HA.out)
      have HN2 := Lib.hid (rn_any _ _ X2 (c.wr.length : Int) wk hh.1 hh.2.size ⟨by omega, by omega⟩ (by omega))
      clear hh hX2 hl2 HO
      go_wp2_with fail
      refine HN2.out.mono ?_; rintro e w20 ⟨v20, rfl, ho20, hb20⟩
      obtain ⟨X3, hX3⟩ : ∃ X, X2 ++ encN c.wr.length = X := ⟨_, rfl⟩
      rw [hX3] at ho20
      have HX3 : Hid (encHd c ++ encN c.sp.length ++ c.sp.flatMap encSp ++ encN c.wr.length = X3) := by show _ = _; rw [HX1.out, HX2.out, hX3]
      have HL3 : Hid (((X3 ++ c.wr.flatMap encWr).length : Int) ≤ 140737488300000) := by show _ ≤ _; rw [← HX3.out]; exact HL2.out
      have HO : Hid (w20.ownsRow W.heap.size 5 1 v20 (X3 ++ (c.wr.take 0).flatMap encWr).length (byt (X3 ++ (c.wr.take 0).flatMap encWr)) ∧ Below W.heap.size W w20) := by show _ ∧ _; simp only [List.take_zero, List.flatMap_nil, List.append_nil]; exact ⟨own_baseW ho20 HH.out.2.size, HH.out.2.trans (hb20.mono HH.out.2.size)⟩
      clear ho20 hX3 hb20 kA HN2 HH HL1' HX2 HX1 HL2
      go_wp2_with fail
      clear_value *
      go_loopw [3, 5] (fun u i wr => ∃ k : Nat, k ≤ c.wr.length ∧ i = .int .i64 k ∧ Hid (wr.ownsRow W.heap.size 5 1 u (X3 ++ (c.wr.take k).flatMap encWr).length (byt (X3 ++ (c.wr.take k).flatMap encWr)) ∧ Below W.heap.size W wr)) (fun _ i _ => c.wr.length - (intOf i).toNat)
      case atStart => exact ⟨0, Nat.zero_le _, rfl, HO⟩
      case round =>
        clear HO
        obtain ⟨k, hk, rfl, HO⟩ := hrel
        obtain ⟨wk, rfl⟩ : ∃ wk : World, wk = wr := ⟨_, rfl⟩
        by_cases hlt : k < c.wr.length
        · have hd : decide ((k : Int) < (c.wr.length : Int)) = true := by simp; omega
          have kB := block_cells (below_block HO.out.2 (block_lt HA.out) HA.out)
          obtain ⟨g, o, hpe, hg, hc1, hc2, hc3⟩ := (HWR.out.keep (HB1.out.trans (HO.out.2.mono HB1.out.size)) (Nat.le_refl _)) k hlt
          obtain ⟨x, hx⟩ : ∃ x, c.wr[k] = x := ⟨_, rfl⟩
          rw [hx] at hc1 hc2 hc3
          subst hpe
          have HC := Lib.hid (And.intro hg (And.intro hc1 (And.intro hc2 hc3)))
          have hfl : (X3 ++ (c.wr.take k).flatMap encWr).length + (encWr x).length ≤ (X3 ++ c.wr.flatMap encWr).length := by
            rw [List.length_append, List.length_append]; have := flat_le (f := encWr) c.wr (k + 1); rw [flat_next hlt, hx, List.length_append] at this; omega
          have hes : (encWr x).length = (encT x.k).length + 1 + (encT x.d).length := by unfold encWr encF; simp only [List.length_append, List.length_cons, List.length_nil]
          have et1 : (encT x.k).length = (varN x.k.size).length + x.k.size := by unfold encT; rw [List.length_append, txW_len]
          have et2 : (encT x.d).length = (varN x.d.size).length + x.d.size := by unfold encT; rw [List.length_append, txW_len]
          have hbb := HL3.out
          have hb1 : ((X3 ++ (c.wr.take k).flatMap encWr).length : Int) + x.k.size ≤ 140737488300000 := by omega
          have hb2 : ((X3 ++ (c.wr.take k).flatMap encWr ++ encT x.k).length : Int) ≤ 140737488300000 := by rw [List.length_append (bs := encT x.k)]; omega
          have hb3 : ((X3 ++ (c.wr.take k).flatMap encWr ++ encT x.k ++ encF x.r).length : Int) + x.d.size ≤ 140737488300000 := by
            have : (encF x.r).length = 1 := rfl
            rw [List.length_append (bs := encF x.r), List.length_append (bs := encT x.k)]; omega
          have HFL := Lib.hid (And.intro hb1 (And.intro hb2 hb3))
          have HNX : Hid (X3 ++ (c.wr.take k).flatMap encWr ++ encT x.k ++ encF x.r ++ encT x.d = X3 ++ (c.wr.take (k + 1)).flatMap encWr) := by show _ = _; rw [flat_next hlt, hx]; simp [encWr]
          clear hx hc1 hc2 hc3 hg hfl hes et1 et2 hbb hb1 hb2 hb3
          go_upto_region 12 with fail
          clear kB
          have hgt : (k : Int) < (c.wr.length : Int) := by omega
          have h0 : Below wk.heap.size wk wk.drew := (Below.refl _ _).drew
          have kA : ∀ w', Below wk.heap.size wk w' → ∀ j, w'.cell? ⟨A, j, none⟩ = #[.int .i64 c.k, .int .i64 c.e, .int .i64 c.n, .int .i64 c.h, .int .i64 c.yn, .int .i64 c.yl, .int .i64 c.ys, .int .i64 c.ya, .int .i64 c.sw, .int .i64 c.st, .int .i64 c.w, .bool c.yes, .slice ps c.sp.length cs, .slice (some ⟨g, o, none⟩) c.wr.length cw][j]? := fun w' h => block_cells (below_block (HO.out.2.trans (h.mono HO.out.2.size)) (block_lt HA.out) HA.out)
          have k1 : ∀ w', Below wk.heap.size wk w' → w'.cell? ⟨g, o + k * 3, none⟩ = some (.string x.k) := fun w' h => (h.cell (p := ⟨g, o + k * 3, none⟩) HC.out.1).trans HC.out.2.1
          have k2 : ∀ w', Below wk.heap.size wk w' → w'.cell? ⟨g, o + k * 3 + 1, none⟩ = some (.bool x.r) := fun w' h => (h.cell (p := ⟨g, o + k * 3 + 1, none⟩) HC.out.1).trans HC.out.2.2.1
          have k3 : ∀ w', Below wk.heap.size wk w' → w'.cell? ⟨g, o + k * 3 + 2, none⟩ = some (.string x.d) := fun w' h => (h.cell (p := ⟨g, o + k * 3 + 2, none⟩) HC.out.1).trans HC.out.2.2.2
          have ho0 := own_less HO.out.1 h0
          have hz0 : W.heap.size ≤ wk.drew.heap.size := HO.out.2.size
          refine wp_region_noPanic ?_
          refine wp_region_held_drew (S := fun w' => Below wk.heap.size wk w') (by kernel_rfl) h0 (fun hHeld => ?_)
          refine wpAnyH_take (i := 0) (v := ?_) rfl (by kernel_rfl) (by kernel_rfl) (by kernel_rfl) (fun _ _ _ h => h) (Or.inl ⟨by rfl, ?_⟩) hHeld ?_
          rotate_left
          · (intro wz hSw; (try dsimp only at hSw); (try simp only [List.getElem_toArray, List.getElem_cons_zero]); go_simp; try with_reducible rfl)
          try simp only [List.getElem_toArray, List.getElem_cons_zero, Act.put, List.setIfInBounds_toArray, List.set_cons_zero, List.set_cons_succ]
          refine wpAnyH_take (i := 1) (v := ?_) rfl (by kernel_rfl) (by kernel_rfl) (by kernel_rfl) (fun _ _ _ h => h) (Or.inl ⟨by rfl, ?_⟩) hHeld ?_
          rotate_left
          · (intro wz hSw; (try dsimp only at hSw); (try simp only [List.getElem_toArray, List.getElem_cons_succ, List.getElem_cons_zero]); go_simp; try with_reducible rfl)
          try simp only [List.getElem_toArray, List.getElem_cons_succ, List.getElem_cons_zero, Act.put, List.setIfInBounds_toArray, List.set_cons_zero, List.set_cons_succ]
          refine wpAnyH_take (i := 2) (v := ?_) rfl (by kernel_rfl) (by kernel_rfl) (by kernel_rfl) (fun _ _ _ h => h) (Or.inl ⟨by rfl, ?_⟩) hHeld ?_
          rotate_left
          · (intro wz hSw; (try dsimp only at hSw); (try simp only [List.getElem_toArray, List.getElem_cons_succ, List.getElem_cons_zero]); go_simp; try with_reducible rfl)
          try simp only [List.getElem_toArray, List.getElem_cons_succ, List.getElem_cons_zero, Act.put, List.setIfInBounds_toArray, List.set_cons_zero, List.set_cons_succ]
          refine wpAnyH_take (i := 3) (v := ?_) rfl (by kernel_rfl) (by kernel_rfl) (by kernel_rfl) (fun _ _ _ h => h) (Or.inl ⟨by rfl, ?_⟩) hHeld ?_
          rotate_left
          · (intro wz hSw; (try dsimp only at hSw); (try simp only [List.getElem_toArray, List.getElem_cons_succ, List.getElem_cons_zero]); go_simp; try with_reducible rfl)
          try simp only [List.getElem_toArray, List.getElem_cons_succ, List.getElem_cons_zero, Act.put, List.setIfInBounds_toArray, List.set_cons_zero, List.set_cons_succ]
          refine wpAnyH_take (i := 4) (v := ?_) rfl (by kernel_rfl) (by kernel_rfl) (by kernel_rfl) (fun _ _ _ h => h) (Or.inl ⟨by rfl, ?_⟩) hHeld ?_
          rotate_left
          · (intro wz hSw; (try dsimp only at hSw); (try simp only [List.getElem_toArray, List.getElem_cons_succ, List.getElem_cons_zero]); go_simp; try with_reducible rfl)
          try simp only [List.getElem_toArray, List.getElem_cons_succ, List.getElem_cons_zero, Act.put, List.setIfInBounds_toArray, List.set_cons_zero, List.set_cons_succ]
          refine wpAnyH_take (i := 5) (v := ?_) rfl (by kernel_rfl) (by kernel_rfl) (by kernel_rfl) (fun _ _ _ h => h) (Or.inl ⟨by rfl, ?_⟩) hHeld ?_
          rotate_left
          · (intro wz hSw; (try dsimp only at hSw); (try simp only [List.getElem_toArray, List.getElem_cons_succ, List.getElem_cons_zero]); go_simp; try with_reducible rfl)
          try simp only [List.getElem_toArray, List.getElem_cons_succ, List.getElem_cons_zero, Act.put, List.setIfInBounds_toArray, List.set_cons_zero, List.set_cons_succ]
          refine wpAnyH_take (i := 6) (v := ?_) rfl (by kernel_rfl) (by kernel_rfl) (by kernel_rfl) (fun _ _ _ h => h) (Or.inl ⟨by rfl, ?_⟩) hHeld ?_
          rotate_left
          · (intro wz hSw; (try dsimp only at hSw); (try simp only [List.getElem_toArray, List.getElem_cons_succ, List.getElem_cons_zero]); go_simp; try with_reducible rfl)
          try simp only [List.getElem_toArray, List.getElem_cons_succ, List.getElem_cons_zero, Act.put, List.setIfInBounds_toArray, List.set_cons_zero, List.set_cons_succ]
          refine wpAnyH_take (i := 8) (v := ?_) rfl (by kernel_rfl) (by kernel_rfl) (by kernel_rfl) (fun _ _ _ h => h) (Or.inl ⟨by rfl, ?_⟩) hHeld ?_
          rotate_left
          · (intro wz hSw; (try dsimp only at hSw); (try simp only [List.getElem_toArray, List.getElem_cons_succ, List.getElem_cons_zero]); go_simp; try with_reducible rfl)
          try simp only [List.getElem_toArray, List.getElem_cons_succ, List.getElem_cons_zero, Act.put, List.setIfInBounds_toArray, List.set_cons_zero, List.set_cons_succ]
          refine wpAnyH_take (i := 9) (v := ?_) rfl (by kernel_rfl) (by kernel_rfl) (by kernel_rfl) (fun _ _ _ h => h) (Or.inl ⟨by rfl, ?_⟩) hHeld ?_
          rotate_left
          · (intro wz hSw; (try dsimp only at hSw); (try simp only [List.getElem_toArray, List.getElem_cons_succ, List.getElem_cons_zero]); go_simp; try with_reducible rfl)
          try simp only [List.getElem_toArray, List.getElem_cons_succ, List.getElem_cons_zero, Act.put, List.setIfInBounds_toArray, List.set_cons_zero, List.set_cons_succ]
          refine wpAnyH_take (i := 10) (v := ?_) rfl (by kernel_rfl) (by kernel_rfl) (by kernel_rfl) (fun _ _ _ h => h) (Or.inl ⟨by rfl, ?_⟩) hHeld ?_
          rotate_left
          · (intro wz hSw; (try dsimp only at hSw); (try simp only [List.getElem_toArray, List.getElem_cons_succ, List.getElem_cons_zero]); go_simp; try with_reducible rfl)
          try simp only [List.getElem_toArray, List.getElem_cons_succ, List.getElem_cons_zero, Act.put, List.setIfInBounds_toArray, List.set_cons_zero, List.set_cons_succ]
          refine wpAnyH_take (i := 11) (v := ?_) rfl (by kernel_rfl) (by kernel_rfl) (by kernel_rfl) (fun _ _ _ h => h) (Or.inl ⟨by rfl, ?_⟩) hHeld ?_
          rotate_left
          · (intro wz hSw; (try dsimp only at hSw); (try simp only [List.getElem_toArray, List.getElem_cons_succ, List.getElem_cons_zero]); go_simp; try with_reducible rfl)
          try simp only [List.getElem_toArray, List.getElem_cons_succ, List.getElem_cons_zero, Act.put, List.setIfInBounds_toArray, List.set_cons_zero, List.set_cons_succ]
          refine wpAnyH_take (i := 12) (v := ?_) rfl (by kernel_rfl) (by kernel_rfl) (by kernel_rfl) (fun _ _ _ h => h) (Or.inl ⟨by rfl, ?_⟩) hHeld ?_
          rotate_left
          · (intro wz hSw; (try dsimp only at hSw); (try simp only [List.getElem_toArray, List.getElem_cons_succ, List.getElem_cons_zero]); go_simp; try with_reducible rfl)
          try simp only [List.getElem_toArray, List.getElem_cons_succ, List.getElem_cons_zero, Act.put, List.setIfInBounds_toArray, List.set_cons_zero, List.set_cons_succ]
          refine wpAnyH_take (i := 13) (v := ?_) rfl (by kernel_rfl) (by kernel_rfl) (by kernel_rfl) (fun _ _ _ h => h) (Or.inl ⟨by rfl, ?_⟩) hHeld ?_
          rotate_left
          · (intro wz hSw; (try dsimp only at hSw); (try simp only [List.getElem_toArray, List.getElem_cons_succ, List.getElem_cons_zero]); go_simp; try with_reducible rfl)
          try simp only [List.getElem_toArray, List.getElem_cons_succ, List.getElem_cons_zero, Act.put, List.setIfInBounds_toArray, List.set_cons_zero, List.set_cons_succ]
          refine wpAnyH_take (i := 15) (v := ?_) rfl (by kernel_rfl) (by kernel_rfl) (by kernel_rfl) (fun _ _ _ h => h) (Or.inl ⟨by rfl, ?_⟩) hHeld ?_
          rotate_left
          · (intro wz hSw; (try dsimp only at hSw); (try simp only [List.getElem_toArray, List.getElem_cons_succ, List.getElem_cons_zero]); go_simp; try with_reducible rfl)
          try simp only [List.getElem_toArray, List.getElem_cons_succ, List.getElem_cons_zero, Act.put, List.setIfInBounds_toArray, List.set_cons_zero, List.set_cons_succ]
          refine wpAnyH_take (i := 16) (v := ?_) rfl (by kernel_rfl) (by kernel_rfl) (by kernel_rfl) (fun _ _ _ h => h) (Or.inl ⟨by rfl, ?_⟩) hHeld ?_
          rotate_left
          · (intro wz hSw; (try dsimp only at hSw); (try simp only [List.getElem_toArray, List.getElem_cons_succ, List.getElem_cons_zero]); go_simp; try with_reducible rfl)
          try simp only [List.getElem_toArray, List.getElem_cons_succ, List.getElem_cons_zero, Act.put, List.setIfInBounds_toArray, List.set_cons_zero, List.set_cons_succ]
          refine wpAnyH_take (i := 17) (v := ?_) rfl (by kernel_rfl) (by kernel_rfl) (by kernel_rfl) (fun _ _ _ h => h) (Or.inl ⟨by rfl, ?_⟩) hHeld ?_
          rotate_left
          · (intro wz hSw; (try dsimp only at hSw); (try simp only [List.getElem_toArray, List.getElem_cons_succ, List.getElem_cons_zero]); go_simp; try with_reducible rfl)
          try simp only [List.getElem_toArray, List.getElem_cons_succ, List.getElem_cons_zero, Act.put, List.setIfInBounds_toArray, List.set_cons_zero, List.set_cons_succ]
          refine wpAnyH_take (i := 18) (v := ?_) rfl (by kernel_rfl) (by kernel_rfl) (by kernel_rfl) (fun _ _ _ h => h) (Or.inl ⟨by rfl, ?_⟩) hHeld ?_
          rotate_left
          · (intro wz hSw; (try dsimp only at hSw); (try simp only [List.getElem_toArray, List.getElem_cons_succ, List.getElem_cons_zero]); go_simp; try with_reducible rfl)
          try simp only [List.getElem_toArray, List.getElem_cons_succ, List.getElem_cons_zero, Act.put, List.setIfInBounds_toArray, List.set_cons_zero, List.set_cons_succ]
          refine wpAnyH_take (i := 19) (v := ?_) rfl (by kernel_rfl) (by kernel_rfl) (by kernel_rfl) (fun _ _ _ h => h) (Or.inl ⟨by rfl, ?_⟩) hHeld ?_
          rotate_left
          · (intro wz hSw; (try dsimp only at hSw); (try simp only [List.getElem_toArray, List.getElem_cons_succ, List.getElem_cons_zero]); go_simp; try with_reducible rfl)
          try simp only [List.getElem_toArray, List.getElem_cons_succ, List.getElem_cons_zero, Act.put, List.setIfInBounds_toArray, List.set_cons_zero, List.set_cons_succ]
          refine wpAnyH_take (i := 20) (v := ?_) rfl (by kernel_rfl) (by kernel_rfl) (by kernel_rfl) (fun _ _ _ h => h) (Or.inl ⟨by rfl, ?_⟩) hHeld ?_
          rotate_left
          · (intro wz hSw; (try dsimp only at hSw); (try simp only [List.getElem_toArray, List.getElem_cons_succ, List.getElem_cons_zero]); go_simp; try with_reducible rfl)
          try simp only [List.getElem_toArray, List.getElem_cons_succ, List.getElem_cons_zero, Act.put, List.setIfInBounds_toArray, List.set_cons_zero, List.set_cons_succ]
          refine wpAnyH_ready (rs := [7]) (by kernel_rfl) (by simp) ?_; refine AllReadyH.cons rfl (fun K hK => ?_) AllReadyH.nil; (try simp only [List.getElem_toArray, List.getElem_cons_succ, List.getElem_cons_zero]); go_simp
          refine (rt_any _ _ _ x.k _ ho0 hz0 (by have := HFL.out.1; omega)).mono ?_; rintro r w2 ⟨v2, rfl, ho2, hb⟩
          have h1 := h0.trans (hb.mono h0.size)
          have hz2 := hb.size
          refine hK.out _ _ h1 (fun _ => ?_)
          clear hK K hHeld hb ho0
          try simp only [List.getElem_toArray, List.getElem_cons_succ, List.getElem_cons_zero, Act.put, List.setIfInBounds_toArray, List.set_cons_zero, List.set_cons_succ]
          have hHeld := h1
          refine wpAnyH_ready (rs := [14]) (by kernel_rfl) (by simp) ?_; refine AllReadyH.cons rfl (fun K hK => ?_) AllReadyH.nil; (try simp only [List.getElem_toArray, List.getElem_cons_succ, List.getElem_cons_zero]); go_simp
          refine (rf_any _ v2 _ x.r _ ho2 hz2 (by have := HFL.out.2.1; omega)).mono ?_; rintro r w3 ⟨v3, rfl, ho3, hg⟩
          have h2 := below_gr h1 h1.size ho2 (Nat.le_refl _) hg
          have hz3 := Nat.le_trans hz2 hg.size
          refine hK.out _ _ h2 (fun _ => ?_)
          clear hK K hHeld hg ho2
          try simp only [List.getElem_toArray, List.getElem_cons_succ, List.getElem_cons_zero, Act.put, List.setIfInBounds_toArray, List.set_cons_zero, List.set_cons_succ]
          have hHeld := h2
          refine wpAnyH_ready (rs := [21]) (by kernel_rfl) (by simp) ?_; refine AllReadyH.cons rfl (fun K hK => ?_) AllReadyH.nil; (try simp only [List.getElem_toArray, List.getElem_cons_succ, List.getElem_cons_zero]); go_simp
          refine (rt_any _ v3 _ x.d _ ho3 hz3 (by have := HFL.out.2.2; omega)).mono ?_; rintro r w4 ⟨v4, rfl, ho4, hb⟩
          have h3 := h2.trans (hb.mono h2.size)
          refine hK.out _ _ h3 (fun _ => ?_)
          clear hK K hHeld hb ho3
          try simp only [List.getElem_toArray, List.getElem_cons_succ, List.getElem_cons_zero, Act.put, List.setIfInBounds_toArray, List.set_cons_zero, List.set_cons_succ]
          have hHeld := h3
          refine wpAnyH_take (i := 22) (v := ?_) rfl (by kernel_rfl) (by kernel_rfl) (by kernel_rfl) (fun _ _ _ h => h) (Or.inl ⟨by rfl, ?_⟩) hHeld ?_
          rotate_left
          · (intro wz hSw; (try dsimp only at hSw); (try simp only [List.getElem_toArray, List.getElem_cons_succ, List.getElem_cons_zero]); go_simp; try with_reducible rfl)
          try simp only [List.getElem_toArray, List.getElem_cons_succ, List.getElem_cons_zero, Act.put, List.setIfInBounds_toArray, List.set_cons_zero, List.set_cons_succ]
          refine wpAnyH_done (by kernel_rfl) ?_ _
          refine NoPanic.normal ?_
          rw [HNX.out] at ho4
          have HO4 : Hid (w4.ownsRow W.heap.size 5 1 v4 (X3 ++ (c.wr.take (k + 1)).flatMap encWr).length (byt (X3 ++ (c.wr.take (k + 1)).flatMap encWr)) ∧ Below W.heap.size W w4) := ⟨own_baseW ho4 (Nat.le_trans HO.out.2.size h2.size), HO.out.2.trans (h3.mono HO.out.2.size)⟩
          clear ho4 h0 h1 h2 h3 hz0 hz2 hz3 hHeld kA k1 k2 k3 HO HNX HFL HC
          go_wp2_with fail
          go_roundw
          case rel => exact ⟨k + 1, by omega, by go_num, HO4⟩
          case measure => simp [intOf]; omega
        · obtain rfl : k = c.wr.length := by omega
          have hd : decide ((c.wr.length : Int) < (c.wr.length : Int)) = false := by simp
          have hh := HO.out
          rw [flat_all] at hh
          have HE : Hid (X3 ++ c.wr.flatMap encWr = encCm c) := by show _ = _; rw [← HX3.out]; simp [encCm, encSps, encWrs]
          rw [HE.out] at hh
          have HH := Lib.hid hh
          have kA := block_cells (below_block hh.2 (block_lt HA.out) HA.out)
          clear hh HO
          go_wp2_with fail
          go_ret
          exact ⟨_, rfl, own_baseW HH.out.1 HB1.out.size, HB1.out.trans (HH.out.2.mono HB1.out.size)⟩
end Go.Proofs.Ytmhmlpfkdpjlaaa
