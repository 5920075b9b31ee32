/- Wire: package wire's bytes of a command. -/
import Derived.Test.YtmhmlpfkdpjlaaaWireC
namespace Go.Proofs.Ytmhmlpfkdpjlaaa
open Go.ChangeShapes Go.WideShapes Go.ChangeAt Go.RowKit

theorem cutT3 {R : Value → World → Prop} {P : Value → Nat → Value → World → Prop} {Q : Prop} (h : (∀ a g v w, R v w → P a g v w) → Q) (p : ∀ a g v w, R v w → P a g v w) : Q := h p
theorem cutT4 {R : Value → World → Prop} {P : Value → Value → Nat → Value → World → Prop} {Q : Prop} (h : (∀ a b g v w, R v w → P a b g v w) → Q) (p : ∀ a b g v w, R v w → P a b g v w) : Q := h p
theorem cutT5 {R : Value → World → Prop} {P : Value → Value → Nat → Nat → Value → World → Prop} {Q : Prop} (h : (∀ a b g e v w, R v w → P a b g e v w) → Q) (p : ∀ a b g e v w, R v w → P a b g e v w) : Q := h p
theorem text_one (base : Nat) (v : Value) (xs : List Int) (s : ByteArray) (c : Nat) (g o : Nat) (w : World) (ho : w.ownsRow base 5 1 v xs.length (byt xs)) (hB : base ≤ w.heap.size) (hg : g < w.heap.size) (hc : w.cell? ⟨g, o, none⟩ = some (.string s)) (hb : ((xs ++ encT s).length : Int) ≤ 140737488350000) (hs : (s.size : Int) ≤ 140737488300000) :
    Calls Try.prog 45 #[v, .slice (some ⟨g, o, none⟩) 1 c] w (WEnd w.heap.size w.heap.size w (xs ++ encT s)) := by
  have := text_anyW base v xs (some ⟨g, o, none⟩) c [s] w ho hB (fun j hj => by
    have : j = 0 := by simp at hj; omega
    subst this
    exact ⟨g, o, rfl, hg, by simpa using hc⟩) (fun y hy => by simp at hy; rw [hy]; exact hs) (by simp) (by simpa using hb)
  simpa [bsW] using this
theorem TxtsAt.two {w : World} {g : Nat} {a b : ByteArray} {t : TypeId} (h : w.heap[g]? = some (.cells #[.string a, .string b] t (0, 0))) : TxtsAt w (some ⟨g, 0, none⟩) [a, b] := fun j hj => by
  refine ⟨g, 0, rfl, block_lt h, ?_⟩
  rw [Nat.zero_add, block_cells h]
  have : j = 0 ∨ j = 1 := by simp at hj; omega
  rcases this with rfl | rfl <;> rfl
set_option maxRecDepth 100000 in
set_option maxHeartbeats 16000000 in
theorem wcmd_any (c : CmX) (ps pw : Option Addr) (cs cw : Nat) (w : World) (F : CmF c) (hsp : SpsAt w ps c.sp) (hwr : WrsAt w pw c.wr) (hl : ((encCm c).length : Int) ≤ 140737488300000) (hn1 : c.sp.length ≤ 1000000) (hn2 : c.wr.length ≤ 1000000) :
    Calls Try.prog 14 #[.agg #[.int .i64 c.k, .int .i64 c.e, .int .i64 c.n, .int .i64 c.h, .int .i64 c.yn, .int .i64 c.yl, .int .i64 c.ys, .int .i64 c.ya, .int .i64 c.sw, .int .i64 c.st, .int .i64 c.w, .bool c.yes, .slice ps c.sp.length cs, .slice pw c.wr.length cw]] w (WEnd w.heap.size w.heap.size w (encCm c)) := by
  have HF := Lib.hid F; have HSP := Lib.hid hsp; have HWR := Lib.hid hwr
  have hl1 : ((encHd c ++ encN c.sp.length ++ c.sp.flatMap encSp).length : Int) ≤ 140737488300000 := by
    have : (encCm c).length = (encHd c ++ encN c.sp.length ++ c.sp.flatMap encSp).length + (encWrs c.wr).length := by simp only [encCm, encSps, List.length_append]; omega
    omega
  have HL1 := Lib.hid hl1
  have HL2 : Hid (((encHd c ++ encN c.sp.length ++ c.sp.flatMap encSp ++ encN c.wr.length ++ c.wr.flatMap encWr).length : Int) ≤ 140737488300000) := by
    have : encCm c = encHd c ++ encN c.sp.length ++ c.sp.flatMap encSp ++ encN c.wr.length ++ c.wr.flatMap encWr := by simp [encCm, encSps, encWrs]
    show _ ≤ _
    rw [← this]; exact hl
  have HHD := Lib.hid (encHd_len F)
  clear F hsp hwr hl hl1
  go_enter Try.func14, Try.ntmps14
  go_upto_region 1 with fail
  obtain ⟨W, hW⟩ : ∃ W, w.alloc (.cells #[.int .i64 c.k, .int .i64 c.e, .int .i64 c.n, .int .i64 c.h, .int .i64 c.yn, .int .i64 c.yl, .int .i64 c.ys, .int .i64 c.ya, .int .i64 c.sw, .int .i64 c.st, .int .i64 c.w, .bool c.yes, .slice ps c.sp.length cs, .slice pw c.wr.length cw] 29) = W := ⟨_, rfl⟩
  have hA : W.heap[w.heap.size]? = some (.cells #[.int .i64 c.k, .int .i64 c.e, .int .i64 c.n, .int .i64 c.h, .int .i64 c.yn, .int .i64 c.yl, .int .i64 c.ys, .int .i64 c.ya, .int .i64 c.sw, .int .i64 c.st, .int .i64 c.w, .bool c.yes, .slice ps c.sp.length cs, .slice pw c.wr.length cw] 29 (0, 0)) := by rw [← hW]; exact heap_last w _
  have HB1 : Hid (Below w.heap.size w W) := by show Below _ _ _; rw [← hW]; exact (Below.refl _ _).alloc (Nat.le_refl _) _
  have HA := Lib.hid hA
  rw [hW]
  obtain ⟨A, eA⟩ : ∃ A, w.heap.size = A := ⟨_, rfl⟩
  have HEA := Lib.hid eA
  rw [eA] at HA ⊢
  clear hW hA eA
  have kA := block_cells HA.out
  have hAW : A < W.heap.size := block_lt HA.out
  have hAn : A ≠ W.heap.size := by omega
  have hAm : A ≠ W.heap.size + 1 := by omega
  have hW1 : Below W.heap.size W (W.alloc (.cells #[.int .u8 1] 5)) := (Below.refl _ _).alloc (Nat.le_refl _) _
  have hW2 : Below W.heap.size W ((W.alloc (.cells #[.int .u8 1] 5)).alloc (.cells #[.int .i64 c.k, .int .i64 c.e, .int .i64 c.n, .int .i64 c.h] 3)) := hW1.alloc hW1.size _
  have HIN := Lib.hid (ints_any W.heap.size (.slice (some ⟨W.heap.size, 0, none⟩) 1 1) [1] (some ⟨W.heap.size + 1, 0, none⟩) 4 [c.k, c.e, c.n, c.h] _ ((own_oneW W 1).alloc (.cells #[.int .i64 c.k, .int .i64 c.e, .int .i64 c.n, .int .i64 c.h] 3)) hW2.size (NumsAt.of_cells (by have := heap_last (W.alloc (.cells #[.int .u8 1] 5)) (.cells #[.int .i64 c.k, .int .i64 c.e, .int .i64 c.n, .int .i64 c.h] 3); simpa using this) (by
      intro j hj
      have : j = 0 ∨ j = 1 ∨ j = 2 ∨ j = 3 := by simp at hj; omega
      rcases this with rfl | rfl | rfl | rfl <;> rfl)) (by
      intro x hx
      simp only [List.mem_cons, List.not_mem_nil, or_false] at hx
      rcases hx with rfl | rfl | rfl | rfl
      · exact HF.out.k
      · exact HF.out.e
      · exact HF.out.n
      · exact HF.out.h) (by simp) (by simp))
  have HW2 := Lib.hid hW2
  clear hW1 hW2
  go_wp2_with fail
  refine HIN.out.mono ?_; rintro e w5 ⟨v5, rfl, ho5, hb5⟩
  have hl5 : ([1] ++ [c.k, c.e, c.n, c.h].flatMap encN).length ≤ 41 := by have := (encN_len HF.out.k).2; have := (encN_len HF.out.e).2; have := (encN_len HF.out.n).2; have := (encN_len HF.out.h).2; simp only [List.flatMap_cons, List.flatMap_nil, List.length_append, List.length_cons, List.length_nil]; omega
  obtain ⟨X5, hX5⟩ : ∃ X, [1] ++ [c.k, c.e, c.n, c.h].flatMap encN = X := ⟨_, rfl⟩
  rw [hX5] at ho5 hl5
  have HX5 := Lib.hid hX5
  have HO5 : Hid (w5.ownsRow W.heap.size 5 1 v5 X5.length (byt X5)) := own_baseW ho5 (by show W.heap.size ≤ bsW _ _ (3 + 1); rw [bsW_next]; exact HW2.out.size)
  have H5 := Lib.hid (HW2.out.trans (hb5.mono HW2.out.size))
  clear ho5 hX5 hb5 HIN HW2 kA hAn hAm
  go_upto_region 2 with fail
  have kA : ∀ w', Below W.heap.size W w' → ∀ j, w'.cell? ⟨A, j, none⟩ = #[.int .i64 c.k, .int .i64 c.e, .int .i64 c.n, .int .i64 c.h, .int .i64 c.yn, .int .i64 c.yl, .int .i64 c.ys, .int .i64 c.ya, .int .i64 c.sw, .int .i64 c.st, .int .i64 c.w, .bool c.yes, .slice ps c.sp.length cs, .slice pw c.wr.length cw][j]? := fun w' h => block_cells (below_block h (block_lt HA.out) HA.out)
  have hl6 : (encY c.yn c.yl c.ys c.ya).length ≤ 40 := by have := (encN_len HF.out.yn).2; have := (encN_len HF.out.yl).2; have := (encN_len HF.out.ys).2; have := (encN_len HF.out.ya).2; unfold encY; simp only [List.length_append]; omega
  have hl7 := Nat.le_of_eq (stampB_len c.sw c.st)
  have hl8 := (encN_len HF.out.w).2
  apply cutT4 (R := fun v w' => Below W.heap.size W w' ∧ w'.ownsRow W.heap.size 5 1 v (X5 ++ encY c.yn c.yl c.ys c.ya ++ stampB c.sw c.st ++ encN c.w).length (byt (X5 ++ encY c.yn c.yl c.ys c.ya ++ stampB c.sw c.st ++ encN c.w)))
  · intro hcut
    have h0 : Below W.heap.size W w5.drew := H5.out.drew
    have ho0 : w5.drew.ownsRow W.heap.size 5 1 v5 X5.length (byt X5) := own_less HO5.out (Below.refl _ _).drew
    have hz0 : W.heap.size ≤ w5.drew.heap.size := h0.size
    refine wp_region_held_drew (S := fun w' => Below W.heap.size W w') (by kernel_rfl) h0 (fun hHeld => ?_)
    obtain ⟨wd, ewd⟩ : ∃ x, w5.drew = x := ⟨_, rfl⟩
    rw [ewd] at h0 ho0 hz0 hHeld ⊢
    clear ewd
    refine wpAnyH_take (i := 0) (v := ?_) rfl (by kernel_rfl) (by kernel_rfl) (by kernel_rfl) (fun _ _ _ h => h) (Or.inl ⟨by rfl, ?_⟩) hHeld ?_
    rotate_left
    · (intro wz hSw; (try dsimp only at hSw); (try simp only [List.getElem_toArray, List.getElem_cons_zero]); go_simp; try with_reducible rfl)
    try simp only [List.getElem_toArray, List.getElem_cons_zero, Act.put, List.setIfInBounds_toArray, List.set_cons_zero, List.set_cons_succ]
    refine wpAnyH_take (i := 1) (v := ?_) rfl (by kernel_rfl) (by kernel_rfl) (by kernel_rfl) (fun _ _ _ h => h) (Or.inl ⟨by rfl, ?_⟩) hHeld ?_
    rotate_left
    · (intro wz hSw; (try dsimp only at hSw); (try simp only [List.getElem_toArray, List.getElem_cons_succ, List.getElem_cons_zero]); go_simp; try with_reducible rfl)
    try simp only [List.getElem_toArray, List.getElem_cons_succ, List.getElem_cons_zero, Act.put, List.setIfInBounds_toArray, List.set_cons_zero, List.set_cons_succ]
    refine wpAnyH_take (i := 2) (v := ?_) rfl (by kernel_rfl) (by kernel_rfl) (by kernel_rfl) (fun _ _ _ h => h) (Or.inl ⟨by rfl, ?_⟩) hHeld ?_
    rotate_left
    · (intro wz hSw; (try dsimp only at hSw); (try simp only [List.getElem_toArray, List.getElem_cons_succ, List.getElem_cons_zero]); go_simp; try with_reducible rfl)
    try simp only [List.getElem_toArray, List.getElem_cons_succ, List.getElem_cons_zero, Act.put, List.setIfInBounds_toArray, List.set_cons_zero, List.set_cons_succ]
    refine wpAnyH_take (i := 4) (v := ?_) rfl (by kernel_rfl) (by kernel_rfl) (by kernel_rfl) (fun _ _ _ h => h) (Or.inl ⟨by rfl, ?_⟩) hHeld ?_
    rotate_left
    · (intro wz hSw; (try dsimp only at hSw); (try simp only [List.getElem_toArray, List.getElem_cons_succ, List.getElem_cons_zero]); go_simp; try with_reducible rfl)
    try simp only [List.getElem_toArray, List.getElem_cons_succ, List.getElem_cons_zero, Act.put, List.setIfInBounds_toArray, List.set_cons_zero, List.set_cons_succ]
    refine wpAnyH_take (i := 5) (v := ?_) rfl (by kernel_rfl) (by kernel_rfl) (by kernel_rfl) (fun _ _ _ h => h) (Or.inl ⟨by rfl, ?_⟩) hHeld ?_
    rotate_left
    · (intro wz hSw; (try dsimp only at hSw); (try simp only [List.getElem_toArray, List.getElem_cons_succ, List.getElem_cons_zero]); go_simp; try with_reducible rfl)
    try simp only [List.getElem_toArray, List.getElem_cons_succ, List.getElem_cons_zero, Act.put, List.setIfInBounds_toArray, List.set_cons_zero, List.set_cons_succ]
    refine wpAnyH_take (i := 7) (v := ?_) rfl (by kernel_rfl) (by kernel_rfl) (by kernel_rfl) (fun _ _ _ h => h) (Or.inl ⟨by rfl, ?_⟩) hHeld ?_
    rotate_left
    · (intro wz hSw; (try dsimp only at hSw); (try simp only [List.getElem_toArray, List.getElem_cons_succ, List.getElem_cons_zero]); go_simp; try with_reducible rfl)
    try simp only [List.getElem_toArray, List.getElem_cons_succ, List.getElem_cons_zero, Act.put, List.setIfInBounds_toArray, List.set_cons_zero, List.set_cons_succ]
    refine wpAnyH_take (i := 8) (v := ?_) rfl (by kernel_rfl) (by kernel_rfl) (by kernel_rfl) (fun _ _ _ h => h) (Or.inl ⟨by rfl, ?_⟩) hHeld ?_
    rotate_left
    · (intro wz hSw; (try dsimp only at hSw); (try simp only [List.getElem_toArray, List.getElem_cons_succ, List.getElem_cons_zero]); go_simp; try with_reducible rfl)
    try simp only [List.getElem_toArray, List.getElem_cons_succ, List.getElem_cons_zero, Act.put, List.setIfInBounds_toArray, List.set_cons_zero, List.set_cons_succ]
    refine wpAnyH_ready (rs := [3, 9]) (by kernel_rfl) (by simp) ?_
    refine AllReadyH.cons rfl (fun K hK => ?_) (AllReadyH.cons rfl (fun K hK => ?_) AllReadyH.nil)
    · skip
      try simp only [List.getElem_toArray, List.getElem_cons_succ, List.getElem_cons_zero]
      go_simp
      refine (try_any _ v5 X5 c.yn c.yl c.ys c.ya _ ho0 hz0 HF.out.yn HF.out.yl HF.out.ys HF.out.ya (by omega)).mono ?_; rintro r wc1 ⟨vc3, rfl, ho1, hb1⟩
      have hS1 := h0.trans (hb1.mono h0.size)
      have hz1 := hb1.size
      refine hK.out _ _ hS1 (fun _ => ?_)
      clear hK K hHeld
      try simp only [List.getElem_toArray, List.getElem_cons_succ, List.getElem_cons_zero, Act.put, List.setIfInBounds_toArray, List.set_cons_zero, List.set_cons_succ]
      have hHeld := hS1
      refine wpAnyH_ready (rs := [6, 9]) (by kernel_rfl) (by simp) ?_
      refine AllReadyH.cons rfl (fun K hK => ?_) (AllReadyH.cons rfl (fun K hK => ?_) AllReadyH.nil)
      · skip
        try simp only [List.getElem_toArray, List.getElem_cons_succ, List.getElem_cons_zero]
        go_simp
        refine (moment_any _ vc3 _ c.sw c.st _ ho1 hz1 HF.out.sw HF.out.st (by simp only [List.length_append]; omega)).mono ?_; rintro r wc2 ⟨vc6, rfl, ho2, hb2⟩
        have hS2 := below_gr hS1 hS1.size ho1 h0.size hb2
        have hz2 := Nat.le_trans hz1 hb2.size
        refine hK.out _ _ hS2 (fun _ => ?_)
        clear hK K hHeld
        try simp only [List.getElem_toArray, List.getElem_cons_succ, List.getElem_cons_zero, Act.put, List.setIfInBounds_toArray, List.set_cons_zero, List.set_cons_succ]
        have hHeld := hS2
        refine wpAnyH_ready (rs := [9]) (by kernel_rfl) (by simp) ?_
        refine AllReadyH.cons rfl (fun K hK => ?_) AllReadyH.nil
        try simp only [List.getElem_toArray, List.getElem_cons_succ, List.getElem_cons_zero]
        go_simp
        obtain ⟨wb3, hw3⟩ : ∃ wb : World, wc2.alloc (.cells #[.int .i64 c.w] 2) = wb := ⟨_, rfl⟩
        have hS3 : Below W.heap.size W wb3 := by rw [← hw3]; exact hS2.alloc hS2.size _
        have hb3 : Below wc2.heap.size wc2 wb3 := by rw [← hw3]; exact (Below.refl _ _).alloc (Nat.le_refl _) _
        have hc3 : wb3.cell? ⟨wc2.heap.size, 0, none⟩ = some (.int .i64 c.w) := by rw [← hw3, block_cells (heap_last wc2 _)]; rfl
        have hg3 : wc2.heap.size < wb3.heap.size := by rw [← hw3]; simp
        have hn3 : vc6.ownBlock ≠ some wc2.heap.size := fun e => by have := (ho2.lt _ e).2; omega
        have ho3 := own_less ho2 hb3
        have hz3 := Nat.le_trans hz2 hb3.size
        obtain ⟨gb9, eg3⟩ : ∃ n, wc2.heap.size = n := ⟨_, rfl⟩
        rw [hw3]
        try rw [eg3]
        rw [eg3] at hc3 hg3 hn3
        skip
        refine hK.out _ _ hS3 (fun _ => ?_)
        clear hK K hHeld hw3
        try simp only [List.getElem_toArray, List.getElem_cons_succ, List.getElem_cons_zero, Act.put, List.setIfInBounds_toArray, List.set_cons_zero, List.set_cons_succ]
        have hHeld := hS3
        refine wpAnyH_ready (rs := [10]) (by kernel_rfl) (by simp) ?_
        refine AllReadyH.cons rfl (fun K hK => ?_) AllReadyH.nil
        try simp only [List.getElem_toArray, List.getElem_cons_succ, List.getElem_cons_zero]
        go_simp
        refine (num_one _ vc6 _ c.w 1 _ 0 _ ho3 hz3 hg3 hc3 HF.out.w (by simp only [List.length_append]; omega)).mono ?_; rintro r wc4 ⟨vc10, rfl, ho4, hb4⟩
        have hS4 := hS3.trans (hb4.mono hS3.size)
        have hz4 := hb4.size
        have hc4x9 := (hb4.cell (p := ⟨gb9, 0, none⟩) hg3).trans hc3
        have hg4x9 := Nat.lt_of_lt_of_le hg3 hb4.size
        have hn4x9 : vc10.ownBlock ≠ some gb9 := fun e => by have := (ho4.lt _ e).1; omega
        refine hK.out _ _ hS4 (fun _ => ?_)
        clear hK K hHeld
        try simp only [List.getElem_toArray, List.getElem_cons_succ, List.getElem_cons_zero, Act.put, List.setIfInBounds_toArray, List.set_cons_zero, List.set_cons_succ]
        have hHeld := hS4
        refine wpAnyH_take (i := 11) (v := ?_) rfl (by kernel_rfl) (by kernel_rfl) (by kernel_rfl) (fun _ _ _ h => h) (Or.inl ⟨by rfl, ?_⟩) hHeld ?_
        rotate_left
        · (intro wz hSw; (try dsimp only at hSw); (try simp only [List.getElem_toArray, List.getElem_cons_succ, List.getElem_cons_zero]); go_simp; try with_reducible rfl)
        try simp only [List.getElem_toArray, List.getElem_cons_succ, List.getElem_cons_zero, Act.put, List.setIfInBounds_toArray, List.set_cons_zero, List.set_cons_succ]
        refine wpAnyH_done (by kernel_rfl) ?_ _
        exact hcut vc3 vc6 gb9 vc10 wc4 ⟨hS4, own_baseW ho4 hS3.size⟩
      · skip
        try simp only [List.getElem_toArray, List.getElem_cons_succ, List.getElem_cons_zero]
        go_simp
        obtain ⟨wb5, hw5⟩ : ∃ wb : World, wc1.alloc (.cells #[.int .i64 c.w] 2) = wb := ⟨_, rfl⟩
        have hS5 : Below W.heap.size W wb5 := by rw [← hw5]; exact hS1.alloc hS1.size _
        have hb5 : Below wc1.heap.size wc1 wb5 := by rw [← hw5]; exact (Below.refl _ _).alloc (Nat.le_refl _) _
        have hc5 : wb5.cell? ⟨wc1.heap.size, 0, none⟩ = some (.int .i64 c.w) := by rw [← hw5, block_cells (heap_last wc1 _)]; rfl
        have hg5 : wc1.heap.size < wb5.heap.size := by rw [← hw5]; simp
        have hn5 : vc3.ownBlock ≠ some wc1.heap.size := fun e => by have := (ho1.lt _ e).2; omega
        have ho5 := own_less ho1 hb5
        have hz5 := Nat.le_trans hz1 hb5.size
        obtain ⟨gb9, eg5⟩ : ∃ n, wc1.heap.size = n := ⟨_, rfl⟩
        rw [hw5]
        try rw [eg5]
        rw [eg5] at hc5 hg5 hn5
        skip
        refine hK.out _ _ hS5 (fun _ => ?_)
        clear hK K hHeld hw5
        try simp only [List.getElem_toArray, List.getElem_cons_succ, List.getElem_cons_zero, Act.put, List.setIfInBounds_toArray, List.set_cons_zero, List.set_cons_succ]
        have hHeld := hS5
        refine wpAnyH_ready (rs := [6]) (by kernel_rfl) (by simp) ?_
        refine AllReadyH.cons rfl (fun K hK => ?_) AllReadyH.nil
        try simp only [List.getElem_toArray, List.getElem_cons_succ, List.getElem_cons_zero]
        go_simp
        refine (moment_any _ vc3 _ c.sw c.st _ ho5 hz5 HF.out.sw HF.out.st (by simp only [List.length_append]; omega)).mono ?_; rintro r wc6 ⟨vc6, rfl, ho6, hb6⟩
        have hS6 := below_gr hS5 hS5.size ho5 h0.size hb6
        have hz6 := Nat.le_trans hz5 hb6.size
        have hc6x9 := (World.cell?_of_block (a := ⟨gb9, 0, none⟩) (hb6.block gb9 hg5 (fun e => hn5 e.symm))).trans hc5
        have hg6x9 := Nat.lt_of_lt_of_le hg5 hb6.size
        refine hK.out _ _ hS6 (fun _ => ?_)
        clear hK K hHeld
        try simp only [List.getElem_toArray, List.getElem_cons_succ, List.getElem_cons_zero, Act.put, List.setIfInBounds_toArray, List.set_cons_zero, List.set_cons_succ]
        have hHeld := hS6
        refine wpAnyH_ready (rs := [10]) (by kernel_rfl) (by simp) ?_
        refine AllReadyH.cons rfl (fun K hK => ?_) AllReadyH.nil
        try simp only [List.getElem_toArray, List.getElem_cons_succ, List.getElem_cons_zero]
        go_simp
        refine (num_one _ vc6 _ c.w 1 _ 0 _ ho6 hz6 hg6x9 hc6x9 HF.out.w (by simp only [List.length_append]; omega)).mono ?_; rintro r wc7 ⟨vc10, rfl, ho7, hb7⟩
        have hS7 := hS6.trans (hb7.mono hS6.size)
        have hz7 := hb7.size
        have hc7x9 := (hb7.cell (p := ⟨gb9, 0, none⟩) hg6x9).trans hc6x9
        have hg7x9 := Nat.lt_of_lt_of_le hg6x9 hb7.size
        have hn7x9 : vc10.ownBlock ≠ some gb9 := fun e => by have := (ho7.lt _ e).1; omega
        refine hK.out _ _ hS7 (fun _ => ?_)
        clear hK K hHeld
        try simp only [List.getElem_toArray, List.getElem_cons_succ, List.getElem_cons_zero, Act.put, List.setIfInBounds_toArray, List.set_cons_zero, List.set_cons_succ]
        have hHeld := hS7
        refine wpAnyH_take (i := 11) (v := ?_) rfl (by kernel_rfl) (by kernel_rfl) (by kernel_rfl) (fun _ _ _ h => h) (Or.inl ⟨by rfl, ?_⟩) hHeld ?_
        rotate_left
        · (intro wz hSw; (try dsimp only at hSw); (try simp only [List.getElem_toArray, List.getElem_cons_succ, List.getElem_cons_zero]); go_simp; try with_reducible rfl)
        try simp only [List.getElem_toArray, List.getElem_cons_succ, List.getElem_cons_zero, Act.put, List.setIfInBounds_toArray, List.set_cons_zero, List.set_cons_succ]
        refine wpAnyH_done (by kernel_rfl) ?_ _
        exact hcut vc3 vc6 gb9 vc10 wc7 ⟨hS7, own_baseW ho7 hS6.size⟩
    · skip
      try simp only [List.getElem_toArray, List.getElem_cons_succ, List.getElem_cons_zero]
      go_simp
      obtain ⟨wb8, hw8⟩ : ∃ wb : World, wd.alloc (.cells #[.int .i64 c.w] 2) = wb := ⟨_, rfl⟩
      have hS8 : Below W.heap.size W wb8 := by rw [← hw8]; exact h0.alloc h0.size _
      have hb8 : Below wd.heap.size wd wb8 := by rw [← hw8]; exact (Below.refl _ _).alloc (Nat.le_refl _) _
      have hc8 : wb8.cell? ⟨wd.heap.size, 0, none⟩ = some (.int .i64 c.w) := by rw [← hw8, block_cells (heap_last wd _)]; rfl
      have hg8 : wd.heap.size < wb8.heap.size := by rw [← hw8]; simp
      have hn8 : v5.ownBlock ≠ some wd.heap.size := fun e => by have := (ho0.lt _ e).2; omega
      have ho8 := own_less ho0 hb8
      have hz8 := Nat.le_trans hz0 hb8.size
      obtain ⟨gb9, eg8⟩ : ∃ n, wd.heap.size = n := ⟨_, rfl⟩
      rw [hw8]
      try rw [eg8]
      rw [eg8] at hc8 hg8 hn8
      skip
      refine hK.out _ _ hS8 (fun _ => ?_)
      clear hK K hHeld hw8
      try simp only [List.getElem_toArray, List.getElem_cons_succ, List.getElem_cons_zero, Act.put, List.setIfInBounds_toArray, List.set_cons_zero, List.set_cons_succ]
      have hHeld := hS8
      refine wpAnyH_ready (rs := [3]) (by kernel_rfl) (by simp) ?_
      refine AllReadyH.cons rfl (fun K hK => ?_) AllReadyH.nil
      try simp only [List.getElem_toArray, List.getElem_cons_succ, List.getElem_cons_zero]
      go_simp
      refine (try_any _ v5 X5 c.yn c.yl c.ys c.ya _ ho8 hz8 HF.out.yn HF.out.yl HF.out.ys HF.out.ya (by omega)).mono ?_; rintro r wc9 ⟨vc3, rfl, ho9, hb9⟩
      have hS9 := hS8.trans (hb9.mono hS8.size)
      have hz9 := hb9.size
      have hc9x9 := (hb9.cell (p := ⟨gb9, 0, none⟩) hg8).trans hc8
      have hg9x9 := Nat.lt_of_lt_of_le hg8 hb9.size
      have hn9x9 : vc3.ownBlock ≠ some gb9 := fun e => by have := (ho9.lt _ e).1; omega
      refine hK.out _ _ hS9 (fun _ => ?_)
      clear hK K hHeld
      try simp only [List.getElem_toArray, List.getElem_cons_succ, List.getElem_cons_zero, Act.put, List.setIfInBounds_toArray, List.set_cons_zero, List.set_cons_succ]
      have hHeld := hS9
      refine wpAnyH_ready (rs := [6]) (by kernel_rfl) (by simp) ?_
      refine AllReadyH.cons rfl (fun K hK => ?_) AllReadyH.nil
      try simp only [List.getElem_toArray, List.getElem_cons_succ, List.getElem_cons_zero]
      go_simp
      refine (moment_any _ vc3 _ c.sw c.st _ ho9 hz9 HF.out.sw HF.out.st (by simp only [List.length_append]; omega)).mono ?_; rintro r wc10 ⟨vc6, rfl, ho10, hb10⟩
      have hS10 := below_gr hS9 hS9.size ho9 hS8.size hb10
      have hz10 := Nat.le_trans hz9 hb10.size
      have hc10x9 := (World.cell?_of_block (a := ⟨gb9, 0, none⟩) (hb10.block gb9 hg9x9 (fun e => hn9x9 e.symm))).trans hc9x9
      have hg10x9 := Nat.lt_of_lt_of_le hg9x9 hb10.size
      refine hK.out _ _ hS10 (fun _ => ?_)
      clear hK K hHeld
      try simp only [List.getElem_toArray, List.getElem_cons_succ, List.getElem_cons_zero, Act.put, List.setIfInBounds_toArray, List.set_cons_zero, List.set_cons_succ]
      have hHeld := hS10
      refine wpAnyH_ready (rs := [10]) (by kernel_rfl) (by simp) ?_
      refine AllReadyH.cons rfl (fun K hK => ?_) AllReadyH.nil
      try simp only [List.getElem_toArray, List.getElem_cons_succ, List.getElem_cons_zero]
      go_simp
      refine (num_one _ vc6 _ c.w 1 _ 0 _ ho10 hz10 hg10x9 hc10x9 HF.out.w (by simp only [List.length_append]; omega)).mono ?_; rintro r wc11 ⟨vc10, rfl, ho11, hb11⟩
      have hS11 := hS10.trans (hb11.mono hS10.size)
      have hz11 := hb11.size
      have hc11x9 := (hb11.cell (p := ⟨gb9, 0, none⟩) hg10x9).trans hc10x9
      have hg11x9 := Nat.lt_of_lt_of_le hg10x9 hb11.size
      have hn11x9 : vc10.ownBlock ≠ some gb9 := fun e => by have := (ho11.lt _ e).1; omega
      refine hK.out _ _ hS11 (fun _ => ?_)
      clear hK K hHeld
      try simp only [List.getElem_toArray, List.getElem_cons_succ, List.getElem_cons_zero, Act.put, List.setIfInBounds_toArray, List.set_cons_zero, List.set_cons_succ]
      have hHeld := hS11
      refine wpAnyH_take (i := 11) (v := ?_) rfl (by kernel_rfl) (by kernel_rfl) (by kernel_rfl) (fun _ _ _ h => h) (Or.inl ⟨by rfl, ?_⟩) hHeld ?_
      rotate_left
      · (intro wz hSw; (try dsimp only at hSw); (try simp only [List.getElem_toArray, List.getElem_cons_succ, List.getElem_cons_zero]); go_simp; try with_reducible rfl)
      try simp only [List.getElem_toArray, List.getElem_cons_succ, List.getElem_cons_zero, Act.put, List.setIfInBounds_toArray, List.set_cons_zero, List.set_cons_succ]
      refine wpAnyH_done (by kernel_rfl) ?_ _
      exact hcut vc3 vc6 gb9 vc10 wc11 ⟨hS11, own_baseW ho11 hS10.size⟩
  intro va vb gx v8 w8 hR
  obtain ⟨hb8, ho8⟩ := hR
  have hl9 : (X5 ++ encY c.yn c.yl c.ys c.ya ++ stampB c.sw c.st ++ encN c.w).length ≤ 150 := by simp only [List.length_append]; omega
  obtain ⟨X8, hX8⟩ : ∃ X, X5 ++ encY c.yn c.yl c.ys c.ya ++ stampB c.sw c.st ++ encN c.w = X := ⟨_, rfl⟩
  rw [hX8] at ho8 hl9
  have HX8 : Hid (X8 ++ encF c.yes = encHd c) := by show _ = _; rw [← hX8, ← HX5.out]; simp [encHd]
  have HO8 := Lib.hid ho8; have H8 := Lib.hid hb8
  clear hb8 ho8 hX8 HO5 H5 HX5
  go_upto_region 3 with fail
  apply cutT3 (R := fun v w' => Below W.heap.size W w' ∧ w'.ownsRow W.heap.size 5 1 v (X8 ++ encF c.yes ++ encN c.sp.length).length (byt (X8 ++ encF c.yes ++ encN c.sp.length)))
  · intro hcut
    have h0 : Below W.heap.size W w8.drew := H8.out.drew
    have ho0 : w8.drew.ownsRow W.heap.size 5 1 v8 X8.length (byt X8) := own_less HO8.out (Below.refl _ _).drew
    have hz0 : W.heap.size ≤ w8.drew.heap.size := h0.size
    refine wp_region_held_drew (S := fun w' => Below W.heap.size W w') (by kernel_rfl) h0 (fun hHeld => ?_)
    obtain ⟨wd, ewd⟩ : ∃ x, w8.drew = x := ⟨_, rfl⟩
    rw [ewd] at h0 ho0 hz0 hHeld ⊢
    clear ewd
    refine wpAnyH_take (i := 0) (v := ?_) rfl (by kernel_rfl) (by kernel_rfl) (by kernel_rfl) (fun _ _ _ h => h) (Or.inl ⟨by rfl, ?_⟩) hHeld ?_
    rotate_left
    · (intro wz hSw; (try dsimp only at hSw); (try simp only [List.getElem_toArray, List.getElem_cons_zero]); go_simp; try with_reducible rfl)
    try simp only [List.getElem_toArray, List.getElem_cons_zero, Act.put, List.setIfInBounds_toArray, List.set_cons_zero, List.set_cons_succ]
    refine wpAnyH_take (i := 1) (v := ?_) rfl (by kernel_rfl) (by kernel_rfl) (by kernel_rfl) (fun _ _ _ h => h) (Or.inl ⟨by rfl, ?_⟩) hHeld ?_
    rotate_left
    · (intro wz hSw; (try dsimp only at hSw); (try simp only [List.getElem_toArray, List.getElem_cons_succ, List.getElem_cons_zero]); go_simp; try with_reducible rfl)
    try simp only [List.getElem_toArray, List.getElem_cons_succ, List.getElem_cons_zero, Act.put, List.setIfInBounds_toArray, List.set_cons_zero, List.set_cons_succ]
    refine wpAnyH_take (i := 2) (v := ?_) rfl (by kernel_rfl) (by kernel_rfl) (by kernel_rfl) (fun _ _ _ h => h) (Or.inl ⟨by rfl, ?_⟩) hHeld ?_
    rotate_left
    · (intro wz hSw; (try dsimp only at hSw); (try simp only [List.getElem_toArray, List.getElem_cons_succ, List.getElem_cons_zero]); go_simp; try with_reducible rfl)
    try simp only [List.getElem_toArray, List.getElem_cons_succ, List.getElem_cons_zero, Act.put, List.setIfInBounds_toArray, List.set_cons_zero, List.set_cons_succ]
    refine wpAnyH_take (i := 4) (v := ?_) rfl (by kernel_rfl) (by kernel_rfl) (by kernel_rfl) (fun _ _ _ h => h) (Or.inl ⟨by rfl, ?_⟩) hHeld ?_
    rotate_left
    · (intro wz hSw; (try dsimp only at hSw); (try simp only [List.getElem_toArray, List.getElem_cons_succ, List.getElem_cons_zero]); go_simp; try with_reducible rfl)
    try simp only [List.getElem_toArray, List.getElem_cons_succ, List.getElem_cons_zero, Act.put, List.setIfInBounds_toArray, List.set_cons_zero, List.set_cons_succ]
    refine wpAnyH_take (i := 5) (v := ?_) rfl (by kernel_rfl) (by kernel_rfl) (by kernel_rfl) (fun _ _ _ h => h) (Or.inl ⟨by rfl, ?_⟩) hHeld ?_
    rotate_left
    · (intro wz hSw; (try dsimp only at hSw); (try simp only [List.getElem_toArray, List.getElem_cons_succ, List.getElem_cons_zero]); go_simp; try with_reducible rfl)
    try simp only [List.getElem_toArray, List.getElem_cons_succ, List.getElem_cons_zero, Act.put, List.setIfInBounds_toArray, List.set_cons_zero, List.set_cons_succ]
    refine wpAnyH_take (i := 6) (v := ?_) rfl (by kernel_rfl) (by kernel_rfl) (by kernel_rfl) (fun _ _ _ h => h) (Or.inl ⟨by rfl, ?_⟩) hHeld ?_
    rotate_left
    · (intro wz hSw; (try dsimp only at hSw); (try simp only [List.getElem_toArray, List.getElem_cons_succ, List.getElem_cons_zero]); go_simp; try with_reducible rfl)
    try simp only [List.getElem_toArray, List.getElem_cons_succ, List.getElem_cons_zero, Act.put, List.setIfInBounds_toArray, List.set_cons_zero, List.set_cons_succ]
    refine wpAnyH_ready (rs := [3, 7]) (by kernel_rfl) (by simp) ?_
    refine AllReadyH.cons rfl (fun K hK => ?_) (AllReadyH.cons rfl (fun K hK => ?_) AllReadyH.nil)
    · skip
      try simp only [List.getElem_toArray, List.getElem_cons_succ, List.getElem_cons_zero]
      go_simp
      refine (flag_any _ v8 X8 c.yes _ ho0 hz0 (by omega)).mono ?_; rintro r wc1 ⟨vc3, rfl, ho1, hb1⟩
      have hS1 := below_gr h0 h0.size ho0 (Nat.le_refl _) hb1
      have hz1 := Nat.le_trans hz0 hb1.size
      refine hK.out _ _ hS1 (fun _ => ?_)
      clear hK K hHeld
      try simp only [List.getElem_toArray, List.getElem_cons_succ, List.getElem_cons_zero, Act.put, List.setIfInBounds_toArray, List.set_cons_zero, List.set_cons_succ]
      have hHeld := hS1
      refine wpAnyH_ready (rs := [7]) (by kernel_rfl) (by simp) ?_
      refine AllReadyH.cons rfl (fun K hK => ?_) AllReadyH.nil
      try simp only [List.getElem_toArray, List.getElem_cons_succ, List.getElem_cons_zero]
      go_simp
      obtain ⟨wb2, hw2⟩ : ∃ wb : World, wc1.alloc (.cells #[.int .i64 c.sp.length] 3) = wb := ⟨_, rfl⟩
      have hS2 : Below W.heap.size W wb2 := by rw [← hw2]; exact hS1.alloc hS1.size _
      have hb2 : Below wc1.heap.size wc1 wb2 := by rw [← hw2]; exact (Below.refl _ _).alloc (Nat.le_refl _) _
      have hc2 : wb2.cell? ⟨wc1.heap.size, 0, none⟩ = some (.int .i64 c.sp.length) := by rw [← hw2, block_cells (heap_last wc1 _)]; rfl
      have hg2 : wc1.heap.size < wb2.heap.size := by rw [← hw2]; simp
      have hn2 : vc3.ownBlock ≠ some wc1.heap.size := fun e => by have := (ho1.lt _ e).2; omega
      have ho2 := own_less ho1 hb2
      have hz2 := Nat.le_trans hz1 hb2.size
      obtain ⟨gb7, eg2⟩ : ∃ n, wc1.heap.size = n := ⟨_, rfl⟩
      rw [hw2]
      try rw [eg2]
      rw [eg2] at hc2 hg2 hn2
      skip
      refine hK.out _ _ hS2 (fun _ => ?_)
      clear hK K hHeld hw2
      try simp only [List.getElem_toArray, List.getElem_cons_succ, List.getElem_cons_zero, Act.put, List.setIfInBounds_toArray, List.set_cons_zero, List.set_cons_succ]
      have hHeld := hS2
      refine wpAnyH_ready (rs := [8]) (by kernel_rfl) (by simp) ?_
      refine AllReadyH.cons rfl (fun K hK => ?_) AllReadyH.nil
      try simp only [List.getElem_toArray, List.getElem_cons_succ, List.getElem_cons_zero]
      go_simp
      refine (ints_one _ vc3 _ (c.sp.length : Int) 1 _ 0 _ ho2 hz2 hg2 hc2 ⟨by omega, by omega⟩ (by have : (encF c.yes).length = 1 := rfl; rw [List.length_append]; omega)).mono ?_; rintro r wc3 ⟨vc8, rfl, ho3, hb3⟩
      have hS3 := hS2.trans (hb3.mono hS2.size)
      have hz3 := hb3.size
      have hc3x7 := (hb3.cell (p := ⟨gb7, 0, none⟩) hg2).trans hc2
      have hg3x7 := Nat.lt_of_lt_of_le hg2 hb3.size
      have hn3x7 : vc8.ownBlock ≠ some gb7 := fun e => by have := (ho3.lt _ e).1; omega
      refine hK.out _ _ hS3 (fun _ => ?_)
      clear hK K hHeld
      try simp only [List.getElem_toArray, List.getElem_cons_succ, List.getElem_cons_zero, Act.put, List.setIfInBounds_toArray, List.set_cons_zero, List.set_cons_succ]
      have hHeld := hS3
      refine wpAnyH_take (i := 9) (v := ?_) rfl (by kernel_rfl) (by kernel_rfl) (by kernel_rfl) (fun _ _ _ h => h) (Or.inl ⟨by rfl, ?_⟩) hHeld ?_
      rotate_left
      · (intro wz hSw; (try dsimp only at hSw); (try simp only [List.getElem_toArray, List.getElem_cons_succ, List.getElem_cons_zero]); go_simp; try with_reducible rfl)
      try simp only [List.getElem_toArray, List.getElem_cons_succ, List.getElem_cons_zero, Act.put, List.setIfInBounds_toArray, List.set_cons_zero, List.set_cons_succ]
      refine wpAnyH_done (by kernel_rfl) ?_ _
      exact hcut vc3 gb7 vc8 wc3 ⟨hS3, own_baseW ho3 hS2.size⟩
    · skip
      try simp only [List.getElem_toArray, List.getElem_cons_succ, List.getElem_cons_zero]
      go_simp
      obtain ⟨wb4, hw4⟩ : ∃ wb : World, wd.alloc (.cells #[.int .i64 c.sp.length] 3) = wb := ⟨_, rfl⟩
      have hS4 : Below W.heap.size W wb4 := by rw [← hw4]; exact h0.alloc h0.size _
      have hb4 : Below wd.heap.size wd wb4 := by rw [← hw4]; exact (Below.refl _ _).alloc (Nat.le_refl _) _
      have hc4 : wb4.cell? ⟨wd.heap.size, 0, none⟩ = some (.int .i64 c.sp.length) := by rw [← hw4, block_cells (heap_last wd _)]; rfl
      have hg4 : wd.heap.size < wb4.heap.size := by rw [← hw4]; simp
      have hn4 : v8.ownBlock ≠ some wd.heap.size := fun e => by have := (ho0.lt _ e).2; omega
      have ho4 := own_less ho0 hb4
      have hz4 := Nat.le_trans hz0 hb4.size
      obtain ⟨gb7, eg4⟩ : ∃ n, wd.heap.size = n := ⟨_, rfl⟩
      rw [hw4]
      try rw [eg4]
      rw [eg4] at hc4 hg4 hn4
      skip
      refine hK.out _ _ hS4 (fun _ => ?_)
      clear hK K hHeld hw4
      try simp only [List.getElem_toArray, List.getElem_cons_succ, List.getElem_cons_zero, Act.put, List.setIfInBounds_toArray, List.set_cons_zero, List.set_cons_succ]
      have hHeld := hS4
      refine wpAnyH_ready (rs := [3]) (by kernel_rfl) (by simp) ?_
      refine AllReadyH.cons rfl (fun K hK => ?_) AllReadyH.nil
      try simp only [List.getElem_toArray, List.getElem_cons_succ, List.getElem_cons_zero]
      go_simp
      refine (flag_any _ v8 X8 c.yes _ ho4 hz4 (by omega)).mono ?_; rintro r wc5 ⟨vc3, rfl, ho5, hb5⟩
      have hS5 := below_gr hS4 hS4.size ho4 (Nat.le_refl _) hb5
      have hz5 := Nat.le_trans hz4 hb5.size
      have hc5x7 := (World.cell?_of_block (a := ⟨gb7, 0, none⟩) (hb5.block gb7 hg4 (fun e => hn4 e.symm))).trans hc4
      have hg5x7 := Nat.lt_of_lt_of_le hg4 hb5.size
      refine hK.out _ _ hS5 (fun _ => ?_)
      clear hK K hHeld
      try simp only [List.getElem_toArray, List.getElem_cons_succ, List.getElem_cons_zero, Act.put, List.setIfInBounds_toArray, List.set_cons_zero, List.set_cons_succ]
      have hHeld := hS5
      refine wpAnyH_ready (rs := [8]) (by kernel_rfl) (by simp) ?_
      refine AllReadyH.cons rfl (fun K hK => ?_) AllReadyH.nil
      try simp only [List.getElem_toArray, List.getElem_cons_succ, List.getElem_cons_zero]
      go_simp
      refine (ints_one _ vc3 _ (c.sp.length : Int) 1 _ 0 _ ho5 hz5 hg5x7 hc5x7 ⟨by omega, by omega⟩ (by have : (encF c.yes).length = 1 := rfl; rw [List.length_append]; omega)).mono ?_; rintro r wc6 ⟨vc8, rfl, ho6, hb6⟩
      have hS6 := hS5.trans (hb6.mono hS5.size)
      have hz6 := hb6.size
      have hc6x7 := (hb6.cell (p := ⟨gb7, 0, none⟩) hg5x7).trans hc5x7
      have hg6x7 := Nat.lt_of_lt_of_le hg5x7 hb6.size
      have hn6x7 : vc8.ownBlock ≠ some gb7 := fun e => by have := (ho6.lt _ e).1; omega
      refine hK.out _ _ hS6 (fun _ => ?_)
      clear hK K hHeld
      try simp only [List.getElem_toArray, List.getElem_cons_succ, List.getElem_cons_zero, Act.put, List.setIfInBounds_toArray, List.set_cons_zero, List.set_cons_succ]
      have hHeld := hS6
      refine wpAnyH_take (i := 9) (v := ?_) rfl (by kernel_rfl) (by kernel_rfl) (by kernel_rfl) (fun _ _ _ h => h) (Or.inl ⟨by rfl, ?_⟩) hHeld ?_
      rotate_left
      · (intro wz hSw; (try dsimp only at hSw); (try simp only [List.getElem_toArray, List.getElem_cons_succ, List.getElem_cons_zero]); go_simp; try with_reducible rfl)
      try simp only [List.getElem_toArray, List.getElem_cons_succ, List.getElem_cons_zero, Act.put, List.setIfInBounds_toArray, List.set_cons_zero, List.set_cons_succ]
      refine wpAnyH_done (by kernel_rfl) ?_ _
      exact hcut vc3 gb7 vc8 wc6 ⟨hS6, own_baseW ho6 hS5.size⟩
  intro vd gy v10 w10 hR
  obtain ⟨hb10, ho10⟩ := hR
  obtain ⟨X1, hX1⟩ : ∃ X, encHd c ++ encN c.sp.length = X := ⟨_, rfl⟩
  rw [HX8.out, hX1] at ho10
  have HX1 := Lib.hid hX1
  have HL1' : Hid (((X1 ++ c.sp.flatMap encSp).length : Int) ≤ 140737488300000) := by show _ ≤ _; rw [← HX1.out]; exact HL1.out
  have HO : Hid (w10.ownsRow W.heap.size 5 1 v10 (X1 ++ (c.sp.take 0).flatMap encSp).length (byt (X1 ++ (c.sp.take 0).flatMap encSp)) ∧ Below W.heap.size W w10) := by show _ ∧ _; simp only [List.take_zero, List.flatMap_nil, List.append_nil]; exact ⟨ho10, hb10⟩
  have kA := block_cells (below_block hb10 (block_lt HA.out) HA.out)
  clear ho10 hX1 hb10 HO8 H8 HL1 HX8 hl6 hl7 hl8 hl9
  go_wp2_with fail
  clear kA
  go_loopw [3, 42] (fun u i wr => ∃ k : Nat, k ≤ c.sp.length ∧ i = .int .i64 k ∧ Hid (wr.ownsRow W.heap.size 5 1 u (X1 ++ (c.sp.take k).flatMap encSp).length (byt (X1 ++ (c.sp.take k).flatMap encSp)) ∧ Below W.heap.size W wr)) (fun _ i _ => c.sp.length - (intOf i).toNat)
  case atStart => exact ⟨0, Nat.zero_le _, rfl, HO⟩
  case round =>
    clear HO
    obtain ⟨k, hk, rfl, HO⟩ := hrel
    obtain ⟨wk, rfl⟩ : ∃ wk : World, wk = wr := ⟨_, rfl⟩
    by_cases hlt : k < c.sp.length
    · have hd : decide ((k : Int) < (c.sp.length : Int)) = true := by simp; omega
      obtain ⟨g, o, hpe, hg, hc1, hc2⟩ := (HSP.out.keep (HB1.out.trans (HO.out.2.mono HB1.out.size)) (Nat.le_refl _)) k hlt
      obtain ⟨x, hx⟩ : ∃ x, c.sp[k] = x := ⟨_, rfl⟩
      rw [hx] at hc1 hc2
      subst hpe
      have hfl : (X1 ++ (c.sp.take k).flatMap encSp).length + (encSp x).length ≤ (X1 ++ c.sp.flatMap encSp).length := by
        rw [List.length_append, List.length_append]; have := flat_le (f := encSp) c.sp (k + 1); rw [flat_next hlt, hx, List.length_append] at this; omega
      have hes : [x.lo, x.hi].flatMap encT = encSp x := by simp [encSp]
      have hes2 : (encSp x).length = (encT x.lo).length + (encT x.hi).length := by unfold encSp; rw [List.length_append]
      have et1 : (encT x.lo).length = (varN x.lo.size).length + x.lo.size := by unfold encT; rw [List.length_append, txW_len]
      have et2 : (encT x.hi).length = (varN x.hi.size).length + x.hi.size := by unfold encT; rw [List.length_append, txW_len]
      have hbb := HL1'.out
      have hW1 : Below wk.heap.size wk (wk.alloc (.cells #[.string x.lo, .string x.hi] 65)) := (Below.refl _ _).alloc (Nat.le_refl _) _
      have hW2 : Below wk.heap.size wk ((wk.alloc (.cells #[.string x.lo, .string x.hi] 65)).alloc (.cells #[.string x.lo, .string x.hi] 9)) := hW1.alloc hW1.size _
      have HTX := Lib.hid (text_anyW W.heap.size _ (X1 ++ (c.sp.take k).flatMap encSp) (some ⟨wk.heap.size + 1, 0, none⟩) 2 [x.lo, x.hi] _ (own_less HO.out.1 hW2) (Nat.le_trans HO.out.2.size hW2.size) (TxtsAt.two (by have := heap_last (wk.alloc (.cells #[.string x.lo, .string x.hi] 65)) (.cells #[.string x.lo, .string x.hi] 9); simpa using this)) (by
        intro s hs
        simp only [List.mem_cons, List.not_mem_nil, or_false] at hs
        rcases hs with rfl | rfl <;> omega) (by simp) (by rw [hes, List.length_append]; omega))
      have HW2 := Lib.hid hW2
      have HNX : Hid (X1 ++ (c.sp.take k).flatMap encSp ++ [x.lo, x.hi].flatMap encT = X1 ++ (c.sp.take (k + 1)).flatMap encSp) := by show _ = _; rw [flat_next hlt, hx, hes]; simp
      clear hx hfl hes hes2 et1 et2 hbb hW1 hW2
      go_wp2_with fail
      refine HTX.out.mono ?_; rintro e w3 ⟨v3, rfl, ho3, hb3⟩
      rw [HNX.out] at ho3
      have HO3 : Hid (w3.ownsRow W.heap.size 5 1 v3 (X1 ++ (c.sp.take (k + 1)).flatMap encSp).length (byt (X1 ++ (c.sp.take (k + 1)).flatMap encSp)) ∧ Below W.heap.size W w3) := ⟨own_baseW ho3 (by show _ ≤ bsW _ _ (1 + 1); rw [bsW_next]; exact Nat.le_trans HO.out.2.size HW2.out.size), HO.out.2.trans ((HW2.out.trans (hb3.mono HW2.out.size)).mono HO.out.2.size)⟩
      clear ho3 hb3 HO HNX HTX HW2 hc1 hc2 hg
      go_wp2_with fail
      go_roundw
      case rel => exact ⟨k + 1, by omega, by go_num, HO3⟩
      case measure => simp [intOf]; omega
    · obtain rfl : k = c.sp.length := by omega
      have hd : decide ((c.sp.length : Int) < (c.sp.length : Int)) = false := by simp
      have hh := HO.out
      rw [flat_all] at hh
      obtain ⟨X2, hX2⟩ : ∃ X, X1 ++ c.sp.flatMap encSp = X := ⟨_, rfl⟩
      rw [hX2] at hh
      have HX2 := Lib.hid hX2
      have hl2 := HL1'.out
      rw [hX2] at hl2
      have HH := Lib.hid hh
      have kA := block_cells (below_block hh.2 (block_lt HA.out) HA.out)
      have hAk : A < wk.heap.size := Nat.lt_of_lt_of_le (block_lt HA.out) hh.2.size
      have hAn : A ≠ wk.heap.size := by omega
      have hW1 : Below wk.heap.size wk (wk.alloc (.cells #[.int .i64 c.wr.length] 3)) := (Below.refl _ _).alloc (Nat.le_refl _) _
      have HN2 := Lib.hid (ints_one W.heap.size _ X2 (c.wr.length : Int) 1 wk.heap.size 0 (wk.alloc (.cells #[.int .i64 c.wr.length] 3)) (own_less hh.1 hW1) (Nat.le_trans hh.2.size hW1.size) (by simp) (by rw [block_cells (heap_last wk _)]; rfl) ⟨by omega, by omega⟩ (by omega))
      have HW1 := Lib.hid hW1
      clear hh hX2 hl2 HO hW1
      go_wp2_with fail
      refine HN2.out.mono ?_; rintro e w20 ⟨v20, rfl, ho20, hb20⟩
      obtain ⟨X3, hX3⟩ : ∃ X, X2 ++ encN c.wr.length = X := ⟨_, rfl⟩
      rw [hX3] at ho20
      have HX3 : Hid (encHd c ++ encN c.sp.length ++ c.sp.flatMap encSp ++ encN c.wr.length = X3) := by show _ = _; rw [HX1.out, HX2.out, hX3]
      have HL3 : Hid (((X3 ++ c.wr.flatMap encWr).length : Int) ≤ 140737488300000) := by show _ ≤ _; rw [← HX3.out]; exact HL2.out
      have hB20 : Below W.heap.size W w20 := HH.out.2.trans ((HW1.out.trans (hb20.mono HW1.out.size)).mono HH.out.2.size)
      have HO : Hid (w20.ownsRow W.heap.size 5 1 v20 (X3 ++ (c.wr.take 0).flatMap encWr).length (byt (X3 ++ (c.wr.take 0).flatMap encWr)) ∧ Below W.heap.size W w20) := by show _ ∧ _; simp only [List.take_zero, List.flatMap_nil, List.append_nil]; exact ⟨own_baseW ho20 (Nat.le_trans HH.out.2.size HW1.out.size), hB20⟩
      have kA := block_cells (below_block hB20 (block_lt HA.out) HA.out)
      clear ho20 hX3 hb20 HN2 HH HL1' HX2 HX1 HL2 HW1 hAn hAk hB20
      go_wp2_with fail
      clear kA
      clear_value *
      go_loopw [3, 63] (fun u i wr => ∃ k : Nat, k ≤ c.wr.length ∧ i = .int .i64 k ∧ Hid (wr.ownsRow W.heap.size 5 1 u (X3 ++ (c.wr.take k).flatMap encWr).length (byt (X3 ++ (c.wr.take k).flatMap encWr)) ∧ Below W.heap.size W wr)) (fun _ i _ => c.wr.length - (intOf i).toNat)
      case atStart => exact ⟨0, Nat.zero_le _, rfl, HO⟩
      case round =>
        clear HO
        obtain ⟨k, hk, rfl, HO⟩ := hrel
        obtain ⟨wk, rfl⟩ : ∃ wk : World, wk = wr := ⟨_, rfl⟩
        by_cases hlt : k < c.wr.length
        · have hd : decide ((k : Int) < (c.wr.length : Int)) = true := by simp; omega
          obtain ⟨g, o, hpe, hg, hc1, hc2, hc3⟩ := (HWR.out.keep (HB1.out.trans (HO.out.2.mono HB1.out.size)) (Nat.le_refl _)) k hlt
          obtain ⟨x, hx⟩ : ∃ x, c.wr[k] = x := ⟨_, rfl⟩
          rw [hx] at hc1 hc2 hc3
          subst hpe
          have hfl : (X3 ++ (c.wr.take k).flatMap encWr).length + (encWr x).length ≤ (X3 ++ c.wr.flatMap encWr).length := by
            rw [List.length_append, List.length_append]; have := flat_le (f := encWr) c.wr (k + 1); rw [flat_next hlt, hx, List.length_append] at this; omega
          have hes : (encWr x).length = (encT x.k).length + 1 + (encT x.d).length := by unfold encWr encF; simp only [List.length_append, List.length_cons, List.length_nil]
          have et1 : (encT x.k).length = (varN x.k.size).length + x.k.size := by unfold encT; rw [List.length_append, txW_len]
          have et2 : (encT x.d).length = (varN x.d.size).length + x.d.size := by unfold encT; rw [List.length_append, txW_len]
          have hbb := HL3.out
          have hsk : (x.k.size : Int) ≤ 140737488300000 := by omega
          have hsd : (x.d.size : Int) ≤ 140737488300000 := by omega
          have hb1 : ((X3 ++ (c.wr.take k).flatMap encWr ++ encT x.k).length : Int) ≤ 140737488300000 := by rw [List.length_append (bs := encT x.k)]; omega
          have hb3 : ((X3 ++ (c.wr.take k).flatMap encWr ++ encT x.k ++ encF x.r ++ encT x.d).length : Int) ≤ 140737488300000 := by
            have : (encF x.r).length = 1 := rfl
            rw [List.length_append (bs := encT x.d), List.length_append (bs := encF x.r), List.length_append (bs := encT x.k)]; omega
          have HFL := Lib.hid (And.intro hb1 hb3)
          have HNX : Hid (X3 ++ (c.wr.take k).flatMap encWr ++ encT x.k ++ encF x.r ++ encT x.d = X3 ++ (c.wr.take (k + 1)).flatMap encWr) := by show _ = _; rw [flat_next hlt, hx]; simp [encWr]
          clear hx hfl hes et1 et2 hbb hb1 hb3
          obtain ⟨vk, rfl⟩ : ∃ vk : Value, vk = u3 := ⟨_, rfl⟩
          go_upto_region 13 with fail
          obtain ⟨WB, hWB⟩ : ∃ x', wk.alloc (.cells #[.string x.k, .bool x.r, .string x.d] 67) = x' := ⟨_, rfl⟩
          have hBX : WB.heap[wk.heap.size]? = some (.cells #[.string x.k, .bool x.r, .string x.d] 67 (0, 0)) := by rw [← hWB]; exact heap_last wk _
          have HWB : Hid (Below wk.heap.size wk WB) := by show Below _ _ _; rw [← hWB]; exact (Below.refl _ _).alloc (Nat.le_refl _) _
          rw [hWB]
          obtain ⟨Bx, eBx⟩ : ∃ n, wk.heap.size = n := ⟨_, rfl⟩
          rw [eBx] at hBX ⊢
          have HBX := Lib.hid hBX
          clear hWB hBX eBx hc1 hc2 hc3 hg
          have kB : ∀ w', Below WB.heap.size WB w' → ∀ j, w'.cell? ⟨Bx, j, none⟩ = #[.string x.k, .bool x.r, .string x.d][j]? := fun w' h => block_cells (below_block h (block_lt HBX.out) HBX.out)
          apply cutT5 (R := fun v w' => Below WB.heap.size WB w' ∧ w'.ownsRow WB.heap.size 5 1 v (X3 ++ (c.wr.take k).flatMap encWr ++ encT x.k ++ encF x.r ++ encT x.d).length (byt (X3 ++ (c.wr.take k).flatMap encWr ++ encT x.k ++ encF x.r ++ encT x.d)))
          · intro hcut
            have h0 : Below WB.heap.size WB WB.drew := (Below.refl _ _).drew
            have ho0 := own_less HO.out.1 (HWB.out.trans (h0.mono HWB.out.size))
            have hz0 : W.heap.size ≤ WB.drew.heap.size := Nat.le_trans HO.out.2.size HWB.out.size
            refine wp_region_noPanic ?_
            refine wp_region_held_drew (S := fun w' => Below WB.heap.size WB w') (by kernel_rfl) h0 (fun hHeld => ?_)
            obtain ⟨wd, ewd⟩ : ∃ x, WB.drew = x := ⟨_, rfl⟩
            rw [ewd] at h0 ho0 hz0 hHeld ⊢
            clear ewd
            refine wpAnyH_take (i := 0) (v := ?_) rfl (by kernel_rfl) (by kernel_rfl) (by kernel_rfl) (fun _ _ _ h => h) (Or.inl ⟨by rfl, ?_⟩) hHeld ?_
            rotate_left
            · (intro wz hSw; (try dsimp only at hSw); (try simp only [List.getElem_toArray, List.getElem_cons_zero]); go_simp; try with_reducible rfl)
            try simp only [List.getElem_toArray, List.getElem_cons_zero, Act.put, List.setIfInBounds_toArray, List.set_cons_zero, List.set_cons_succ]
            refine wpAnyH_take (i := 1) (v := ?_) rfl (by kernel_rfl) (by kernel_rfl) (by kernel_rfl) (fun _ _ _ h => h) (Or.inl ⟨by rfl, ?_⟩) hHeld ?_
            rotate_left
            · (intro wz hSw; (try dsimp only at hSw); (try simp only [List.getElem_toArray, List.getElem_cons_succ, List.getElem_cons_zero]); go_simp; try with_reducible rfl)
            try simp only [List.getElem_toArray, List.getElem_cons_succ, List.getElem_cons_zero, Act.put, List.setIfInBounds_toArray, List.set_cons_zero, List.set_cons_succ]
            refine wpAnyH_take (i := 2) (v := ?_) rfl (by kernel_rfl) (by kernel_rfl) (by kernel_rfl) (fun _ _ _ h => h) (Or.inl ⟨by rfl, ?_⟩) hHeld ?_
            rotate_left
            · (intro wz hSw; (try dsimp only at hSw); (try simp only [List.getElem_toArray, List.getElem_cons_succ, List.getElem_cons_zero]); go_simp; try with_reducible rfl)
            try simp only [List.getElem_toArray, List.getElem_cons_succ, List.getElem_cons_zero, Act.put, List.setIfInBounds_toArray, List.set_cons_zero, List.set_cons_succ]
            refine wpAnyH_take (i := 5) (v := ?_) rfl (by kernel_rfl) (by kernel_rfl) (by kernel_rfl) (fun _ _ _ h => h) (Or.inl ⟨by rfl, ?_⟩) hHeld ?_
            rotate_left
            · (intro wz hSw; (try dsimp only at hSw); (try simp only [List.getElem_toArray, List.getElem_cons_succ, List.getElem_cons_zero]); go_simp; try with_reducible rfl)
            try simp only [List.getElem_toArray, List.getElem_cons_succ, List.getElem_cons_zero, Act.put, List.setIfInBounds_toArray, List.set_cons_zero, List.set_cons_succ]
            refine wpAnyH_take (i := 6) (v := ?_) rfl (by kernel_rfl) (by kernel_rfl) (by kernel_rfl) (fun _ _ _ h => h) (Or.inl ⟨by rfl, ?_⟩) hHeld ?_
            rotate_left
            · (intro wz hSw; (try dsimp only at hSw); (try simp only [List.getElem_toArray, List.getElem_cons_succ, List.getElem_cons_zero]); go_simp; try with_reducible rfl)
            try simp only [List.getElem_toArray, List.getElem_cons_succ, List.getElem_cons_zero, Act.put, List.setIfInBounds_toArray, List.set_cons_zero, List.set_cons_succ]
            refine wpAnyH_take (i := 8) (v := ?_) rfl (by kernel_rfl) (by kernel_rfl) (by kernel_rfl) (fun _ _ _ h => h) (Or.inl ⟨by rfl, ?_⟩) hHeld ?_
            rotate_left
            · (intro wz hSw; (try dsimp only at hSw); (try simp only [List.getElem_toArray, List.getElem_cons_succ, List.getElem_cons_zero]); go_simp; try with_reducible rfl)
            try simp only [List.getElem_toArray, List.getElem_cons_succ, List.getElem_cons_zero, Act.put, List.setIfInBounds_toArray, List.set_cons_zero, List.set_cons_succ]
            refine wpAnyH_take (i := 9) (v := ?_) rfl (by kernel_rfl) (by kernel_rfl) (by kernel_rfl) (fun _ _ _ h => h) (Or.inl ⟨by rfl, ?_⟩) hHeld ?_
            rotate_left
            · (intro wz hSw; (try dsimp only at hSw); (try simp only [List.getElem_toArray, List.getElem_cons_succ, List.getElem_cons_zero]); go_simp; try with_reducible rfl)
            try simp only [List.getElem_toArray, List.getElem_cons_succ, List.getElem_cons_zero, Act.put, List.setIfInBounds_toArray, List.set_cons_zero, List.set_cons_succ]
            refine wpAnyH_ready (rs := [3, 10]) (by kernel_rfl) (by simp) ?_
            refine AllReadyH.cons rfl (fun K hK => ?_) (AllReadyH.cons rfl (fun K hK => ?_) AllReadyH.nil)
            · skip
              try simp only [List.getElem_toArray, List.getElem_cons_succ, List.getElem_cons_zero]
              go_simp
              obtain ⟨wb1, hw1⟩ : ∃ wb : World, wd.alloc (.cells #[.string x.k] 9) = wb := ⟨_, rfl⟩
              have hS1 : Below WB.heap.size WB wb1 := by rw [← hw1]; exact h0.alloc h0.size _
              have hb1 : Below wd.heap.size wd wb1 := by rw [← hw1]; exact (Below.refl _ _).alloc (Nat.le_refl _) _
              have hc1 : wb1.cell? ⟨wd.heap.size, 0, none⟩ = some (.string x.k) := by rw [← hw1, block_cells (heap_last wd _)]; rfl
              have hg1 : wd.heap.size < wb1.heap.size := by rw [← hw1]; simp
              have hn1 : vk.ownBlock ≠ some wd.heap.size := fun e => by have := (ho0.lt _ e).2; omega
              have ho1 := own_less ho0 hb1
              have hz1 := Nat.le_trans hz0 hb1.size
              obtain ⟨gb3, eg1⟩ : ∃ n, wd.heap.size = n := ⟨_, rfl⟩
              rw [hw1]
              try rw [eg1]
              rw [eg1] at hc1 hg1 hn1
              skip
              refine hK.out _ _ hS1 (fun _ => ?_)
              clear hK K hHeld hw1
              try simp only [List.getElem_toArray, List.getElem_cons_succ, List.getElem_cons_zero, Act.put, List.setIfInBounds_toArray, List.set_cons_zero, List.set_cons_succ]
              have hHeld := hS1
              refine wpAnyH_ready (rs := [4, 10]) (by kernel_rfl) (by simp) ?_
              refine AllReadyH.cons rfl (fun K hK => ?_) (AllReadyH.cons rfl (fun K hK => ?_) AllReadyH.nil)
              · skip
                try simp only [List.getElem_toArray, List.getElem_cons_succ, List.getElem_cons_zero]
                go_simp
                refine (text_one _ vk _ x.k 1 _ 0 _ ho1 hz1 hg1 hc1 (by have := HFL.out.1; omega) hsk).mono ?_; rintro r wc2 ⟨vc4, rfl, ho2, hb2⟩
                have hS2 := hS1.trans (hb2.mono hS1.size)
                have hz2 := hb2.size
                have hc2x3 := (hb2.cell (p := ⟨gb3, 0, none⟩) hg1).trans hc1
                have hg2x3 := Nat.lt_of_lt_of_le hg1 hb2.size
                have hn2x3 : vc4.ownBlock ≠ some gb3 := fun e => by have := (ho2.lt _ e).1; omega
                refine hK.out _ _ hS2 (fun _ => ?_)
                clear hK K hHeld
                try simp only [List.getElem_toArray, List.getElem_cons_succ, List.getElem_cons_zero, Act.put, List.setIfInBounds_toArray, List.set_cons_zero, List.set_cons_succ]
                have hHeld := hS2
                refine wpAnyH_ready (rs := [7, 10]) (by kernel_rfl) (by simp) ?_
                refine AllReadyH.cons rfl (fun K hK => ?_) (AllReadyH.cons rfl (fun K hK => ?_) AllReadyH.nil)
                · skip
                  try simp only [List.getElem_toArray, List.getElem_cons_succ, List.getElem_cons_zero]
                  go_simp
                  refine (flag_any _ vc4 _ x.r _ ho2 hz2 (by have := HFL.out.1; omega)).mono ?_; rintro r wc3 ⟨vc7, rfl, ho3, hb3⟩
                  have hS3 := below_gr hS2 hS2.size ho2 hS1.size hb3
                  have hz3 := Nat.le_trans hz2 hb3.size
                  have hc3x3 := (World.cell?_of_block (a := ⟨gb3, 0, none⟩) (hb3.block gb3 hg2x3 (fun e => hn2x3 e.symm))).trans hc2x3
                  have hg3x3 := Nat.lt_of_lt_of_le hg2x3 hb3.size
                  refine hK.out _ _ hS3 (fun _ => ?_)
                  clear hK K hHeld
                  try simp only [List.getElem_toArray, List.getElem_cons_succ, List.getElem_cons_zero, Act.put, List.setIfInBounds_toArray, List.set_cons_zero, List.set_cons_succ]
                  have hHeld := hS3
                  refine wpAnyH_ready (rs := [10]) (by kernel_rfl) (by simp) ?_
                  refine AllReadyH.cons rfl (fun K hK => ?_) AllReadyH.nil
                  try simp only [List.getElem_toArray, List.getElem_cons_succ, List.getElem_cons_zero]
                  go_simp
                  obtain ⟨wb4, hw4⟩ : ∃ wb : World, wc3.alloc (.cells #[.string x.d] 9) = wb := ⟨_, rfl⟩
                  have hS4 : Below WB.heap.size WB wb4 := by rw [← hw4]; exact hS3.alloc hS3.size _
                  have hb4 : Below wc3.heap.size wc3 wb4 := by rw [← hw4]; exact (Below.refl _ _).alloc (Nat.le_refl _) _
                  have hc4 : wb4.cell? ⟨wc3.heap.size, 0, none⟩ = some (.string x.d) := by rw [← hw4, block_cells (heap_last wc3 _)]; rfl
                  have hg4 : wc3.heap.size < wb4.heap.size := by rw [← hw4]; simp
                  have hn4 : vc7.ownBlock ≠ some wc3.heap.size := fun e => by have := (ho3.lt _ e).2; omega
                  have ho4 := own_less ho3 hb4
                  have hz4 := Nat.le_trans hz3 hb4.size
                  obtain ⟨gb10, eg4⟩ : ∃ n, wc3.heap.size = n := ⟨_, rfl⟩
                  rw [hw4]
                  try rw [eg4]
                  rw [eg4] at hc4 hg4 hn4
                  skip
                  have hc4x3 := (hb4.cell (p := ⟨gb3, 0, none⟩) hg3x3).trans hc3x3
                  have hg4x3 := Nat.lt_of_lt_of_le hg3x3 hb4.size
                  refine hK.out _ _ hS4 (fun _ => ?_)
                  clear hK K hHeld hw4
                  try simp only [List.getElem_toArray, List.getElem_cons_succ, List.getElem_cons_zero, Act.put, List.setIfInBounds_toArray, List.set_cons_zero, List.set_cons_succ]
                  have hHeld := hS4
                  refine wpAnyH_ready (rs := [11]) (by kernel_rfl) (by simp) ?_
                  refine AllReadyH.cons rfl (fun K hK => ?_) AllReadyH.nil
                  try simp only [List.getElem_toArray, List.getElem_cons_succ, List.getElem_cons_zero]
                  go_simp
                  refine (text_one _ vc7 _ x.d 1 _ 0 _ ho4 hz4 hg4 hc4 (by have := HFL.out.2; omega) hsd).mono ?_; rintro r wc5 ⟨vc11, rfl, ho5, hb5⟩
                  have hS5 := hS4.trans (hb5.mono hS4.size)
                  have hz5 := hb5.size
                  have hc5x3 := (hb5.cell (p := ⟨gb3, 0, none⟩) hg4x3).trans hc4x3
                  have hg5x3 := Nat.lt_of_lt_of_le hg4x3 hb5.size
                  have hn5x3 : vc11.ownBlock ≠ some gb3 := fun e => by have := (ho5.lt _ e).1; omega
                  have hc5x10 := (hb5.cell (p := ⟨gb10, 0, none⟩) hg4).trans hc4
                  have hg5x10 := Nat.lt_of_lt_of_le hg4 hb5.size
                  have hn5x10 : vc11.ownBlock ≠ some gb10 := fun e => by have := (ho5.lt _ e).1; omega
                  refine hK.out _ _ hS5 (fun _ => ?_)
                  clear hK K hHeld
                  try simp only [List.getElem_toArray, List.getElem_cons_succ, List.getElem_cons_zero, Act.put, List.setIfInBounds_toArray, List.set_cons_zero, List.set_cons_succ]
                  have hHeld := hS5
                  refine wpAnyH_take (i := 12) (v := ?_) rfl (by kernel_rfl) (by kernel_rfl) (by kernel_rfl) (fun _ _ _ h => h) (Or.inl ⟨by rfl, ?_⟩) hHeld ?_
                  rotate_left
                  · (intro wz hSw; (try dsimp only at hSw); (try simp only [List.getElem_toArray, List.getElem_cons_succ, List.getElem_cons_zero]); go_simp; try with_reducible rfl)
                  try simp only [List.getElem_toArray, List.getElem_cons_succ, List.getElem_cons_zero, Act.put, List.setIfInBounds_toArray, List.set_cons_zero, List.set_cons_succ]
                  refine wpAnyH_done (by kernel_rfl) ?_ _
                  refine NoPanic.normal ?_
                  exact hcut vc4 vc7 gb3 gb10 vc11 wc5 ⟨hS5, own_baseW ho5 hS4.size⟩
                · skip
                  try simp only [List.getElem_toArray, List.getElem_cons_succ, List.getElem_cons_zero]
                  go_simp
                  obtain ⟨wb6, hw6⟩ : ∃ wb : World, wc2.alloc (.cells #[.string x.d] 9) = wb := ⟨_, rfl⟩
                  have hS6 : Below WB.heap.size WB wb6 := by rw [← hw6]; exact hS2.alloc hS2.size _
                  have hb6 : Below wc2.heap.size wc2 wb6 := by rw [← hw6]; exact (Below.refl _ _).alloc (Nat.le_refl _) _
                  have hc6 : wb6.cell? ⟨wc2.heap.size, 0, none⟩ = some (.string x.d) := by rw [← hw6, block_cells (heap_last wc2 _)]; rfl
                  have hg6 : wc2.heap.size < wb6.heap.size := by rw [← hw6]; simp
                  have hn6 : vc4.ownBlock ≠ some wc2.heap.size := fun e => by have := (ho2.lt _ e).2; omega
                  have ho6 := own_less ho2 hb6
                  have hz6 := Nat.le_trans hz2 hb6.size
                  obtain ⟨gb10, eg6⟩ : ∃ n, wc2.heap.size = n := ⟨_, rfl⟩
                  rw [hw6]
                  try rw [eg6]
                  rw [eg6] at hc6 hg6 hn6
                  skip
                  have hc6x3 := (hb6.cell (p := ⟨gb3, 0, none⟩) hg2x3).trans hc2x3
                  have hg6x3 := Nat.lt_of_lt_of_le hg2x3 hb6.size
                  refine hK.out _ _ hS6 (fun _ => ?_)
                  clear hK K hHeld hw6
                  try simp only [List.getElem_toArray, List.getElem_cons_succ, List.getElem_cons_zero, Act.put, List.setIfInBounds_toArray, List.set_cons_zero, List.set_cons_succ]
                  have hHeld := hS6
                  refine wpAnyH_ready (rs := [7]) (by kernel_rfl) (by simp) ?_
                  refine AllReadyH.cons rfl (fun K hK => ?_) AllReadyH.nil
                  try simp only [List.getElem_toArray, List.getElem_cons_succ, List.getElem_cons_zero]
                  go_simp
                  refine (flag_any _ vc4 _ x.r _ ho6 hz6 (by have := HFL.out.1; omega)).mono ?_; rintro r wc7 ⟨vc7, rfl, ho7, hb7⟩
                  have hS7 := below_gr hS6 hS6.size ho6 hS1.size hb7
                  have hz7 := Nat.le_trans hz6 hb7.size
                  have hc7x3 := (World.cell?_of_block (a := ⟨gb3, 0, none⟩) (hb7.block gb3 hg6x3 (fun e => hn2x3 e.symm))).trans hc6x3
                  have hg7x3 := Nat.lt_of_lt_of_le hg6x3 hb7.size
                  have hc7x10 := (World.cell?_of_block (a := ⟨gb10, 0, none⟩) (hb7.block gb10 hg6 (fun e => hn6 e.symm))).trans hc6
                  have hg7x10 := Nat.lt_of_lt_of_le hg6 hb7.size
                  refine hK.out _ _ hS7 (fun _ => ?_)
                  clear hK K hHeld
                  try simp only [List.getElem_toArray, List.getElem_cons_succ, List.getElem_cons_zero, Act.put, List.setIfInBounds_toArray, List.set_cons_zero, List.set_cons_succ]
                  have hHeld := hS7
                  refine wpAnyH_ready (rs := [11]) (by kernel_rfl) (by simp) ?_
                  refine AllReadyH.cons rfl (fun K hK => ?_) AllReadyH.nil
                  try simp only [List.getElem_toArray, List.getElem_cons_succ, List.getElem_cons_zero]
                  go_simp
                  refine (text_one _ vc7 _ x.d 1 _ 0 _ ho7 hz7 hg7x10 hc7x10 (by have := HFL.out.2; omega) hsd).mono ?_; rintro r wc8 ⟨vc11, rfl, ho8, hb8⟩
                  have hS8 := hS7.trans (hb8.mono hS7.size)
                  have hz8 := hb8.size
                  have hc8x3 := (hb8.cell (p := ⟨gb3, 0, none⟩) hg7x3).trans hc7x3
                  have hg8x3 := Nat.lt_of_lt_of_le hg7x3 hb8.size
                  have hn8x3 : vc11.ownBlock ≠ some gb3 := fun e => by have := (ho8.lt _ e).1; omega
                  have hc8x10 := (hb8.cell (p := ⟨gb10, 0, none⟩) hg7x10).trans hc7x10
                  have hg8x10 := Nat.lt_of_lt_of_le hg7x10 hb8.size
                  have hn8x10 : vc11.ownBlock ≠ some gb10 := fun e => by have := (ho8.lt _ e).1; omega
                  refine hK.out _ _ hS8 (fun _ => ?_)
                  clear hK K hHeld
                  try simp only [List.getElem_toArray, List.getElem_cons_succ, List.getElem_cons_zero, Act.put, List.setIfInBounds_toArray, List.set_cons_zero, List.set_cons_succ]
                  have hHeld := hS8
                  refine wpAnyH_take (i := 12) (v := ?_) rfl (by kernel_rfl) (by kernel_rfl) (by kernel_rfl) (fun _ _ _ h => h) (Or.inl ⟨by rfl, ?_⟩) hHeld ?_
                  rotate_left
                  · (intro wz hSw; (try dsimp only at hSw); (try simp only [List.getElem_toArray, List.getElem_cons_succ, List.getElem_cons_zero]); go_simp; try with_reducible rfl)
                  try simp only [List.getElem_toArray, List.getElem_cons_succ, List.getElem_cons_zero, Act.put, List.setIfInBounds_toArray, List.set_cons_zero, List.set_cons_succ]
                  refine wpAnyH_done (by kernel_rfl) ?_ _
                  refine NoPanic.normal ?_
                  exact hcut vc4 vc7 gb3 gb10 vc11 wc8 ⟨hS8, own_baseW ho8 hS7.size⟩
              · skip
                try simp only [List.getElem_toArray, List.getElem_cons_succ, List.getElem_cons_zero]
                go_simp
                obtain ⟨wb9, hw9⟩ : ∃ wb : World, wb1.alloc (.cells #[.string x.d] 9) = wb := ⟨_, rfl⟩
                have hS9 : Below WB.heap.size WB wb9 := by rw [← hw9]; exact hS1.alloc hS1.size _
                have hb9 : Below wb1.heap.size wb1 wb9 := by rw [← hw9]; exact (Below.refl _ _).alloc (Nat.le_refl _) _
                have hc9 : wb9.cell? ⟨wb1.heap.size, 0, none⟩ = some (.string x.d) := by rw [← hw9, block_cells (heap_last wb1 _)]; rfl
                have hg9 : wb1.heap.size < wb9.heap.size := by rw [← hw9]; simp
                have hn9 : vk.ownBlock ≠ some wb1.heap.size := fun e => by have := (ho1.lt _ e).2; omega
                have ho9 := own_less ho1 hb9
                have hz9 := Nat.le_trans hz1 hb9.size
                obtain ⟨gb10, eg9⟩ : ∃ n, wb1.heap.size = n := ⟨_, rfl⟩
                rw [hw9]
                try rw [eg9]
                rw [eg9] at hc9 hg9 hn9
                skip
                have hc9x3 := (hb9.cell (p := ⟨gb3, 0, none⟩) hg1).trans hc1
                have hg9x3 := Nat.lt_of_lt_of_le hg1 hb9.size
                refine hK.out _ _ hS9 (fun _ => ?_)
                clear hK K hHeld hw9
                try simp only [List.getElem_toArray, List.getElem_cons_succ, List.getElem_cons_zero, Act.put, List.setIfInBounds_toArray, List.set_cons_zero, List.set_cons_succ]
                have hHeld := hS9
                refine wpAnyH_ready (rs := [4]) (by kernel_rfl) (by simp) ?_
                refine AllReadyH.cons rfl (fun K hK => ?_) AllReadyH.nil
                try simp only [List.getElem_toArray, List.getElem_cons_succ, List.getElem_cons_zero]
                go_simp
                refine (text_one _ vk _ x.k 1 _ 0 _ ho9 hz9 hg9x3 hc9x3 (by have := HFL.out.1; omega) hsk).mono ?_; rintro r wc10 ⟨vc4, rfl, ho10, hb10⟩
                have hS10 := hS9.trans (hb10.mono hS9.size)
                have hz10 := hb10.size
                have hc10x3 := (hb10.cell (p := ⟨gb3, 0, none⟩) hg9x3).trans hc9x3
                have hg10x3 := Nat.lt_of_lt_of_le hg9x3 hb10.size
                have hn10x3 : vc4.ownBlock ≠ some gb3 := fun e => by have := (ho10.lt _ e).1; omega
                have hc10x10 := (hb10.cell (p := ⟨gb10, 0, none⟩) hg9).trans hc9
                have hg10x10 := Nat.lt_of_lt_of_le hg9 hb10.size
                have hn10x10 : vc4.ownBlock ≠ some gb10 := fun e => by have := (ho10.lt _ e).1; omega
                refine hK.out _ _ hS10 (fun _ => ?_)
                clear hK K hHeld
                try simp only [List.getElem_toArray, List.getElem_cons_succ, List.getElem_cons_zero, Act.put, List.setIfInBounds_toArray, List.set_cons_zero, List.set_cons_succ]
                have hHeld := hS10
                refine wpAnyH_ready (rs := [7]) (by kernel_rfl) (by simp) ?_
                refine AllReadyH.cons rfl (fun K hK => ?_) AllReadyH.nil
                try simp only [List.getElem_toArray, List.getElem_cons_succ, List.getElem_cons_zero]
                go_simp
                refine (flag_any _ vc4 _ x.r _ ho10 hz10 (by have := HFL.out.1; omega)).mono ?_; rintro r wc11 ⟨vc7, rfl, ho11, hb11⟩
                have hS11 := below_gr hS10 hS10.size ho10 hS9.size hb11
                have hz11 := Nat.le_trans hz10 hb11.size
                have hc11x3 := (World.cell?_of_block (a := ⟨gb3, 0, none⟩) (hb11.block gb3 hg10x3 (fun e => hn10x3 e.symm))).trans hc10x3
                have hg11x3 := Nat.lt_of_lt_of_le hg10x3 hb11.size
                have hc11x10 := (World.cell?_of_block (a := ⟨gb10, 0, none⟩) (hb11.block gb10 hg10x10 (fun e => hn10x10 e.symm))).trans hc10x10
                have hg11x10 := Nat.lt_of_lt_of_le hg10x10 hb11.size
                refine hK.out _ _ hS11 (fun _ => ?_)
                clear hK K hHeld
                try simp only [List.getElem_toArray, List.getElem_cons_succ, List.getElem_cons_zero, Act.put, List.setIfInBounds_toArray, List.set_cons_zero, List.set_cons_succ]
                have hHeld := hS11
                refine wpAnyH_ready (rs := [11]) (by kernel_rfl) (by simp) ?_
                refine AllReadyH.cons rfl (fun K hK => ?_) AllReadyH.nil
                try simp only [List.getElem_toArray, List.getElem_cons_succ, List.getElem_cons_zero]
                go_simp
                refine (text_one _ vc7 _ x.d 1 _ 0 _ ho11 hz11 hg11x10 hc11x10 (by have := HFL.out.2; omega) hsd).mono ?_; rintro r wc12 ⟨vc11, rfl, ho12, hb12⟩
                have hS12 := hS11.trans (hb12.mono hS11.size)
                have hz12 := hb12.size
                have hc12x3 := (hb12.cell (p := ⟨gb3, 0, none⟩) hg11x3).trans hc11x3
                have hg12x3 := Nat.lt_of_lt_of_le hg11x3 hb12.size
                have hn12x3 : vc11.ownBlock ≠ some gb3 := fun e => by have := (ho12.lt _ e).1; omega
                have hc12x10 := (hb12.cell (p := ⟨gb10, 0, none⟩) hg11x10).trans hc11x10
                have hg12x10 := Nat.lt_of_lt_of_le hg11x10 hb12.size
                have hn12x10 : vc11.ownBlock ≠ some gb10 := fun e => by have := (ho12.lt _ e).1; omega
                refine hK.out _ _ hS12 (fun _ => ?_)
                clear hK K hHeld
                try simp only [List.getElem_toArray, List.getElem_cons_succ, List.getElem_cons_zero, Act.put, List.setIfInBounds_toArray, List.set_cons_zero, List.set_cons_succ]
                have hHeld := hS12
                refine wpAnyH_take (i := 12) (v := ?_) rfl (by kernel_rfl) (by kernel_rfl) (by kernel_rfl) (fun _ _ _ h => h) (Or.inl ⟨by rfl, ?_⟩) hHeld ?_
                rotate_left
                · (intro wz hSw; (try dsimp only at hSw); (try simp only [List.getElem_toArray, List.getElem_cons_succ, List.getElem_cons_zero]); go_simp; try with_reducible rfl)
                try simp only [List.getElem_toArray, List.getElem_cons_succ, List.getElem_cons_zero, Act.put, List.setIfInBounds_toArray, List.set_cons_zero, List.set_cons_succ]
                refine wpAnyH_done (by kernel_rfl) ?_ _
                refine NoPanic.normal ?_
                exact hcut vc4 vc7 gb3 gb10 vc11 wc12 ⟨hS12, own_baseW ho12 hS11.size⟩
            · skip
              try simp only [List.getElem_toArray, List.getElem_cons_succ, List.getElem_cons_zero]
              go_simp
              obtain ⟨wb13, hw13⟩ : ∃ wb : World, wd.alloc (.cells #[.string x.d] 9) = wb := ⟨_, rfl⟩
              have hS13 : Below WB.heap.size WB wb13 := by rw [← hw13]; exact h0.alloc h0.size _
              have hb13 : Below wd.heap.size wd wb13 := by rw [← hw13]; exact (Below.refl _ _).alloc (Nat.le_refl _) _
              have hc13 : wb13.cell? ⟨wd.heap.size, 0, none⟩ = some (.string x.d) := by rw [← hw13, block_cells (heap_last wd _)]; rfl
              have hg13 : wd.heap.size < wb13.heap.size := by rw [← hw13]; simp
              have hn13 : vk.ownBlock ≠ some wd.heap.size := fun e => by have := (ho0.lt _ e).2; omega
              have ho13 := own_less ho0 hb13
              have hz13 := Nat.le_trans hz0 hb13.size
              obtain ⟨gb10, eg13⟩ : ∃ n, wd.heap.size = n := ⟨_, rfl⟩
              rw [hw13]
              try rw [eg13]
              rw [eg13] at hc13 hg13 hn13
              skip
              refine hK.out _ _ hS13 (fun _ => ?_)
              clear hK K hHeld hw13
              try simp only [List.getElem_toArray, List.getElem_cons_succ, List.getElem_cons_zero, Act.put, List.setIfInBounds_toArray, List.set_cons_zero, List.set_cons_succ]
              have hHeld := hS13
              refine wpAnyH_ready (rs := [3]) (by kernel_rfl) (by simp) ?_
              refine AllReadyH.cons rfl (fun K hK => ?_) AllReadyH.nil
              try simp only [List.getElem_toArray, List.getElem_cons_succ, List.getElem_cons_zero]
              go_simp
              obtain ⟨wb14, hw14⟩ : ∃ wb : World, wb13.alloc (.cells #[.string x.k] 9) = wb := ⟨_, rfl⟩
              have hS14 : Below WB.heap.size WB wb14 := by rw [← hw14]; exact hS13.alloc hS13.size _
              have hb14 : Below wb13.heap.size wb13 wb14 := by rw [← hw14]; exact (Below.refl _ _).alloc (Nat.le_refl _) _
              have hc14 : wb14.cell? ⟨wb13.heap.size, 0, none⟩ = some (.string x.k) := by rw [← hw14, block_cells (heap_last wb13 _)]; rfl
              have hg14 : wb13.heap.size < wb14.heap.size := by rw [← hw14]; simp
              have hn14 : vk.ownBlock ≠ some wb13.heap.size := fun e => by have := (ho13.lt _ e).2; omega
              have ho14 := own_less ho13 hb14
              have hz14 := Nat.le_trans hz13 hb14.size
              obtain ⟨gb3, eg14⟩ : ∃ n, wb13.heap.size = n := ⟨_, rfl⟩
              rw [hw14]
              try rw [eg14]
              rw [eg14] at hc14 hg14 hn14
              skip
              have hc14x10 := (hb14.cell (p := ⟨gb10, 0, none⟩) hg13).trans hc13
              have hg14x10 := Nat.lt_of_lt_of_le hg13 hb14.size
              refine hK.out _ _ hS14 (fun _ => ?_)
              clear hK K hHeld hw14
              try simp only [List.getElem_toArray, List.getElem_cons_succ, List.getElem_cons_zero, Act.put, List.setIfInBounds_toArray, List.set_cons_zero, List.set_cons_succ]
              have hHeld := hS14
              refine wpAnyH_ready (rs := [4]) (by kernel_rfl) (by simp) ?_
              refine AllReadyH.cons rfl (fun K hK => ?_) AllReadyH.nil
              try simp only [List.getElem_toArray, List.getElem_cons_succ, List.getElem_cons_zero]
              go_simp
              refine (text_one _ vk _ x.k 1 _ 0 _ ho14 hz14 hg14 hc14 (by have := HFL.out.1; omega) hsk).mono ?_; rintro r wc15 ⟨vc4, rfl, ho15, hb15⟩
              have hS15 := hS14.trans (hb15.mono hS14.size)
              have hz15 := hb15.size
              have hc15x10 := (hb15.cell (p := ⟨gb10, 0, none⟩) hg14x10).trans hc14x10
              have hg15x10 := Nat.lt_of_lt_of_le hg14x10 hb15.size
              have hn15x10 : vc4.ownBlock ≠ some gb10 := fun e => by have := (ho15.lt _ e).1; omega
              have hc15x3 := (hb15.cell (p := ⟨gb3, 0, none⟩) hg14).trans hc14
              have hg15x3 := Nat.lt_of_lt_of_le hg14 hb15.size
              have hn15x3 : vc4.ownBlock ≠ some gb3 := fun e => by have := (ho15.lt _ e).1; omega
              refine hK.out _ _ hS15 (fun _ => ?_)
              clear hK K hHeld
              try simp only [List.getElem_toArray, List.getElem_cons_succ, List.getElem_cons_zero, Act.put, List.setIfInBounds_toArray, List.set_cons_zero, List.set_cons_succ]
              have hHeld := hS15
              refine wpAnyH_ready (rs := [7]) (by kernel_rfl) (by simp) ?_
              refine AllReadyH.cons rfl (fun K hK => ?_) AllReadyH.nil
              try simp only [List.getElem_toArray, List.getElem_cons_succ, List.getElem_cons_zero]
              go_simp
              refine (flag_any _ vc4 _ x.r _ ho15 hz15 (by have := HFL.out.1; omega)).mono ?_; rintro r wc16 ⟨vc7, rfl, ho16, hb16⟩
              have hS16 := below_gr hS15 hS15.size ho15 hS14.size hb16
              have hz16 := Nat.le_trans hz15 hb16.size
              have hc16x10 := (World.cell?_of_block (a := ⟨gb10, 0, none⟩) (hb16.block gb10 hg15x10 (fun e => hn15x10 e.symm))).trans hc15x10
              have hg16x10 := Nat.lt_of_lt_of_le hg15x10 hb16.size
              have hc16x3 := (World.cell?_of_block (a := ⟨gb3, 0, none⟩) (hb16.block gb3 hg15x3 (fun e => hn15x3 e.symm))).trans hc15x3
              have hg16x3 := Nat.lt_of_lt_of_le hg15x3 hb16.size
              refine hK.out _ _ hS16 (fun _ => ?_)
              clear hK K hHeld
              try simp only [List.getElem_toArray, List.getElem_cons_succ, List.getElem_cons_zero, Act.put, List.setIfInBounds_toArray, List.set_cons_zero, List.set_cons_succ]
              have hHeld := hS16
              refine wpAnyH_ready (rs := [11]) (by kernel_rfl) (by simp) ?_
              refine AllReadyH.cons rfl (fun K hK => ?_) AllReadyH.nil
              try simp only [List.getElem_toArray, List.getElem_cons_succ, List.getElem_cons_zero]
              go_simp
              refine (text_one _ vc7 _ x.d 1 _ 0 _ ho16 hz16 hg16x10 hc16x10 (by have := HFL.out.2; omega) hsd).mono ?_; rintro r wc17 ⟨vc11, rfl, ho17, hb17⟩
              have hS17 := hS16.trans (hb17.mono hS16.size)
              have hz17 := hb17.size
              have hc17x10 := (hb17.cell (p := ⟨gb10, 0, none⟩) hg16x10).trans hc16x10
              have hg17x10 := Nat.lt_of_lt_of_le hg16x10 hb17.size
              have hn17x10 : vc11.ownBlock ≠ some gb10 := fun e => by have := (ho17.lt _ e).1; omega
              have hc17x3 := (hb17.cell (p := ⟨gb3, 0, none⟩) hg16x3).trans hc16x3
              have hg17x3 := Nat.lt_of_lt_of_le hg16x3 hb17.size
              have hn17x3 : vc11.ownBlock ≠ some gb3 := fun e => by have := (ho17.lt _ e).1; omega
              refine hK.out _ _ hS17 (fun _ => ?_)
              clear hK K hHeld
              try simp only [List.getElem_toArray, List.getElem_cons_succ, List.getElem_cons_zero, Act.put, List.setIfInBounds_toArray, List.set_cons_zero, List.set_cons_succ]
              have hHeld := hS17
              refine wpAnyH_take (i := 12) (v := ?_) rfl (by kernel_rfl) (by kernel_rfl) (by kernel_rfl) (fun _ _ _ h => h) (Or.inl ⟨by rfl, ?_⟩) hHeld ?_
              rotate_left
              · (intro wz hSw; (try dsimp only at hSw); (try simp only [List.getElem_toArray, List.getElem_cons_succ, List.getElem_cons_zero]); go_simp; try with_reducible rfl)
              try simp only [List.getElem_toArray, List.getElem_cons_succ, List.getElem_cons_zero, Act.put, List.setIfInBounds_toArray, List.set_cons_zero, List.set_cons_succ]
              refine wpAnyH_done (by kernel_rfl) ?_ _
              refine NoPanic.normal ?_
              exact hcut vc4 vc7 gb3 gb10 vc11 wc17 ⟨hS17, own_baseW ho17 hS16.size⟩
          intro va vb gx gy v4 w4 hR
          obtain ⟨hb4, ho4⟩ := hR
          rw [HNX.out] at ho4
          have HO4 : Hid (w4.ownsRow W.heap.size 5 1 v4 (X3 ++ (c.wr.take (k + 1)).flatMap encWr).length (byt (X3 ++ (c.wr.take (k + 1)).flatMap encWr)) ∧ Below W.heap.size W w4) := ⟨own_baseW ho4 (Nat.le_trans HO.out.2.size HWB.out.size), HO.out.2.trans ((HWB.out.trans (hb4.mono HWB.out.size)).mono HO.out.2.size)⟩
          clear ho4 hb4 kB HO HNX HFL HBX HWB
          go_wp2_with fail
          go_roundw
          case rel => exact ⟨k + 1, by omega, by go_num, HO4⟩
          case measure => simp [intOf]; omega
        · obtain rfl : k = c.wr.length := by omega
          have hd : decide ((c.wr.length : Int) < (c.wr.length : Int)) = false := by simp
          have hh := HO.out
          rw [flat_all] at hh
          have HE : Hid (X3 ++ c.wr.flatMap encWr = encCm c) := by show _ = _; rw [← HX3.out]; simp [encCm, encSps, encWrs]
          rw [HE.out] at hh
          have HH := Lib.hid hh
          clear hh HO
          go_wp2_with fail
          go_ret
          exact ⟨_, rfl, own_baseW HH.out.1 HB1.out.size, HB1.out.trans (HH.out.2.mono HB1.out.size)⟩
end Go.Proofs.Ytmhmlpfkdpjlaaa
