/- Wire: are two commands the same? The reference's. -/
import Derived.Test.YtmhmlpfkdpjlaaaWireC
import Derived.Test.YtmhmlpfkdpjlaaaWireE
import Derived.Test.YtmhmlpfkdpjlaaaKept
import Derived.Test.YtmhmlpfkdpjlaaaPlainWire
import Derived.Deep.RegionHeld3
namespace Go.Proofs.Ytmhmlpfkdpjlaaa
open Go.ChangeShapes Go.WideShapes Go.ChangeAt Go.RowKit

theorem cutF {R : World → Prop} {P : Value → Value → World → Prop} {Q : Prop} (h : (∀ a b w, R w → P a b w) → Q) (p : ∀ a b w, R w → P a b w) : Q := h p
theorem str_inj {xs ys : List Int} (hx : ∀ x ∈ xs, 0 ≤ x ∧ x ≤ 255) (hy : ∀ x ∈ ys, 0 ≤ x ∧ x ≤ 255) (h : strOfNums xs = strOfNums ys) : xs = ys := by
  have h1 : (strOfNums xs).data.toList = (strOfNums ys).data.toList := by rw [h]
  rw [strOfNums_data, strOfNums_data] at h1
  have key : ∀ {l : List Int}, (∀ x ∈ l, 0 ≤ x ∧ x ≤ 255) → (l.map fun n => UInt8.ofNat n.toNat).map (fun b => (b.toNat : Int)) = l := by
    intro l hl
    rw [List.map_map]
    conv => rhs; rw [← List.map_id l]
    refine List.map_congr_left fun x hx => ?_
    have := hl x hx
    simp only [Function.comp, id]
    rw [UInt8.toNat_ofNat']
    omega
  rw [← key hx, ← key hy, h1]
theorem encN_octW (v : Int) : ∀ x ∈ encN v, 0 ≤ x ∧ x ≤ 255 := varN_bd _
theorem octs_app {a b : List Int} (ha : ∀ x ∈ a, 0 ≤ x ∧ x ≤ 255) (hb : ∀ x ∈ b, 0 ≤ x ∧ x ≤ 255) : ∀ x ∈ a ++ b, 0 ≤ x ∧ x ≤ 255 := fun x hx => by
  rcases List.mem_append.1 hx with h | h
  · exact ha x h
  · exact hb x h
theorem octs_flat {α : Type} {f : α → List Int} {l : List α} (h : ∀ a, ∀ x ∈ f a, 0 ≤ x ∧ x ≤ 255) : ∀ x ∈ l.flatMap f, 0 ≤ x ∧ x ≤ 255 := fun x hx => by
  obtain ⟨a, -, hm⟩ := List.mem_flatMap.1 hx; exact h a x hm
theorem encT_oct (s : ByteArray) : ∀ x ∈ encT s, 0 ≤ x ∧ x ≤ 255 := octs_app (varN_bd _) (txW_oct s)
theorem encF_oct (b : Bool) : ∀ x ∈ encF b, 0 ≤ x ∧ x ≤ 255 := fun x hx => by
  unfold encF at hx; rw [List.mem_singleton] at hx; split at hx <;> omega
theorem stampB_octF (a b : Int) : ∀ x ∈ stampB a b, 0 ≤ x ∧ x ≤ 255 := fun x hx => by
  rcases List.mem_append.1 hx with h | h
  · exact bePre_bd _ _ _ x h
  · exact bePre_bd _ _ _ x h
theorem encCm_oct (c : CmX) : ∀ x ∈ encCm c, 0 ≤ x ∧ x ≤ 255 := by
  unfold encCm encHd encY encSps encWrs
  have n := encN_octW
  have one : ∀ x ∈ [(1 : Int)], 0 ≤ x ∧ x ≤ 255 := fun x hx => by rw [List.mem_singleton] at hx; omega
  exact octs_app (octs_app (octs_app (octs_app (octs_app (octs_app (octs_app (octs_app (octs_app (octs_app one (n _)) (n _)) (n _)) (n _)) (octs_app (octs_app (octs_app (n _) (n _)) (n _)) (n _))) (stampB_octF _ _)) (n _)) (encF_oct _)) (octs_app (n _) (octs_flat fun a => octs_app (encT_oct _) (encT_oct _)))) (octs_app (n _) (octs_flat fun a => octs_app (octs_app (encT_oct _) (encF_oct _)) (encT_oct _)))
/-- Not too great. -/
structure CmL (c : CmX) : Prop where
  f : CmF c
  l : ((encCm c).length : Int) ≤ 140737488300000
  s : c.sp.length ≤ 1000000
  r : c.wr.length ≤ 1000000
set_option maxRecDepth 100000 in
set_option maxHeartbeats 16000000 in
theorem rsameCmd_any (c d : CmX) (ps pw qs qw : Option Addr) (cs cw ds dw : Nat) (w : World) (F : CmL c) (G : CmL d) (hsp : SpsAt w ps c.sp) (hwr : WrsAt w pw c.wr) (hsp2 : SpsAt w qs d.sp) (hwr2 : WrsAt w qw d.wr) :
    Calls Try.prog 11 #[.agg #[.int .i64 c.k, .int .i64 c.e, .int .i64 c.n, .int .i64 c.h, .int .i64 c.yn, .int .i64 c.yl, .int .i64 c.ys, .int .i64 c.ya, .int .i64 c.sw, .int .i64 c.st, .int .i64 c.w, .bool c.yes, .slice ps c.sp.length cs, .slice pw c.wr.length cw], .agg #[.int .i64 d.k, .int .i64 d.e, .int .i64 d.n, .int .i64 d.h, .int .i64 d.yn, .int .i64 d.yl, .int .i64 d.ys, .int .i64 d.ya, .int .i64 d.sw, .int .i64 d.st, .int .i64 d.w, .bool d.yes, .slice qs d.sp.length ds, .slice qw d.wr.length dw]] w fun e w' => e = .returned (.bool (decide (c = d))) ∧ Below w.heap.size w w' := by
  have C1 : Hid (∀ w', Below w.heap.size w w' → Calls Try.prog 17 #[.agg #[.int .i64 c.k, .int .i64 c.e, .int .i64 c.n, .int .i64 c.h, .int .i64 c.yn, .int .i64 c.yl, .int .i64 c.ys, .int .i64 c.ya, .int .i64 c.sw, .int .i64 c.st, .int .i64 c.w, .bool c.yes, .slice ps c.sp.length cs, .slice pw c.wr.length cw]] w' (WEnd w'.heap.size w'.heap.size w' (encCm c))) := fun w' h => rcmd_any c ps pw cs cw w' F.f (hsp.keep h (Nat.le_refl _)) (hwr.keep h (Nat.le_refl _)) F.l F.s F.r
  have C2 : Hid (∀ w', Below w.heap.size w w' → Calls Try.prog 17 #[.agg #[.int .i64 d.k, .int .i64 d.e, .int .i64 d.n, .int .i64 d.h, .int .i64 d.yn, .int .i64 d.yl, .int .i64 d.ys, .int .i64 d.ya, .int .i64 d.sw, .int .i64 d.st, .int .i64 d.w, .bool d.yes, .slice qs d.sp.length ds, .slice qw d.wr.length dw]] w' (WEnd w'.heap.size w'.heap.size w' (encCm d))) := fun w' h => rcmd_any d qs qw ds dw w' G.f (hsp2.keep h (Nat.le_refl _)) (hwr2.keep h (Nat.le_refl _)) G.l G.s G.r
  obtain ⟨s1, hs1⟩ : ∃ s, strOfNums (encCm c) = s := ⟨_, rfl⟩
  obtain ⟨s2, hs2⟩ : ∃ s, strOfNums (encCm d) = s := ⟨_, rfl⟩
  have HE : Hid ((s1.toList == s2.toList) = decide (c = d)) := by
    show _ = _
    by_cases h : c = d
    · have : s1 = s2 := by rw [← hs1, ← hs2, h]
      rw [this, decide_eq_true h]; simp
    · rw [decide_eq_false h]
      refine bytes_neW fun e => h (encCm_inj F.f G.f (str_inj (encCm_oct c) (encCm_oct d) (by rw [hs1, hs2, e])))
  have K1 : Hid (∀ (w' : World) (v : Value), Sl w'.heap.size w' v 1 (encCm c).length (byt (encCm c)) → (convert 46 9 v).run Try.prog w' = .ok (.string s1) w') := fun w' v h => by
    have := run_convert_sl (P := Try.prog) h 46 5 Try.underlying46 Try.underlying5 9 Try.underlying9
    rw [hs1] at this; exact this
  have K2 : Hid (∀ (w' : World) (v : Value), Sl w'.heap.size w' v 1 (encCm d).length (byt (encCm d)) → (convert 46 9 v).run Try.prog w' = .ok (.string s2) w') := fun w' v h => by
    have := run_convert_sl (P := Try.prog) h 46 5 Try.underlying46 Try.underlying5 9 Try.underlying9
    rw [hs2] at this; exact this
  clear hs1 hs2 F G hsp hwr hsp2 hwr2
  go_enter Try.func11, Try.ntmps11
  go_upto_region 1 with fail
  obtain ⟨Wa, hWa⟩ : ∃ x : World, w.alloc (.cells #[.int .i64 c.k, .int .i64 c.e, .int .i64 c.n, .int .i64 c.h, .int .i64 c.yn, .int .i64 c.yl, .int .i64 c.ys, .int .i64 c.ya, .int .i64 c.sw, .int .i64 c.st, .int .i64 c.w, .bool c.yes, .slice ps c.sp.length cs, .slice pw c.wr.length cw] 29) = x := ⟨_, rfl⟩
  obtain ⟨W, hW⟩ : ∃ x : World, Wa.alloc (.cells #[.int .i64 d.k, .int .i64 d.e, .int .i64 d.n, .int .i64 d.h, .int .i64 d.yn, .int .i64 d.yl, .int .i64 d.ys, .int .i64 d.ya, .int .i64 d.sw, .int .i64 d.st, .int .i64 d.w, .bool d.yes, .slice qs d.sp.length ds, .slice qw d.wr.length dw] 29) = x := ⟨_, rfl⟩
  have sa : Wa.heap.size = w.heap.size + 1 := by rw [← hWa]; simp
  have ba : Below w.heap.size w Wa := by rw [← hWa]; exact (Below.refl _ _).alloc (Nat.le_refl _) _
  have bb : Below Wa.heap.size Wa W := by rw [← hW]; exact (Below.refl _ _).alloc (Nat.le_refl _) _
  have hA0 : Wa.heap[w.heap.size]? = some (.cells #[.int .i64 c.k, .int .i64 c.e, .int .i64 c.n, .int .i64 c.h, .int .i64 c.yn, .int .i64 c.yl, .int .i64 c.ys, .int .i64 c.ya, .int .i64 c.sw, .int .i64 c.st, .int .i64 c.w, .bool c.yes, .slice ps c.sp.length cs, .slice pw c.wr.length cw] 29 (0, 0)) := by rw [← hWa]; exact heap_last _ _
  have HA := Lib.hid (below_block bb (block_lt hA0) hA0)
  have hD : W.heap[w.heap.size + 1]? = some (.cells #[.int .i64 d.k, .int .i64 d.e, .int .i64 d.n, .int .i64 d.h, .int .i64 d.yn, .int .i64 d.yl, .int .i64 d.ys, .int .i64 d.ya, .int .i64 d.sw, .int .i64 d.st, .int .i64 d.w, .bool d.yes, .slice qs d.sp.length ds, .slice qw d.wr.length dw] 29 (0, 0)) := by rw [← hW, ← sa]; exact heap_last _ _
  have HD := Lib.hid hD
  have HB := Lib.hid (ba.trans (bb.mono (by omega)))
  rw [hWa, hW]
  obtain ⟨A, eA⟩ : ∃ n, w.heap.size = n := ⟨_, rfl⟩
  have HEA := Lib.hid eA
  rw [eA] at HA HD ⊢
  clear hWa hW sa ba bb hA0 hD eA
  have kA : ∀ w', Below W.heap.size W w' → ∀ j, w'.cell? ⟨A, j, none⟩ = #[.int .i64 c.k, .int .i64 c.e, .int .i64 c.n, .int .i64 c.h, .int .i64 c.yn, .int .i64 c.yl, .int .i64 c.ys, .int .i64 c.ya, .int .i64 c.sw, .int .i64 c.st, .int .i64 c.w, .bool c.yes, .slice ps c.sp.length cs, .slice pw c.wr.length cw][j]? := fun w' h => block_cells (below_block h (block_lt HA.out) HA.out)
  have kD : ∀ w', Below W.heap.size W w' → ∀ j, w'.cell? ⟨A + 1, j, none⟩ = #[.int .i64 d.k, .int .i64 d.e, .int .i64 d.n, .int .i64 d.h, .int .i64 d.yn, .int .i64 d.yl, .int .i64 d.ys, .int .i64 d.ya, .int .i64 d.sw, .int .i64 d.st, .int .i64 d.w, .bool d.yes, .slice qs d.sp.length ds, .slice qw d.wr.length dw][j]? := fun w' h => block_cells (below_block h (block_lt HD.out) HD.out)
  apply cutF (R := fun w' => Below W.heap.size W w')
  · intro hcut
    have h0 : Below W.heap.size W W.drew := (Below.refl _ _).drew
    refine wp_region_held_drew (S := fun w' => Below W.heap.size W w') (by kernel_rfl) h0 (fun hHeld => ?_)
    obtain ⟨wd, ewd⟩ : ∃ x, W.drew = x := ⟨_, rfl⟩
    rw [ewd] at h0 hHeld ⊢
    clear ewd
    refine wpAnyH_take (i := 0) (v := ?_) rfl (by kernel_rfl) (by kernel_rfl) (by kernel_rfl) (fun _ _ _ h => h) (Or.inl ⟨by rfl, ?_⟩) hHeld ?_
    rotate_left
    · (intro wz hSw; (try dsimp only at hSw); (try simp only [List.getElem_toArray, List.getElem_cons_zero]); go_simp; try with_reducible rfl)
    try simp only [List.getElem_toArray, List.getElem_cons_zero, Act.put, List.setIfInBounds_toArray, List.set_cons_zero, List.set_cons_succ]
    refine wpAnyH_take (i := 3) (v := ?_) rfl (by kernel_rfl) (by kernel_rfl) (by kernel_rfl) (fun _ _ _ h => h) (Or.inl ⟨by rfl, ?_⟩) hHeld ?_
    rotate_left
    · (intro wz hSw; (try dsimp only at hSw); (try simp only [List.getElem_toArray, List.getElem_cons_succ, List.getElem_cons_zero]); go_simp; try with_reducible rfl)
    try simp only [List.getElem_toArray, List.getElem_cons_succ, List.getElem_cons_zero, Act.put, List.setIfInBounds_toArray, List.set_cons_zero, List.set_cons_succ]
    refine wpAnyH_ready (rs := [1]) (by kernel_rfl) (by simp) ?_
    refine AllReadyH.cons rfl (fun K hK => ?_) AllReadyH.nil
    try simp only [List.getElem_toArray, List.getElem_cons_succ, List.getElem_cons_zero]
    go_simp
    refine (C1.out _ (HB.out.trans (h0.mono HB.out.size))).mono ?_; rintro r w1 ⟨v1, rfl, ho1, hb1⟩
    have hS1 := h0.trans (hb1.mono h0.size)
    have hs1 := Sl.of_own ho1
    refine hK.out _ _ hS1 (fun _ => ?_)
    clear hK K hHeld
    try simp only [List.getElem_toArray, List.getElem_cons_succ, List.getElem_cons_zero, Act.put, List.setIfInBounds_toArray, List.set_cons_zero, List.set_cons_succ]
    have hHeld := hS1
    refine wpAnyH_ready (rs := [2, 4]) (by kernel_rfl) (by simp) ?_
    refine AllReadyH.cons rfl (fun K hK => ?_) (AllReadyH.cons rfl (fun K hK => ?_) AllReadyH.nil)
    · skip
      try simp only [List.getElem_toArray, List.getElem_cons_succ, List.getElem_cons_zero]
      have hcv := K1.out _ _ hs1
      go_simp
      clear hcv
      refine hK.out _ _ hS1 (fun _ => ?_)
      clear hK K hHeld
      try simp only [List.getElem_toArray, List.getElem_cons_succ, List.getElem_cons_zero, Act.put, List.setIfInBounds_toArray, List.set_cons_zero, List.set_cons_succ]
      have hHeld := hS1
      refine wpAnyH_ready (rs := [4]) (by kernel_rfl) (by simp) ?_
      refine AllReadyH.cons rfl (fun K hK => ?_) AllReadyH.nil
      try simp only [List.getElem_toArray, List.getElem_cons_succ, List.getElem_cons_zero]
      go_simp
      refine (C2.out _ (HB.out.trans (hS1.mono HB.out.size))).mono ?_; rintro r w3 ⟨v4, rfl, ho3, hb3⟩
      have hS3 := hS1.trans (hb3.mono hS1.size)
      have hs3x1 := (hs1.keep hb3).mono hb3.size
      have hs3 := Sl.of_own ho3
      refine hK.out _ _ hS3 (fun _ => ?_)
      clear hK K hHeld
      try simp only [List.getElem_toArray, List.getElem_cons_succ, List.getElem_cons_zero, Act.put, List.setIfInBounds_toArray, List.set_cons_zero, List.set_cons_succ]
      have hHeld := hS3
      refine wpAnyH_ready (rs := [5]) (by kernel_rfl) (by simp) ?_
      refine AllReadyH.cons rfl (fun K hK => ?_) AllReadyH.nil
      try simp only [List.getElem_toArray, List.getElem_cons_succ, List.getElem_cons_zero]
      have hcv := K2.out _ _ hs3
      go_simp
      clear hcv
      refine hK.out _ _ hS3 (fun _ => ?_)
      clear hK K hHeld
      try simp only [List.getElem_toArray, List.getElem_cons_succ, List.getElem_cons_zero, Act.put, List.setIfInBounds_toArray, List.set_cons_zero, List.set_cons_succ]
      have hHeld := hS3
      refine wpAnyH_take (i := 6) (v := ?_) rfl (by kernel_rfl) (by kernel_rfl) (by kernel_rfl) (fun _ _ _ h => h) (Or.inl ⟨by rfl, ?_⟩) hHeld ?_
      rotate_left
      · (intro wz hSw; (try dsimp only at hSw); (try simp only [List.getElem_toArray, List.getElem_cons_succ, List.getElem_cons_zero]); go_simp; try with_reducible rfl)
      try simp only [List.getElem_toArray, List.getElem_cons_succ, List.getElem_cons_zero, Act.put, List.setIfInBounds_toArray, List.set_cons_zero, List.set_cons_succ]
      refine wpAnyH_take (i := 7) (v := ?_) rfl (by kernel_rfl) (by kernel_rfl) (by kernel_rfl) (fun _ _ _ h => h) (Or.inl ⟨by rfl, ?_⟩) hHeld ?_
      rotate_left
      · (intro wz hSw; (try dsimp only at hSw); (try simp only [List.getElem_toArray, List.getElem_cons_succ, List.getElem_cons_zero]); go_simp; try with_reducible rfl)
      try simp only [List.getElem_toArray, List.getElem_cons_succ, List.getElem_cons_zero, Act.put, List.setIfInBounds_toArray, List.set_cons_zero, List.set_cons_succ]
      refine wpAnyH_done (by kernel_rfl) ?_ _
      exact hcut v1 v4 w3 hS3
    · skip
      try simp only [List.getElem_toArray, List.getElem_cons_succ, List.getElem_cons_zero]
      go_simp
      refine (C2.out _ (HB.out.trans (hS1.mono HB.out.size))).mono ?_; rintro r w5 ⟨v4, rfl, ho5, hb5⟩
      have hS5 := hS1.trans (hb5.mono hS1.size)
      have hs5x1 := (hs1.keep hb5).mono hb5.size
      have hs5 := Sl.of_own ho5
      refine hK.out _ _ hS5 (fun _ => ?_)
      clear hK K hHeld
      try simp only [List.getElem_toArray, List.getElem_cons_succ, List.getElem_cons_zero, Act.put, List.setIfInBounds_toArray, List.set_cons_zero, List.set_cons_succ]
      have hHeld := hS5
      refine wpAnyH_ready (rs := [2, 5]) (by kernel_rfl) (by simp) ?_
      refine AllReadyH.cons rfl (fun K hK => ?_) (AllReadyH.cons rfl (fun K hK => ?_) AllReadyH.nil)
      · skip
        try simp only [List.getElem_toArray, List.getElem_cons_succ, List.getElem_cons_zero]
        have hcv := K1.out _ _ hs5x1
        go_simp
        clear hcv
        refine hK.out _ _ hS5 (fun _ => ?_)
        clear hK K hHeld
        try simp only [List.getElem_toArray, List.getElem_cons_succ, List.getElem_cons_zero, Act.put, List.setIfInBounds_toArray, List.set_cons_zero, List.set_cons_succ]
        have hHeld := hS5
        refine wpAnyH_ready (rs := [5]) (by kernel_rfl) (by simp) ?_
        refine AllReadyH.cons rfl (fun K hK => ?_) AllReadyH.nil
        try simp only [List.getElem_toArray, List.getElem_cons_succ, List.getElem_cons_zero]
        have hcv := K2.out _ _ hs5
        go_simp
        clear hcv
        refine hK.out _ _ hS5 (fun _ => ?_)
        clear hK K hHeld
        try simp only [List.getElem_toArray, List.getElem_cons_succ, List.getElem_cons_zero, Act.put, List.setIfInBounds_toArray, List.set_cons_zero, List.set_cons_succ]
        have hHeld := hS5
        refine wpAnyH_take (i := 6) (v := ?_) rfl (by kernel_rfl) (by kernel_rfl) (by kernel_rfl) (fun _ _ _ h => h) (Or.inl ⟨by rfl, ?_⟩) hHeld ?_
        rotate_left
        · (intro wz hSw; (try dsimp only at hSw); (try simp only [List.getElem_toArray, List.getElem_cons_succ, List.getElem_cons_zero]); go_simp; try with_reducible rfl)
        try simp only [List.getElem_toArray, List.getElem_cons_succ, List.getElem_cons_zero, Act.put, List.setIfInBounds_toArray, List.set_cons_zero, List.set_cons_succ]
        refine wpAnyH_take (i := 7) (v := ?_) rfl (by kernel_rfl) (by kernel_rfl) (by kernel_rfl) (fun _ _ _ h => h) (Or.inl ⟨by rfl, ?_⟩) hHeld ?_
        rotate_left
        · (intro wz hSw; (try dsimp only at hSw); (try simp only [List.getElem_toArray, List.getElem_cons_succ, List.getElem_cons_zero]); go_simp; try with_reducible rfl)
        try simp only [List.getElem_toArray, List.getElem_cons_succ, List.getElem_cons_zero, Act.put, List.setIfInBounds_toArray, List.set_cons_zero, List.set_cons_succ]
        refine wpAnyH_done (by kernel_rfl) ?_ _
        exact hcut v1 v4 w5 hS5
      · skip
        try simp only [List.getElem_toArray, List.getElem_cons_succ, List.getElem_cons_zero]
        have hcv := K2.out _ _ hs5
        go_simp
        clear hcv
        refine hK.out _ _ hS5 (fun _ => ?_)
        clear hK K hHeld
        try simp only [List.getElem_toArray, List.getElem_cons_succ, List.getElem_cons_zero, Act.put, List.setIfInBounds_toArray, List.set_cons_zero, List.set_cons_succ]
        have hHeld := hS5
        refine wpAnyH_ready (rs := [2]) (by kernel_rfl) (by simp) ?_
        refine AllReadyH.cons rfl (fun K hK => ?_) AllReadyH.nil
        try simp only [List.getElem_toArray, List.getElem_cons_succ, List.getElem_cons_zero]
        have hcv := K1.out _ _ hs5x1
        go_simp
        clear hcv
        refine hK.out _ _ hS5 (fun _ => ?_)
        clear hK K hHeld
        try simp only [List.getElem_toArray, List.getElem_cons_succ, List.getElem_cons_zero, Act.put, List.setIfInBounds_toArray, List.set_cons_zero, List.set_cons_succ]
        have hHeld := hS5
        refine wpAnyH_take (i := 6) (v := ?_) rfl (by kernel_rfl) (by kernel_rfl) (by kernel_rfl) (fun _ _ _ h => h) (Or.inl ⟨by rfl, ?_⟩) hHeld ?_
        rotate_left
        · (intro wz hSw; (try dsimp only at hSw); (try simp only [List.getElem_toArray, List.getElem_cons_succ, List.getElem_cons_zero]); go_simp; try with_reducible rfl)
        try simp only [List.getElem_toArray, List.getElem_cons_succ, List.getElem_cons_zero, Act.put, List.setIfInBounds_toArray, List.set_cons_zero, List.set_cons_succ]
        refine wpAnyH_take (i := 7) (v := ?_) rfl (by kernel_rfl) (by kernel_rfl) (by kernel_rfl) (fun _ _ _ h => h) (Or.inl ⟨by rfl, ?_⟩) hHeld ?_
        rotate_left
        · (intro wz hSw; (try dsimp only at hSw); (try simp only [List.getElem_toArray, List.getElem_cons_succ, List.getElem_cons_zero]); go_simp; try with_reducible rfl)
        try simp only [List.getElem_toArray, List.getElem_cons_succ, List.getElem_cons_zero, Act.put, List.setIfInBounds_toArray, List.set_cons_zero, List.set_cons_succ]
        refine wpAnyH_done (by kernel_rfl) ?_ _
        exact hcut v1 v4 w5 hS5
  intro v1 v4 w5 hb5
  have HB5 := Lib.hid (HB.out.trans (hb5.mono HB.out.size))
  clear hb5 kA kD
  go_wp2_with fail
  go_ret
  exact ⟨ret_boolW HE.out, HB5.out⟩
end Go.Proofs.Ytmhmlpfkdpjlaaa
