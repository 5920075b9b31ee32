/- Wire: package wire's reader: stamps, attempts. -/
import Derived.Test.YtmhmlpfkdpjlaaaWireR
import Derived.Deep.RegionHeld3
namespace Go.Proofs.Ytmhmlpfkdpjlaaa
open Go.ChangeShapes Go.WideShapes Go.ChangeAt Go.RowKit

theorem cutG {R P : Nat → World → Prop} {Q : Prop} (h : (∀ g w, R g w → P g w) → Q) (p : ∀ g w, R g w → P g w) : Q := h p
theorem Sl.takeW {B : Nat} {w : World} {p : Option Addr} {cap m : Nat} {xs : List Int} (h : Sl B w (.slice p xs.length cap) 1 xs.length (byt xs)) (hm : m ≤ xs.length) : Sl B w (.slice p m cap) 1 (xs.take m).length (byt (xs.take m)) := by
  have hl : (xs.take m).length = m := by rw [List.length_take]; omega
  refine ⟨by simp [byt], ?_⟩
  rw [hl]
  rcases h.2 with ⟨h2, h3⟩ | ⟨ad, cap', h2, h3, h4, h5⟩
  · simp only [Value.slice.injEq] at h2
    obtain ⟨rfl, h2, rfl⟩ := h2
    obtain rfl : m = 0 := by omega
    exact .inl ⟨rfl, rfl⟩
  · simp only [Value.slice.injEq] at h2
    obtain ⟨rfl, -, rfl⟩ := h2
    refine .inr ⟨ad, cap, rfl, by omega, h4, fun hq => ?_⟩
    obtain ⟨g, o, rfl, h6, h7⟩ := h5 (by omega)
    refine ⟨g, o, rfl, h6, fun j hj => ?_⟩
    rw [h7 j (by omega), byt, byt, List.getElem?_map, List.getElem?_map, List.getElem?_take, if_pos (by omega)]
theorem RdS.keep {B R : Nat} {w w' : World} {xs : List Int} {bad : Bool} (h : RdS B w R xs bad) {A : Nat} (hb : Below A w w') (hA : w.heap.size ≤ A) : RdS B w' R xs bad := by
  obtain ⟨hBR, p, cap, hR, hS⟩ := h
  have hRA : R < A := Nat.lt_of_lt_of_le (block_lt hR) hA
  exact ⟨hBR, p, cap, below_block hb hRA hR, hS.keep (hb.mono (by omega))⟩
theorem RdS.setFar {B R : Nat} {w : World} {xs : List Int} {bad : Bool} (h : RdS B w R xs bad) {Z j : Nat} (hZ : R < Z) (v : Value) : RdS B (w.setCell ⟨Z, j, none⟩ v) R xs bad := by
  obtain ⟨hBR, p, cap, hR, hS⟩ := h
  exact ⟨hBR, p, cap, (Below.heap_setCell _ _ _ _ (by show R ≠ Z; omega)).trans hR, sl_setW hS (by omega) v⟩
theorem grown_setFar {w w5 : World} {row : Option Nat} (h : w.grownBy w5 row) {Z j : Nat} {v : Value} (hZ : w.heap.size ≤ Z) : w.grownBy (w5.setCell ⟨Z, j, none⟩ v) row :=
  ⟨h.os, h.tape, h.output, by simpa [World.setCell] using h.size, fun k hk hn => (Below.heap_setCell _ _ _ _ (by show k ≠ Z; omega)).trans (h.block k hk hn)⟩
theorem grown_belowW {w w3 w5 : World} {row : Option Nat} (hb : Below w.heap.size w w3) (h : w3.grownBy w5 row) : w.grownBy w5 row :=
  ⟨h.os.trans hb.os, h.tape.trans hb.tape, h.output.trans hb.output, Nat.le_trans hb.size h.size, fun k hk hn => (h.block k (Nat.lt_of_lt_of_le hk hb.size) hn).trans (hb.block k hk)⟩
/-- A stamp is read. -/
def rdSw (xs : List Int) (bad : Bool) : (Int × Int) × List Int × Bool := ((takeW (xs.take 16), takeT (xs.take 16)), xs.drop 16, bad || decide (takeE (xs.take 16) ≠ 0))
set_option maxRecDepth 100000 in
set_option maxHeartbeats 4000000 in
theorem rmoment_any (B R : Nat) (xs : List Int) (bad : Bool) (w : World) (hx : ∀ x ∈ xs, 0 ≤ x ∧ x ≤ 255) (h : RdS B w R xs bad) :
    Calls Try.prog 58 #[.pointer (some ⟨R, 0, none⟩)] w fun e w' => e = .returned (.agg #[.int .i64 (rdSw xs bad).1.1, .int .i64 (rdSw xs bad).1.2]) ∧ RdS B w' R (rdSw xs bad).2.1 (rdSw xs bad).2.2 ∧ w.grownBy w' (some R) := by
  have HN : Hid (rdSw xs bad = ((takeW (xs.take 16), takeT (xs.take 16)), xs.drop 16, bad || decide (takeE (xs.take 16) ≠ 0))) := rfl
  obtain ⟨⟨⟨x1, x2⟩, ys, b2⟩, hr⟩ : ∃ r, rdSw xs bad = r := ⟨_, rfl⟩
  rw [hr] at HN ⊢
  dsimp only
  have H := Lib.hid h
  obtain ⟨hB, p, cap, hR, hS⟩ := h
  obtain ⟨pa, ca, hv, h1, h2, -, -⟩ := hS.form
  obtain ⟨rfl, -, rfl⟩ : pa = p ∧ _ ∧ ca = cap := by simp only [Value.slice.injEq] at hv; exact ⟨hv.1.symm, hv.2.1, hv.2.2.symm⟩
  unfold maxLen at h2
  obtain ⟨m, hm, hml⟩ : ∃ m : Nat, min (16 : Int) (xs.length : Int) = (m : Int) ∧ m = min 16 xs.length := ⟨min 16 xs.length, by omega, rfl⟩
  have hmi : (m : Int) ≤ (ca : Int) := by omega
  have hmn : m ≤ ca := by omega
  have hm0 : 0 ≤ (m : Int) := by omega
  have hsm := hS.takeW (m := m) (by omega)
  have hxm : xs.take m = xs.take 16 := by
    by_cases h16 : 16 ≤ xs.length
    · rw [show m = 16 by omega]
    · rw [List.take_of_length_le (by omega), List.take_of_length_le (by omega)]
  have hlm : m = (xs.take 16).length := by rw [List.length_take]; omega
  rw [hxm] at hsm
  have HSM := Lib.hid hsm
  have hoct : ∀ x ∈ xs.take 16, 0 ≤ x ∧ x ≤ 255 := fun x hm => hx x (List.mem_of_mem_take hm)
  have HT : Hid (∀ w', Below w.heap.size w w' → Calls Try.prog 92 #[.slice pa m ca] w' fun e w'' => e = .returned (.tuple #[.agg #[.int .i64 (takeW (xs.take 16)), .int .i64 (takeT (xs.take 16))], .int .i64 (takeE (xs.take 16))]) ∧ Below w'.heap.size w' w'') := fun w' hb =>
    take_any w'.heap.size _ (xs.take 16) hoct w' ((HSM.out.keep (hb.mono (Nat.le_trans hB (Nat.le_of_lt (block_lt hR))))).mono (Nat.le_trans (Nat.le_trans hB (Nat.le_of_lt (block_lt hR))) hb.size)) (Nat.le_refl _)
  have hRl := block_lt hR
  obtain ⟨er, her⟩ : ∃ e, takeE (xs.take 16) = e := ⟨_, rfl⟩
  rw [her] at HT HN
  simp only [Prod.mk.injEq] at HN
  obtain ⟨⟨e1, e2⟩, e3, e4⟩ := HN.out
  rw [← e1, ← e2] at HT
  have HE3 := Lib.hid e3; have HE4 := Lib.hid e4
  have HR := Lib.hid hR
  clear hr hv hsm hxm hoct hml hS h1 her HN e1 e2 e3 e4 hR hlm HSM
  go_enter Try.func58, Try.ntmps58
  go_upto_region 1 with fail
  obtain ⟨W, hW⟩ : ∃ W, w.alloc (.cells #[.int .i64 0, .int .i64 0] 25) = W := ⟨_, rfl⟩
  have hQ : W.heap[w.heap.size]? = some (.cells #[.int .i64 0, .int .i64 0] 25 (0, 0)) := by rw [← hW]; exact heap_last w _
  have HB1 : Hid (Below w.heap.size w W) := by show Below _ _ _; rw [← hW]; exact (Below.refl _ _).alloc (Nat.le_refl _) _
  have hR1 := below_block HB1.out hRl HR.out
  have H1 := Lib.hid (H.out.keep HB1.out (Nat.le_refl _))
  rw [hW]
  obtain ⟨Z, eZ⟩ : ∃ Z, w.heap.size = Z := ⟨_, rfl⟩
  have HEZ := Lib.hid eZ
  rw [eZ] at hQ hRl ⊢
  have HQ := Lib.hid hQ; have HR1 := Lib.hid hR1
  clear hW hQ eZ hR1
  have kR : ∀ w', Below W.heap.size W w' → ∀ j, w'.cell? ⟨R, j, none⟩ = #[.slice pa xs.length ca, .bool bad][j]? := fun w' h => block_cells (below_block h (block_lt HR1.out) HR1.out)
  apply cutG (R := fun g w' => Below W.heap.size W w' ∧ w'.heap[g]? = some (.cells #[.int .i64 x1, .int .i64 x2] 25 (0, 0)) ∧ W.heap.size ≤ g)
  · intro hcut
    have h0 : Below W.heap.size W W.drew := (Below.refl _ _).drew
    refine wp_region_held_drew (S := fun w' => Below W.heap.size W w') (by kernel_rfl) h0 (fun hHeld => ?_)
    obtain ⟨wd, ewd⟩ : ∃ x, W.drew = x := ⟨_, rfl⟩
    rw [ewd] at h0 hHeld ⊢
    clear ewd
    refine wpAnyH_take (i := 0) (v := ?_) rfl (by kernel_rfl) (by kernel_rfl) (by kernel_rfl) (fun _ _ _ h => h) (Or.inl ⟨by rfl, ?_⟩) hHeld ?_
    rotate_left
    · (intro wz hSw; (try dsimp only at hSw); (try simp only [List.getElem_toArray, List.getElem_cons_zero]); go_simp; try with_reducible rfl)
    try simp only [List.getElem_toArray, List.getElem_cons_zero, Act.put, List.setIfInBounds_toArray, List.set_cons_zero, List.set_cons_succ]
    refine wpAnyH_take (i := 1) (v := ?_) rfl (by kernel_rfl) (by kernel_rfl) (by kernel_rfl) (fun _ _ _ h => h) (Or.inl ⟨by rfl, ?_⟩) hHeld ?_
    rotate_left
    · (intro wz hSw; (try dsimp only at hSw); (try simp only [List.getElem_toArray, List.getElem_cons_succ, List.getElem_cons_zero]); go_simp; try with_reducible rfl)
    try simp only [List.getElem_toArray, List.getElem_cons_succ, List.getElem_cons_zero, Act.put, List.setIfInBounds_toArray, List.set_cons_zero, List.set_cons_succ]
    refine wpAnyH_take (i := 2) (v := ?_) rfl (by kernel_rfl) (by kernel_rfl) (by kernel_rfl) (fun _ _ _ h => h) (Or.inl ⟨by rfl, ?_⟩) hHeld ?_
    rotate_left
    · (intro wz hSw; (try dsimp only at hSw); (try simp only [List.getElem_toArray, List.getElem_cons_succ, List.getElem_cons_zero]); go_simp; try with_reducible rfl)
    try simp only [List.getElem_toArray, List.getElem_cons_succ, List.getElem_cons_zero, Act.put, List.setIfInBounds_toArray, List.set_cons_zero, List.set_cons_succ]
    refine wpAnyH_take (i := 3) (v := ?_) rfl (by kernel_rfl) (by kernel_rfl) (by kernel_rfl) (fun _ _ _ h => h) (Or.inl ⟨by rfl, ?_⟩) hHeld ?_
    rotate_left
    · (intro wz hSw; (try dsimp only at hSw); (try simp only [List.getElem_toArray, List.getElem_cons_succ, List.getElem_cons_zero]); go_simp; try with_reducible rfl)
    try simp only [List.getElem_toArray, List.getElem_cons_succ, List.getElem_cons_zero, Act.put, List.setIfInBounds_toArray, List.set_cons_zero, List.set_cons_succ]
    refine wpAnyH_take (i := 4) (v := ?_) rfl (by kernel_rfl) (by kernel_rfl) (by kernel_rfl) (fun _ _ _ h => h) (Or.inl ⟨by rfl, ?_⟩) hHeld ?_
    rotate_left
    · (intro wz hSw; (try dsimp only at hSw); (try simp only [List.getElem_toArray, List.getElem_cons_succ, List.getElem_cons_zero]); go_simp; try with_reducible rfl)
    try simp only [List.getElem_toArray, List.getElem_cons_succ, List.getElem_cons_zero, Act.put, List.setIfInBounds_toArray, List.set_cons_zero, List.set_cons_succ]
    refine wpAnyH_take (i := 5) (v := ?_) rfl (by kernel_rfl) (by kernel_rfl) (by kernel_rfl) (fun _ _ _ h => h) (Or.inl ⟨by rfl, ?_⟩) hHeld ?_
    rotate_left
    · (intro wz hSw; (try dsimp only at hSw); (try simp only [List.getElem_toArray, List.getElem_cons_succ, List.getElem_cons_zero]); go_simp; try with_reducible rfl)
    try simp only [List.getElem_toArray, List.getElem_cons_succ, List.getElem_cons_zero, Act.put, List.setIfInBounds_toArray, List.set_cons_zero, List.set_cons_succ]
    refine wpAnyH_take (i := 6) (v := ?_) rfl (by kernel_rfl) (by kernel_rfl) (by kernel_rfl) (fun _ _ _ h => h) (Or.inl ⟨by rfl, ?_⟩) hHeld ?_
    rotate_left
    · (intro wz hSw; (try dsimp only at hSw); (try simp only [List.getElem_toArray, List.getElem_cons_succ, List.getElem_cons_zero]); go_simp; try with_reducible rfl)
    try simp only [List.getElem_toArray, List.getElem_cons_succ, List.getElem_cons_zero, Act.put, List.setIfInBounds_toArray, List.set_cons_zero, List.set_cons_succ]
    refine wpAnyH_take (i := 7) (v := ?_) rfl (by kernel_rfl) (by kernel_rfl) (by kernel_rfl) (fun _ _ _ h => h) (Or.inl ⟨by rfl, ?_⟩) hHeld ?_
    rotate_left
    · (intro wz hSw; (try dsimp only at hSw); (try simp only [List.getElem_toArray, List.getElem_cons_succ, List.getElem_cons_zero]); go_simp; try with_reducible rfl)
    try simp only [List.getElem_toArray, List.getElem_cons_succ, List.getElem_cons_zero, Act.put, List.setIfInBounds_toArray, List.set_cons_zero, List.set_cons_succ]
    refine wpAnyH_take (i := 8) (v := ?_) rfl (by kernel_rfl) (by kernel_rfl) (by kernel_rfl) (fun _ _ _ h => h) (Or.inl ⟨by rfl, ?_⟩) hHeld ?_
    rotate_left
    · (intro wz hSw; (try dsimp only at hSw); (try simp only [List.getElem_toArray, List.getElem_cons_succ, List.getElem_cons_zero]); go_simp; try with_reducible rfl)
    try simp only [List.getElem_toArray, List.getElem_cons_succ, List.getElem_cons_zero, Act.put, List.setIfInBounds_toArray, List.set_cons_zero, List.set_cons_succ]
    refine wpAnyH_take (i := 9) (v := ?_) rfl (by kernel_rfl) (by kernel_rfl) (by kernel_rfl) (fun _ _ _ h => h) (Or.inl ⟨by rfl, ?_⟩) hHeld ?_
    rotate_left
    · (intro wz hSw; (try dsimp only at hSw); (try simp only [List.getElem_toArray, List.getElem_cons_succ, List.getElem_cons_zero]); go_simp; try with_reducible rfl)
    try simp only [List.getElem_toArray, List.getElem_cons_succ, List.getElem_cons_zero, Act.put, List.setIfInBounds_toArray, List.set_cons_zero, List.set_cons_succ]
    refine wpAnyH_take (i := 10) (v := ?_) rfl (by kernel_rfl) (by kernel_rfl) (by kernel_rfl) (fun _ _ _ h => h) (Or.inl ⟨by rfl, ?_⟩) hHeld ?_
    rotate_left
    · (intro wz hSw; (try dsimp only at hSw); (try simp only [List.getElem_toArray, List.getElem_cons_succ, List.getElem_cons_zero]); go_simp; try with_reducible rfl)
    try simp only [List.getElem_toArray, List.getElem_cons_succ, List.getElem_cons_zero, Act.put, List.setIfInBounds_toArray, List.set_cons_zero, List.set_cons_succ]
    refine wpAnyH_ready (rs := [11, 15]) (by kernel_rfl) (by simp) ?_
    refine AllReadyH.cons rfl (fun K hK => ?_) (AllReadyH.cons rfl (fun K hK => ?_) AllReadyH.nil)
    · try simp only [List.getElem_toArray, List.getElem_cons_succ, List.getElem_cons_zero]
      go_simp
      refine (HT.out _ (HB1.out.trans (h0.mono HB1.out.size))).mono ?_; rintro r w1 ⟨rfl, hbw1⟩
      have hSw1 := h0.trans (hbw1.mono h0.size)
      refine hK.out _ _ hSw1 (fun _ => ?_)
      clear hK K hHeld
      try simp only [List.getElem_toArray, List.getElem_cons_succ, List.getElem_cons_zero, Act.put, List.setIfInBounds_toArray, List.set_cons_zero, List.set_cons_succ]
      have hHeld := hSw1
      refine wpAnyH_take (i := 12) (v := ?_) rfl (by kernel_rfl) (by kernel_rfl) (by kernel_rfl) (fun _ _ _ h => h) (Or.inl ⟨by rfl, ?_⟩) hHeld ?_
      rotate_left
      · (intro wz hSw; (try dsimp only at hSw); (try simp only [List.getElem_toArray, List.getElem_cons_succ, List.getElem_cons_zero]); go_simp; try with_reducible rfl)
      try simp only [List.getElem_toArray, List.getElem_cons_succ, List.getElem_cons_zero, Act.put, List.setIfInBounds_toArray, List.set_cons_zero, List.set_cons_succ]
      refine wpAnyH_take (i := 13) (v := ?_) rfl (by kernel_rfl) (by kernel_rfl) (by kernel_rfl) (fun _ _ _ h => h) (Or.inl ⟨by rfl, ?_⟩) hHeld ?_
      rotate_left
      · (intro wz hSw; (try dsimp only at hSw); (try simp only [List.getElem_toArray, List.getElem_cons_succ, List.getElem_cons_zero]); go_simp; try with_reducible rfl)
      try simp only [List.getElem_toArray, List.getElem_cons_succ, List.getElem_cons_zero, Act.put, List.setIfInBounds_toArray, List.set_cons_zero, List.set_cons_succ]
      refine wpAnyH_take (i := 14) (v := ?_) rfl (by kernel_rfl) (by kernel_rfl) (by kernel_rfl) (fun _ _ _ h => h) (Or.inl ⟨by rfl, ?_⟩) hHeld ?_
      rotate_left
      · (intro wz hSw; (try dsimp only at hSw); (try simp only [List.getElem_toArray, List.getElem_cons_succ, List.getElem_cons_zero]); go_simp; try with_reducible rfl)
      try simp only [List.getElem_toArray, List.getElem_cons_succ, List.getElem_cons_zero, Act.put, List.setIfInBounds_toArray, List.set_cons_zero, List.set_cons_succ]
      refine wpAnyH_ready (rs := [15]) (by kernel_rfl) (by simp) ?_; refine AllReadyH.cons rfl (fun K hK => ?_) AllReadyH.nil; (try simp only [List.getElem_toArray, List.getElem_cons_succ, List.getElem_cons_zero]); go_simp
      obtain ⟨w2, hww2⟩ : ∃ x : World, w1.alloc (.cells #[.int .i64 0, .int .i64 0] 25) = x := ⟨_, rfl⟩
      have hSw2 : Below W.heap.size W w2 := by rw [← hww2]; exact hSw1.alloc hSw1.size _
      have hbw2 : Below w1.heap.size w1 w2 := by rw [← hww2]; exact (Below.refl _ _).alloc (Nat.le_refl _) _
      have hqw2 : w2.heap[w1.heap.size]? = some (.cells #[.int .i64 0, .int .i64 0] 25 (0, 0)) := by rw [← hww2]; exact heap_last w1 _
      have hgs := hSw1.size
      obtain ⟨g, eg⟩ : ∃ n, w1.heap.size = n := ⟨_, rfl⟩
      rw [hww2]
      try rw [eg]
      rw [eg] at hqw2 hgs
      clear hww2
      refine hK.out _ _ hSw2 (fun _ => ?_)
      clear hK K hHeld
      try simp only [List.getElem_toArray, List.getElem_cons_succ, List.getElem_cons_zero, Act.put, List.setIfInBounds_toArray, List.set_cons_zero, List.set_cons_succ]
      have hHeld := hSw2
      have kg := block_cells hqw2
      have fg := block_free hqw2
      refine wpAnyH_ready (rs := [16]) (by kernel_rfl) (by simp) ?_; refine AllReadyH.cons rfl (fun K hK => ?_) AllReadyH.nil; (try simp only [List.getElem_toArray, List.getElem_cons_succ, List.getElem_cons_zero]); go_simp
      have hq9 := cells_setW (cells_setW hqw2 0 (.int .i64 x1)) 1 (.int .i64 x2)
      have hS9 := (hSw2.setCell (p := ⟨g, 0, none⟩) hgs (.int .i64 x1)).setCell (p := ⟨g, 1, none⟩) hgs (.int .i64 x2)
      refine hK.out _ _ hS9 (fun _ => ?_)
      clear hK K hHeld kg fg
      try simp only [List.getElem_toArray, List.getElem_cons_succ, List.getElem_cons_zero, Act.put, List.setIfInBounds_toArray, List.set_cons_zero, List.set_cons_succ]
      have hHeld := hS9
      refine wpAnyH_take (i := 17) (v := ?_) rfl (by kernel_rfl) (by kernel_rfl) (by kernel_rfl) (fun _ _ _ h => h) (Or.inl ⟨by rfl, ?_⟩) hHeld ?_
      rotate_left
      · (intro wz hSw; (try dsimp only at hSw); (try simp only [List.getElem_toArray, List.getElem_cons_succ, List.getElem_cons_zero]); go_simp; try with_reducible rfl)
      try simp only [List.getElem_toArray, List.getElem_cons_succ, List.getElem_cons_zero, Act.put, List.setIfInBounds_toArray, List.set_cons_zero, List.set_cons_succ]
      refine wpAnyH_done (by kernel_rfl) ?_ _
      exact hcut g _ ⟨hS9, hq9.trans rfl, hgs⟩
    · try simp only [List.getElem_toArray, List.getElem_cons_succ, List.getElem_cons_zero]
      go_simp
      obtain ⟨w1, hww1⟩ : ∃ x : World, wd.alloc (.cells #[.int .i64 0, .int .i64 0] 25) = x := ⟨_, rfl⟩
      have hSw1 : Below W.heap.size W w1 := by rw [← hww1]; exact h0.alloc h0.size _
      have hbw1 : Below wd.heap.size wd w1 := by rw [← hww1]; exact (Below.refl _ _).alloc (Nat.le_refl _) _
      have hqw1 : w1.heap[wd.heap.size]? = some (.cells #[.int .i64 0, .int .i64 0] 25 (0, 0)) := by rw [← hww1]; exact heap_last wd _
      have hgs := h0.size
      obtain ⟨g, eg⟩ : ∃ n, wd.heap.size = n := ⟨_, rfl⟩
      rw [hww1]
      try rw [eg]
      rw [eg] at hqw1 hgs
      clear hww1
      refine hK.out _ _ hSw1 (fun _ => ?_)
      clear hK K hHeld
      try simp only [List.getElem_toArray, List.getElem_cons_succ, List.getElem_cons_zero, Act.put, List.setIfInBounds_toArray, List.set_cons_zero, List.set_cons_succ]
      have hHeld := hSw1
      refine wpAnyH_ready (rs := [11]) (by kernel_rfl) (by simp) ?_; refine AllReadyH.cons rfl (fun K hK => ?_) AllReadyH.nil; (try simp only [List.getElem_toArray, List.getElem_cons_succ, List.getElem_cons_zero]); go_simp
      refine (HT.out _ (HB1.out.trans (hSw1.mono HB1.out.size))).mono ?_; rintro r w2 ⟨rfl, hbw2⟩
      have hSw2 := hSw1.trans (hbw2.mono hSw1.size)
      refine hK.out _ _ hSw2 (fun _ => ?_)
      clear hK K hHeld
      try simp only [List.getElem_toArray, List.getElem_cons_succ, List.getElem_cons_zero, Act.put, List.setIfInBounds_toArray, List.set_cons_zero, List.set_cons_succ]
      have hHeld := hSw2
      have hq5 := below_block hbw2 (block_lt hqw1) hqw1
      refine wpAnyH_take (i := 12) (v := ?_) rfl (by kernel_rfl) (by kernel_rfl) (by kernel_rfl) (fun _ _ _ h => h) (Or.inl ⟨by rfl, ?_⟩) hHeld ?_
      rotate_left
      · (intro wz hSw; (try dsimp only at hSw); (try simp only [List.getElem_toArray, List.getElem_cons_succ, List.getElem_cons_zero]); go_simp; try with_reducible rfl)
      try simp only [List.getElem_toArray, List.getElem_cons_succ, List.getElem_cons_zero, Act.put, List.setIfInBounds_toArray, List.set_cons_zero, List.set_cons_succ]
      refine wpAnyH_take (i := 13) (v := ?_) rfl (by kernel_rfl) (by kernel_rfl) (by kernel_rfl) (fun _ _ _ h => h) (Or.inl ⟨by rfl, ?_⟩) hHeld ?_
      rotate_left
      · (intro wz hSw; (try dsimp only at hSw); (try simp only [List.getElem_toArray, List.getElem_cons_succ, List.getElem_cons_zero]); go_simp; try with_reducible rfl)
      try simp only [List.getElem_toArray, List.getElem_cons_succ, List.getElem_cons_zero, Act.put, List.setIfInBounds_toArray, List.set_cons_zero, List.set_cons_succ]
      refine wpAnyH_take (i := 14) (v := ?_) rfl (by kernel_rfl) (by kernel_rfl) (by kernel_rfl) (fun _ _ _ h => h) (Or.inl ⟨by rfl, ?_⟩) hHeld ?_
      rotate_left
      · (intro wz hSw; (try dsimp only at hSw); (try simp only [List.getElem_toArray, List.getElem_cons_succ, List.getElem_cons_zero]); go_simp; try with_reducible rfl)
      try simp only [List.getElem_toArray, List.getElem_cons_succ, List.getElem_cons_zero, Act.put, List.setIfInBounds_toArray, List.set_cons_zero, List.set_cons_succ]
      have kg := block_cells hq5
      have fg := block_free hq5
      refine wpAnyH_ready (rs := [16]) (by kernel_rfl) (by simp) ?_; refine AllReadyH.cons rfl (fun K hK => ?_) AllReadyH.nil; (try simp only [List.getElem_toArray, List.getElem_cons_succ, List.getElem_cons_zero]); go_simp
      have hq9 := cells_setW (cells_setW hq5 0 (.int .i64 x1)) 1 (.int .i64 x2)
      have hS9 := (hSw2.setCell (p := ⟨g, 0, none⟩) hgs (.int .i64 x1)).setCell (p := ⟨g, 1, none⟩) hgs (.int .i64 x2)
      refine hK.out _ _ hS9 (fun _ => ?_)
      clear hK K hHeld kg fg
      try simp only [List.getElem_toArray, List.getElem_cons_succ, List.getElem_cons_zero, Act.put, List.setIfInBounds_toArray, List.set_cons_zero, List.set_cons_succ]
      have hHeld := hS9
      refine wpAnyH_take (i := 17) (v := ?_) rfl (by kernel_rfl) (by kernel_rfl) (by kernel_rfl) (fun _ _ _ h => h) (Or.inl ⟨by rfl, ?_⟩) hHeld ?_
      rotate_left
      · (intro wz hSw; (try dsimp only at hSw); (try simp only [List.getElem_toArray, List.getElem_cons_succ, List.getElem_cons_zero]); go_simp; try with_reducible rfl)
      try simp only [List.getElem_toArray, List.getElem_cons_succ, List.getElem_cons_zero, Act.put, List.setIfInBounds_toArray, List.set_cons_zero, List.set_cons_succ]
      refine wpAnyH_done (by kernel_rfl) ?_ _
      exact hcut g _ ⟨hS9, hq9.trans rfl, hgs⟩
  intro g w3 hR3
  obtain ⟨hb3, hq3, hgs⟩ := hR3
  have H3 := Lib.hid (H1.out.keep hb3 (Nat.le_refl _))
  have HQ3 := Lib.hid (below_block hb3 (block_lt HQ.out) HQ.out)
  have HB3 := Lib.hid (HB1.out.trans (hb3.mono HB1.out.size))
  have HG3 := Lib.hid hq3
  have hgR : R < g := by have := block_lt HR1.out; omega
  have hgZ : Z < g := by have := block_lt HQ.out; omega
  clear hb3 hq3 hgs kR HR1 H1 HQ HB1 HT HR H
  have HF := Lib.hid (rfails_any B R xs bad er w3 H3.out)
  rw [← HE4.out] at HF
  go_wp2_with fail
  refine HF.out.mono ?_; rintro e w4 ⟨rfl, h4, g4⟩
  have HS4 := Lib.hid (rskip_any B R xs b2 16 w4 h4)
  rw [← HE3.out] at HS4
  have G4 := Lib.hid g4
  clear h4 g4
  go_wp2_with fail
  refine HS4.out.mono ?_; rintro e w5 ⟨rfl, h5, g5⟩
  have G5 := Lib.hid (grown_transW G4.out g5)
  have H5 := Lib.hid h5
  have hq5 := (G5.out.block g (block_lt HG3.out) (by simp; omega)).trans HG3.out
  have hz5 := (G5.out.block Z (block_lt HQ3.out) (by simp; omega)).trans HQ3.out
  have kg := block_cells hq5
  have kz := block_cells hz5
  have fz := block_free hz5
  have HZ5 := Lib.hid hz5
  clear h5 g5 hq5 hz5 HF HS4
  go_wp2_with fail
  have hf := cells_setW (cells_setW HZ5.out 0 (.int .i64 x1)) 1 (.int .i64 x2)
  have kF := block_cells hf
  refine bodyPost_ret (v := .agg #[.int .i64 x1, .int .i64 x2]) ?_ rfl ⟨rfl, (H5.out.setFar hRl _).setFar hRl _, grown_setFar (grown_setFar (grown_belowW HB3.out G5.out) (Nat.le_of_eq HEZ.out)) (Nat.le_of_eq HEZ.out)⟩
  simp [results, Try.results58, go_sem, kF]
/-- An attempt is read: four numbers. -/
def rdYw (xs : List Int) (bad : Bool) : (Int × Int × Int × Int) × List Int × Bool :=
  let a := rdNw xs bad; let b := rdNw a.2.1 a.2.2; let c := rdNw b.2.1 b.2.2; let d := rdNw c.2.1 c.2.2
  ((a.1, b.1, c.1, d.1), d.2.1, d.2.2)
theorem rdYw_is {xs ys zs us vs : List Int} {bad b1 b2 b3 b4 : Bool} {a b c d : Int} (h1 : rdNw xs bad = (a, ys, b1)) (h2 : rdNw ys b1 = (b, zs, b2)) (h3 : rdNw zs b2 = (c, us, b3)) (h4 : rdNw us b3 = (d, vs, b4)) : rdYw xs bad = ((a, b, c, d), vs, b4) := by
  unfold rdYw; simp only [h1, h2, h3, h4]
theorem rdNw_oct {xs : List Int} {bad : Bool} (h : ∀ x ∈ xs, 0 ≤ x ∧ x ≤ 255) : ∀ x ∈ (rdNw xs bad).2.1, 0 ≤ x ∧ x ≤ 255 := fun x hx => h x (List.mem_of_mem_drop hx)
set_option maxRecDepth 100000 in
set_option maxHeartbeats 4000000 in
theorem rtry_any (B R : Nat) (xs : List Int) (bad : Bool) (w : World) (hx : ∀ x ∈ xs, 0 ≤ x ∧ x ≤ 255) (h : RdS B w R xs bad) :
    Calls Try.prog 57 #[.pointer (some ⟨R, 0, none⟩)] w fun e w' => e = .returned (.agg #[.int .i64 (rdYw xs bad).1.1, .int .i64 (rdYw xs bad).1.2.1, .int .i64 (rdYw xs bad).1.2.2.1, .int .i64 (rdYw xs bad).1.2.2.2]) ∧ RdS B w' R (rdYw xs bad).2.1 (rdYw xs bad).2.2 ∧ w.grownBy w' (some R) := by
  have hx1 := rdNw_oct (bad := bad) hx
  have C0 : Hid (∀ w', RdS B w' R xs bad → Calls Try.prog 56 #[.pointer (some ⟨R, 0, none⟩)] w' fun e w'' => e = .returned (.int .i64 (rdNw xs bad).1) ∧ RdS B w'' R (rdNw xs bad).2.1 (rdNw xs bad).2.2 ∧ w'.grownBy w'' (some R)) := fun w' h' => rint_any B R xs bad w' hx h'
  obtain ⟨⟨a, ys, b1⟩, hr⟩ : ∃ r, rdNw xs bad = r := ⟨_, rfl⟩
  rw [hr] at hx1 C0
  dsimp only at hx1 C0
  have hx2 := rdNw_oct (bad := b1) hx1
  have C1 : Hid (∀ w', RdS B w' R ys b1 → Calls Try.prog 56 #[.pointer (some ⟨R, 0, none⟩)] w' fun e w'' => e = .returned (.int .i64 (rdNw ys b1).1) ∧ RdS B w'' R (rdNw ys b1).2.1 (rdNw ys b1).2.2 ∧ w'.grownBy w'' (some R)) := fun w' h' => rint_any B R ys b1 w' hx1 h'
  obtain ⟨⟨b, zs, b2⟩, hr2⟩ : ∃ r, rdNw ys b1 = r := ⟨_, rfl⟩
  rw [hr2] at hx2 C1
  dsimp only at hx2 C1
  have hx3 := rdNw_oct (bad := b2) hx2
  have C2 : Hid (∀ w', RdS B w' R zs b2 → Calls Try.prog 56 #[.pointer (some ⟨R, 0, none⟩)] w' fun e w'' => e = .returned (.int .i64 (rdNw zs b2).1) ∧ RdS B w'' R (rdNw zs b2).2.1 (rdNw zs b2).2.2 ∧ w'.grownBy w'' (some R)) := fun w' h' => rint_any B R zs b2 w' hx2 h'
  obtain ⟨⟨c, us, b3⟩, hr3⟩ : ∃ r, rdNw zs b2 = r := ⟨_, rfl⟩
  rw [hr3] at hx3 C2
  dsimp only at hx3 C2
  have C3 : Hid (∀ w', RdS B w' R us b3 → Calls Try.prog 56 #[.pointer (some ⟨R, 0, none⟩)] w' fun e w'' => e = .returned (.int .i64 (rdNw us b3).1) ∧ RdS B w'' R (rdNw us b3).2.1 (rdNw us b3).2.2 ∧ w'.grownBy w'' (some R)) := fun w' h' => rint_any B R us b3 w' hx3 h'
  obtain ⟨⟨d, vs, b4⟩, hr4⟩ : ∃ r, rdNw us b3 = r := ⟨_, rfl⟩
  rw [hr4] at C3
  dsimp only at C3
  rw [rdYw_is hr hr2 hr3 hr4]
  have H := Lib.hid h
  have hRl : R < w.heap.size := by obtain ⟨_, p, cap, hR, _⟩ := h; exact block_lt hR
  clear hr hr2 hr3 hr4 h hx hx1 hx2 hx3
  go_enter Try.func57, Try.ntmps57
  go_upto_region 1 with fail
  obtain ⟨W, hW⟩ : ∃ W, w.alloc (.cells #[.int .i64 0, .int .i64 0, .int .i64 0, .int .i64 0] 23) = W := ⟨_, rfl⟩
  have hQ : W.heap[w.heap.size]? = some (.cells #[.int .i64 0, .int .i64 0, .int .i64 0, .int .i64 0] 23 (0, 0)) := by rw [← hW]; exact heap_last w _
  have HB1 : Hid (Below w.heap.size w W) := by show Below _ _ _; rw [← hW]; exact (Below.refl _ _).alloc (Nat.le_refl _) _
  have H1 := Lib.hid (H.out.keep HB1.out (Nat.le_refl _))
  rw [hW]
  obtain ⟨Z, eZ⟩ : ∃ Z, w.heap.size = Z := ⟨_, rfl⟩
  have HEZ := Lib.hid eZ
  rw [eZ] at hQ hRl ⊢
  have HQ := Lib.hid hQ
  clear hW hQ eZ
  go_wp2_with fail
  refine (C0.out _ H1.out).mono ?_; rintro e w1 ⟨rfl, h1, g1⟩
  have H2 := Lib.hid h1; have G1 := Lib.hid g1
  clear h1 g1
  go_wp2_with fail
  refine (C1.out _ H2.out).mono ?_; rintro e w2 ⟨rfl, h1, g1⟩
  have H3 := Lib.hid h1; have G2 := Lib.hid (grown_transW G1.out g1)
  clear h1 g1
  go_wp2_with fail
  refine (C2.out _ H3.out).mono ?_; rintro e w3 ⟨rfl, h1, g1⟩
  have H4 := Lib.hid h1; have G3 := Lib.hid (grown_transW G2.out g1)
  clear h1 g1
  go_wp2_with fail
  refine (C3.out _ H4.out).mono ?_; rintro e w4 ⟨rfl, h1, g1⟩
  have H5 := Lib.hid h1; have G4 := Lib.hid (grown_transW G3.out g1)
  clear h1 g1
  have hz5 := (G4.out.block Z (block_lt HQ.out) (by simp; omega)).trans HQ.out
  have kz := block_cells hz5
  have fz := block_free hz5
  have HZ5 := Lib.hid hz5
  clear hz5 C0 C1 C2 C3
  go_wp2_with fail
  have hf := cells_setW (cells_setW (cells_setW (cells_setW HZ5.out 0 (.int .i64 a)) 1 (.int .i64 b)) 2 (.int .i64 c)) 3 (.int .i64 d)
  have kF := block_cells hf
  refine bodyPost_ret (v := .agg #[.int .i64 a, .int .i64 b, .int .i64 c, .int .i64 d]) ?_ rfl ⟨rfl, (((H5.out.setFar hRl _).setFar hRl _).setFar hRl _).setFar hRl _, grown_setFar (grown_setFar (grown_setFar (grown_setFar (grown_belowW HB1.out G4.out) (Nat.le_of_eq HEZ.out)) (Nat.le_of_eq HEZ.out)) (Nat.le_of_eq HEZ.out)) (Nat.le_of_eq HEZ.out)⟩
  simp [results, Try.results57, go_sem, kF]
end Go.Proofs.Ytmhmlpfkdpjlaaa
