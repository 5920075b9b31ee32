/- Wire: a state's bytes: the document's. -/
import Derived.Test.YtmhmlpfkdpjlaaaGwB
import Derived.Test.YtmhmlpfkdpjlaaaRdA
import Derived.Test.YtmhmlpfkdpjlaaaGwC
namespace Go.Proofs.Ytmhmlpfkdpjlaaa
open Go.ChangeShapes Go.WideShapes Go.ChangeAt Go.RowKit

theorem cutW_NVVVW {R P : Nat → Value → Value → Value → World → Prop} {Q : Prop} (h : (∀ a0 a1 a2 a3 a4, R a0 a1 a2 a3 a4 → P a0 a1 a2 a3 a4) → Q) (p : ∀ a0 a1 a2 a3 a4, R a0 a1 a2 a3 a4 → P a0 a1 a2 a3 a4) : Q := h p
theorem cutW_VVVW {R P : Value → Value → Value → World → Prop} {Q : Prop} (h : (∀ a0 a1 a2 a3, R a0 a1 a2 a3 → P a0 a1 a2 a3) → Q) (p : ∀ a0 a1 a2 a3, R a0 a1 a2 a3 → P a0 a1 a2 a3) : Q := h p
theorem cutW_VVVVVW {R P : Value → Value → Value → Value → Value → World → Prop} {Q : Prop} (h : (∀ a0 a1 a2 a3 a4 a5, R a0 a1 a2 a3 a4 a5 → P a0 a1 a2 a3 a4 a5) → Q) (p : ∀ a0 a1 a2 a3 a4 a5, R a0 a1 a2 a3 a4 a5 → P a0 a1 a2 a3 a4 a5) : Q := h p
set_option maxRecDepth 100000 in
set_option maxHeartbeats 32000000 in
theorem rpartB_any (P : PaL) (ap aq as' : Option Addr) (ac ad at' : Nat) (w : World) (F : PaF P) (h1 : CesAt w ap P.cs) (h2 : OusAt w aq P.rs) (h3 : OusAt w as' P.ds) (hl : ((encPa P.x).length : Int) ≤ 140737488200000) (n1 : P.cs.length ≤ 1000000) (n1' : ∀ x ∈ P.cs, x.1.vs.length ≤ 1000000) (n2 : P.rs.length ≤ 1000000) (n3 : P.ds.length ≤ 1000000) :
    Calls Try.prog 18 #[.agg #[.int .i64 P.e, .int .i64 P.h, .int .i64 P.fw, .int .i64 P.ft, .int .i64 P.cl, .int .i64 P.lo, .slice ap P.cs.length ac, .slice aq P.rs.length ad, .slice as' P.ds.length at']] w (WEnd w.heap.size w.heap.size w (encPa P.x)) := by
  have HF := Lib.hid F; have HN := Lib.hid n1'
  have HHL := Lib.hid (encPaH_len F)
  have HT : Hid (((encPaH P).length : Int) + (P.cs.flatMap encCL).length + (encOus P.rs).length + (encOus P.ds).length ≤ 140737488200000) := by show _ ≤ _; rw [encPaL] at hl; simp only [List.length_append] at hl; omega
  go_enter Try.func18, Try.ntmps18
  go_upto_region 1 with fail
  obtain ⟨W, hW⟩ : ∃ W, w.alloc (.cells #[.int .i64 P.e, .int .i64 P.h, .int .i64 P.fw, .int .i64 P.ft, .int .i64 P.cl, .int .i64 P.lo, .slice ap P.cs.length ac, .slice aq P.rs.length ad, .slice as' P.ds.length at'] 33) = W := ⟨_, rfl⟩
  have hA : W.heap[w.heap.size]? = some (.cells #[.int .i64 P.e, .int .i64 P.h, .int .i64 P.fw, .int .i64 P.ft, .int .i64 P.cl, .int .i64 P.lo, .slice ap P.cs.length ac, .slice aq P.rs.length ad, .slice as' P.ds.length at'] 33 (0, 0)) := by rw [← hW]; exact heap_last w _
  have hb1 : Below w.heap.size w W := by rw [← hW]; exact (Below.refl _ _).alloc (Nat.le_refl _) _
  have HCS := Lib.hid (h1.keep hb1 (Nat.le_refl _)); have HRS := Lib.hid (h2.keep hb1 (Nat.le_refl _)); have HDS := Lib.hid (h3.keep hb1 (Nat.le_refl _))
  have HB1 := Lib.hid hb1
  rw [hW]
  obtain ⟨A, eA⟩ : ∃ A, w.heap.size = A := ⟨_, rfl⟩
  have HEA := Lib.hid eA
  rw [eA] at hA ⊢
  have HA := Lib.hid hA
  clear hW hA eA hb1 F hl h1 h2 h3 n1'
  have hzW : W.heap.size ≤ W.heap.size := Nat.le_refl _
  have kA : ∀ w', W.grownBy w' (Value.ownBlock (.slice none 0 0)) → ∀ j, w'.cell? ⟨A, j, none⟩ = #[.int .i64 P.e, .int .i64 P.h, .int .i64 P.fw, .int .i64 P.ft, .int .i64 P.cl, .int .i64 P.lo, .slice ap P.cs.length ac, .slice aq P.rs.length ad, .slice as' P.ds.length at'][j]? := fun w' h => grown_cells h HA.out (by simp [Value.ownBlock])
  apply cutW_NVVVW (R := fun _ _ _ v' w' => Gw W.heap.size (.slice none 0 0) W v' w' ([2] ++ encN P.e ++ encN P.h ++ stampB P.fw P.ft))
  · intro hcut
    have gw0 : Gw _ (.slice none 0 0) W (.slice none 0 0) W.drew _ := (Gw.none W.heap.size W).drew
    have hh0 := gw0.gr
    refine wp_region_held_drew (S := fun w' => World.grownBy W w' (Value.ownBlock (.slice none 0 0))) (by kernel_rfl) hh0 (fun hHeld => ?_)
    obtain ⟨wd, ewd⟩ : ∃ x, World.drew W = x := ⟨_, rfl⟩
    rw [ewd] at gw0 hh0 hHeld ⊢
    clear ewd
    refine wpAnyH_take (i := 1) (v := ?_) rfl (by kernel_rfl) (by kernel_rfl) (by kernel_rfl) (fun _ _ _ h => h) (Or.inl ⟨by rfl, ?_⟩) hHeld ?_
    rotate_left
    · (intro wz hSw; (try dsimp only at hSw); (try simp only [List.getElem_toArray, List.getElem_cons_succ, List.getElem_cons_zero]); go_simp; try with_reducible rfl)
    try simp only [List.getElem_toArray, List.getElem_cons_succ, List.getElem_cons_zero, Act.put, List.setIfInBounds_toArray, List.set_cons_zero, List.set_cons_succ]
    refine wpAnyH_take (i := 2) (v := ?_) rfl (by kernel_rfl) (by kernel_rfl) (by kernel_rfl) (fun _ _ _ h => h) (Or.inl ⟨by rfl, ?_⟩) hHeld ?_
    rotate_left
    · (intro wz hSw; (try dsimp only at hSw); (try simp only [List.getElem_toArray, List.getElem_cons_succ, List.getElem_cons_zero]); go_simp; try with_reducible rfl)
    try simp only [List.getElem_toArray, List.getElem_cons_succ, List.getElem_cons_zero, Act.put, List.setIfInBounds_toArray, List.set_cons_zero, List.set_cons_succ]
    refine wpAnyH_take (i := 4) (v := ?_) rfl (by kernel_rfl) (by kernel_rfl) (by kernel_rfl) (fun _ _ _ h => h) (Or.inl ⟨by rfl, ?_⟩) hHeld ?_
    rotate_left
    · (intro wz hSw; (try dsimp only at hSw); (try simp only [List.getElem_toArray, List.getElem_cons_succ, List.getElem_cons_zero]); go_simp; try with_reducible rfl)
    try simp only [List.getElem_toArray, List.getElem_cons_succ, List.getElem_cons_zero, Act.put, List.setIfInBounds_toArray, List.set_cons_zero, List.set_cons_succ]
    refine wpAnyH_take (i := 5) (v := ?_) rfl (by kernel_rfl) (by kernel_rfl) (by kernel_rfl) (fun _ _ _ h => h) (Or.inl ⟨by rfl, ?_⟩) hHeld ?_
    rotate_left
    · (intro wz hSw; (try dsimp only at hSw); (try simp only [List.getElem_toArray, List.getElem_cons_succ, List.getElem_cons_zero]); go_simp; try with_reducible rfl)
    try simp only [List.getElem_toArray, List.getElem_cons_succ, List.getElem_cons_zero, Act.put, List.setIfInBounds_toArray, List.set_cons_zero, List.set_cons_succ]
    refine wpAnyH_take (i := 7) (v := ?_) rfl (by kernel_rfl) (by kernel_rfl) (by kernel_rfl) (fun _ _ _ h => h) (Or.inl ⟨by rfl, ?_⟩) hHeld ?_
    rotate_left
    · (intro wz hSw; (try dsimp only at hSw); (try simp only [List.getElem_toArray, List.getElem_cons_succ, List.getElem_cons_zero]); go_simp; try with_reducible rfl)
    try simp only [List.getElem_toArray, List.getElem_cons_succ, List.getElem_cons_zero, Act.put, List.setIfInBounds_toArray, List.set_cons_zero, List.set_cons_succ]
    refine wpAnyH_take (i := 8) (v := ?_) rfl (by kernel_rfl) (by kernel_rfl) (by kernel_rfl) (fun _ _ _ h => h) (Or.inl ⟨by rfl, ?_⟩) hHeld ?_
    rotate_left
    · (intro wz hSw; (try dsimp only at hSw); (try simp only [List.getElem_toArray, List.getElem_cons_succ, List.getElem_cons_zero]); go_simp; try with_reducible rfl)
    try simp only [List.getElem_toArray, List.getElem_cons_succ, List.getElem_cons_zero, Act.put, List.setIfInBounds_toArray, List.set_cons_zero, List.set_cons_succ]
    refine wpAnyH_ready (rs := [0]) (by kernel_rfl) (by simp) ?_
    refine AllReadyH.cons rfl (fun K hK => ?_) AllReadyH.nil
    try simp only [List.getElem_toArray, List.getElem_cons_zero]
    go_simp
    obtain ⟨wb1, hw1⟩ : ∃ wb : World, wd.alloc (.cells #[.int .u8 2] 5) = wb := ⟨_, rfl⟩
    have gw1 := gw0.one hzW 2
    rw [hw1] at gw1
    have hq1 : wb1.heap[wd.heap.size]? = some (.cells #[.int .u8 2] 5 (0, 0)) := by rw [← hw1]; exact heap_last wd _
    obtain ⟨gb0, eg1⟩ : ∃ n, wd.heap.size = n := ⟨_, rfl⟩
    rw [hw1]
    try rw [eg1]
    rw [eg1] at hq1 gw1
    clear hw1
    refine hK.out _ _ gw1.gr (fun _ => ?_)
    clear hK K hHeld
    try simp only [List.getElem_toArray, List.getElem_cons_succ, List.getElem_cons_zero, Act.put, List.setIfInBounds_toArray, List.set_cons_zero, List.set_cons_succ]
    have hHeld := gw1.gr
    refine wpAnyH_ready (rs := [3]) (by kernel_rfl) (by simp) ?_
    refine AllReadyH.cons rfl (fun K hK => ?_) AllReadyH.nil
    try simp only [List.getElem_toArray, List.getElem_cons_succ, List.getElem_cons_zero]
    go_simp
    refine (rn_gw W.heap.size (Value.slice (some ⟨gb0, 0, none⟩) 1 1) _ P.e _ gw1.own (gw1.hz hzW) HF.out.e (by have := stampB_len P.fw P.ft; have := (encN_len HF.out.e).2; have := (encN_len HF.out.h).2; have := (encN_len HF.out.cl).2; have := (encN_len HF.out.lo).2; (try simp only [List.length_cons, List.length_nil]); omega)).mono ?_; rintro r wc2 ⟨vc3, rfl, kw2⟩
    have gw2 := gw1.trans kw2
    refine hK.out _ _ gw2.gr (fun _ => ?_)
    clear hK K hHeld
    try simp only [List.getElem_toArray, List.getElem_cons_succ, List.getElem_cons_zero, Act.put, List.setIfInBounds_toArray, List.set_cons_zero, List.set_cons_succ]
    have hHeld := gw2.gr
    refine wpAnyH_ready (rs := [6]) (by kernel_rfl) (by simp) ?_
    refine AllReadyH.cons rfl (fun K hK => ?_) AllReadyH.nil
    try simp only [List.getElem_toArray, List.getElem_cons_succ, List.getElem_cons_zero]
    go_simp
    refine (rn_gw W.heap.size vc3 _ P.h _ gw2.own (gw2.hz hzW) HF.out.h (by have := stampB_len P.fw P.ft; have := (encN_len HF.out.e).2; have := (encN_len HF.out.h).2; have := (encN_len HF.out.cl).2; have := (encN_len HF.out.lo).2; (try simp only [List.length_append, List.length_cons, List.length_nil]); omega)).mono ?_; rintro r wc3 ⟨vc6, rfl, kw3⟩
    have gw3 := gw2.trans kw3
    refine hK.out _ _ gw3.gr (fun _ => ?_)
    clear hK K hHeld
    try simp only [List.getElem_toArray, List.getElem_cons_succ, List.getElem_cons_zero, Act.put, List.setIfInBounds_toArray, List.set_cons_zero, List.set_cons_succ]
    have hHeld := gw3.gr
    refine wpAnyH_ready (rs := [9]) (by kernel_rfl) (by simp) ?_
    refine AllReadyH.cons rfl (fun K hK => ?_) AllReadyH.nil
    try simp only [List.getElem_toArray, List.getElem_cons_succ, List.getElem_cons_zero]
    go_simp
    refine (rs_gw W.heap.size vc6 _ P.fw P.ft _ gw3.own (gw3.hz hzW) HF.out.fw HF.out.ft (by have := stampB_len P.fw P.ft; have := (encN_len HF.out.e).2; have := (encN_len HF.out.h).2; have := (encN_len HF.out.cl).2; have := (encN_len HF.out.lo).2; (try simp only [List.length_append, List.length_cons, List.length_nil]); omega)).mono ?_; rintro r wc4 ⟨vc9, rfl, kw4⟩
    have gw4 := gw3.trans kw4
    refine hK.out _ _ gw4.gr (fun _ => ?_)
    clear hK K hHeld
    try simp only [List.getElem_toArray, List.getElem_cons_succ, List.getElem_cons_zero, Act.put, List.setIfInBounds_toArray, List.set_cons_zero, List.set_cons_succ]
    have hHeld := gw4.gr
    refine wpAnyH_take (i := 10) (v := ?_) rfl (by kernel_rfl) (by kernel_rfl) (by kernel_rfl) (fun _ _ _ h => h) (Or.inl ⟨by rfl, ?_⟩) hHeld ?_
    rotate_left
    · (intro wz hSw; (try dsimp only at hSw); (try simp only [List.getElem_toArray, List.getElem_cons_succ, List.getElem_cons_zero]); go_simp; try with_reducible rfl)
    try simp only [List.getElem_toArray, List.getElem_cons_succ, List.getElem_cons_zero, Act.put, List.setIfInBounds_toArray, List.set_cons_zero, List.set_cons_succ]
    refine wpAnyH_done (by kernel_rfl) ?_ _
    exact hcut gb0 vc3 vc6 vc9 wc4 (gw4)
  intro z0 z1 z2 v1 w1 hR
  have G1 := Lib.hid hR
  clear hR kA
  go_upto_region 2 with fail
  have kA : ∀ w', w1.grownBy w' v1.ownBlock → ∀ j, w'.cell? ⟨A, j, none⟩ = #[.int .i64 P.e, .int .i64 P.h, .int .i64 P.fw, .int .i64 P.ft, .int .i64 P.cl, .int .i64 P.lo, .slice ap P.cs.length ac, .slice aq P.rs.length ad, .slice as' P.ds.length at'][j]? := fun w' h => block_cells (below_block (G1.out.cls (Gw.nil_own _ _) (Nat.le_refl _) h) (block_lt HA.out) HA.out)
  have hz1 : W.heap.size ≤ w1.heap.size := G1.out.hz hzW
  apply cutW_VVVW (R := fun _ _ v' w' => Gw W.heap.size (.slice none 0 0) W v' w' ([2] ++ encN P.e ++ encN P.h ++ stampB P.fw P.ft ++ encN P.cl ++ encN P.lo ++ encN P.cs.length))
  · intro hcut
    have gw0 : Gw _ v1 w1 v1 w1.drew _ := (Gw.refl G1.out.own).drew
    have hh0 := gw0.gr
    refine wp_region_held_drew (S := fun w' => World.grownBy w1 w' (Value.ownBlock v1)) (by kernel_rfl) hh0 (fun hHeld => ?_)
    obtain ⟨wd, ewd⟩ : ∃ x, World.drew w1 = x := ⟨_, rfl⟩
    rw [ewd] at gw0 hh0 hHeld ⊢
    clear ewd
    refine wpAnyH_take (i := 0) (v := ?_) rfl (by kernel_rfl) (by kernel_rfl) (by kernel_rfl) (fun _ _ _ h => h) (Or.inl ⟨by rfl, ?_⟩) hHeld ?_
    rotate_left
    · (intro wz hSw; (try dsimp only at hSw); (try simp only [List.getElem_toArray, List.getElem_cons_zero]); go_simp; try with_reducible rfl)
    try simp only [List.getElem_toArray, List.getElem_cons_zero, Act.put, List.setIfInBounds_toArray, List.set_cons_zero, List.set_cons_succ]
    refine wpAnyH_take (i := 1) (v := ?_) rfl (by kernel_rfl) (by kernel_rfl) (by kernel_rfl) (fun _ _ _ h => h) (Or.inl ⟨by rfl, ?_⟩) hHeld ?_
    rotate_left
    · (intro wz hSw; (try dsimp only at hSw); (try simp only [List.getElem_toArray, List.getElem_cons_succ, List.getElem_cons_zero]); go_simp; try with_reducible rfl)
    try simp only [List.getElem_toArray, List.getElem_cons_succ, List.getElem_cons_zero, Act.put, List.setIfInBounds_toArray, List.set_cons_zero, List.set_cons_succ]
    refine wpAnyH_take (i := 2) (v := ?_) rfl (by kernel_rfl) (by kernel_rfl) (by kernel_rfl) (fun _ _ _ h => h) (Or.inl ⟨by rfl, ?_⟩) hHeld ?_
    rotate_left
    · (intro wz hSw; (try dsimp only at hSw); (try simp only [List.getElem_toArray, List.getElem_cons_succ, List.getElem_cons_zero]); go_simp; try with_reducible rfl)
    try simp only [List.getElem_toArray, List.getElem_cons_succ, List.getElem_cons_zero, Act.put, List.setIfInBounds_toArray, List.set_cons_zero, List.set_cons_succ]
    refine wpAnyH_take (i := 4) (v := ?_) rfl (by kernel_rfl) (by kernel_rfl) (by kernel_rfl) (fun _ _ _ h => h) (Or.inl ⟨by rfl, ?_⟩) hHeld ?_
    rotate_left
    · (intro wz hSw; (try dsimp only at hSw); (try simp only [List.getElem_toArray, List.getElem_cons_succ, List.getElem_cons_zero]); go_simp; try with_reducible rfl)
    try simp only [List.getElem_toArray, List.getElem_cons_succ, List.getElem_cons_zero, Act.put, List.setIfInBounds_toArray, List.set_cons_zero, List.set_cons_succ]
    refine wpAnyH_take (i := 5) (v := ?_) rfl (by kernel_rfl) (by kernel_rfl) (by kernel_rfl) (fun _ _ _ h => h) (Or.inl ⟨by rfl, ?_⟩) hHeld ?_
    rotate_left
    · (intro wz hSw; (try dsimp only at hSw); (try simp only [List.getElem_toArray, List.getElem_cons_succ, List.getElem_cons_zero]); go_simp; try with_reducible rfl)
    try simp only [List.getElem_toArray, List.getElem_cons_succ, List.getElem_cons_zero, Act.put, List.setIfInBounds_toArray, List.set_cons_zero, List.set_cons_succ]
    refine wpAnyH_take (i := 7) (v := ?_) rfl (by kernel_rfl) (by kernel_rfl) (by kernel_rfl) (fun _ _ _ h => h) (Or.inl ⟨by rfl, ?_⟩) hHeld ?_
    rotate_left
    · (intro wz hSw; (try dsimp only at hSw); (try simp only [List.getElem_toArray, List.getElem_cons_succ, List.getElem_cons_zero]); go_simp; try with_reducible rfl)
    try simp only [List.getElem_toArray, List.getElem_cons_succ, List.getElem_cons_zero, Act.put, List.setIfInBounds_toArray, List.set_cons_zero, List.set_cons_succ]
    refine wpAnyH_take (i := 8) (v := ?_) rfl (by kernel_rfl) (by kernel_rfl) (by kernel_rfl) (fun _ _ _ h => h) (Or.inl ⟨by rfl, ?_⟩) hHeld ?_
    rotate_left
    · (intro wz hSw; (try dsimp only at hSw); (try simp only [List.getElem_toArray, List.getElem_cons_succ, List.getElem_cons_zero]); go_simp; try with_reducible rfl)
    try simp only [List.getElem_toArray, List.getElem_cons_succ, List.getElem_cons_zero, Act.put, List.setIfInBounds_toArray, List.set_cons_zero, List.set_cons_succ]
    refine wpAnyH_take (i := 9) (v := ?_) rfl (by kernel_rfl) (by kernel_rfl) (by kernel_rfl) (fun _ _ _ h => h) (Or.inl ⟨by rfl, ?_⟩) hHeld ?_
    rotate_left
    · (intro wz hSw; (try dsimp only at hSw); (try simp only [List.getElem_toArray, List.getElem_cons_succ, List.getElem_cons_zero]); go_simp; try with_reducible rfl)
    try simp only [List.getElem_toArray, List.getElem_cons_succ, List.getElem_cons_zero, Act.put, List.setIfInBounds_toArray, List.set_cons_zero, List.set_cons_succ]
    refine wpAnyH_ready (rs := [3]) (by kernel_rfl) (by simp) ?_
    refine AllReadyH.cons rfl (fun K hK => ?_) AllReadyH.nil
    try simp only [List.getElem_toArray, List.getElem_cons_succ, List.getElem_cons_zero]
    go_simp
    refine (rn_gw W.heap.size v1 _ P.cl _ gw0.own (gw0.hz hz1) HF.out.cl (by have := stampB_len P.fw P.ft; have := (encN_len HF.out.e).2; have := (encN_len HF.out.h).2; have := (encN_len HF.out.cl).2; have := (encN_len HF.out.lo).2; (try simp only [List.length_append, List.length_cons, List.length_nil]); omega)).mono ?_; rintro r wc1 ⟨vc3, rfl, kw1⟩
    have gw1 := gw0.trans kw1
    refine hK.out _ _ gw1.gr (fun _ => ?_)
    clear hK K hHeld
    try simp only [List.getElem_toArray, List.getElem_cons_succ, List.getElem_cons_zero, Act.put, List.setIfInBounds_toArray, List.set_cons_zero, List.set_cons_succ]
    have hHeld := gw1.gr
    refine wpAnyH_ready (rs := [6]) (by kernel_rfl) (by simp) ?_
    refine AllReadyH.cons rfl (fun K hK => ?_) AllReadyH.nil
    try simp only [List.getElem_toArray, List.getElem_cons_succ, List.getElem_cons_zero]
    go_simp
    refine (rn_gw W.heap.size vc3 _ P.lo _ gw1.own (gw1.hz hz1) HF.out.lo (by have := stampB_len P.fw P.ft; have := (encN_len HF.out.e).2; have := (encN_len HF.out.h).2; have := (encN_len HF.out.cl).2; have := (encN_len HF.out.lo).2; (try simp only [List.length_append, List.length_cons, List.length_nil]); omega)).mono ?_; rintro r wc2 ⟨vc6, rfl, kw2⟩
    have gw2 := gw1.trans kw2
    refine hK.out _ _ gw2.gr (fun _ => ?_)
    clear hK K hHeld
    try simp only [List.getElem_toArray, List.getElem_cons_succ, List.getElem_cons_zero, Act.put, List.setIfInBounds_toArray, List.set_cons_zero, List.set_cons_succ]
    have hHeld := gw2.gr
    refine wpAnyH_ready (rs := [10]) (by kernel_rfl) (by simp) ?_
    refine AllReadyH.cons rfl (fun K hK => ?_) AllReadyH.nil
    try simp only [List.getElem_toArray, List.getElem_cons_succ, List.getElem_cons_zero]
    go_simp
    refine (rn_gw W.heap.size vc6 _ (P.cs.length : Int) _ gw2.own (gw2.hz hz1) ⟨by omega, by omega⟩ (by have := stampB_len P.fw P.ft; have := (encN_len HF.out.e).2; have := (encN_len HF.out.h).2; have := (encN_len HF.out.cl).2; have := (encN_len HF.out.lo).2; (try simp only [List.length_append, List.length_cons, List.length_nil]); omega)).mono ?_; rintro r wc3 ⟨vc10, rfl, kw3⟩
    have gw3 := gw2.trans kw3
    refine hK.out _ _ gw3.gr (fun _ => ?_)
    clear hK K hHeld
    try simp only [List.getElem_toArray, List.getElem_cons_succ, List.getElem_cons_zero, Act.put, List.setIfInBounds_toArray, List.set_cons_zero, List.set_cons_succ]
    have hHeld := gw3.gr
    refine wpAnyH_take (i := 11) (v := ?_) rfl (by kernel_rfl) (by kernel_rfl) (by kernel_rfl) (fun _ _ _ h => h) (Or.inl ⟨by rfl, ?_⟩) hHeld ?_
    rotate_left
    · (intro wz hSw; (try dsimp only at hSw); (try simp only [List.getElem_toArray, List.getElem_cons_succ, List.getElem_cons_zero]); go_simp; try with_reducible rfl)
    try simp only [List.getElem_toArray, List.getElem_cons_succ, List.getElem_cons_zero, Act.put, List.setIfInBounds_toArray, List.set_cons_zero, List.set_cons_succ]
    refine wpAnyH_done (by kernel_rfl) ?_ _
    exact hcut vc3 vc6 vc10 wc3 (G1.out.trans gw3)
  intro z3 z4 v2 w2 hR
  have HG0 : Hid (Gw W.heap.size (.slice none 0 0) W v2 w2 (encPaH P ++ (P.cs.take 0).flatMap encCL)) := by
    show Gw _ _ _ _ _ _
    have e : [2] ++ encN P.e ++ encN P.h ++ stampB P.fw P.ft ++ encN P.cl ++ encN P.lo ++ encN P.cs.length = encPaH P := by simp [encPaH]
    rw [e] at hR
    simp only [List.take_zero, List.flatMap_nil, List.append_nil]; exact hR
  clear hR kA hz1 G1
  have kA := block_cells (below_block (HG0.out.all rfl) (block_lt HA.out) HA.out)
  go_wp2_with fail
  clear kA
  go_loopw [3, 4] (fun u i wr => ∃ k : Nat, k ≤ P.cs.length ∧ i = .int .i64 k ∧ Hid (Gw W.heap.size (.slice none 0 0) W u wr (encPaH P ++ (P.cs.take k).flatMap encCL))) (fun _ i _ => P.cs.length - (intOf i).toNat)
  case atStart => exact ⟨0, Nat.zero_le _, rfl, HG0⟩
  case round =>
    clear HG0
    obtain ⟨k, hk, rfl, HG⟩ := hrel
    obtain ⟨wk, rfl⟩ : ∃ wk : World, wk = wr := ⟨_, rfl⟩
    obtain ⟨vk, rfl⟩ : ∃ vk : Value, vk = u3 := ⟨_, rfl⟩
    by_cases hlt : k < P.cs.length
    · have hd : decide ((k : Int) < (P.cs.length : Int)) = true := by simp; omega
      have hgt : (k : Int) < (P.cs.length : Int) := by omega
      obtain ⟨g, o, hpe, hg, hv, q0, q1, q2, q3, q4, q5, q6, q7, q8, q9, q10, q11⟩ := HCS.out k hlt
      have hxF := HF.out.cs P.cs[k] (List.getElem_mem hlt)
      have hxn := HN.out P.cs[k] (List.getElem_mem hlt)
      have hnx := flat_next (f := encCL) hlt
      have hfl := flat_le (f := encCL) P.cs (k + 1)
      obtain ⟨⟨⟨ck, cvs, clk, cyn, cyl, cys, cya, chm, csw, cst, clr, cld⟩, px, cx⟩, hx⟩ : ∃ x, P.cs[k] = x := ⟨_, rfl⟩
      rw [hx] at hv hxF hxn hnx q0 q1 q2 q3 q4 q5 q6 q7 q8 q9 q10 q11
      dsimp only at hv hxF hxn q0 q1 q2 q3 q4 q5 q6 q7 q8 q9 q10 q11
      simp only [encCL, encCe, encLk] at hnx
      obtain ⟨Xk, hXk⟩ : ∃ X, encPaH P ++ (P.cs.take k).flatMap encCL = X := ⟨_, rfl⟩
      have HNX : Hid (encPaH P ++ (P.cs.take (k + 1)).flatMap encCL = Xk ++ (encT ck ++ encN cvs.length ++ cvs.flatMap encVe ++ (encF clk ++ if clk then encY cyn cyl cys cya ++ encN chm ++ stampB csw cst ++ encF clr ++ encT cld else []))) := by
        show _ = _; rw [hnx, ← List.append_assoc, hXk]
      have HLK : Hid ((Xk.length : Int) + (encT ck).length + (encN cvs.length).length + (cvs.flatMap encVe).length + 1 + (if clk then encY cyn cyl cys cya ++ encN chm ++ stampB csw cst ++ encF clr ++ encT cld else []).length ≤ 140737488200000) := by
        show _ ≤ _
        have hbb := HT.out
        rw [hnx] at hfl
        simp only [List.length_append, encF_len] at hfl
        rw [← hXk]
        simp only [List.length_append]
        omega
      have HXK : Hid (Gw W.heap.size (.slice none 0 0) W vk wk (Xk)) := by show Gw _ _ _ _ _ _; rw [← hXk]; exact HG.out
      have HXF := Lib.hid hxF; have HV := Lib.hid hv
      have hzk : W.heap.size ≤ wk.heap.size := HXK.out.hz hzW
      have hba := HXK.out.all rfl
      subst hpe
      clear hx hnx hfl hXk HG hxF hv
      have r0 : wk.cell? ⟨g, o + k * 12, none⟩ = some (.string ck) := (hba.cell (p := ⟨g, o + k * 12, none⟩) hg).trans q0
      have r1 : wk.cell? ⟨g, o + k * 12 + 1, none⟩ = some (.slice px cvs.length cx) := (hba.cell (p := ⟨g, o + k * 12 + 1, none⟩) hg).trans q1
      have r2 : wk.cell? ⟨g, o + k * 12 + 2, none⟩ = some (.bool clk) := (hba.cell (p := ⟨g, o + k * 12 + 2, none⟩) hg).trans q2
      have r3 : wk.cell? ⟨g, o + k * 12 + 3, none⟩ = some (.int .i64 cyn) := (hba.cell (p := ⟨g, o + k * 12 + 3, none⟩) hg).trans q3
      have r4 : wk.cell? ⟨g, o + k * 12 + 4, none⟩ = some (.int .i64 cyl) := (hba.cell (p := ⟨g, o + k * 12 + 4, none⟩) hg).trans q4
      have r5 : wk.cell? ⟨g, o + k * 12 + 5, none⟩ = some (.int .i64 cys) := (hba.cell (p := ⟨g, o + k * 12 + 5, none⟩) hg).trans q5
      have r6 : wk.cell? ⟨g, o + k * 12 + 6, none⟩ = some (.int .i64 cya) := (hba.cell (p := ⟨g, o + k * 12 + 6, none⟩) hg).trans q6
      have r7 : wk.cell? ⟨g, o + k * 12 + 7, none⟩ = some (.int .i64 chm) := (hba.cell (p := ⟨g, o + k * 12 + 7, none⟩) hg).trans q7
      have r8 : wk.cell? ⟨g, o + k * 12 + 8, none⟩ = some (.int .i64 csw) := (hba.cell (p := ⟨g, o + k * 12 + 8, none⟩) hg).trans q8
      have r9 : wk.cell? ⟨g, o + k * 12 + 9, none⟩ = some (.int .i64 cst) := (hba.cell (p := ⟨g, o + k * 12 + 9, none⟩) hg).trans q9
      have r10 : wk.cell? ⟨g, o + k * 12 + 10, none⟩ = some (.bool clr) := (hba.cell (p := ⟨g, o + k * 12 + 10, none⟩) hg).trans q10
      have r11 : wk.cell? ⟨g, o + k * 12 + 11, none⟩ = some (.string cld) := (hba.cell (p := ⟨g, o + k * 12 + 11, none⟩) hg).trans q11
      have kA := block_cells (below_block hba (block_lt HA.out) HA.out)
      clear hba hg q0 q1 q2 q3 q4 q5 q6 q7 q8 q9 q10 q11
      go_upto_region 7 with fail
      clear kA r0 r1 r2 r3 r4 r5 r6 r7 r8 r9 r10 r11
      obtain ⟨WB, hWB⟩ : ∃ x', wk.alloc (.cells #[.string ck, .slice px cvs.length cx, .bool clk, .int .i64 cyn, .int .i64 cyl, .int .i64 cys, .int .i64 cya, .int .i64 chm, .int .i64 csw, .int .i64 cst, .bool clr, .string cld] 75) = x' := ⟨_, rfl⟩
      have hBX : WB.heap[wk.heap.size]? = some (.cells #[.string ck, .slice px cvs.length cx, .bool clk, .int .i64 cyn, .int .i64 cyl, .int .i64 cys, .int .i64 cya, .int .i64 chm, .int .i64 csw, .int .i64 cst, .bool clr, .string cld] 75 (0, 0)) := by rw [← hWB]; exact heap_last wk _
      have hnb := HXK.out.fresh
      have HXB : Hid (Gw W.heap.size (.slice none 0 0) W vk WB (Xk)) := by show Gw _ _ _ _ _ _; rw [← hWB]; exact HXK.out.alloc _
      rw [hWB]
      obtain ⟨Bx, eBx⟩ : ∃ n, wk.heap.size = n := ⟨_, rfl⟩
      rw [eBx] at hBX hnb ⊢
      clear hWB eBx hzk HXK
      have hzk : W.heap.size ≤ WB.heap.size := HXB.out.hz hzW
      have kB : ∀ w', WB.grownBy w' vk.ownBlock → ∀ j, w'.cell? ⟨Bx, j, none⟩ = #[.string ck, .slice px cvs.length cx, .bool clk, .int .i64 cyn, .int .i64 cyl, .int .i64 cys, .int .i64 cya, .int .i64 chm, .int .i64 csw, .int .i64 cst, .bool clr, .string cld][j]? := fun w' h => grown_cells h hBX hnb
      apply cutW_VVW (R := fun _ v' w' => Gw W.heap.size (.slice none 0 0) W v' w' (Xk ++ encT ck ++ encN cvs.length) ∧ w'.heap[Bx]? = some (.cells #[.string ck, .slice px cvs.length cx, .bool clk, .int .i64 cyn, .int .i64 cyl, .int .i64 cys, .int .i64 cya, .int .i64 chm, .int .i64 csw, .int .i64 cst, .bool clr, .string cld] 75 (0, 0)) ∧ v'.ownBlock ≠ some Bx)
      · intro hcut
        have gw0 : Gw _ vk WB vk WB.drew _ := (Gw.refl HXB.out.own).drew
        have hh0 := gw0.gr
        refine wp_region_held_drew (S := fun w' => World.grownBy WB w' (Value.ownBlock vk)) (by kernel_rfl) hh0 (fun hHeld => ?_)
        have hdB : (World.drew WB).heap[Bx]? = _ := hBX
        obtain ⟨wd, ewd⟩ : ∃ x, World.drew WB = x := ⟨_, rfl⟩
        rw [ewd] at hdB gw0 hh0 hHeld ⊢
        clear ewd
        refine wpAnyH_take (i := 0) (v := ?_) rfl (by kernel_rfl) (by kernel_rfl) (by kernel_rfl) (fun _ _ _ h => h) (Or.inl ⟨by rfl, ?_⟩) hHeld ?_
        rotate_left
        · (intro wz hSw; (try dsimp only at hSw); (try simp only [List.getElem_toArray, List.getElem_cons_zero]); go_simp; try with_reducible rfl)
        try simp only [List.getElem_toArray, List.getElem_cons_zero, Act.put, List.setIfInBounds_toArray, List.set_cons_zero, List.set_cons_succ]
        refine wpAnyH_take (i := 1) (v := ?_) rfl (by kernel_rfl) (by kernel_rfl) (by kernel_rfl) (fun _ _ _ h => h) (Or.inl ⟨by rfl, ?_⟩) hHeld ?_
        rotate_left
        · (intro wz hSw; (try dsimp only at hSw); (try simp only [List.getElem_toArray, List.getElem_cons_succ, List.getElem_cons_zero]); go_simp; try with_reducible rfl)
        try simp only [List.getElem_toArray, List.getElem_cons_succ, List.getElem_cons_zero, Act.put, List.setIfInBounds_toArray, List.set_cons_zero, List.set_cons_succ]
        refine wpAnyH_take (i := 2) (v := ?_) rfl (by kernel_rfl) (by kernel_rfl) (by kernel_rfl) (fun _ _ _ h => h) (Or.inl ⟨by rfl, ?_⟩) hHeld ?_
        rotate_left
        · (intro wz hSw; (try dsimp only at hSw); (try simp only [List.getElem_toArray, List.getElem_cons_succ, List.getElem_cons_zero]); go_simp; try with_reducible rfl)
        try simp only [List.getElem_toArray, List.getElem_cons_succ, List.getElem_cons_zero, Act.put, List.setIfInBounds_toArray, List.set_cons_zero, List.set_cons_succ]
        refine wpAnyH_take (i := 4) (v := ?_) rfl (by kernel_rfl) (by kernel_rfl) (by kernel_rfl) (fun _ _ _ h => h) (Or.inl ⟨by rfl, ?_⟩) hHeld ?_
        rotate_left
        · (intro wz hSw; (try dsimp only at hSw); (try simp only [List.getElem_toArray, List.getElem_cons_succ, List.getElem_cons_zero]); go_simp; try with_reducible rfl)
        try simp only [List.getElem_toArray, List.getElem_cons_succ, List.getElem_cons_zero, Act.put, List.setIfInBounds_toArray, List.set_cons_zero, List.set_cons_succ]
        refine wpAnyH_take (i := 5) (v := ?_) rfl (by kernel_rfl) (by kernel_rfl) (by kernel_rfl) (fun _ _ _ h => h) (Or.inl ⟨by rfl, ?_⟩) hHeld ?_
        rotate_left
        · (intro wz hSw; (try dsimp only at hSw); (try simp only [List.getElem_toArray, List.getElem_cons_succ, List.getElem_cons_zero]); go_simp; try with_reducible rfl)
        try simp only [List.getElem_toArray, List.getElem_cons_succ, List.getElem_cons_zero, Act.put, List.setIfInBounds_toArray, List.set_cons_zero, List.set_cons_succ]
        refine wpAnyH_take (i := 6) (v := ?_) rfl (by kernel_rfl) (by kernel_rfl) (by kernel_rfl) (fun _ _ _ h => h) (Or.inl ⟨by rfl, ?_⟩) hHeld ?_
        rotate_left
        · (intro wz hSw; (try dsimp only at hSw); (try simp only [List.getElem_toArray, List.getElem_cons_succ, List.getElem_cons_zero]); go_simp; try with_reducible rfl)
        try simp only [List.getElem_toArray, List.getElem_cons_succ, List.getElem_cons_zero, Act.put, List.setIfInBounds_toArray, List.set_cons_zero, List.set_cons_succ]
        refine wpAnyH_ready (rs := [3]) (by kernel_rfl) (by simp) ?_
        refine AllReadyH.cons rfl (fun K hK => ?_) AllReadyH.nil
        try simp only [List.getElem_toArray, List.getElem_cons_succ, List.getElem_cons_zero]
        go_simp
        refine (rt_gw W.heap.size vk _ ck _ gw0.own (gw0.hz hzk) (by have := HLK.out; have := encT_ge ck; (try simp only [List.length_append]); omega)).mono ?_; rintro r wc1 ⟨vc3, rfl, kw1⟩
        have gw1 := gw0.trans kw1
        obtain ⟨hq1xB, hn1xB⟩ := kw1.keep hdB hnb
        refine hK.out _ _ gw1.gr (fun _ => ?_)
        clear hK K hHeld
        try simp only [List.getElem_toArray, List.getElem_cons_succ, List.getElem_cons_zero, Act.put, List.setIfInBounds_toArray, List.set_cons_zero, List.set_cons_succ]
        have hHeld := gw1.gr
        refine wpAnyH_ready (rs := [7]) (by kernel_rfl) (by simp) ?_
        refine AllReadyH.cons rfl (fun K hK => ?_) AllReadyH.nil
        try simp only [List.getElem_toArray, List.getElem_cons_succ, List.getElem_cons_zero]
        go_simp
        refine (rn_gw W.heap.size vc3 _ (cvs.length : Int) _ gw1.own (gw1.hz hzk) ⟨by omega, by omega⟩ (by have := HLK.out; have := encT_ge ck; (try simp only [List.length_append]); omega)).mono ?_; rintro r wc2 ⟨vc7, rfl, kw2⟩
        have gw2 := gw1.trans kw2
        obtain ⟨hq2xB, hn2xB⟩ := kw2.keep hq1xB hn1xB
        refine hK.out _ _ gw2.gr (fun _ => ?_)
        clear hK K hHeld
        try simp only [List.getElem_toArray, List.getElem_cons_succ, List.getElem_cons_zero, Act.put, List.setIfInBounds_toArray, List.set_cons_zero, List.set_cons_succ]
        have hHeld := gw2.gr
        refine wpAnyH_take (i := 8) (v := ?_) rfl (by kernel_rfl) (by kernel_rfl) (by kernel_rfl) (fun _ _ _ h => h) (Or.inl ⟨by rfl, ?_⟩) hHeld ?_
        rotate_left
        · (intro wz hSw; (try dsimp only at hSw); (try simp only [List.getElem_toArray, List.getElem_cons_succ, List.getElem_cons_zero]); go_simp; try with_reducible rfl)
        try simp only [List.getElem_toArray, List.getElem_cons_succ, List.getElem_cons_zero, Act.put, List.setIfInBounds_toArray, List.set_cons_zero, List.set_cons_succ]
        refine wpAnyH_done (by kernel_rfl) ?_ _
        exact hcut vc3 vc7 wc2 ⟨HXB.out.trans gw2, hq2xB, hn2xB⟩
      intro y0 v6 w6 hR
      obtain ⟨X2, hX2⟩ : ∃ X, Xk ++ encT ck ++ encN cvs.length = X := ⟨_, rfl⟩
      rw [hX2] at hR
      have HG0 : Hid (Gw W.heap.size (.slice none 0 0) W v6 w6 (X2 ++ (cvs.take 0).flatMap encVe) ∧ w6.heap[Bx]? = some (.cells #[.string ck, .slice px cvs.length cx, .bool clk, .int .i64 cyn, .int .i64 cyl, .int .i64 cys, .int .i64 cya, .int .i64 chm, .int .i64 csw, .int .i64 cst, .bool clr, .string cld] 75 (0, 0)) ∧ v6.ownBlock ≠ some Bx) := by
        show _ ∧ _
        simp only [List.take_zero, List.flatMap_nil, List.append_nil]; exact hR
      have HNX2 : Hid (encPaH P ++ (P.cs.take (k + 1)).flatMap encCL = X2 ++ cvs.flatMap encVe ++ (encF clk ++ if clk then encY cyn cyl cys cya ++ encN chm ++ stampB csw cst ++ encF clr ++ encT cld else [])) := by
        show _ = _; rw [HNX.out, ← hX2]; simp only [List.append_assoc]
      have HLK2 : Hid ((X2.length : Int) + (cvs.flatMap encVe).length + 1 + (if clk then encY cyn cyl cys cya ++ encN chm ++ stampB csw cst ++ encF clr ++ encT cld else []).length ≤ 140737488200000) := by
        show _ ≤ _; have := HLK.out; rw [← hX2]; simp only [List.length_append] at this ⊢; omega
      have kb := block_cells hR.2.1
      clear hR hX2 kB hBX hnb HXB HNX HLK hzk
      go_wp2_with fail
      clear kb
      go_loopw [3, 6] (fun u i wr => ∃ m : Nat, m ≤ cvs.length ∧ i = .int .i64 m ∧ Hid (Gw W.heap.size (.slice none 0 0) W u wr (X2 ++ (cvs.take m).flatMap encVe) ∧ wr.heap[Bx]? = some (.cells #[.string ck, .slice px cvs.length cx, .bool clk, .int .i64 cyn, .int .i64 cyl, .int .i64 cys, .int .i64 cya, .int .i64 chm, .int .i64 csw, .int .i64 cst, .bool clr, .string cld] 75 (0, 0)) ∧ u.ownBlock ≠ some Bx)) (fun _ i _ => cvs.length - (intOf i).toNat)
      case atStart => exact ⟨0, Nat.zero_le _, rfl, HG0⟩
      case round =>
        clear HG0
        obtain ⟨m, hm, rfl, HG⟩ := hrel
        obtain ⟨wm, rfl⟩ : ∃ wm : World, wm = wr := ⟨_, rfl⟩
        obtain ⟨vm, rfl⟩ : ∃ vm : Value, vm = u3 := ⟨_, rfl⟩
        by_cases hmt : m < cvs.length
        · have hd2 : decide ((m : Int) < (cvs.length : Int)) = true := by simp; omega
          have hgm : (m : Int) < (cvs.length : Int) := by omega
          obtain ⟨gv, ov, hpv, hgv, t0, t1, t2, t3⟩ := HV.out m hmt
          have hyF := HXF.out.vs cvs[m] (List.getElem_mem hmt)
          have hny := flat_next (f := encVe) hmt
          have hfl := flat_le (f := encVe) cvs (m + 1)
          obtain ⟨y, hy⟩ : ∃ y, cvs[m] = y := ⟨_, rfl⟩
          rw [hy] at hyF hny t0 t1 t2 t3
          obtain ⟨Xm, hXm⟩ : ∃ X, X2 ++ (cvs.take m).flatMap encVe = X := ⟨_, rfl⟩
          have HNY : Hid (Xm ++ stampB y.w y.t ++ encF y.r ++ encT y.d = X2 ++ (cvs.take (m + 1)).flatMap encVe) := by
            show _ = _; rw [hny, ← List.append_assoc, hXm]; simp [encVe]
          have HLM : Hid ((Xm.length : Int) + 17 + (encT y.d).length ≤ 140737488200000) := by
            show _ ≤ _
            have hbb := HLK2.out
            rw [hny, List.length_append, encVe_len] at hfl
            rw [← hXm, List.length_append]; omega
          have HXM : Hid (Gw W.heap.size (.slice none 0 0) W vm wm (Xm)) := by show Gw _ _ _ _ _ _; rw [← hXm]; exact HG.out.1
          have hBm := HG.out.2.1; have hnm := HG.out.2.2
          have HYF := Lib.hid hyF
          have hba := HXM.out.all rfl
          have s0 : wm.cell? ⟨gv, ov + m * 4, none⟩ = some (.int .i64 y.w) := (hba.cell (p := ⟨gv, ov + m * 4, none⟩) hgv).trans t0
          have s1 : wm.cell? ⟨gv, ov + m * 4 + 1, none⟩ = some (.int .i64 y.t) := (hba.cell (p := ⟨gv, ov + m * 4 + 1, none⟩) hgv).trans t1
          have s2 : wm.cell? ⟨gv, ov + m * 4 + 2, none⟩ = some (.bool y.r) := (hba.cell (p := ⟨gv, ov + m * 4 + 2, none⟩) hgv).trans t2
          have s3 : wm.cell? ⟨gv, ov + m * 4 + 3, none⟩ = some (.string y.d) := (hba.cell (p := ⟨gv, ov + m * 4 + 3, none⟩) hgv).trans t3
          subst hpv
          clear hy hny hfl hXm HG hyF hba t0 t1 t2 t3 hgv
          have HBM := Lib.hid (And.intro hBm hnm)
          have kb := block_cells hBm
          clear hBm hnm
          go_upto_region 12 with fail
          clear s0 s1 s2 s3 kb
          obtain ⟨WV, hWV⟩ : ∃ x', wm.alloc (.cells #[.int .i64 y.w, .int .i64 y.t, .bool y.r, .string y.d] 78) = x' := ⟨_, rfl⟩
          have hBY : WV.heap[wm.heap.size]? = some (.cells #[.int .i64 y.w, .int .i64 y.t, .bool y.r, .string y.d] 78 (0, 0)) := by rw [← hWV]; exact heap_last wm _
          have hBm : WV.heap[Bx]? = some (.cells #[.string ck, .slice (some ⟨gv, ov, none⟩) cvs.length cx, .bool clk, .int .i64 cyn, .int .i64 cyl, .int .i64 cys, .int .i64 cya, .int .i64 chm, .int .i64 csw, .int .i64 cst, .bool clr, .string cld] 75 (0, 0)) := by rw [← hWV]; exact heap_prev _ HBM.out.1
          have hnm := HBM.out.2
          have hny := HXM.out.fresh
          have HXV : Hid (Gw W.heap.size (.slice none 0 0) W vm WV (Xm)) := by show Gw _ _ _ _ _ _; rw [← hWV]; exact HXM.out.alloc _
          rw [hWV]
          obtain ⟨By, eBy⟩ : ∃ n, wm.heap.size = n := ⟨_, rfl⟩
          rw [eBy] at hBY hny ⊢
          clear hWV eBy HXM HBM
          have hzm : W.heap.size ≤ WV.heap.size := HXV.out.hz hzW
          have kY : ∀ w', WV.grownBy w' vm.ownBlock → ∀ j, w'.cell? ⟨By, j, none⟩ = #[.int .i64 y.w, .int .i64 y.t, .bool y.r, .string y.d][j]? := fun w' h => grown_cells h hBY hny
          have HBM := Lib.hid hBm
          clear hBm
          apply cutW_VVVW (R := fun _ _ v' w' => Gw W.heap.size (.slice none 0 0) W v' w' (Xm ++ stampB y.w y.t ++ encF y.r ++ encT y.d) ∧ w'.heap[Bx]? = some (.cells #[.string ck, .slice (some ⟨gv, ov, none⟩) cvs.length cx, .bool clk, .int .i64 cyn, .int .i64 cyl, .int .i64 cys, .int .i64 cya, .int .i64 chm, .int .i64 csw, .int .i64 cst, .bool clr, .string cld] 75 (0, 0)) ∧ v'.ownBlock ≠ some Bx)
          · intro hcut
            have gw0 : Gw _ vm WV vm WV.drew _ := (Gw.refl HXV.out.own).drew
            have hh0 := gw0.gr
            refine wp_region_held_drew (S := fun w' => World.grownBy WV w' (Value.ownBlock vm)) (by kernel_rfl) hh0 (fun hHeld => ?_)
            have hdB : (World.drew WV).heap[Bx]? = _ := HBM.out
            obtain ⟨wd, ewd⟩ : ∃ x, World.drew WV = x := ⟨_, rfl⟩
            rw [ewd] at hdB gw0 hh0 hHeld ⊢
            clear ewd
            refine wpAnyH_take (i := 0) (v := ?_) rfl (by kernel_rfl) (by kernel_rfl) (by kernel_rfl) (fun _ _ _ h => h) (Or.inl ⟨by rfl, ?_⟩) hHeld ?_
            rotate_left
            · (intro wz hSw; (try dsimp only at hSw); (try simp only [List.getElem_toArray, List.getElem_cons_zero]); go_simp; try with_reducible rfl)
            try simp only [List.getElem_toArray, List.getElem_cons_zero, Act.put, List.setIfInBounds_toArray, List.set_cons_zero, List.set_cons_succ]
            refine wpAnyH_take (i := 1) (v := ?_) rfl (by kernel_rfl) (by kernel_rfl) (by kernel_rfl) (fun _ _ _ h => h) (Or.inl ⟨by rfl, ?_⟩) hHeld ?_
            rotate_left
            · (intro wz hSw; (try dsimp only at hSw); (try simp only [List.getElem_toArray, List.getElem_cons_succ, List.getElem_cons_zero]); go_simp; try with_reducible rfl)
            try simp only [List.getElem_toArray, List.getElem_cons_succ, List.getElem_cons_zero, Act.put, List.setIfInBounds_toArray, List.set_cons_zero, List.set_cons_succ]
            refine wpAnyH_take (i := 2) (v := ?_) rfl (by kernel_rfl) (by kernel_rfl) (by kernel_rfl) (fun _ _ _ h => h) (Or.inl ⟨by rfl, ?_⟩) hHeld ?_
            rotate_left
            · (intro wz hSw; (try dsimp only at hSw); (try simp only [List.getElem_toArray, List.getElem_cons_succ, List.getElem_cons_zero]); go_simp; try with_reducible rfl)
            try simp only [List.getElem_toArray, List.getElem_cons_succ, List.getElem_cons_zero, Act.put, List.setIfInBounds_toArray, List.set_cons_zero, List.set_cons_succ]
            refine wpAnyH_take (i := 4) (v := ?_) rfl (by kernel_rfl) (by kernel_rfl) (by kernel_rfl) (fun _ _ _ h => h) (Or.inl ⟨by rfl, ?_⟩) hHeld ?_
            rotate_left
            · (intro wz hSw; (try dsimp only at hSw); (try simp only [List.getElem_toArray, List.getElem_cons_succ, List.getElem_cons_zero]); go_simp; try with_reducible rfl)
            try simp only [List.getElem_toArray, List.getElem_cons_succ, List.getElem_cons_zero, Act.put, List.setIfInBounds_toArray, List.set_cons_zero, List.set_cons_succ]
            refine wpAnyH_take (i := 5) (v := ?_) rfl (by kernel_rfl) (by kernel_rfl) (by kernel_rfl) (fun _ _ _ h => h) (Or.inl ⟨by rfl, ?_⟩) hHeld ?_
            rotate_left
            · (intro wz hSw; (try dsimp only at hSw); (try simp only [List.getElem_toArray, List.getElem_cons_succ, List.getElem_cons_zero]); go_simp; try with_reducible rfl)
            try simp only [List.getElem_toArray, List.getElem_cons_succ, List.getElem_cons_zero, Act.put, List.setIfInBounds_toArray, List.set_cons_zero, List.set_cons_succ]
            refine wpAnyH_take (i := 7) (v := ?_) rfl (by kernel_rfl) (by kernel_rfl) (by kernel_rfl) (fun _ _ _ h => h) (Or.inl ⟨by rfl, ?_⟩) hHeld ?_
            rotate_left
            · (intro wz hSw; (try dsimp only at hSw); (try simp only [List.getElem_toArray, List.getElem_cons_succ, List.getElem_cons_zero]); go_simp; try with_reducible rfl)
            try simp only [List.getElem_toArray, List.getElem_cons_succ, List.getElem_cons_zero, Act.put, List.setIfInBounds_toArray, List.set_cons_zero, List.set_cons_succ]
            refine wpAnyH_take (i := 8) (v := ?_) rfl (by kernel_rfl) (by kernel_rfl) (by kernel_rfl) (fun _ _ _ h => h) (Or.inl ⟨by rfl, ?_⟩) hHeld ?_
            rotate_left
            · (intro wz hSw; (try dsimp only at hSw); (try simp only [List.getElem_toArray, List.getElem_cons_succ, List.getElem_cons_zero]); go_simp; try with_reducible rfl)
            try simp only [List.getElem_toArray, List.getElem_cons_succ, List.getElem_cons_zero, Act.put, List.setIfInBounds_toArray, List.set_cons_zero, List.set_cons_succ]
            refine wpAnyH_ready (rs := [3]) (by kernel_rfl) (by simp) ?_
            refine AllReadyH.cons rfl (fun K hK => ?_) AllReadyH.nil
            try simp only [List.getElem_toArray, List.getElem_cons_succ, List.getElem_cons_zero]
            go_simp
            refine (rs_gw W.heap.size vm _ y.w y.t _ gw0.own (gw0.hz hzm) HYF.out.w HYF.out.t (by have := HLM.out; have := encT_ge y.d; have := stampB_len y.w y.t; have := encF_len y.r; (try simp only [List.length_append]); omega)).mono ?_; rintro r wc1 ⟨vc3, rfl, kw1⟩
            have gw1 := gw0.trans kw1
            obtain ⟨hq1xB, hn1xB⟩ := kw1.keep hdB hnm
            refine hK.out _ _ gw1.gr (fun _ => ?_)
            clear hK K hHeld
            try simp only [List.getElem_toArray, List.getElem_cons_succ, List.getElem_cons_zero, Act.put, List.setIfInBounds_toArray, List.set_cons_zero, List.set_cons_succ]
            have hHeld := gw1.gr
            refine wpAnyH_ready (rs := [6]) (by kernel_rfl) (by simp) ?_
            refine AllReadyH.cons rfl (fun K hK => ?_) AllReadyH.nil
            try simp only [List.getElem_toArray, List.getElem_cons_succ, List.getElem_cons_zero]
            go_simp
            refine (rf_gw W.heap.size vc3 _ y.r _ gw1.own (gw1.hz hzm) (by have := HLM.out; have := encT_ge y.d; have := stampB_len y.w y.t; have := encF_len y.r; (try simp only [List.length_append]); omega)).mono ?_; rintro r wc2 ⟨vc6, rfl, kw2⟩
            have gw2 := gw1.trans kw2
            obtain ⟨hq2xB, hn2xB⟩ := kw2.keep hq1xB hn1xB
            refine hK.out _ _ gw2.gr (fun _ => ?_)
            clear hK K hHeld
            try simp only [List.getElem_toArray, List.getElem_cons_succ, List.getElem_cons_zero, Act.put, List.setIfInBounds_toArray, List.set_cons_zero, List.set_cons_succ]
            have hHeld := gw2.gr
            refine wpAnyH_ready (rs := [9]) (by kernel_rfl) (by simp) ?_
            refine AllReadyH.cons rfl (fun K hK => ?_) AllReadyH.nil
            try simp only [List.getElem_toArray, List.getElem_cons_succ, List.getElem_cons_zero]
            go_simp
            refine (rt_gw W.heap.size vc6 _ y.d _ gw2.own (gw2.hz hzm) (by have := HLM.out; have := encT_ge y.d; have := stampB_len y.w y.t; have := encF_len y.r; (try simp only [List.length_append]); omega)).mono ?_; rintro r wc3 ⟨vc9, rfl, kw3⟩
            have gw3 := gw2.trans kw3
            obtain ⟨hq3xB, hn3xB⟩ := kw3.keep hq2xB hn2xB
            refine hK.out _ _ gw3.gr (fun _ => ?_)
            clear hK K hHeld
            try simp only [List.getElem_toArray, List.getElem_cons_succ, List.getElem_cons_zero, Act.put, List.setIfInBounds_toArray, List.set_cons_zero, List.set_cons_succ]
            have hHeld := gw3.gr
            refine wpAnyH_take (i := 10) (v := ?_) rfl (by kernel_rfl) (by kernel_rfl) (by kernel_rfl) (fun _ _ _ h => h) (Or.inl ⟨by rfl, ?_⟩) hHeld ?_
            rotate_left
            · (intro wz hSw; (try dsimp only at hSw); (try simp only [List.getElem_toArray, List.getElem_cons_succ, List.getElem_cons_zero]); go_simp; try with_reducible rfl)
            try simp only [List.getElem_toArray, List.getElem_cons_succ, List.getElem_cons_zero, Act.put, List.setIfInBounds_toArray, List.set_cons_zero, List.set_cons_succ]
            refine wpAnyH_done (by kernel_rfl) ?_ _
            exact hcut vc3 vc6 vc9 wc3 ⟨HXV.out.trans gw3, hq3xB, hn3xB⟩
          intro x0 x1 v10 w10 hR
          rw [HNY.out] at hR
          have HR := Lib.hid hR
          clear hR kY hBY hny hnm HBM HXV HNY HLM HYF hzm
          go_wp2_with fail
          go_roundw
          case rel => exact ⟨m + 1, by omega, by go_num, HR⟩
          case measure => simp [intOf]; omega
        · obtain rfl : m = cvs.length := by omega
          have hd2 : decide ((cvs.length : Int) < (cvs.length : Int)) = false := by simp
          have hh := HG.out
          rw [flat_all] at hh
          obtain ⟨X3, hX3⟩ : ∃ X, X2 ++ cvs.flatMap encVe = X := ⟨_, rfl⟩
          rw [hX3] at hh
          have HNX3 : Hid (encPaH P ++ (P.cs.take (k + 1)).flatMap encCL = X3 ++ (encF clk ++ if clk then encY cyn cyl cys cya ++ encN chm ++ stampB csw cst ++ encF clr ++ encT cld else [])) := by
            show _ = _; rw [HNX2.out, hX3]
          have HLK3 : Hid ((X3.length : Int) + 1 + (if clk then encY cyn cyl cys cya ++ encN chm ++ stampB csw cst ++ encF clr ++ encT cld else []).length ≤ 140737488200000) := by
            show _ ≤ _; have := HLK2.out; rw [← hX3, List.length_append]; omega
          have hzm : W.heap.size ≤ wm.heap.size := hh.1.hz hzW
          have HFL := Lib.hid (rf_gw W.heap.size vm X3 clk wm hh.1.own hzm (by have := HLK3.out; omega))
          have kb := block_cells hh.2.1
          have HH := Lib.hid hh
          clear hh hX3 HG HNX2 HLK2 hzm
          go_wp2_with fail
          refine HFL.out.mono ?_; rintro e w12 ⟨v12, rfl, k12⟩
          have hkp := k12.keep HH.out.2.1 HH.out.2.2
          have HG12 := Lib.hid (HH.out.1.trans k12)
          clear kb k12 HH HFL
          have kb := block_cells hkp.1
          have HKP := Lib.hid hkp
          clear hkp
          cases clk with
          | false =>
            go_wp2_with fail
            go_roundw
            case rel => exact ⟨k + 1, by omega, by go_num, by show Gw _ _ _ _ _ _; rw [HNX3.out]; simpa using HG12.out⟩
            case measure => simp [intOf]; omega
          | true =>
            go_upto_region 15 with fail
            clear kb
            have kB : ∀ w', w12.grownBy w' v12.ownBlock → ∀ j, w'.cell? ⟨Bx, j, none⟩ = #[.string ck, .slice px cvs.length cx, .bool true, .int .i64 cyn, .int .i64 cyl, .int .i64 cys, .int .i64 cya, .int .i64 chm, .int .i64 csw, .int .i64 cst, .bool clr, .string cld][j]? := fun w' h => grown_cells h HKP.out.1 HKP.out.2
            have hz12 : W.heap.size ≤ w12.heap.size := HG12.out.hz hzW
            have HLK4 : Hid ((X3.length : Int) + 1 + (encY cyn cyl cys cya).length + (encN chm).length + 16 + 1 + (encT cld).length ≤ 140737488200000) := by
              show _ ≤ _; have := HLK3.out; simp only [if_true, List.length_append, stampB_len, encF_len] at this; omega
            have HNX4 : Hid (encPaH P ++ (P.cs.take (k + 1)).flatMap encCL = X3 ++ encF true ++ encY cyn cyl cys cya ++ encN chm ++ stampB csw cst ++ encF clr ++ encT cld) := by
              show _ = _; rw [HNX3.out]; simp
            clear HLK3 HNX3
            apply cutW_VVVVVW (R := fun _ _ _ _ v' w' => Gw W.heap.size (.slice none 0 0) W v' w' (X3 ++ encF true ++ encY cyn cyl cys cya ++ encN chm ++ stampB csw cst ++ encF clr ++ encT cld))
            · intro hcut
              have gw0 : Gw _ v12 w12 v12 w12.drew _ := (Gw.refl HG12.out.own).drew
              have hh0 := gw0.gr
              refine wp_region_held_drew (S := fun w' => World.grownBy w12 w' (Value.ownBlock v12)) (by kernel_rfl) hh0 (fun hHeld => ?_)
              obtain ⟨wd, ewd⟩ : ∃ x, World.drew w12 = x := ⟨_, rfl⟩
              rw [ewd] at gw0 hh0 hHeld ⊢
              clear ewd
              refine wpAnyH_take (i := 0) (v := ?_) rfl (by kernel_rfl) (by kernel_rfl) (by kernel_rfl) (fun _ _ _ h => h) (Or.inl ⟨by rfl, ?_⟩) hHeld ?_
              rotate_left
              · (intro wz hSw; (try dsimp only at hSw); (try simp only [List.getElem_toArray, List.getElem_cons_zero]); go_simp; try with_reducible rfl)
              try simp only [List.getElem_toArray, List.getElem_cons_zero, Act.put, List.setIfInBounds_toArray, List.set_cons_zero, List.set_cons_succ]
              refine wpAnyH_take (i := 1) (v := ?_) rfl (by kernel_rfl) (by kernel_rfl) (by kernel_rfl) (fun _ _ _ h => h) (Or.inl ⟨by rfl, ?_⟩) hHeld ?_
              rotate_left
              · (intro wz hSw; (try dsimp only at hSw); (try simp only [List.getElem_toArray, List.getElem_cons_succ, List.getElem_cons_zero]); go_simp; try with_reducible rfl)
              try simp only [List.getElem_toArray, List.getElem_cons_succ, List.getElem_cons_zero, Act.put, List.setIfInBounds_toArray, List.set_cons_zero, List.set_cons_succ]
              refine wpAnyH_take (i := 2) (v := ?_) rfl (by kernel_rfl) (by kernel_rfl) (by kernel_rfl) (fun _ _ _ h => h) (Or.inl ⟨by rfl, ?_⟩) hHeld ?_
              rotate_left
              · (intro wz hSw; (try dsimp only at hSw); (try simp only [List.getElem_toArray, List.getElem_cons_succ, List.getElem_cons_zero]); go_simp; try with_reducible rfl)
              try simp only [List.getElem_toArray, List.getElem_cons_succ, List.getElem_cons_zero, Act.put, List.setIfInBounds_toArray, List.set_cons_zero, List.set_cons_succ]
              refine wpAnyH_take (i := 3) (v := ?_) rfl (by kernel_rfl) (by kernel_rfl) (by kernel_rfl) (fun _ _ _ h => h) (Or.inl ⟨by rfl, ?_⟩) hHeld ?_
              rotate_left
              · (intro wz hSw; (try dsimp only at hSw); (try simp only [List.getElem_toArray, List.getElem_cons_succ, List.getElem_cons_zero]); go_simp; try with_reducible rfl)
              try simp only [List.getElem_toArray, List.getElem_cons_succ, List.getElem_cons_zero, Act.put, List.setIfInBounds_toArray, List.set_cons_zero, List.set_cons_succ]
              refine wpAnyH_take (i := 5) (v := ?_) rfl (by kernel_rfl) (by kernel_rfl) (by kernel_rfl) (fun _ _ _ h => h) (Or.inl ⟨by rfl, ?_⟩) hHeld ?_
              rotate_left
              · (intro wz hSw; (try dsimp only at hSw); (try simp only [List.getElem_toArray, List.getElem_cons_succ, List.getElem_cons_zero]); go_simp; try with_reducible rfl)
              try simp only [List.getElem_toArray, List.getElem_cons_succ, List.getElem_cons_zero, Act.put, List.setIfInBounds_toArray, List.set_cons_zero, List.set_cons_succ]
              refine wpAnyH_take (i := 6) (v := ?_) rfl (by kernel_rfl) (by kernel_rfl) (by kernel_rfl) (fun _ _ _ h => h) (Or.inl ⟨by rfl, ?_⟩) hHeld ?_
              rotate_left
              · (intro wz hSw; (try dsimp only at hSw); (try simp only [List.getElem_toArray, List.getElem_cons_succ, List.getElem_cons_zero]); go_simp; try with_reducible rfl)
              try simp only [List.getElem_toArray, List.getElem_cons_succ, List.getElem_cons_zero, Act.put, List.setIfInBounds_toArray, List.set_cons_zero, List.set_cons_succ]
              refine wpAnyH_take (i := 7) (v := ?_) rfl (by kernel_rfl) (by kernel_rfl) (by kernel_rfl) (fun _ _ _ h => h) (Or.inl ⟨by rfl, ?_⟩) hHeld ?_
              rotate_left
              · (intro wz hSw; (try dsimp only at hSw); (try simp only [List.getElem_toArray, List.getElem_cons_succ, List.getElem_cons_zero]); go_simp; try with_reducible rfl)
              try simp only [List.getElem_toArray, List.getElem_cons_succ, List.getElem_cons_zero, Act.put, List.setIfInBounds_toArray, List.set_cons_zero, List.set_cons_succ]
              refine wpAnyH_take (i := 9) (v := ?_) rfl (by kernel_rfl) (by kernel_rfl) (by kernel_rfl) (fun _ _ _ h => h) (Or.inl ⟨by rfl, ?_⟩) hHeld ?_
              rotate_left
              · (intro wz hSw; (try dsimp only at hSw); (try simp only [List.getElem_toArray, List.getElem_cons_succ, List.getElem_cons_zero]); go_simp; try with_reducible rfl)
              try simp only [List.getElem_toArray, List.getElem_cons_succ, List.getElem_cons_zero, Act.put, List.setIfInBounds_toArray, List.set_cons_zero, List.set_cons_succ]
              refine wpAnyH_take (i := 10) (v := ?_) rfl (by kernel_rfl) (by kernel_rfl) (by kernel_rfl) (fun _ _ _ h => h) (Or.inl ⟨by rfl, ?_⟩) hHeld ?_
              rotate_left
              · (intro wz hSw; (try dsimp only at hSw); (try simp only [List.getElem_toArray, List.getElem_cons_succ, List.getElem_cons_zero]); go_simp; try with_reducible rfl)
              try simp only [List.getElem_toArray, List.getElem_cons_succ, List.getElem_cons_zero, Act.put, List.setIfInBounds_toArray, List.set_cons_zero, List.set_cons_succ]
              refine wpAnyH_take (i := 11) (v := ?_) rfl (by kernel_rfl) (by kernel_rfl) (by kernel_rfl) (fun _ _ _ h => h) (Or.inl ⟨by rfl, ?_⟩) hHeld ?_
              rotate_left
              · (intro wz hSw; (try dsimp only at hSw); (try simp only [List.getElem_toArray, List.getElem_cons_succ, List.getElem_cons_zero]); go_simp; try with_reducible rfl)
              try simp only [List.getElem_toArray, List.getElem_cons_succ, List.getElem_cons_zero, Act.put, List.setIfInBounds_toArray, List.set_cons_zero, List.set_cons_succ]
              refine wpAnyH_take (i := 13) (v := ?_) rfl (by kernel_rfl) (by kernel_rfl) (by kernel_rfl) (fun _ _ _ h => h) (Or.inl ⟨by rfl, ?_⟩) hHeld ?_
              rotate_left
              · (intro wz hSw; (try dsimp only at hSw); (try simp only [List.getElem_toArray, List.getElem_cons_succ, List.getElem_cons_zero]); go_simp; try with_reducible rfl)
              try simp only [List.getElem_toArray, List.getElem_cons_succ, List.getElem_cons_zero, Act.put, List.setIfInBounds_toArray, List.set_cons_zero, List.set_cons_succ]
              refine wpAnyH_take (i := 14) (v := ?_) rfl (by kernel_rfl) (by kernel_rfl) (by kernel_rfl) (fun _ _ _ h => h) (Or.inl ⟨by rfl, ?_⟩) hHeld ?_
              rotate_left
              · (intro wz hSw; (try dsimp only at hSw); (try simp only [List.getElem_toArray, List.getElem_cons_succ, List.getElem_cons_zero]); go_simp; try with_reducible rfl)
              try simp only [List.getElem_toArray, List.getElem_cons_succ, List.getElem_cons_zero, Act.put, List.setIfInBounds_toArray, List.set_cons_zero, List.set_cons_succ]
              refine wpAnyH_take (i := 15) (v := ?_) rfl (by kernel_rfl) (by kernel_rfl) (by kernel_rfl) (fun _ _ _ h => h) (Or.inl ⟨by rfl, ?_⟩) hHeld ?_
              rotate_left
              · (intro wz hSw; (try dsimp only at hSw); (try simp only [List.getElem_toArray, List.getElem_cons_succ, List.getElem_cons_zero]); go_simp; try with_reducible rfl)
              try simp only [List.getElem_toArray, List.getElem_cons_succ, List.getElem_cons_zero, Act.put, List.setIfInBounds_toArray, List.set_cons_zero, List.set_cons_succ]
              refine wpAnyH_take (i := 17) (v := ?_) rfl (by kernel_rfl) (by kernel_rfl) (by kernel_rfl) (fun _ _ _ h => h) (Or.inl ⟨by rfl, ?_⟩) hHeld ?_
              rotate_left
              · (intro wz hSw; (try dsimp only at hSw); (try simp only [List.getElem_toArray, List.getElem_cons_succ, List.getElem_cons_zero]); go_simp; try with_reducible rfl)
              try simp only [List.getElem_toArray, List.getElem_cons_succ, List.getElem_cons_zero, Act.put, List.setIfInBounds_toArray, List.set_cons_zero, List.set_cons_succ]
              refine wpAnyH_take (i := 18) (v := ?_) rfl (by kernel_rfl) (by kernel_rfl) (by kernel_rfl) (fun _ _ _ h => h) (Or.inl ⟨by rfl, ?_⟩) hHeld ?_
              rotate_left
              · (intro wz hSw; (try dsimp only at hSw); (try simp only [List.getElem_toArray, List.getElem_cons_succ, List.getElem_cons_zero]); go_simp; try with_reducible rfl)
              try simp only [List.getElem_toArray, List.getElem_cons_succ, List.getElem_cons_zero, Act.put, List.setIfInBounds_toArray, List.set_cons_zero, List.set_cons_succ]
              refine wpAnyH_take (i := 19) (v := ?_) rfl (by kernel_rfl) (by kernel_rfl) (by kernel_rfl) (fun _ _ _ h => h) (Or.inl ⟨by rfl, ?_⟩) hHeld ?_
              rotate_left
              · (intro wz hSw; (try dsimp only at hSw); (try simp only [List.getElem_toArray, List.getElem_cons_succ, List.getElem_cons_zero]); go_simp; try with_reducible rfl)
              try simp only [List.getElem_toArray, List.getElem_cons_succ, List.getElem_cons_zero, Act.put, List.setIfInBounds_toArray, List.set_cons_zero, List.set_cons_succ]
              refine wpAnyH_ready (rs := [4]) (by kernel_rfl) (by simp) ?_
              refine AllReadyH.cons rfl (fun K hK => ?_) AllReadyH.nil
              try simp only [List.getElem_toArray, List.getElem_cons_succ, List.getElem_cons_zero]
              go_simp
              refine (ry_gw W.heap.size v12 _ cyn cyl cys cya _ gw0.own (gw0.hz hz12) HXF.out.yn HXF.out.yl HXF.out.ys HXF.out.ya (by have := HLK4.out; have := encT_ge cld; have := stampB_len csw cst; have := encF_len clr; have := encF_len true; (try simp only [List.length_append]); omega)).mono ?_; rintro r wc1 ⟨vc4, rfl, kw1⟩
              have gw1 := gw0.trans kw1
              refine hK.out _ _ gw1.gr (fun _ => ?_)
              clear hK K hHeld
              try simp only [List.getElem_toArray, List.getElem_cons_succ, List.getElem_cons_zero, Act.put, List.setIfInBounds_toArray, List.set_cons_zero, List.set_cons_succ]
              have hHeld := gw1.gr
              refine wpAnyH_ready (rs := [8]) (by kernel_rfl) (by simp) ?_
              refine AllReadyH.cons rfl (fun K hK => ?_) AllReadyH.nil
              try simp only [List.getElem_toArray, List.getElem_cons_succ, List.getElem_cons_zero]
              go_simp
              refine (rn_gw W.heap.size vc4 _ chm _ gw1.own (gw1.hz hz12) HXF.out.hm (by have := HLK4.out; have := encT_ge cld; have := stampB_len csw cst; have := encF_len clr; have := encF_len true; (try simp only [List.length_append]); omega)).mono ?_; rintro r wc2 ⟨vc8, rfl, kw2⟩
              have gw2 := gw1.trans kw2
              refine hK.out _ _ gw2.gr (fun _ => ?_)
              clear hK K hHeld
              try simp only [List.getElem_toArray, List.getElem_cons_succ, List.getElem_cons_zero, Act.put, List.setIfInBounds_toArray, List.set_cons_zero, List.set_cons_succ]
              have hHeld := gw2.gr
              refine wpAnyH_ready (rs := [12]) (by kernel_rfl) (by simp) ?_
              refine AllReadyH.cons rfl (fun K hK => ?_) AllReadyH.nil
              try simp only [List.getElem_toArray, List.getElem_cons_succ, List.getElem_cons_zero]
              go_simp
              refine (rs_gw W.heap.size vc8 _ csw cst _ gw2.own (gw2.hz hz12) HXF.out.sw HXF.out.st (by have := HLK4.out; have := encT_ge cld; have := stampB_len csw cst; have := encF_len clr; have := encF_len true; (try simp only [List.length_append]); omega)).mono ?_; rintro r wc3 ⟨vc12, rfl, kw3⟩
              have gw3 := gw2.trans kw3
              refine hK.out _ _ gw3.gr (fun _ => ?_)
              clear hK K hHeld
              try simp only [List.getElem_toArray, List.getElem_cons_succ, List.getElem_cons_zero, Act.put, List.setIfInBounds_toArray, List.set_cons_zero, List.set_cons_succ]
              have hHeld := gw3.gr
              refine wpAnyH_ready (rs := [16]) (by kernel_rfl) (by simp) ?_
              refine AllReadyH.cons rfl (fun K hK => ?_) AllReadyH.nil
              try simp only [List.getElem_toArray, List.getElem_cons_succ, List.getElem_cons_zero]
              go_simp
              refine (rf_gw W.heap.size vc12 _ clr _ gw3.own (gw3.hz hz12) (by have := HLK4.out; have := encT_ge cld; have := stampB_len csw cst; have := encF_len clr; have := encF_len true; (try simp only [List.length_append]); omega)).mono ?_; rintro r wc4 ⟨vc16, rfl, kw4⟩
              have gw4 := gw3.trans kw4
              refine hK.out _ _ gw4.gr (fun _ => ?_)
              clear hK K hHeld
              try simp only [List.getElem_toArray, List.getElem_cons_succ, List.getElem_cons_zero, Act.put, List.setIfInBounds_toArray, List.set_cons_zero, List.set_cons_succ]
              have hHeld := gw4.gr
              refine wpAnyH_ready (rs := [20]) (by kernel_rfl) (by simp) ?_
              refine AllReadyH.cons rfl (fun K hK => ?_) AllReadyH.nil
              try simp only [List.getElem_toArray, List.getElem_cons_succ, List.getElem_cons_zero]
              go_simp
              refine (rt_gw W.heap.size vc16 _ cld _ gw4.own (gw4.hz hz12) (by have := HLK4.out; have := encT_ge cld; have := stampB_len csw cst; have := encF_len clr; have := encF_len true; (try simp only [List.length_append]); omega)).mono ?_; rintro r wc5 ⟨vc20, rfl, kw5⟩
              have gw5 := gw4.trans kw5
              refine hK.out _ _ gw5.gr (fun _ => ?_)
              clear hK K hHeld
              try simp only [List.getElem_toArray, List.getElem_cons_succ, List.getElem_cons_zero, Act.put, List.setIfInBounds_toArray, List.set_cons_zero, List.set_cons_succ]
              have hHeld := gw5.gr
              refine wpAnyH_take (i := 21) (v := ?_) rfl (by kernel_rfl) (by kernel_rfl) (by kernel_rfl) (fun _ _ _ h => h) (Or.inl ⟨by rfl, ?_⟩) hHeld ?_
              rotate_left
              · (intro wz hSw; (try dsimp only at hSw); (try simp only [List.getElem_toArray, List.getElem_cons_succ, List.getElem_cons_zero]); go_simp; try with_reducible rfl)
              try simp only [List.getElem_toArray, List.getElem_cons_succ, List.getElem_cons_zero, Act.put, List.setIfInBounds_toArray, List.set_cons_zero, List.set_cons_succ]
              refine wpAnyH_done (by kernel_rfl) ?_ _
              exact hcut vc4 vc8 vc12 vc16 vc20 wc5 (HG12.out.trans gw5)
            intro x0 x1 x2 x3 v15 w15 hR
            rw [← HNX4.out] at hR
            have HR := Lib.hid hR
            clear hR kB HG12 HKP hz12 HNX4 HLK4 HXF
            go_wp2_with fail
            go_roundw
            case rel => exact ⟨k + 1, by omega, by go_num, HR⟩
            case measure => simp [intOf]; omega
    · obtain rfl : k = P.cs.length := by omega
      have hd : decide ((P.cs.length : Int) < (P.cs.length : Int)) = false := by simp
      have hh := HG.out
      rw [flat_all] at hh
      obtain ⟨X4, hX4⟩ : ∃ X, encPaH P ++ P.cs.flatMap encCL = X := ⟨_, rfl⟩
      rw [hX4] at hh
      have HL4 : Hid ((X4.length : Int) + (encOus P.rs).length + (encOus P.ds).length ≤ 140737488200000) := by show _ ≤ _; have := HT.out; rw [← hX4, List.length_append]; omega
      have HE : Hid (X4 ++ encOus P.rs ++ encOus P.ds = encPa P.x) := by show _ = _; rw [← hX4, encPaL]
      have HH := Lib.hid hh
      clear hh hX4 HG
      have kA := block_cells (below_block (HH.out.all rfl) (block_lt HA.out) HA.out)
      go_upto_region 16 with fail
      clear kA
      have kA : ∀ w', wk.grownBy w' vk.ownBlock → ∀ j, w'.cell? ⟨A, j, none⟩ = #[.int .i64 P.e, .int .i64 P.h, .int .i64 P.fw, .int .i64 P.ft, .int .i64 P.cl, .int .i64 P.lo, .slice ap P.cs.length ac, .slice aq P.rs.length ad, .slice as' P.ds.length at'][j]? := fun w' h => block_cells (below_block (HH.out.cls (Gw.nil_own _ _) (Nat.le_refl _) h) (block_lt HA.out) HA.out)
      have hzk : W.heap.size ≤ wk.heap.size := HH.out.hz hzW
      apply cutW_VVW (R := fun _ v' w' => Gw W.heap.size (.slice none 0 0) W v' w' (X4 ++ encOus P.rs ++ encOus P.ds))
      · intro hcut
        have gw0 : Gw _ vk wk vk wk.drew _ := (Gw.refl HH.out.own).drew
        have hh0 := gw0.gr
        refine wp_region_held_drew (S := fun w' => World.grownBy wk w' (Value.ownBlock vk)) (by kernel_rfl) hh0 (fun hHeld => ?_)
        obtain ⟨wd, ewd⟩ : ∃ x, World.drew wk = x := ⟨_, rfl⟩
        rw [ewd] at gw0 hh0 hHeld ⊢
        clear ewd
        refine wpAnyH_take (i := 0) (v := ?_) rfl (by kernel_rfl) (by kernel_rfl) (by kernel_rfl) (fun _ _ _ h => h) (Or.inl ⟨by rfl, ?_⟩) hHeld ?_
        rotate_left
        · (intro wz hSw; (try dsimp only at hSw); (try simp only [List.getElem_toArray, List.getElem_cons_zero]); go_simp; try with_reducible rfl)
        try simp only [List.getElem_toArray, List.getElem_cons_zero, Act.put, List.setIfInBounds_toArray, List.set_cons_zero, List.set_cons_succ]
        refine wpAnyH_take (i := 1) (v := ?_) rfl (by kernel_rfl) (by kernel_rfl) (by kernel_rfl) (fun _ _ _ h => h) (Or.inl ⟨by rfl, ?_⟩) hHeld ?_
        rotate_left
        · (intro wz hSw; (try dsimp only at hSw); (try simp only [List.getElem_toArray, List.getElem_cons_succ, List.getElem_cons_zero]); go_simp; try with_reducible rfl)
        try simp only [List.getElem_toArray, List.getElem_cons_succ, List.getElem_cons_zero, Act.put, List.setIfInBounds_toArray, List.set_cons_zero, List.set_cons_succ]
        refine wpAnyH_take (i := 2) (v := ?_) rfl (by kernel_rfl) (by kernel_rfl) (by kernel_rfl) (fun _ _ _ h => h) (Or.inl ⟨by rfl, ?_⟩) hHeld ?_
        rotate_left
        · (intro wz hSw; (try dsimp only at hSw); (try simp only [List.getElem_toArray, List.getElem_cons_succ, List.getElem_cons_zero]); go_simp; try with_reducible rfl)
        try simp only [List.getElem_toArray, List.getElem_cons_succ, List.getElem_cons_zero, Act.put, List.setIfInBounds_toArray, List.set_cons_zero, List.set_cons_succ]
        refine wpAnyH_take (i := 4) (v := ?_) rfl (by kernel_rfl) (by kernel_rfl) (by kernel_rfl) (fun _ _ _ h => h) (Or.inl ⟨by rfl, ?_⟩) hHeld ?_
        rotate_left
        · (intro wz hSw; (try dsimp only at hSw); (try simp only [List.getElem_toArray, List.getElem_cons_succ, List.getElem_cons_zero]); go_simp; try with_reducible rfl)
        try simp only [List.getElem_toArray, List.getElem_cons_succ, List.getElem_cons_zero, Act.put, List.setIfInBounds_toArray, List.set_cons_zero, List.set_cons_succ]
        refine wpAnyH_take (i := 5) (v := ?_) rfl (by kernel_rfl) (by kernel_rfl) (by kernel_rfl) (fun _ _ _ h => h) (Or.inl ⟨by rfl, ?_⟩) hHeld ?_
        rotate_left
        · (intro wz hSw; (try dsimp only at hSw); (try simp only [List.getElem_toArray, List.getElem_cons_succ, List.getElem_cons_zero]); go_simp; try with_reducible rfl)
        try simp only [List.getElem_toArray, List.getElem_cons_succ, List.getElem_cons_zero, Act.put, List.setIfInBounds_toArray, List.set_cons_zero, List.set_cons_succ]
        refine wpAnyH_ready (rs := [3]) (by kernel_rfl) (by simp) ?_
        refine AllReadyH.cons rfl (fun K hK => ?_) AllReadyH.nil
        try simp only [List.getElem_toArray, List.getElem_cons_succ, List.getElem_cons_zero]
        go_simp
        refine (routs_gw W.heap.size vk _ P.rs aq ad W _ gw0.own (gw0.hz hzk) (Nat.le_refl _) ((HH.out.trans gw0).all rfl) HRS.out HF.out.rs n2 (by have := HL4.out; (try simp only [List.length_append]); omega)).mono ?_; rintro r wc1 ⟨vc3, rfl, kw1⟩
        have gw1 := gw0.trans kw1
        refine hK.out _ _ gw1.gr (fun _ => ?_)
        clear hK K hHeld
        try simp only [List.getElem_toArray, List.getElem_cons_succ, List.getElem_cons_zero, Act.put, List.setIfInBounds_toArray, List.set_cons_zero, List.set_cons_succ]
        have hHeld := gw1.gr
        refine wpAnyH_ready (rs := [6]) (by kernel_rfl) (by simp) ?_
        refine AllReadyH.cons rfl (fun K hK => ?_) AllReadyH.nil
        try simp only [List.getElem_toArray, List.getElem_cons_succ, List.getElem_cons_zero]
        go_simp
        refine (routs_gw W.heap.size vc3 _ P.ds as' at' W _ gw1.own (gw1.hz hzk) (Nat.le_refl _) ((HH.out.trans gw1).all rfl) HDS.out HF.out.ds n3 (by have := HL4.out; (try simp only [List.length_append]); omega)).mono ?_; rintro r wc2 ⟨vc6, rfl, kw2⟩
        have gw2 := gw1.trans kw2
        refine hK.out _ _ gw2.gr (fun _ => ?_)
        clear hK K hHeld
        try simp only [List.getElem_toArray, List.getElem_cons_succ, List.getElem_cons_zero, Act.put, List.setIfInBounds_toArray, List.set_cons_zero, List.set_cons_succ]
        have hHeld := gw2.gr
        refine wpAnyH_take (i := 7) (v := ?_) rfl (by kernel_rfl) (by kernel_rfl) (by kernel_rfl) (fun _ _ _ h => h) (Or.inl ⟨by rfl, ?_⟩) hHeld ?_
        rotate_left
        · (intro wz hSw; (try dsimp only at hSw); (try simp only [List.getElem_toArray, List.getElem_cons_succ, List.getElem_cons_zero]); go_simp; try with_reducible rfl)
        try simp only [List.getElem_toArray, List.getElem_cons_succ, List.getElem_cons_zero, Act.put, List.setIfInBounds_toArray, List.set_cons_zero, List.set_cons_succ]
        refine wpAnyH_done (by kernel_rfl) ?_ _
        exact hcut vc3 vc6 wc2 (HH.out.trans gw2)
      intro x0 v17 w17 hR
      rw [HE.out] at hR
      have HR := Lib.hid hR
      clear hR kA HH HL4 HE hzk
      go_wp2_with fail
      go_ret
      exact ⟨_, rfl, HR.out.own.mono HB1.out.size, HB1.out.trans ((HR.out.all rfl).mono HB1.out.size)⟩
end Go.Proofs.Ytmhmlpfkdpjlaaa
