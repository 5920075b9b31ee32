/- Wire: package wire's TakePart. -/
import Derived.Test.YtmhmlpfkdpjlaaaRdE
namespace Go.Proofs.Ytmhmlpfkdpjlaaa
open Go.ChangeShapes Go.WideShapes Go.ChangeAt Go.RowKit

set_option maxRecDepth 100000 in
set_option maxHeartbeats 16000000 in
theorem wtakePart_any (X0 : List Int) (v : Value) (w : World) (hv : Sl w.heap.size w v 1 X0.length (byt X0)) (hoct : Oct X0) (hlen : (X0.length : Int) ≤ 140737488300000) :
    Calls Try.prog 24 #[v] w (TkPart w X0) := by
  obtain ⟨p, cap, rfl, hc1, hc2, -, -⟩ := hv.form
  have HV := Lib.hid hv; have HOC := Lib.hid hoct; have HLN := Lib.hid hlen
  obtain ⟨B, eB⟩ : ∃ n, w.heap.size = n := ⟨_, rfl⟩
  have HEB := Lib.hid eB
  have hmf : ∀ (fn : Fn) (first cap : Array Value) (w : World), (Instr.makeFunc fn first cap).run Try.prog w = .ok (.func fn first cap) w := fun _ _ _ _ => rfl
  clear hv hoct hlen hc1 hc2
  go_enter Try.func24, Try.ntmps24
  go_upto_region 2 with fail
  obtain ⟨Wa, hWa⟩ : ∃ x : World, w.alloc (.cells #[.int .i64 0, .int .i64 0, .int .i64 0, .int .i64 0, .int .i64 0, .int .i64 0, .slice none 0 0, .slice none 0 0, .slice none 0 0] 33) = x := ⟨_, rfl⟩
  obtain ⟨Wb, hWb⟩ : ∃ x : World, Wa.alloc (.cells #[.slice p X0.length cap, .bool false] 101) = x := ⟨_, rfl⟩
  obtain ⟨W, hW⟩ : ∃ x : World, Wb.alloc (.cells #[.pointer (some ⟨B + 1, 0, none⟩)] 99) = x := ⟨_, rfl⟩
  have sa : Wa.heap.size = B + 1 := by rw [← hWa]; simp; omega
  have sb : Wb.heap.size = B + 1 + 1 := by rw [← hWb]; simp; omega
  have sw : W.heap.size = B + 1 + 1 + 1 := by rw [← hW]; simp; omega
  have ba : Below B w Wa := by rw [← hWa]; exact (Below.refl _ _).alloc (by omega) _
  have bb : Below Wa.heap.size Wa Wb := by rw [← hWb]; exact (Below.refl _ _).alloc (Nat.le_refl _) _
  have bc : Below Wb.heap.size Wb W := by rw [← hW]; exact (Below.refl _ _).alloc (Nat.le_refl _) _
  have hT : W.heap[B + 1 + 1]? = some (.cells #[.pointer (some ⟨B + 1, 0, none⟩)] 99 (0, 0)) := by rw [← hW, ← sb]; exact heap_last _ _
  have hRb : Wb.heap[B + 1]? = some (.cells #[.slice p X0.length cap, .bool false] 101 (0, 0)) := by rw [← hWb, ← sa]; exact heap_last _ _
  have hR := below_block bc (block_lt hRb) hRb
  have hZa : Wa.heap[B]? = some (.cells #[.int .i64 0, .int .i64 0, .int .i64 0, .int .i64 0, .int .i64 0, .int .i64 0, .slice none 0 0, .slice none 0 0, .slice none 0 0] 33 (0, 0)) := by rw [← hWa, ← eB]; exact heap_last _ _
  have hZ := below_block bc (block_lt (below_block bb (block_lt hZa) hZa)) (below_block bb (block_lt hZa) hZa)
  have hB1 : Below B w W := (ba.trans (bb.mono (by omega))).trans (bc.mono (by omega))
  have hr : RdW B W (B + 1) X0 false := ⟨⟨by omega, p, cap, hR, by have := HV.out; rw [eB] at this; exact this.keep hB1⟩, HOC.out, HLN.out⟩
  rw [hWa, hWb, hW]
  obtain ⟨R, eR⟩ : ∃ n, B + 1 = n := ⟨_, rfl⟩
  rw [eR] at hT hr sw ⊢
  have hBR : B < R := by omega
  have hWz : R + 2 ≤ W.heap.size := by omega
  have HT := Lib.hid hT; have H0 := Lib.hid hr; have HB1 := Lib.hid hB1; have HZ := Lib.hid hZ
  clear hWa hWb hW sa sb sw ba bb bc hRb hR hZa hZ hB1 hr hT eR eB HV
  obtain ⟨⟨n0, X1, b1⟩, hr0⟩ : ∃ r, rdBw X0 false = r := ⟨_, rfl⟩
  have C0 : Hid (∀ w', RdW B w' R X0 false → Calls Try.prog 55 #[.pointer (some ⟨R, 0, none⟩)] w' fun e w'' => e = .returned (.int .i64 n0) ∧ RdW B w'' R X1 b1 ∧ w'.grownBy w'' (some R)) := fun w' h => by
    have := rbyteE B R X0 false w' h; rw [hr0] at this; exact this
  obtain ⟨⟨n1, X2, b2⟩, hr1⟩ : ∃ r, rdNw X1 b1 = r := ⟨_, rfl⟩
  have C1 : Hid (∀ w', RdW B w' R X1 b1 → Calls Try.prog 56 #[.pointer (some ⟨R, 0, none⟩)] w' fun e w'' => e = .returned (.int .i64 n1) ∧ RdW B w'' R X2 b2 ∧ w'.grownBy w'' (some R)) := fun w' h => by
    have := rintE B R X1 b1 w' h; rw [hr1] at this; exact this
  obtain ⟨⟨n2, X3, b3⟩, hr2⟩ : ∃ r, rdNw X2 b2 = r := ⟨_, rfl⟩
  have C2 : Hid (∀ w', RdW B w' R X2 b2 → Calls Try.prog 56 #[.pointer (some ⟨R, 0, none⟩)] w' fun e w'' => e = .returned (.int .i64 n2) ∧ RdW B w'' R X3 b3 ∧ w'.grownBy w'' (some R)) := fun w' h => by
    have := rintE B R X2 b2 w' h; rw [hr2] at this; exact this
  obtain ⟨⟨⟨s1, s2⟩, X4, b4⟩, hr3⟩ : ∃ r, rdSw X3 b3 = r := ⟨_, rfl⟩
  have C3 : Hid (∀ w', RdW B w' R X3 b3 → Calls Try.prog 58 #[.pointer (some ⟨R, 0, none⟩)] w' fun e w'' => e = .returned (.agg #[.int .i64 s1, .int .i64 s2]) ∧ RdW B w'' R X4 b4 ∧ w'.grownBy w'' (some R)) := fun w' h => by
    have := rmomentE B R X3 b3 w' h; rw [hr3] at this; exact this
  obtain ⟨⟨n4, X5, b5⟩, hr4⟩ : ∃ r, rdNw X4 b4 = r := ⟨_, rfl⟩
  have C4 : Hid (∀ w', RdW B w' R X4 b4 → Calls Try.prog 59 #[.pointer (some ⟨R, 0, none⟩)] w' fun e w'' => e = .returned (.int .i64 n4) ∧ RdW B w'' R X5 b5 ∧ w'.grownBy w'' (some R)) := fun w' h => by
    have := rnumE B R X4 b4 w' h; rw [hr4] at this; exact this
  obtain ⟨⟨n5, X6, b6⟩, hr5⟩ : ∃ r, rdNw X5 b5 = r := ⟨_, rfl⟩
  have C5 : Hid (∀ w', RdW B w' R X5 b5 → Calls Try.prog 59 #[.pointer (some ⟨R, 0, none⟩)] w' fun e w'' => e = .returned (.int .i64 n5) ∧ RdW B w'' R X6 b6 ∧ w'.grownBy w'' (some R)) := fun w' h => by
    have := rnumE B R X5 b5 w' h; rw [hr5] at this; exact this
  obtain ⟨⟨l1, X7, b7⟩, hr6⟩ : ∃ r, rdL rdCe X6 b6 = r := ⟨_, rfl⟩
  obtain ⟨⟨l2, X8, b8⟩, hr7⟩ : ∃ r, rdL rdOu X7 b7 = r := ⟨_, rfl⟩
  obtain ⟨⟨l3, X9, b9⟩, hr8⟩ : ∃ r, rdL rdOu X8 b8 = r := ⟨_, rfl⟩
  have HRD : Hid (rd2 rdBw rdPa X0 false = ((n0, ⟨n1, n2, s1, s2, n4, n5, l1, l2, l3⟩), X9, b9)) := rd2_is hr0 (rdMap_is (rd2_is hr1 (rd2_is hr2 (rd2_is hr3 (rd2_is hr4 (rd2_is hr5 (rd2_is hr6 (rd2_is hr7 hr8))))))))
  have HR6 := Lib.hid hr6
  have C7 : Hid (∀ w', RdW B w' R X7 b7 → Calls Try.prog 74 #[.pointer (some ⟨R, 0, none⟩)] w' fun e w'' => ∃ v, e = .returned v ∧ w''.ownsRow w'.heap.size 83 7 v l2.length (ouR l2) ∧ RdW B w'' R X8 b8 ∧ w'.grownBy w'' (some R)) := fun w' h => by
    have := routsW_any B R X7 b7 w' h; rw [hr7] at this; exact this
  have C8 : Hid (∀ w', RdW B w' R X8 b8 → Calls Try.prog 74 #[.pointer (some ⟨R, 0, none⟩)] w' fun e w'' => ∃ v, e = .returned v ∧ w''.ownsRow w'.heap.size 83 7 v l3.length (ouR l3) ∧ RdW B w'' R X9 b9 ∧ w'.grownBy w'' (some R)) := fun w' h => by
    have := routsW_any B R X8 b8 w' h; rw [hr8] at this; exact this
  clear hr0 hr1 hr2 hr3 hr4 hr5 hr6 hr7 hr8
  have kT := block_cells HT.out
  go_wp2_with fail
  refine (C0.out _ H0.out).mono ?_; rintro e w1 ⟨rfl, h1, g1⟩
  have H1 := Lib.hid h1; have G1 := Lib.hid g1
  have HT1 := Lib.hid (rd_stays g1 HT.out (by omega))
  clear h1 g1 kT HT H0 C0
  go_upto_region 3 with fail
  have kT : ∀ w', w1.grownBy w' (some R) → ∀ j, w'.cell? ⟨R + 1, j, none⟩ = #[.pointer (some ⟨R, 0, none⟩)][j]? := fun w' h => block_cells (rd_stays h HT1.out (by omega))
  have g0 : w1.grownBy w1.drew (some R) := grown_drewW (grown_refl w1 _)
  have r0 := H1.out.drew
  refine wp_region_held_drew (S := fun w' => w1.grownBy w' (some R)) (by kernel_rfl) g0 (fun hHeld => ?_)
  obtain ⟨wd, ewd⟩ : ∃ x, w1.drew = x := ⟨_, rfl⟩
  rw [ewd] at g0 r0 hHeld ⊢
  clear ewd
  refine wpAnyH_take (i := 0) (v := ?_) rfl (by kernel_rfl) (by kernel_rfl) (by kernel_rfl) (fun _ _ _ h => h) (Or.inl ⟨by rfl, ?_⟩) hHeld ?_
  rotate_left
  · (intro wz hSw; (try dsimp only at hSw); (try simp only [List.getElem_toArray, List.getElem_cons_zero]); go_simp; try with_reducible rfl)
  try simp only [List.getElem_toArray, List.getElem_cons_zero, Act.put, List.setIfInBounds_toArray, List.set_cons_zero, List.set_cons_succ]
  refine wpAnyH_take (i := 2) (v := ?_) rfl (by kernel_rfl) (by kernel_rfl) (by kernel_rfl) (fun _ _ _ h => h) (Or.inl ⟨by rfl, ?_⟩) hHeld ?_
  rotate_left
  · (intro wz hSw; (try dsimp only at hSw); (try simp only [List.getElem_toArray, List.getElem_cons_succ, List.getElem_cons_zero]); go_simp; try with_reducible rfl)
  try simp only [List.getElem_toArray, List.getElem_cons_succ, List.getElem_cons_zero, Act.put, List.setIfInBounds_toArray, List.set_cons_zero, List.set_cons_succ]
  refine wpAnyH_take (i := 4) (v := ?_) rfl (by kernel_rfl) (by kernel_rfl) (by kernel_rfl) (fun _ _ _ h => h) (Or.inl ⟨by rfl, ?_⟩) hHeld ?_
  rotate_left
  · (intro wz hSw; (try dsimp only at hSw); (try simp only [List.getElem_toArray, List.getElem_cons_succ, List.getElem_cons_zero]); go_simp; try with_reducible rfl)
  try simp only [List.getElem_toArray, List.getElem_cons_succ, List.getElem_cons_zero, Act.put, List.setIfInBounds_toArray, List.set_cons_zero, List.set_cons_succ]
  refine wpAnyH_take (i := 6) (v := ?_) rfl (by kernel_rfl) (by kernel_rfl) (by kernel_rfl) (fun _ _ _ h => h) (Or.inl ⟨by rfl, ?_⟩) hHeld ?_
  rotate_left
  · (intro wz hSw; (try dsimp only at hSw); (try simp only [List.getElem_toArray, List.getElem_cons_succ, List.getElem_cons_zero]); go_simp; try with_reducible rfl)
  try simp only [List.getElem_toArray, List.getElem_cons_succ, List.getElem_cons_zero, Act.put, List.setIfInBounds_toArray, List.set_cons_zero, List.set_cons_succ]
  refine wpAnyH_take (i := 8) (v := ?_) rfl (by kernel_rfl) (by kernel_rfl) (by kernel_rfl) (fun _ _ _ h => h) (Or.inl ⟨by rfl, ?_⟩) hHeld ?_
  rotate_left
  · (intro wz hSw; (try dsimp only at hSw); (try simp only [List.getElem_toArray, List.getElem_cons_succ, List.getElem_cons_zero]); go_simp; try with_reducible rfl)
  try simp only [List.getElem_toArray, List.getElem_cons_succ, List.getElem_cons_zero, Act.put, List.setIfInBounds_toArray, List.set_cons_zero, List.set_cons_succ]
  clear hHeld
  apply cutG (R := fun g w' => w1.grownBy w' (some R) ∧ RdW B w' R X6 b6 ∧ w'.heap[g]? = some (.cells #[.int .i64 0, .int .i64 0, .int .i64 0, .int .i64 0, .int .i64 0, .int .i64 0, .slice none 0 0, .slice none 0 0, .slice none 0 0] 33 (0, 0)) ∧ w1.heap.size ≤ g)
  · intro hcut
    have hHeld := g0
    refine wpAnyH_ready (rs := [1, 11]) (by kernel_rfl) (by simp) ?_
    refine AllReadyH.cons rfl (fun K hK => ?_) (AllReadyH.cons rfl (fun K hK => ?_) AllReadyH.nil)
    · skip
      try simp only [List.getElem_toArray, List.getElem_cons_succ, List.getElem_cons_zero]
      go_simp
      refine (C1.out _ r0).mono ?_; rintro r wc1 ⟨rfl, r1', hg1⟩
      have hS1 := grown_transW g0 hg1
      refine hK.out _ _ hS1 (fun _ => ?_)
      clear hK K hHeld
      try simp only [List.getElem_toArray, List.getElem_cons_succ, List.getElem_cons_zero, Act.put, List.setIfInBounds_toArray, List.set_cons_zero, List.set_cons_succ]
      have hHeld := hS1
      refine wpAnyH_ready (rs := [3, 11]) (by kernel_rfl) (by simp) ?_
      refine AllReadyH.cons rfl (fun K hK => ?_) (AllReadyH.cons rfl (fun K hK => ?_) AllReadyH.nil)
      · skip
        try simp only [List.getElem_toArray, List.getElem_cons_succ, List.getElem_cons_zero]
        go_simp
        refine (C2.out _ r1').mono ?_; rintro r wc2 ⟨rfl, r2', hg2⟩
        have hS2 := grown_transW hS1 hg2
        refine hK.out _ _ hS2 (fun _ => ?_)
        clear hK K hHeld
        try simp only [List.getElem_toArray, List.getElem_cons_succ, List.getElem_cons_zero, Act.put, List.setIfInBounds_toArray, List.set_cons_zero, List.set_cons_succ]
        have hHeld := hS2
        refine wpAnyH_ready (rs := [5, 11]) (by kernel_rfl) (by simp) ?_
        refine AllReadyH.cons rfl (fun K hK => ?_) (AllReadyH.cons rfl (fun K hK => ?_) AllReadyH.nil)
        · skip
          try simp only [List.getElem_toArray, List.getElem_cons_succ, List.getElem_cons_zero]
          go_simp
          refine (C3.out _ r2').mono ?_; rintro r wc3 ⟨rfl, r3', hg3⟩
          have hS3 := grown_transW hS2 hg3
          refine hK.out _ _ hS3 (fun _ => ?_)
          clear hK K hHeld
          try simp only [List.getElem_toArray, List.getElem_cons_succ, List.getElem_cons_zero, Act.put, List.setIfInBounds_toArray, List.set_cons_zero, List.set_cons_succ]
          have hHeld := hS3
          refine wpAnyH_ready (rs := [7, 11]) (by kernel_rfl) (by simp) ?_
          refine AllReadyH.cons rfl (fun K hK => ?_) (AllReadyH.cons rfl (fun K hK => ?_) AllReadyH.nil)
          · skip
            try simp only [List.getElem_toArray, List.getElem_cons_succ, List.getElem_cons_zero]
            go_simp
            refine (C4.out _ r3').mono ?_; rintro r wc4 ⟨rfl, r4', hg4⟩
            have hS4 := grown_transW hS3 hg4
            refine hK.out _ _ hS4 (fun _ => ?_)
            clear hK K hHeld
            try simp only [List.getElem_toArray, List.getElem_cons_succ, List.getElem_cons_zero, Act.put, List.setIfInBounds_toArray, List.set_cons_zero, List.set_cons_succ]
            have hHeld := hS4
            refine wpAnyH_ready (rs := [9, 11]) (by kernel_rfl) (by simp) ?_
            refine AllReadyH.cons rfl (fun K hK => ?_) (AllReadyH.cons rfl (fun K hK => ?_) AllReadyH.nil)
            · skip
              try simp only [List.getElem_toArray, List.getElem_cons_succ, List.getElem_cons_zero]
              go_simp
              refine (C5.out _ r4').mono ?_; rintro r wc5 ⟨rfl, r5', hg5⟩
              have hS5 := grown_transW hS4 hg5
              refine hK.out _ _ hS5 (fun _ => ?_)
              clear hK K hHeld
              try simp only [List.getElem_toArray, List.getElem_cons_succ, List.getElem_cons_zero, Act.put, List.setIfInBounds_toArray, List.set_cons_zero, List.set_cons_succ]
              have hHeld := hS5
              refine wpAnyH_take (i := 10) (v := ?_) rfl (by kernel_rfl) (by kernel_rfl) (by kernel_rfl) (fun _ _ _ h => h) (Or.inl ⟨by rfl, ?_⟩) hHeld ?_
              rotate_left
              · (intro wz hSw; (try dsimp only at hSw); (try simp only [List.getElem_toArray, List.getElem_cons_succ, List.getElem_cons_zero]); go_simp; try with_reducible rfl)
              try simp only [List.getElem_toArray, List.getElem_cons_succ, List.getElem_cons_zero, Act.put, List.setIfInBounds_toArray, List.set_cons_zero, List.set_cons_succ]
              refine wpAnyH_ready (rs := [11]) (by kernel_rfl) (by simp) ?_
              refine AllReadyH.cons rfl (fun K hK => ?_) AllReadyH.nil
              try simp only [List.getElem_toArray, List.getElem_cons_succ, List.getElem_cons_zero]
              go_simp
              obtain ⟨wa6, hw6⟩ : ∃ x : World, wc5.alloc (.cells #[.int .i64 0, .int .i64 0, .int .i64 0, .int .i64 0, .int .i64 0, .int .i64 0, .slice none 0 0, .slice none 0 0, .slice none 0 0] 33) = x := ⟨_, rfl⟩
              have hb6 : Below wc5.heap.size wc5 wa6 := by rw [← hw6]; exact (Below.refl _ _).alloc (Nat.le_refl _) _
              have hS6 := grown_transW hS5 (grown_below hb6 (some R))
              have r6' := r5'.keep hb6 (Nat.le_refl _)
              have hq6 : wa6.heap[wc5.heap.size]? = some (.cells #[.int .i64 0, .int .i64 0, .int .i64 0, .int .i64 0, .int .i64 0, .int .i64 0, .slice none 0 0, .slice none 0 0, .slice none 0 0] 33 (0, 0)) := by rw [← hw6]; exact heap_last wc5 _
              have hgs6 := hS5.size
              obtain ⟨g, eg6⟩ : ∃ n, wc5.heap.size = n := ⟨_, rfl⟩
              rw [hw6]
              try rw [eg6]
              rw [eg6] at hq6 hgs6
              clear hw6
              refine hK.out _ _ hS6 (fun _ => ?_)
              clear hK K hHeld
              try simp only [List.getElem_toArray, List.getElem_cons_succ, List.getElem_cons_zero, Act.put, List.setIfInBounds_toArray, List.set_cons_zero, List.set_cons_succ]
              have hHeld := hS6
              exact hcut g wa6 ⟨hS6, r6', hq6, hgs6⟩
            · skip
              try simp only [List.getElem_toArray, List.getElem_cons_succ, List.getElem_cons_zero]
              go_simp
              obtain ⟨wa7, hw7⟩ : ∃ x : World, wc4.alloc (.cells #[.int .i64 0, .int .i64 0, .int .i64 0, .int .i64 0, .int .i64 0, .int .i64 0, .slice none 0 0, .slice none 0 0, .slice none 0 0] 33) = x := ⟨_, rfl⟩
              have hb7 : Below wc4.heap.size wc4 wa7 := by rw [← hw7]; exact (Below.refl _ _).alloc (Nat.le_refl _) _
              have hS7 := grown_transW hS4 (grown_below hb7 (some R))
              have r7' := r4'.keep hb7 (Nat.le_refl _)
              have hq7 : wa7.heap[wc4.heap.size]? = some (.cells #[.int .i64 0, .int .i64 0, .int .i64 0, .int .i64 0, .int .i64 0, .int .i64 0, .slice none 0 0, .slice none 0 0, .slice none 0 0] 33 (0, 0)) := by rw [← hw7]; exact heap_last wc4 _
              have hgs7 := hS4.size
              obtain ⟨g, eg7⟩ : ∃ n, wc4.heap.size = n := ⟨_, rfl⟩
              rw [hw7]
              try rw [eg7]
              rw [eg7] at hq7 hgs7
              clear hw7
              refine hK.out _ _ hS7 (fun _ => ?_)
              clear hK K hHeld
              try simp only [List.getElem_toArray, List.getElem_cons_succ, List.getElem_cons_zero, Act.put, List.setIfInBounds_toArray, List.set_cons_zero, List.set_cons_succ]
              have hHeld := hS7
              refine wpAnyH_ready (rs := [9]) (by kernel_rfl) (by simp) ?_
              refine AllReadyH.cons rfl (fun K hK => ?_) AllReadyH.nil
              try simp only [List.getElem_toArray, List.getElem_cons_succ, List.getElem_cons_zero]
              go_simp
              refine (C5.out _ r7').mono ?_; rintro r wc8 ⟨rfl, r8', hg8⟩
              have hS8 := grown_transW hS7 hg8
              have hq8 := rd_stays hg8 hq7 (by have := H1.out.lt; have := hgs7; omega)
              refine hK.out _ _ hS8 (fun _ => ?_)
              clear hK K hHeld
              try simp only [List.getElem_toArray, List.getElem_cons_succ, List.getElem_cons_zero, Act.put, List.setIfInBounds_toArray, List.set_cons_zero, List.set_cons_succ]
              have hHeld := hS8
              refine wpAnyH_take (i := 10) (v := ?_) rfl (by kernel_rfl) (by kernel_rfl) (by kernel_rfl) (fun _ _ _ h => h) (Or.inl ⟨by rfl, ?_⟩) hHeld ?_
              rotate_left
              · (intro wz hSw; (try dsimp only at hSw); (try simp only [List.getElem_toArray, List.getElem_cons_succ, List.getElem_cons_zero]); go_simp; try with_reducible rfl)
              try simp only [List.getElem_toArray, List.getElem_cons_succ, List.getElem_cons_zero, Act.put, List.setIfInBounds_toArray, List.set_cons_zero, List.set_cons_succ]
              exact hcut g wc8 ⟨hS8, r8', hq8, hgs7⟩
          · skip
            try simp only [List.getElem_toArray, List.getElem_cons_succ, List.getElem_cons_zero]
            go_simp
            obtain ⟨wa9, hw9⟩ : ∃ x : World, wc3.alloc (.cells #[.int .i64 0, .int .i64 0, .int .i64 0, .int .i64 0, .int .i64 0, .int .i64 0, .slice none 0 0, .slice none 0 0, .slice none 0 0] 33) = x := ⟨_, rfl⟩
            have hb9 : Below wc3.heap.size wc3 wa9 := by rw [← hw9]; exact (Below.refl _ _).alloc (Nat.le_refl _) _
            have hS9 := grown_transW hS3 (grown_below hb9 (some R))
            have r9' := r3'.keep hb9 (Nat.le_refl _)
            have hq9 : wa9.heap[wc3.heap.size]? = some (.cells #[.int .i64 0, .int .i64 0, .int .i64 0, .int .i64 0, .int .i64 0, .int .i64 0, .slice none 0 0, .slice none 0 0, .slice none 0 0] 33 (0, 0)) := by rw [← hw9]; exact heap_last wc3 _
            have hgs9 := hS3.size
            obtain ⟨g, eg9⟩ : ∃ n, wc3.heap.size = n := ⟨_, rfl⟩
            rw [hw9]
            try rw [eg9]
            rw [eg9] at hq9 hgs9
            clear hw9
            refine hK.out _ _ hS9 (fun _ => ?_)
            clear hK K hHeld
            try simp only [List.getElem_toArray, List.getElem_cons_succ, List.getElem_cons_zero, Act.put, List.setIfInBounds_toArray, List.set_cons_zero, List.set_cons_succ]
            have hHeld := hS9
            refine wpAnyH_ready (rs := [7]) (by kernel_rfl) (by simp) ?_
            refine AllReadyH.cons rfl (fun K hK => ?_) AllReadyH.nil
            try simp only [List.getElem_toArray, List.getElem_cons_succ, List.getElem_cons_zero]
            go_simp
            refine (C4.out _ r9').mono ?_; rintro r wc10 ⟨rfl, r10', hg10⟩
            have hS10 := grown_transW hS9 hg10
            have hq10 := rd_stays hg10 hq9 (by have := H1.out.lt; have := hgs9; omega)
            refine hK.out _ _ hS10 (fun _ => ?_)
            clear hK K hHeld
            try simp only [List.getElem_toArray, List.getElem_cons_succ, List.getElem_cons_zero, Act.put, List.setIfInBounds_toArray, List.set_cons_zero, List.set_cons_succ]
            have hHeld := hS10
            refine wpAnyH_ready (rs := [9]) (by kernel_rfl) (by simp) ?_
            refine AllReadyH.cons rfl (fun K hK => ?_) AllReadyH.nil
            try simp only [List.getElem_toArray, List.getElem_cons_succ, List.getElem_cons_zero]
            go_simp
            refine (C5.out _ r10').mono ?_; rintro r wc11 ⟨rfl, r11', hg11⟩
            have hS11 := grown_transW hS10 hg11
            have hq11 := rd_stays hg11 hq10 (by have := H1.out.lt; have := hgs9; omega)
            refine hK.out _ _ hS11 (fun _ => ?_)
            clear hK K hHeld
            try simp only [List.getElem_toArray, List.getElem_cons_succ, List.getElem_cons_zero, Act.put, List.setIfInBounds_toArray, List.set_cons_zero, List.set_cons_succ]
            have hHeld := hS11
            refine wpAnyH_take (i := 10) (v := ?_) rfl (by kernel_rfl) (by kernel_rfl) (by kernel_rfl) (fun _ _ _ h => h) (Or.inl ⟨by rfl, ?_⟩) hHeld ?_
            rotate_left
            · (intro wz hSw; (try dsimp only at hSw); (try simp only [List.getElem_toArray, List.getElem_cons_succ, List.getElem_cons_zero]); go_simp; try with_reducible rfl)
            try simp only [List.getElem_toArray, List.getElem_cons_succ, List.getElem_cons_zero, Act.put, List.setIfInBounds_toArray, List.set_cons_zero, List.set_cons_succ]
            exact hcut g wc11 ⟨hS11, r11', hq11, hgs9⟩
        · skip
          try simp only [List.getElem_toArray, List.getElem_cons_succ, List.getElem_cons_zero]
          go_simp
          obtain ⟨wa12, hw12⟩ : ∃ x : World, wc2.alloc (.cells #[.int .i64 0, .int .i64 0, .int .i64 0, .int .i64 0, .int .i64 0, .int .i64 0, .slice none 0 0, .slice none 0 0, .slice none 0 0] 33) = x := ⟨_, rfl⟩
          have hb12 : Below wc2.heap.size wc2 wa12 := by rw [← hw12]; exact (Below.refl _ _).alloc (Nat.le_refl _) _
          have hS12 := grown_transW hS2 (grown_below hb12 (some R))
          have r12' := r2'.keep hb12 (Nat.le_refl _)
          have hq12 : wa12.heap[wc2.heap.size]? = some (.cells #[.int .i64 0, .int .i64 0, .int .i64 0, .int .i64 0, .int .i64 0, .int .i64 0, .slice none 0 0, .slice none 0 0, .slice none 0 0] 33 (0, 0)) := by rw [← hw12]; exact heap_last wc2 _
          have hgs12 := hS2.size
          obtain ⟨g, eg12⟩ : ∃ n, wc2.heap.size = n := ⟨_, rfl⟩
          rw [hw12]
          try rw [eg12]
          rw [eg12] at hq12 hgs12
          clear hw12
          refine hK.out _ _ hS12 (fun _ => ?_)
          clear hK K hHeld
          try simp only [List.getElem_toArray, List.getElem_cons_succ, List.getElem_cons_zero, Act.put, List.setIfInBounds_toArray, List.set_cons_zero, List.set_cons_succ]
          have hHeld := hS12
          refine wpAnyH_ready (rs := [5]) (by kernel_rfl) (by simp) ?_
          refine AllReadyH.cons rfl (fun K hK => ?_) AllReadyH.nil
          try simp only [List.getElem_toArray, List.getElem_cons_succ, List.getElem_cons_zero]
          go_simp
          refine (C3.out _ r12').mono ?_; rintro r wc13 ⟨rfl, r13', hg13⟩
          have hS13 := grown_transW hS12 hg13
          have hq13 := rd_stays hg13 hq12 (by have := H1.out.lt; have := hgs12; omega)
          refine hK.out _ _ hS13 (fun _ => ?_)
          clear hK K hHeld
          try simp only [List.getElem_toArray, List.getElem_cons_succ, List.getElem_cons_zero, Act.put, List.setIfInBounds_toArray, List.set_cons_zero, List.set_cons_succ]
          have hHeld := hS13
          refine wpAnyH_ready (rs := [7]) (by kernel_rfl) (by simp) ?_
          refine AllReadyH.cons rfl (fun K hK => ?_) AllReadyH.nil
          try simp only [List.getElem_toArray, List.getElem_cons_succ, List.getElem_cons_zero]
          go_simp
          refine (C4.out _ r13').mono ?_; rintro r wc14 ⟨rfl, r14', hg14⟩
          have hS14 := grown_transW hS13 hg14
          have hq14 := rd_stays hg14 hq13 (by have := H1.out.lt; have := hgs12; omega)
          refine hK.out _ _ hS14 (fun _ => ?_)
          clear hK K hHeld
          try simp only [List.getElem_toArray, List.getElem_cons_succ, List.getElem_cons_zero, Act.put, List.setIfInBounds_toArray, List.set_cons_zero, List.set_cons_succ]
          have hHeld := hS14
          refine wpAnyH_ready (rs := [9]) (by kernel_rfl) (by simp) ?_
          refine AllReadyH.cons rfl (fun K hK => ?_) AllReadyH.nil
          try simp only [List.getElem_toArray, List.getElem_cons_succ, List.getElem_cons_zero]
          go_simp
          refine (C5.out _ r14').mono ?_; rintro r wc15 ⟨rfl, r15', hg15⟩
          have hS15 := grown_transW hS14 hg15
          have hq15 := rd_stays hg15 hq14 (by have := H1.out.lt; have := hgs12; omega)
          refine hK.out _ _ hS15 (fun _ => ?_)
          clear hK K hHeld
          try simp only [List.getElem_toArray, List.getElem_cons_succ, List.getElem_cons_zero, Act.put, List.setIfInBounds_toArray, List.set_cons_zero, List.set_cons_succ]
          have hHeld := hS15
          refine wpAnyH_take (i := 10) (v := ?_) rfl (by kernel_rfl) (by kernel_rfl) (by kernel_rfl) (fun _ _ _ h => h) (Or.inl ⟨by rfl, ?_⟩) hHeld ?_
          rotate_left
          · (intro wz hSw; (try dsimp only at hSw); (try simp only [List.getElem_toArray, List.getElem_cons_succ, List.getElem_cons_zero]); go_simp; try with_reducible rfl)
          try simp only [List.getElem_toArray, List.getElem_cons_succ, List.getElem_cons_zero, Act.put, List.setIfInBounds_toArray, List.set_cons_zero, List.set_cons_succ]
          exact hcut g wc15 ⟨hS15, r15', hq15, hgs12⟩
      · skip
        try simp only [List.getElem_toArray, List.getElem_cons_succ, List.getElem_cons_zero]
        go_simp
        obtain ⟨wa16, hw16⟩ : ∃ x : World, wc1.alloc (.cells #[.int .i64 0, .int .i64 0, .int .i64 0, .int .i64 0, .int .i64 0, .int .i64 0, .slice none 0 0, .slice none 0 0, .slice none 0 0] 33) = x := ⟨_, rfl⟩
        have hb16 : Below wc1.heap.size wc1 wa16 := by rw [← hw16]; exact (Below.refl _ _).alloc (Nat.le_refl _) _
        have hS16 := grown_transW hS1 (grown_below hb16 (some R))
        have r16' := r1'.keep hb16 (Nat.le_refl _)
        have hq16 : wa16.heap[wc1.heap.size]? = some (.cells #[.int .i64 0, .int .i64 0, .int .i64 0, .int .i64 0, .int .i64 0, .int .i64 0, .slice none 0 0, .slice none 0 0, .slice none 0 0] 33 (0, 0)) := by rw [← hw16]; exact heap_last wc1 _
        have hgs16 := hS1.size
        obtain ⟨g, eg16⟩ : ∃ n, wc1.heap.size = n := ⟨_, rfl⟩
        rw [hw16]
        try rw [eg16]
        rw [eg16] at hq16 hgs16
        clear hw16
        refine hK.out _ _ hS16 (fun _ => ?_)
        clear hK K hHeld
        try simp only [List.getElem_toArray, List.getElem_cons_succ, List.getElem_cons_zero, Act.put, List.setIfInBounds_toArray, List.set_cons_zero, List.set_cons_succ]
        have hHeld := hS16
        refine wpAnyH_ready (rs := [3]) (by kernel_rfl) (by simp) ?_
        refine AllReadyH.cons rfl (fun K hK => ?_) AllReadyH.nil
        try simp only [List.getElem_toArray, List.getElem_cons_succ, List.getElem_cons_zero]
        go_simp
        refine (C2.out _ r16').mono ?_; rintro r wc17 ⟨rfl, r17', hg17⟩
        have hS17 := grown_transW hS16 hg17
        have hq17 := rd_stays hg17 hq16 (by have := H1.out.lt; have := hgs16; omega)
        refine hK.out _ _ hS17 (fun _ => ?_)
        clear hK K hHeld
        try simp only [List.getElem_toArray, List.getElem_cons_succ, List.getElem_cons_zero, Act.put, List.setIfInBounds_toArray, List.set_cons_zero, List.set_cons_succ]
        have hHeld := hS17
        refine wpAnyH_ready (rs := [5]) (by kernel_rfl) (by simp) ?_
        refine AllReadyH.cons rfl (fun K hK => ?_) AllReadyH.nil
        try simp only [List.getElem_toArray, List.getElem_cons_succ, List.getElem_cons_zero]
        go_simp
        refine (C3.out _ r17').mono ?_; rintro r wc18 ⟨rfl, r18', hg18⟩
        have hS18 := grown_transW hS17 hg18
        have hq18 := rd_stays hg18 hq17 (by have := H1.out.lt; have := hgs16; omega)
        refine hK.out _ _ hS18 (fun _ => ?_)
        clear hK K hHeld
        try simp only [List.getElem_toArray, List.getElem_cons_succ, List.getElem_cons_zero, Act.put, List.setIfInBounds_toArray, List.set_cons_zero, List.set_cons_succ]
        have hHeld := hS18
        refine wpAnyH_ready (rs := [7]) (by kernel_rfl) (by simp) ?_
        refine AllReadyH.cons rfl (fun K hK => ?_) AllReadyH.nil
        try simp only [List.getElem_toArray, List.getElem_cons_succ, List.getElem_cons_zero]
        go_simp
        refine (C4.out _ r18').mono ?_; rintro r wc19 ⟨rfl, r19', hg19⟩
        have hS19 := grown_transW hS18 hg19
        have hq19 := rd_stays hg19 hq18 (by have := H1.out.lt; have := hgs16; omega)
        refine hK.out _ _ hS19 (fun _ => ?_)
        clear hK K hHeld
        try simp only [List.getElem_toArray, List.getElem_cons_succ, List.getElem_cons_zero, Act.put, List.setIfInBounds_toArray, List.set_cons_zero, List.set_cons_succ]
        have hHeld := hS19
        refine wpAnyH_ready (rs := [9]) (by kernel_rfl) (by simp) ?_
        refine AllReadyH.cons rfl (fun K hK => ?_) AllReadyH.nil
        try simp only [List.getElem_toArray, List.getElem_cons_succ, List.getElem_cons_zero]
        go_simp
        refine (C5.out _ r19').mono ?_; rintro r wc20 ⟨rfl, r20', hg20⟩
        have hS20 := grown_transW hS19 hg20
        have hq20 := rd_stays hg20 hq19 (by have := H1.out.lt; have := hgs16; omega)
        refine hK.out _ _ hS20 (fun _ => ?_)
        clear hK K hHeld
        try simp only [List.getElem_toArray, List.getElem_cons_succ, List.getElem_cons_zero, Act.put, List.setIfInBounds_toArray, List.set_cons_zero, List.set_cons_succ]
        have hHeld := hS20
        refine wpAnyH_take (i := 10) (v := ?_) rfl (by kernel_rfl) (by kernel_rfl) (by kernel_rfl) (fun _ _ _ h => h) (Or.inl ⟨by rfl, ?_⟩) hHeld ?_
        rotate_left
        · (intro wz hSw; (try dsimp only at hSw); (try simp only [List.getElem_toArray, List.getElem_cons_succ, List.getElem_cons_zero]); go_simp; try with_reducible rfl)
        try simp only [List.getElem_toArray, List.getElem_cons_succ, List.getElem_cons_zero, Act.put, List.setIfInBounds_toArray, List.set_cons_zero, List.set_cons_succ]
        exact hcut g wc20 ⟨hS20, r20', hq20, hgs16⟩
    · skip
      try simp only [List.getElem_toArray, List.getElem_cons_succ, List.getElem_cons_zero]
      go_simp
      obtain ⟨wa21, hw21⟩ : ∃ x : World, wd.alloc (.cells #[.int .i64 0, .int .i64 0, .int .i64 0, .int .i64 0, .int .i64 0, .int .i64 0, .slice none 0 0, .slice none 0 0, .slice none 0 0] 33) = x := ⟨_, rfl⟩
      have hb21 : Below wd.heap.size wd wa21 := by rw [← hw21]; exact (Below.refl _ _).alloc (Nat.le_refl _) _
      have hS21 := grown_transW g0 (grown_below hb21 (some R))
      have r21' := r0.keep hb21 (Nat.le_refl _)
      have hq21 : wa21.heap[wd.heap.size]? = some (.cells #[.int .i64 0, .int .i64 0, .int .i64 0, .int .i64 0, .int .i64 0, .int .i64 0, .slice none 0 0, .slice none 0 0, .slice none 0 0] 33 (0, 0)) := by rw [← hw21]; exact heap_last wd _
      have hgs21 := g0.size
      obtain ⟨g, eg21⟩ : ∃ n, wd.heap.size = n := ⟨_, rfl⟩
      rw [hw21]
      try rw [eg21]
      rw [eg21] at hq21 hgs21
      clear hw21
      refine hK.out _ _ hS21 (fun _ => ?_)
      clear hK K hHeld
      try simp only [List.getElem_toArray, List.getElem_cons_succ, List.getElem_cons_zero, Act.put, List.setIfInBounds_toArray, List.set_cons_zero, List.set_cons_succ]
      have hHeld := hS21
      refine wpAnyH_ready (rs := [1]) (by kernel_rfl) (by simp) ?_
      refine AllReadyH.cons rfl (fun K hK => ?_) AllReadyH.nil
      try simp only [List.getElem_toArray, List.getElem_cons_succ, List.getElem_cons_zero]
      go_simp
      refine (C1.out _ r21').mono ?_; rintro r wc22 ⟨rfl, r22', hg22⟩
      have hS22 := grown_transW hS21 hg22
      have hq22 := rd_stays hg22 hq21 (by have := H1.out.lt; have := hgs21; omega)
      refine hK.out _ _ hS22 (fun _ => ?_)
      clear hK K hHeld
      try simp only [List.getElem_toArray, List.getElem_cons_succ, List.getElem_cons_zero, Act.put, List.setIfInBounds_toArray, List.set_cons_zero, List.set_cons_succ]
      have hHeld := hS22
      refine wpAnyH_ready (rs := [3]) (by kernel_rfl) (by simp) ?_
      refine AllReadyH.cons rfl (fun K hK => ?_) AllReadyH.nil
      try simp only [List.getElem_toArray, List.getElem_cons_succ, List.getElem_cons_zero]
      go_simp
      refine (C2.out _ r22').mono ?_; rintro r wc23 ⟨rfl, r23', hg23⟩
      have hS23 := grown_transW hS22 hg23
      have hq23 := rd_stays hg23 hq22 (by have := H1.out.lt; have := hgs21; omega)
      refine hK.out _ _ hS23 (fun _ => ?_)
      clear hK K hHeld
      try simp only [List.getElem_toArray, List.getElem_cons_succ, List.getElem_cons_zero, Act.put, List.setIfInBounds_toArray, List.set_cons_zero, List.set_cons_succ]
      have hHeld := hS23
      refine wpAnyH_ready (rs := [5]) (by kernel_rfl) (by simp) ?_
      refine AllReadyH.cons rfl (fun K hK => ?_) AllReadyH.nil
      try simp only [List.getElem_toArray, List.getElem_cons_succ, List.getElem_cons_zero]
      go_simp
      refine (C3.out _ r23').mono ?_; rintro r wc24 ⟨rfl, r24', hg24⟩
      have hS24 := grown_transW hS23 hg24
      have hq24 := rd_stays hg24 hq23 (by have := H1.out.lt; have := hgs21; omega)
      refine hK.out _ _ hS24 (fun _ => ?_)
      clear hK K hHeld
      try simp only [List.getElem_toArray, List.getElem_cons_succ, List.getElem_cons_zero, Act.put, List.setIfInBounds_toArray, List.set_cons_zero, List.set_cons_succ]
      have hHeld := hS24
      refine wpAnyH_ready (rs := [7]) (by kernel_rfl) (by simp) ?_
      refine AllReadyH.cons rfl (fun K hK => ?_) AllReadyH.nil
      try simp only [List.getElem_toArray, List.getElem_cons_succ, List.getElem_cons_zero]
      go_simp
      refine (C4.out _ r24').mono ?_; rintro r wc25 ⟨rfl, r25', hg25⟩
      have hS25 := grown_transW hS24 hg25
      have hq25 := rd_stays hg25 hq24 (by have := H1.out.lt; have := hgs21; omega)
      refine hK.out _ _ hS25 (fun _ => ?_)
      clear hK K hHeld
      try simp only [List.getElem_toArray, List.getElem_cons_succ, List.getElem_cons_zero, Act.put, List.setIfInBounds_toArray, List.set_cons_zero, List.set_cons_succ]
      have hHeld := hS25
      refine wpAnyH_ready (rs := [9]) (by kernel_rfl) (by simp) ?_
      refine AllReadyH.cons rfl (fun K hK => ?_) AllReadyH.nil
      try simp only [List.getElem_toArray, List.getElem_cons_succ, List.getElem_cons_zero]
      go_simp
      refine (C5.out _ r25').mono ?_; rintro r wc26 ⟨rfl, r26', hg26⟩
      have hS26 := grown_transW hS25 hg26
      have hq26 := rd_stays hg26 hq25 (by have := H1.out.lt; have := hgs21; omega)
      refine hK.out _ _ hS26 (fun _ => ?_)
      clear hK K hHeld
      try simp only [List.getElem_toArray, List.getElem_cons_succ, List.getElem_cons_zero, Act.put, List.setIfInBounds_toArray, List.set_cons_zero, List.set_cons_succ]
      have hHeld := hS26
      refine wpAnyH_take (i := 10) (v := ?_) rfl (by kernel_rfl) (by kernel_rfl) (by kernel_rfl) (fun _ _ _ h => h) (Or.inl ⟨by rfl, ?_⟩) hHeld ?_
      rotate_left
      · (intro wz hSw; (try dsimp only at hSw); (try simp only [List.getElem_toArray, List.getElem_cons_succ, List.getElem_cons_zero]); go_simp; try with_reducible rfl)
      try simp only [List.getElem_toArray, List.getElem_cons_succ, List.getElem_cons_zero, Act.put, List.setIfInBounds_toArray, List.set_cons_zero, List.set_cons_succ]
      exact hcut g wc26 ⟨hS26, r26', hq26, hgs21⟩
  intro g w2 hR2
  obtain ⟨hS2, hr2', hq2, hgs⟩ := hR2
  have hHeld := hS2
  have kg := block_cells hq2
  have fg := block_free hq2
  refine wpAnyH_ready (rs := [12]) (by kernel_rfl) (by simp) ?_; refine AllReadyH.cons rfl (fun K hK => ?_) AllReadyH.nil; (try simp only [List.getElem_toArray, List.getElem_cons_succ, List.getElem_cons_zero]); go_simp
  have hRg : R < g := Nat.lt_of_lt_of_le H1.out.lt hgs
  have hS3 := putL_gr (g := g) hgs [.int .i64 n1, .int .i64 n2, .int .i64 s1, .int .i64 s2, .int .i64 n4, .int .i64 n5, .slice none 0 0, .slice none 0 0, .slice none 0 0] 0 hS2
  have hr3 := putL_rd (g := g) hRg [.int .i64 n1, .int .i64 n2, .int .i64 s1, .int .i64 s2, .int .i64 n4, .int .i64 n5, .slice none 0 0, .slice none 0 0, .slice none 0 0] 0 hr2'.r
  have hq3 := putL_at hq2 [.int .i64 n1, .int .i64 n2, .int .i64 s1, .int .i64 s2, .int .i64 n4, .int .i64 n5, .slice none 0 0, .slice none 0 0, .slice none 0 0] rfl
  obtain ⟨w3, ew3⟩ : ∃ x : World, putL g 0 [.int .i64 n1, .int .i64 n2, .int .i64 s1, .int .i64 s2, .int .i64 n4, .int .i64 n5, .slice none 0 0, .slice none 0 0, .slice none 0 0] w2 = x := ⟨_, rfl⟩
  rw [ew3] at hS3 hr3
  have hq3' : w3.heap[g]? = some (.cells #[.int .i64 n1, .int .i64 n2, .int .i64 s1, .int .i64 s2, .int .i64 n4, .int .i64 n5, .slice none 0 0, .slice none 0 0, .slice none 0 0] 33 (0, 0)) := by rw [← ew3]; exact hq3
  simp only [putL, Nat.reduceAdd, Nat.zero_add] at ew3
  rw [ew3]
  refine hK.out _ _ hS3 (fun _ => ?_)
  clear hK K hHeld kg fg
  try simp only [List.getElem_toArray, List.getElem_cons_succ, List.getElem_cons_zero, Act.put, List.setIfInBounds_toArray, List.set_cons_zero, List.set_cons_succ]
  refine wpAnyH_done (by kernel_rfl) ?_ _
  have HT3 := Lib.hid (rd_stays hS3 HT1.out (by omega))
  have HG3 := Lib.hid (grown_transW G1.out hS3)
  have HW3 : Hid (RdW B w3 R X6 b6) := ⟨hr3, hr2'.o, hr2'.l⟩
  have HQ3 := Lib.hid hq3'
  have hWg : W.heap.size ≤ g := Nat.le_trans G1.out.size hgs
  have hgz : g + 1 ≤ w3.heap.size := block_lt hq3'
  clear hS2 hr2' hq2 hgs hS3 hr3 hq3 hq3' ew3 kT HT1 G1 H1 C1 C2 C3 C4 C5
  have P3 : LsP W.heap.size R (R + 1) g w3.heap.size := ⟨hWg, by omega, by omega, by omega, by omega, by omega⟩
  have J3 : CesJ B R (R + 1) g w3.heap.size W w3 (fun v => #[.int .i64 n1, .int .i64 n2, .int .i64 s1, .int .i64 s2, .int .i64 n4, .int .i64 n5, v, .slice none 0 0, .slice none 0 0]) 33 [] w3 := ⟨[], rfl, ⟨⟨.slice none 0 0, HQ3.out, ⟨rfl, .inl ⟨rfl, rfl⟩⟩⟩, HT3.out, HG3.out, Nat.le_refl _, fun _ _ _ _ => rfl⟩, fun x hx => by cases hx⟩
  have hL := rlist_gen B R 72 #[.pointer (some ⟨g, 0, none⟩), .pointer (some ⟨R + 1, 0, none⟩)] (fun _ => rfl) rdCe rdCe_len (CesJ B R (R + 1) g w3.heap.size W w3 (fun v => #[.int .i64 n1, .int .i64 n2, .int .i64 s1, .int .i64 s2, .int .i64 n4, .int .i64 n5, v, .slice none 0 0, .slice none 0 0]) 33) X6 b6 w3 HW3.out (fun w' hg => J3.row P3 hg) (fun acc ys b' w' hl hr hj => partCe_any B R (R + 1) g w3.heap.size W w3 _ _ _ _ _ _ _ _ acc ys b' w' P3 hl hr hj)
  rw [HR6.out] at hL
  dsimp only at hL
  have HL := Lib.hid hL
  have kT := block_cells HT3.out
  clear hL J3 P3
  go_wp2_with fail
  refine HL.out.mono ?_; rintro e w4 ⟨rfl, r4', L, eL, ⟨⟨v, hg4, ho4⟩, ht4, hb4, hz4, hk4⟩, hv4⟩
  obtain ⟨q1, c1, rfl⟩ := own_form ho4
  have HEL := Lib.hid eL
  have HT4 := Lib.hid ht4; have HG4 := Lib.hid hb4; have HW4 := Lib.hid r4'; have HQ4 := Lib.hid hg4; have HO4 := Lib.hid ho4; have HV4 := Lib.hid hv4
  have hw3 : g + 1 ≤ w3.heap.size := hgz
  clear r4' hg4 ho4 ht4 hb4 hk4 kT HL HT3 HW3 HG3 HR6 eL hv4
  have kT := block_cells HT4.out
  go_wp2_with fail
  refine (C7.out _ HW4.out).mono ?_; rintro e w5 ⟨v, rfl, ho5, r5', k5⟩
  obtain ⟨q2, c2, rfl⟩ := own_form ho5
  have hG5 := rd_stays k5 HQ4.out (by omega)
  have HQ5 := Lib.hid hG5
  have HT5 := Lib.hid (rd_stays k5 HT4.out (by omega))
  have HG5 := Lib.hid (grown_transW HG4.out k5); have HW5 := Lib.hid r5'
  have HO5 := Lib.hid (show w5.ownsRow w3.heap.size 83 7 (.slice q2 l2.length c2) l2.length (ouR l2) from ho5.mono hz4)
  have hz5 := Nat.le_trans hz4 k5.size
  have HKx := Lib.hid k5
  clear ho5 r5' k5 kT hG5 C7
  have HO5a := Lib.hid (HO4.out.kept HKx.out (by
    cases e : (Value.slice q1 L.length c1).ownBlock with
    | none => exact .inl rfl
    | some y => exact .inr fun h => by have := (HO4.out.lt y e).1; simp only [Option.some.injEq] at h; omega))
  have HV5 : Hid (∀ x ∈ L, VeO w3.heap.size w5 x) := fun x hx => (HV4.out x hx).kept HKx.out (by omega)
  have kg := block_cells HQ5.out
  have fg := block_free HQ5.out
  clear HKx HQ4 HT4 HG4 HW4 HO4 HV4
  go_upto_region 6 with fail
  obtain ⟨w6, ew⟩ : ∃ x : World, w5.setCell ⟨g, 7, none⟩ (.slice q2 l2.length c2) = x := ⟨_, rfl⟩
  have hgs : w5.grownBy w6 (some g) := by rw [← ew]; exact grown_set w5 g 7 _
  have HQ6 : Hid (w6.heap[g]? = some (.cells #[.int .i64 n1, .int .i64 n2, .int .i64 s1, .int .i64 s2, .int .i64 n4, .int .i64 n5, .slice q1 L.length c1, .slice q2 l2.length c2, .slice none 0 0] 33 (0, 0))) := by show _ = _; rw [← ew]; exact (cells_setW HQ5.out 7 (.slice q2 l2.length c2)).trans rfl
  have HT6 := Lib.hid (rd_stays hgs HT5.out (by omega))
  have HG6 : Hid (W.grownBy w6 (some R)) := by show World.grownBy _ _ _; rw [← ew]; exact grown_setFar HG5.out hWg
  have HW6 : Hid (RdW B w6 R X8 b8) := by show RdW _ _ _ _ _; rw [← ew]; exact ⟨HW5.out.r.setFar (by omega) _, HW5.out.o, HW5.out.l⟩
  have hz6 := Nat.le_trans hz5 hgs.size
  have HO6a := Lib.hid (HO5a.out.kept hgs (by
    cases e : (Value.slice q1 L.length c1).ownBlock with
    | none => exact .inl rfl
    | some y => exact .inr fun h => by have := (HO5a.out.lt y e).1; simp only [Option.some.injEq] at h; omega))
  have HO6b := Lib.hid (HO5.out.kept hgs (by
    cases e : (Value.slice q2 l2.length c2).ownBlock with
    | none => exact .inl rfl
    | some y => exact .inr fun h => by have := (HO5.out.lt y e).1; simp only [Option.some.injEq] at h; omega))
  have HV6 : Hid (∀ x ∈ L, VeO w3.heap.size w6 x) := fun x hx => (HV5.out x hx).kept hgs (by omega)
  rw [ew]
  clear ew hgs kg fg HQ5 HT5 HG5 HW5 HO5 HO5a HV5
  have kT := block_cells HT6.out
  go_wp2_with fail
  refine (C8.out _ HW6.out).mono ?_; rintro e w7 ⟨v, rfl, ho7, r7', k7⟩
  obtain ⟨q3, c3, rfl⟩ := own_form ho7
  have hG7 := rd_stays k7 HQ6.out (by omega)
  have HQ7 := Lib.hid hG7
  have HT7 := Lib.hid (rd_stays k7 HT6.out (by omega))
  have HG7 := Lib.hid (grown_transW HG6.out k7); have HW7 := Lib.hid r7'
  have HO7 := Lib.hid (show w7.ownsRow w3.heap.size 83 7 (.slice q3 l3.length c3) l3.length (ouR l3) from ho7.mono hz6)
  have hz7 := Nat.le_trans hz6 k7.size
  have HKx := Lib.hid k7
  clear ho7 r7' k7 kT hG7 C8
  have HO7a := Lib.hid (HO6a.out.kept HKx.out (by
    cases e : (Value.slice q1 L.length c1).ownBlock with
    | none => exact .inl rfl
    | some y => exact .inr fun h => by have := (HO6a.out.lt y e).1; simp only [Option.some.injEq] at h; omega))
  have HO7b := Lib.hid (HO6b.out.kept HKx.out (by
    cases e : (Value.slice q2 l2.length c2).ownBlock with
    | none => exact .inl rfl
    | some y => exact .inr fun h => by have := (HO6b.out.lt y e).1; simp only [Option.some.injEq] at h; omega))
  have HV7 : Hid (∀ x ∈ L, VeO w3.heap.size w7 x) := fun x hx => (HV6.out x hx).kept HKx.out (by omega)
  have kg := block_cells HQ7.out
  have fg := block_free HQ7.out
  clear HKx HQ6 HT6 HG6 HW6 HO6a HO6b HV6
  go_upto_region 7 with fail
  obtain ⟨w8, ew⟩ : ∃ x : World, w7.setCell ⟨g, 8, none⟩ (.slice q3 l3.length c3) = x := ⟨_, rfl⟩
  have hgs : w7.grownBy w8 (some g) := by rw [← ew]; exact grown_set w7 g 8 _
  have HQ8 : Hid (w8.heap[g]? = some (.cells #[.int .i64 n1, .int .i64 n2, .int .i64 s1, .int .i64 s2, .int .i64 n4, .int .i64 n5, .slice q1 L.length c1, .slice q2 l2.length c2, .slice q3 l3.length c3] 33 (0, 0))) := by show _ = _; rw [← ew]; exact (cells_setW HQ7.out 8 (.slice q3 l3.length c3)).trans rfl
  have HT8 := Lib.hid (rd_stays hgs HT7.out (by omega))
  have HG8 : Hid (W.grownBy w8 (some R)) := by show World.grownBy _ _ _; rw [← ew]; exact grown_setFar HG7.out hWg
  have HW8 : Hid (RdW B w8 R X9 b9) := by show RdW _ _ _ _ _; rw [← ew]; exact ⟨HW7.out.r.setFar (by omega) _, HW7.out.o, HW7.out.l⟩
  have hz8 := Nat.le_trans hz7 hgs.size
  have HO8a := Lib.hid (HO7a.out.kept hgs (by
    cases e : (Value.slice q1 L.length c1).ownBlock with
    | none => exact .inl rfl
    | some y => exact .inr fun h => by have := (HO7a.out.lt y e).1; simp only [Option.some.injEq] at h; omega))
  have HO8b := Lib.hid (HO7b.out.kept hgs (by
    cases e : (Value.slice q2 l2.length c2).ownBlock with
    | none => exact .inl rfl
    | some y => exact .inr fun h => by have := (HO7b.out.lt y e).1; simp only [Option.some.injEq] at h; omega))
  have HO8c := Lib.hid (HO7.out.kept hgs (by
    cases e : (Value.slice q3 l3.length c3).ownBlock with
    | none => exact .inl rfl
    | some y => exact .inr fun h => by have := (HO7.out.lt y e).1; simp only [Option.some.injEq] at h; omega))
  have HV8 : Hid (∀ x ∈ L, VeO w3.heap.size w8 x) := fun x hx => (HV7.out x hx).kept hgs (by omega)
  rw [ew]
  clear ew hgs kg fg HQ7 HT7 HG7 HW7 HO7 HO7a HO7b HV7
  obtain ⟨-, pr, cr, hRr, -⟩ := HW8.out.r
  have kR := block_cells hRr
  have kT := block_cells HT8.out
  have kg := block_cells HQ8.out
  have hZw := rd_stays HG8.out HZ.out (by omega)
  have kz := block_cells hZw
  have fz := block_free hZw
  have HZw := Lib.hid hZw
  have hBw : Below B w w8 := HB1.out.grown HG8.out (by have := HB1.out.size; have := HEB.out; omega) (fun k hk => by cases hk; omega)
  have HBw := Lib.hid hBw
  clear hRr hZw hBw HW8 HT8
  have hu : undef = Value.tuple #[] := rfl
  cases b9 with
  | true =>
    have HNO := Lib.hid (fun a' (ha : PaV a') => tk_no rdPa_ok (m := 2) (a' := a') ⟨by omega, by omega⟩ HRD.out (by simp) ha)
    go_wp2_with fail
    have hzF := putL_at HZw.out [.int .i64 0, .int .i64 0, .int .i64 0, .int .i64 0, .int .i64 0, .int .i64 0, .slice none 0 0, .slice none 0 0, .slice none 0 0] rfl
    have hbF := putL_bel (g := B) (Nat.le_refl B) [.int .i64 0, .int .i64 0, .int .i64 0, .int .i64 0, .int .i64 0, .int .i64 0, .slice none 0 0, .slice none 0 0, .slice none 0 0] 0 HBw.out
    simp only [putL, Nat.reduceAdd, Nat.zero_add] at hzF hbF
    have kF := block_cells hzF
    refine bodyPost_ret (v := .tuple #[.agg #[.int .i64 0, .int .i64 0, .int .i64 0, .int .i64 0, .int .i64 0, .int .i64 0, .slice none 0 0, .slice none 0 0, .slice none 0 0], .int .i64 9]) ?_ rfl ⟨by rw [HEB.out]; exact hbF, .inr ⟨fun a' ha => by rw [encPa_body]; exact HNO.out a' ha, rfl⟩⟩
    simp [results, Try.results24, go_sem, kF]
  | false =>
    by_cases hf : n0 = 2
    · subst hf
      by_cases hx : X9 = []
      · subst hx
        have HY := Lib.hid (tk_yes rdPa_ok HOC.out HRD.out)
        go_wp2_with fail
        have hzF := putL_at HZw.out [.int .i64 n1, .int .i64 n2, .int .i64 s1, .int .i64 s2, .int .i64 n4, .int .i64 n5, .slice q1 L.length c1, .slice q2 l2.length c2, .slice q3 l3.length c3] rfl
        have hbF := putL_bel (g := B) (Nat.le_refl B) [.int .i64 n1, .int .i64 n2, .int .i64 s1, .int .i64 s2, .int .i64 n4, .int .i64 n5, .slice q1 L.length c1, .slice q2 l2.length c2, .slice q3 l3.length c3] 0 HBw.out
        have hgF := putL_gr' B [.int .i64 n1, .int .i64 n2, .int .i64 s1, .int .i64 s2, .int .i64 n4, .int .i64 n5, .slice q1 L.length c1, .slice q2 l2.length c2, .slice q3 l3.length c3] 0 w8
        simp only [putL, Nat.reduceAdd, Nat.zero_add] at hzF hbF hgF
        have kF := block_cells hzF
        have ho1 := HO8a.out.kept hgF (by
          cases e : (Value.slice q1 L.length c1).ownBlock with
          | none => exact .inl rfl
          | some y => exact .inr fun h => by have := (HO8a.out.lt y e).1; simp only [Option.some.injEq] at h; omega)
        have ho2 := HO8b.out.kept hgF (by
          cases e : (Value.slice q2 l2.length c2).ownBlock with
          | none => exact .inl rfl
          | some y => exact .inr fun h => by have := (HO8b.out.lt y e).1; simp only [Option.some.injEq] at h; omega)
        have ho3 := HO8c.out.kept hgF (by
          cases e : (Value.slice q3 l3.length c3).ownBlock with
          | none => exact .inl rfl
          | some y => exact .inr fun h => by have := (HO8c.out.lt y e).1; simp only [Option.some.injEq] at h; omega)
        have hv := fun x hx => vesAt_own ((HV8.out x hx).kept hgF (by omega))
        have HPX : Hid (PaL.x ⟨n1, n2, s1, s2, n4, n5, L, l2, l3⟩ = ⟨n1, n2, s1, s2, n4, n5, l1, l2, l3⟩) := by show PaX.mk _ _ _ _ _ _ _ _ _ = _; rw [HEL.out]
        refine bodyPost_ret (v := .tuple #[.agg #[.int .i64 n1, .int .i64 n2, .int .i64 s1, .int .i64 s2, .int .i64 n4, .int .i64 n5, .slice q1 L.length c1, .slice q2 l2.length c2, .slice q3 l3.length c3], .int .i64 0]) ?_ rfl ⟨by rw [HEB.out]; exact hbF, .inl ⟨⟨n1, n2, s1, s2, n4, n5, L, l2, l3⟩, q1, q2, q3, c1, c2, c3, by rw [HPX.out, encPa_body]; exact HY.out.1, by rw [HPX.out]; exact HY.out.2, cesAt_own ho1 hv, ousAt_own ho2, ousAt_own ho3, rfl⟩⟩
        simp [results, Try.results24, go_sem, kF]
      · have hxl : decide (0 < (X9.length : Int)) = true := by
          have : 0 < X9.length := List.length_pos_iff.2 hx
          simp; omega
        have hx0 : 0 < X9.length := List.length_pos_iff.2 hx
        have hx1 : 0 < (X9.length : Int) := by omega
        have HNO := Lib.hid (fun a' (ha : PaV a') => tk_no rdPa_ok (m := 2) (a' := a') ⟨by omega, by omega⟩ HRD.out (by simp; exact hx) ha)
        go_wp2_with fail
        have hzF := putL_at HZw.out [.int .i64 0, .int .i64 0, .int .i64 0, .int .i64 0, .int .i64 0, .int .i64 0, .slice none 0 0, .slice none 0 0, .slice none 0 0] rfl
        have hbF := putL_bel (g := B) (Nat.le_refl B) [.int .i64 0, .int .i64 0, .int .i64 0, .int .i64 0, .int .i64 0, .int .i64 0, .slice none 0 0, .slice none 0 0, .slice none 0 0] 0 HBw.out
        simp only [putL, Nat.reduceAdd, Nat.zero_add] at hzF hbF
        have kF := block_cells hzF
        refine bodyPost_ret (v := .tuple #[.agg #[.int .i64 0, .int .i64 0, .int .i64 0, .int .i64 0, .int .i64 0, .int .i64 0, .slice none 0 0, .slice none 0 0, .slice none 0 0], .int .i64 9]) ?_ rfl ⟨by rw [HEB.out]; exact hbF, .inr ⟨fun a' ha => by rw [encPa_body]; exact HNO.out a' ha, rfl⟩⟩
        simp [results, Try.results24, go_sem, kF]
    · have hfe : (n0 == 2) = false := by simpa using hf
      have hfn : (n0 != 2) = true := by simpa using hf
      have HNO := Lib.hid (fun a' (ha : PaV a') => tk_no rdPa_ok (m := 2) (a' := a') ⟨by omega, by omega⟩ HRD.out (by simp; intro h; exact absurd h hf) ha)
      go_wp2_with fail
      have hzF := putL_at HZw.out [.int .i64 0, .int .i64 0, .int .i64 0, .int .i64 0, .int .i64 0, .int .i64 0, .slice none 0 0, .slice none 0 0, .slice none 0 0] rfl
      have hbF := putL_bel (g := B) (Nat.le_refl B) [.int .i64 0, .int .i64 0, .int .i64 0, .int .i64 0, .int .i64 0, .int .i64 0, .slice none 0 0, .slice none 0 0, .slice none 0 0] 0 HBw.out
      simp only [putL, Nat.reduceAdd, Nat.zero_add] at hzF hbF
      have kF := block_cells hzF
      refine bodyPost_ret (v := .tuple #[.agg #[.int .i64 0, .int .i64 0, .int .i64 0, .int .i64 0, .int .i64 0, .int .i64 0, .slice none 0 0, .slice none 0 0, .slice none 0 0], .int .i64 9]) ?_ rfl ⟨by rw [HEB.out]; exact hbF, .inr ⟨fun a' ha => by rw [encPa_body]; exact HNO.out a' ha, rfl⟩⟩
      simp [results, Try.results24, go_sem, kF]
end Go.Proofs.Ytmhmlpfkdpjlaaa
