/- Wire: package wire's TakeCmd. -/
import Derived.Test.YtmhmlpfkdpjlaaaRdE
namespace Go.Proofs.Ytmhmlpfkdpjlaaa
open Go.ChangeShapes Go.WideShapes Go.ChangeAt Go.RowKit

set_option maxRecDepth 100000 in
set_option maxHeartbeats 16000000 in
theorem wtakeCmd_any (X0 : List Int) (v : Value) (w : World) (hv : Sl w.heap.size w v 1 X0.length (byt X0)) (hoct : Oct X0) (hlen : (X0.length : Int) ≤ 140737488300000) :
    Calls Try.prog 22 #[v] w (TkCmd w X0) := by
  obtain ⟨p, cap, rfl, hc1, hc2, -, -⟩ := hv.form
  have HV := Lib.hid hv; have HOC := Lib.hid hoct; have HLN := Lib.hid hlen
  obtain ⟨B, eB⟩ : ∃ n, w.heap.size = n := ⟨_, rfl⟩
  have HEB := Lib.hid eB
  have hmf : ∀ (fn : Fn) (first cap : Array Value) (w : World), (Instr.makeFunc fn first cap).run Try.prog w = .ok (.func fn first cap) w := fun _ _ _ _ => rfl
  clear hv hoct hlen hc1 hc2
  go_enter Try.func22, Try.ntmps22
  go_upto_region 2 with fail
  obtain ⟨Wa, hWa⟩ : ∃ x : World, w.alloc (.cells #[.int .i64 0, .int .i64 0, .int .i64 0, .int .i64 0, .int .i64 0, .int .i64 0, .int .i64 0, .int .i64 0, .int .i64 0, .int .i64 0, .int .i64 0, .bool false, .slice none 0 0, .slice none 0 0] 29) = x := ⟨_, rfl⟩
  obtain ⟨Wb, hWb⟩ : ∃ x : World, Wa.alloc (.cells #[.slice p X0.length cap, .bool false] 101) = x := ⟨_, rfl⟩
  obtain ⟨W, hW⟩ : ∃ x : World, Wb.alloc (.cells #[.pointer (some ⟨B + 1, 0, none⟩)] 99) = x := ⟨_, rfl⟩
  have sa : Wa.heap.size = B + 1 := by rw [← hWa]; simp; omega
  have sb : Wb.heap.size = B + 1 + 1 := by rw [← hWb]; simp; omega
  have sw : W.heap.size = B + 1 + 1 + 1 := by rw [← hW]; simp; omega
  have ba : Below B w Wa := by rw [← hWa]; exact (Below.refl _ _).alloc (by omega) _
  have bb : Below Wa.heap.size Wa Wb := by rw [← hWb]; exact (Below.refl _ _).alloc (Nat.le_refl _) _
  have bc : Below Wb.heap.size Wb W := by rw [← hW]; exact (Below.refl _ _).alloc (Nat.le_refl _) _
  have hT : W.heap[B + 1 + 1]? = some (.cells #[.pointer (some ⟨B + 1, 0, none⟩)] 99 (0, 0)) := by rw [← hW, ← sb]; exact heap_last _ _
  have hRb : Wb.heap[B + 1]? = some (.cells #[.slice p X0.length cap, .bool false] 101 (0, 0)) := by rw [← hWb, ← sa]; exact heap_last _ _
  have hR := below_block bc (block_lt hRb) hRb
  have hZa : Wa.heap[B]? = some (.cells #[.int .i64 0, .int .i64 0, .int .i64 0, .int .i64 0, .int .i64 0, .int .i64 0, .int .i64 0, .int .i64 0, .int .i64 0, .int .i64 0, .int .i64 0, .bool false, .slice none 0 0, .slice none 0 0] 29 (0, 0)) := by rw [← hWa, ← eB]; exact heap_last _ _
  have hZ := below_block bc (block_lt (below_block bb (block_lt hZa) hZa)) (below_block bb (block_lt hZa) hZa)
  have hB1 : Below B w W := (ba.trans (bb.mono (by omega))).trans (bc.mono (by omega))
  have hr : RdW B W (B + 1) X0 false := ⟨⟨by omega, p, cap, hR, by have := HV.out; rw [eB] at this; exact this.keep hB1⟩, HOC.out, HLN.out⟩
  rw [hWa, hWb, hW]
  obtain ⟨R, eR⟩ : ∃ n, B + 1 = n := ⟨_, rfl⟩
  rw [eR] at hT hr sw ⊢
  have hBR : B < R := by omega
  have hWz : R + 2 ≤ W.heap.size := by omega
  have HT := Lib.hid hT; have H0 := Lib.hid hr; have HB1 := Lib.hid hB1; have HZ := Lib.hid hZ
  clear hWa hWb hW sa sb sw ba bb bc hRb hR hZa hZ hB1 hr hT eR eB HV
  obtain ⟨⟨n0, X1, b1⟩, hr0⟩ : ∃ r, rdBw X0 false = r := ⟨_, rfl⟩
  have C0 : Hid (∀ w', RdW B w' R X0 false → Calls Try.prog 55 #[.pointer (some ⟨R, 0, none⟩)] w' fun e w'' => e = .returned (.int .i64 n0) ∧ RdW B w'' R X1 b1 ∧ w'.grownBy w'' (some R)) := fun w' h => by
    have := rbyteE B R X0 false w' h; rw [hr0] at this; exact this
  obtain ⟨⟨n1, X2, b2⟩, hr1⟩ : ∃ r, rdNw X1 b1 = r := ⟨_, rfl⟩
  have C1 : Hid (∀ w', RdW B w' R X1 b1 → Calls Try.prog 56 #[.pointer (some ⟨R, 0, none⟩)] w' fun e w'' => e = .returned (.int .i64 n1) ∧ RdW B w'' R X2 b2 ∧ w'.grownBy w'' (some R)) := fun w' h => by
    have := rintE B R X1 b1 w' h; rw [hr1] at this; exact this
  obtain ⟨⟨n2, X3, b3⟩, hr2⟩ : ∃ r, rdNw X2 b2 = r := ⟨_, rfl⟩
  have C2 : Hid (∀ w', RdW B w' R X2 b2 → Calls Try.prog 56 #[.pointer (some ⟨R, 0, none⟩)] w' fun e w'' => e = .returned (.int .i64 n2) ∧ RdW B w'' R X3 b3 ∧ w'.grownBy w'' (some R)) := fun w' h => by
    have := rintE B R X2 b2 w' h; rw [hr2] at this; exact this
  obtain ⟨⟨n3, X4, b4⟩, hr3⟩ : ∃ r, rdNw X3 b3 = r := ⟨_, rfl⟩
  have C3 : Hid (∀ w', RdW B w' R X3 b3 → Calls Try.prog 56 #[.pointer (some ⟨R, 0, none⟩)] w' fun e w'' => e = .returned (.int .i64 n3) ∧ RdW B w'' R X4 b4 ∧ w'.grownBy w'' (some R)) := fun w' h => by
    have := rintE B R X3 b3 w' h; rw [hr3] at this; exact this
  obtain ⟨⟨n4, X5, b5⟩, hr4⟩ : ∃ r, rdNw X4 b4 = r := ⟨_, rfl⟩
  have C4 : Hid (∀ w', RdW B w' R X4 b4 → Calls Try.prog 56 #[.pointer (some ⟨R, 0, none⟩)] w' fun e w'' => e = .returned (.int .i64 n4) ∧ RdW B w'' R X5 b5 ∧ w'.grownBy w'' (some R)) := fun w' h => by
    have := rintE B R X4 b4 w' h; rw [hr4] at this; exact this
  obtain ⟨⟨⟨y1, y2, y3, y4⟩, X6, b6⟩, hr5⟩ : ∃ r, rdYw X5 b5 = r := ⟨_, rfl⟩
  have C5 : Hid (∀ w', RdW B w' R X5 b5 → Calls Try.prog 57 #[.pointer (some ⟨R, 0, none⟩)] w' fun e w'' => e = .returned (.agg #[.int .i64 y1, .int .i64 y2, .int .i64 y3, .int .i64 y4]) ∧ RdW B w'' R X6 b6 ∧ w'.grownBy w'' (some R)) := fun w' h => by
    have := rtryE B R X5 b5 w' h; rw [hr5] at this; exact this
  obtain ⟨⟨⟨s1, s2⟩, X7, b7⟩, hr6⟩ : ∃ r, rdSw X6 b6 = r := ⟨_, rfl⟩
  have C6 : Hid (∀ w', RdW B w' R X6 b6 → Calls Try.prog 58 #[.pointer (some ⟨R, 0, none⟩)] w' fun e w'' => e = .returned (.agg #[.int .i64 s1, .int .i64 s2]) ∧ RdW B w'' R X7 b7 ∧ w'.grownBy w'' (some R)) := fun w' h => by
    have := rmomentE B R X6 b6 w' h; rw [hr6] at this; exact this
  obtain ⟨⟨n7, X8, b8⟩, hr7⟩ : ∃ r, rdNw X7 b7 = r := ⟨_, rfl⟩
  have C7 : Hid (∀ w', RdW B w' R X7 b7 → Calls Try.prog 59 #[.pointer (some ⟨R, 0, none⟩)] w' fun e w'' => e = .returned (.int .i64 n7) ∧ RdW B w'' R X8 b8 ∧ w'.grownBy w'' (some R)) := fun w' h => by
    have := rnumE B R X7 b7 w' h; rw [hr7] at this; exact this
  obtain ⟨⟨n8, X9, b9⟩, hr8⟩ : ∃ r, rdFw X8 b8 = r := ⟨_, rfl⟩
  have C8 : Hid (∀ w', RdW B w' R X8 b8 → Calls Try.prog 60 #[.pointer (some ⟨R, 0, none⟩)] w' fun e w'' => e = .returned (.bool n8) ∧ RdW B w'' R X9 b9 ∧ w'.grownBy w'' (some R)) := fun w' h => by
    have := rflagE B R X8 b8 w' h; rw [hr8] at this; exact this
  obtain ⟨⟨l1, X10, b10⟩, hr9⟩ : ∃ r, rdL rdSp X9 b9 = r := ⟨_, rfl⟩
  obtain ⟨⟨l2, X11, b11⟩, hr10⟩ : ∃ r, rdL rdWr X10 b10 = r := ⟨_, rfl⟩
  have HRD : Hid (rd2 rdBw rdCm X0 false = ((n0, ⟨n1, n2, n3, n4, y1, y2, y3, y4, s1, s2, n7, n8, l1, l2⟩), X11, b11)) := rd2_is hr0 (rdMap_is (rd2_is hr1 (rd2_is hr2 (rd2_is hr3 (rd2_is hr4 (rd2_is hr5 (rd2_is hr6 (rd2_is hr7 (rd2_is hr8 (rd2_is hr9 hr10))))))))))
  have HR9 := Lib.hid hr9; have HR10 := Lib.hid hr10
  clear hr0 hr1 hr2 hr3 hr4 hr5 hr6 hr7 hr8 hr9 hr10
  have kT := block_cells HT.out
  go_wp2_with fail
  refine (C0.out _ H0.out).mono ?_; rintro e w1 ⟨rfl, h1, g1⟩
  have H1 := Lib.hid h1; have G1 := Lib.hid g1
  have HT1 := Lib.hid (rd_stays g1 HT.out (by omega))
  clear h1 g1 kT HT H0 C0
  go_upto_region 3 with fail
  have kT : ∀ w', w1.grownBy w' (some R) → ∀ j, w'.cell? ⟨R + 1, j, none⟩ = #[.pointer (some ⟨R, 0, none⟩)][j]? := fun w' h => block_cells (rd_stays h HT1.out (by omega))
  have g0 : w1.grownBy w1.drew (some R) := grown_drewW (grown_refl w1 _)
  have r0 := H1.out.drew
  refine wp_region_held_drew (S := fun w' => w1.grownBy w' (some R)) (by kernel_rfl) g0 (fun hHeld => ?_)
  obtain ⟨wd, ewd⟩ : ∃ x, w1.drew = x := ⟨_, rfl⟩
  rw [ewd] at g0 r0 hHeld ⊢
  clear ewd
  refine wpAnyH_take (i := 0) (v := ?_) rfl (by kernel_rfl) (by kernel_rfl) (by kernel_rfl) (fun _ _ _ h => h) (Or.inl ⟨by rfl, ?_⟩) hHeld ?_
  rotate_left
  · (intro wz hSw; (try dsimp only at hSw); (try simp only [List.getElem_toArray, List.getElem_cons_zero]); go_simp; try with_reducible rfl)
  try simp only [List.getElem_toArray, List.getElem_cons_zero, Act.put, List.setIfInBounds_toArray, List.set_cons_zero, List.set_cons_succ]
  refine wpAnyH_take (i := 2) (v := ?_) rfl (by kernel_rfl) (by kernel_rfl) (by kernel_rfl) (fun _ _ _ h => h) (Or.inl ⟨by rfl, ?_⟩) hHeld ?_
  rotate_left
  · (intro wz hSw; (try dsimp only at hSw); (try simp only [List.getElem_toArray, List.getElem_cons_succ, List.getElem_cons_zero]); go_simp; try with_reducible rfl)
  try simp only [List.getElem_toArray, List.getElem_cons_succ, List.getElem_cons_zero, Act.put, List.setIfInBounds_toArray, List.set_cons_zero, List.set_cons_succ]
  refine wpAnyH_take (i := 4) (v := ?_) rfl (by kernel_rfl) (by kernel_rfl) (by kernel_rfl) (fun _ _ _ h => h) (Or.inl ⟨by rfl, ?_⟩) hHeld ?_
  rotate_left
  · (intro wz hSw; (try dsimp only at hSw); (try simp only [List.getElem_toArray, List.getElem_cons_succ, List.getElem_cons_zero]); go_simp; try with_reducible rfl)
  try simp only [List.getElem_toArray, List.getElem_cons_succ, List.getElem_cons_zero, Act.put, List.setIfInBounds_toArray, List.set_cons_zero, List.set_cons_succ]
  refine wpAnyH_take (i := 6) (v := ?_) rfl (by kernel_rfl) (by kernel_rfl) (by kernel_rfl) (fun _ _ _ h => h) (Or.inl ⟨by rfl, ?_⟩) hHeld ?_
  rotate_left
  · (intro wz hSw; (try dsimp only at hSw); (try simp only [List.getElem_toArray, List.getElem_cons_succ, List.getElem_cons_zero]); go_simp; try with_reducible rfl)
  try simp only [List.getElem_toArray, List.getElem_cons_succ, List.getElem_cons_zero, Act.put, List.setIfInBounds_toArray, List.set_cons_zero, List.set_cons_succ]
  refine wpAnyH_take (i := 8) (v := ?_) rfl (by kernel_rfl) (by kernel_rfl) (by kernel_rfl) (fun _ _ _ h => h) (Or.inl ⟨by rfl, ?_⟩) hHeld ?_
  rotate_left
  · (intro wz hSw; (try dsimp only at hSw); (try simp only [List.getElem_toArray, List.getElem_cons_succ, List.getElem_cons_zero]); go_simp; try with_reducible rfl)
  try simp only [List.getElem_toArray, List.getElem_cons_succ, List.getElem_cons_zero, Act.put, List.setIfInBounds_toArray, List.set_cons_zero, List.set_cons_succ]
  refine wpAnyH_take (i := 10) (v := ?_) rfl (by kernel_rfl) (by kernel_rfl) (by kernel_rfl) (fun _ _ _ h => h) (Or.inl ⟨by rfl, ?_⟩) hHeld ?_
  rotate_left
  · (intro wz hSw; (try dsimp only at hSw); (try simp only [List.getElem_toArray, List.getElem_cons_succ, List.getElem_cons_zero]); go_simp; try with_reducible rfl)
  try simp only [List.getElem_toArray, List.getElem_cons_succ, List.getElem_cons_zero, Act.put, List.setIfInBounds_toArray, List.set_cons_zero, List.set_cons_succ]
  refine wpAnyH_take (i := 12) (v := ?_) rfl (by kernel_rfl) (by kernel_rfl) (by kernel_rfl) (fun _ _ _ h => h) (Or.inl ⟨by rfl, ?_⟩) hHeld ?_
  rotate_left
  · (intro wz hSw; (try dsimp only at hSw); (try simp only [List.getElem_toArray, List.getElem_cons_succ, List.getElem_cons_zero]); go_simp; try with_reducible rfl)
  try simp only [List.getElem_toArray, List.getElem_cons_succ, List.getElem_cons_zero, Act.put, List.setIfInBounds_toArray, List.set_cons_zero, List.set_cons_succ]
  refine wpAnyH_take (i := 14) (v := ?_) rfl (by kernel_rfl) (by kernel_rfl) (by kernel_rfl) (fun _ _ _ h => h) (Or.inl ⟨by rfl, ?_⟩) hHeld ?_
  rotate_left
  · (intro wz hSw; (try dsimp only at hSw); (try simp only [List.getElem_toArray, List.getElem_cons_succ, List.getElem_cons_zero]); go_simp; try with_reducible rfl)
  try simp only [List.getElem_toArray, List.getElem_cons_succ, List.getElem_cons_zero, Act.put, List.setIfInBounds_toArray, List.set_cons_zero, List.set_cons_succ]
  clear hHeld
  apply cutG (R := fun g w' => w1.grownBy w' (some R) ∧ RdW B w' R X9 b9 ∧ w'.heap[g]? = some (.cells #[.int .i64 0, .int .i64 0, .int .i64 0, .int .i64 0, .int .i64 0, .int .i64 0, .int .i64 0, .int .i64 0, .int .i64 0, .int .i64 0, .int .i64 0, .bool false, .slice none 0 0, .slice none 0 0] 29 (0, 0)) ∧ w1.heap.size ≤ g)
  · intro hcut
    have hHeld := g0
    refine wpAnyH_ready (rs := [1, 17]) (by kernel_rfl) (by simp) ?_
    refine AllReadyH.cons rfl (fun K hK => ?_) (AllReadyH.cons rfl (fun K hK => ?_) AllReadyH.nil)
    · skip
      try simp only [List.getElem_toArray, List.getElem_cons_succ, List.getElem_cons_zero]
      go_simp
      refine (C1.out _ r0).mono ?_; rintro r wc1 ⟨rfl, r1', hg1⟩
      have hS1 := grown_transW g0 hg1
      refine hK.out _ _ hS1 (fun _ => ?_)
      clear hK K hHeld
      try simp only [List.getElem_toArray, List.getElem_cons_succ, List.getElem_cons_zero, Act.put, List.setIfInBounds_toArray, List.set_cons_zero, List.set_cons_succ]
      have hHeld := hS1
      refine wpAnyH_ready (rs := [3, 17]) (by kernel_rfl) (by simp) ?_
      refine AllReadyH.cons rfl (fun K hK => ?_) (AllReadyH.cons rfl (fun K hK => ?_) AllReadyH.nil)
      · skip
        try simp only [List.getElem_toArray, List.getElem_cons_succ, List.getElem_cons_zero]
        go_simp
        refine (C2.out _ r1').mono ?_; rintro r wc2 ⟨rfl, r2', hg2⟩
        have hS2 := grown_transW hS1 hg2
        refine hK.out _ _ hS2 (fun _ => ?_)
        clear hK K hHeld
        try simp only [List.getElem_toArray, List.getElem_cons_succ, List.getElem_cons_zero, Act.put, List.setIfInBounds_toArray, List.set_cons_zero, List.set_cons_succ]
        have hHeld := hS2
        refine wpAnyH_ready (rs := [5, 17]) (by kernel_rfl) (by simp) ?_
        refine AllReadyH.cons rfl (fun K hK => ?_) (AllReadyH.cons rfl (fun K hK => ?_) AllReadyH.nil)
        · skip
          try simp only [List.getElem_toArray, List.getElem_cons_succ, List.getElem_cons_zero]
          go_simp
          refine (C3.out _ r2').mono ?_; rintro r wc3 ⟨rfl, r3', hg3⟩
          have hS3 := grown_transW hS2 hg3
          refine hK.out _ _ hS3 (fun _ => ?_)
          clear hK K hHeld
          try simp only [List.getElem_toArray, List.getElem_cons_succ, List.getElem_cons_zero, Act.put, List.setIfInBounds_toArray, List.set_cons_zero, List.set_cons_succ]
          have hHeld := hS3
          refine wpAnyH_ready (rs := [7, 17]) (by kernel_rfl) (by simp) ?_
          refine AllReadyH.cons rfl (fun K hK => ?_) (AllReadyH.cons rfl (fun K hK => ?_) AllReadyH.nil)
          · skip
            try simp only [List.getElem_toArray, List.getElem_cons_succ, List.getElem_cons_zero]
            go_simp
            refine (C4.out _ r3').mono ?_; rintro r wc4 ⟨rfl, r4', hg4⟩
            have hS4 := grown_transW hS3 hg4
            refine hK.out _ _ hS4 (fun _ => ?_)
            clear hK K hHeld
            try simp only [List.getElem_toArray, List.getElem_cons_succ, List.getElem_cons_zero, Act.put, List.setIfInBounds_toArray, List.set_cons_zero, List.set_cons_succ]
            have hHeld := hS4
            refine wpAnyH_ready (rs := [9, 17]) (by kernel_rfl) (by simp) ?_
            refine AllReadyH.cons rfl (fun K hK => ?_) (AllReadyH.cons rfl (fun K hK => ?_) AllReadyH.nil)
            · skip
              try simp only [List.getElem_toArray, List.getElem_cons_succ, List.getElem_cons_zero]
              go_simp
              refine (C5.out _ r4').mono ?_; rintro r wc5 ⟨rfl, r5', hg5⟩
              have hS5 := grown_transW hS4 hg5
              refine hK.out _ _ hS5 (fun _ => ?_)
              clear hK K hHeld
              try simp only [List.getElem_toArray, List.getElem_cons_succ, List.getElem_cons_zero, Act.put, List.setIfInBounds_toArray, List.set_cons_zero, List.set_cons_succ]
              have hHeld := hS5
              refine wpAnyH_ready (rs := [11, 17]) (by kernel_rfl) (by simp) ?_
              refine AllReadyH.cons rfl (fun K hK => ?_) (AllReadyH.cons rfl (fun K hK => ?_) AllReadyH.nil)
              · skip
                try simp only [List.getElem_toArray, List.getElem_cons_succ, List.getElem_cons_zero]
                go_simp
                refine (C6.out _ r5').mono ?_; rintro r wc6 ⟨rfl, r6', hg6⟩
                have hS6 := grown_transW hS5 hg6
                refine hK.out _ _ hS6 (fun _ => ?_)
                clear hK K hHeld
                try simp only [List.getElem_toArray, List.getElem_cons_succ, List.getElem_cons_zero, Act.put, List.setIfInBounds_toArray, List.set_cons_zero, List.set_cons_succ]
                have hHeld := hS6
                refine wpAnyH_ready (rs := [13, 17]) (by kernel_rfl) (by simp) ?_
                refine AllReadyH.cons rfl (fun K hK => ?_) (AllReadyH.cons rfl (fun K hK => ?_) AllReadyH.nil)
                · skip
                  try simp only [List.getElem_toArray, List.getElem_cons_succ, List.getElem_cons_zero]
                  go_simp
                  refine (C7.out _ r6').mono ?_; rintro r wc7 ⟨rfl, r7', hg7⟩
                  have hS7 := grown_transW hS6 hg7
                  refine hK.out _ _ hS7 (fun _ => ?_)
                  clear hK K hHeld
                  try simp only [List.getElem_toArray, List.getElem_cons_succ, List.getElem_cons_zero, Act.put, List.setIfInBounds_toArray, List.set_cons_zero, List.set_cons_succ]
                  have hHeld := hS7
                  refine wpAnyH_ready (rs := [15, 17]) (by kernel_rfl) (by simp) ?_
                  refine AllReadyH.cons rfl (fun K hK => ?_) (AllReadyH.cons rfl (fun K hK => ?_) AllReadyH.nil)
                  · skip
                    try simp only [List.getElem_toArray, List.getElem_cons_succ, List.getElem_cons_zero]
                    go_simp
                    refine (C8.out _ r7').mono ?_; rintro r wc8 ⟨rfl, r8', hg8⟩
                    have hS8 := grown_transW hS7 hg8
                    refine hK.out _ _ hS8 (fun _ => ?_)
                    clear hK K hHeld
                    try simp only [List.getElem_toArray, List.getElem_cons_succ, List.getElem_cons_zero, Act.put, List.setIfInBounds_toArray, List.set_cons_zero, List.set_cons_succ]
                    have hHeld := hS8
                    refine wpAnyH_take (i := 16) (v := ?_) rfl (by kernel_rfl) (by kernel_rfl) (by kernel_rfl) (fun _ _ _ h => h) (Or.inl ⟨by rfl, ?_⟩) hHeld ?_
                    rotate_left
                    · (intro wz hSw; (try dsimp only at hSw); (try simp only [List.getElem_toArray, List.getElem_cons_succ, List.getElem_cons_zero]); go_simp; try with_reducible rfl)
                    try simp only [List.getElem_toArray, List.getElem_cons_succ, List.getElem_cons_zero, Act.put, List.setIfInBounds_toArray, List.set_cons_zero, List.set_cons_succ]
                    refine wpAnyH_ready (rs := [17]) (by kernel_rfl) (by simp) ?_
                    refine AllReadyH.cons rfl (fun K hK => ?_) AllReadyH.nil
                    try simp only [List.getElem_toArray, List.getElem_cons_succ, List.getElem_cons_zero]
                    go_simp
                    obtain ⟨wa9, hw9⟩ : ∃ x : World, wc8.alloc (.cells #[.int .i64 0, .int .i64 0, .int .i64 0, .int .i64 0, .int .i64 0, .int .i64 0, .int .i64 0, .int .i64 0, .int .i64 0, .int .i64 0, .int .i64 0, .bool false, .slice none 0 0, .slice none 0 0] 29) = x := ⟨_, rfl⟩
                    have hb9 : Below wc8.heap.size wc8 wa9 := by rw [← hw9]; exact (Below.refl _ _).alloc (Nat.le_refl _) _
                    have hS9 := grown_transW hS8 (grown_below hb9 (some R))
                    have r9' := r8'.keep hb9 (Nat.le_refl _)
                    have hq9 : wa9.heap[wc8.heap.size]? = some (.cells #[.int .i64 0, .int .i64 0, .int .i64 0, .int .i64 0, .int .i64 0, .int .i64 0, .int .i64 0, .int .i64 0, .int .i64 0, .int .i64 0, .int .i64 0, .bool false, .slice none 0 0, .slice none 0 0] 29 (0, 0)) := by rw [← hw9]; exact heap_last wc8 _
                    have hgs9 := hS8.size
                    obtain ⟨g, eg9⟩ : ∃ n, wc8.heap.size = n := ⟨_, rfl⟩
                    rw [hw9]
                    try rw [eg9]
                    rw [eg9] at hq9 hgs9
                    clear hw9
                    refine hK.out _ _ hS9 (fun _ => ?_)
                    clear hK K hHeld
                    try simp only [List.getElem_toArray, List.getElem_cons_succ, List.getElem_cons_zero, Act.put, List.setIfInBounds_toArray, List.set_cons_zero, List.set_cons_succ]
                    have hHeld := hS9
                    exact hcut g wa9 ⟨hS9, r9', hq9, hgs9⟩
                  · skip
                    try simp only [List.getElem_toArray, List.getElem_cons_succ, List.getElem_cons_zero]
                    go_simp
                    obtain ⟨wa10, hw10⟩ : ∃ x : World, wc7.alloc (.cells #[.int .i64 0, .int .i64 0, .int .i64 0, .int .i64 0, .int .i64 0, .int .i64 0, .int .i64 0, .int .i64 0, .int .i64 0, .int .i64 0, .int .i64 0, .bool false, .slice none 0 0, .slice none 0 0] 29) = x := ⟨_, rfl⟩
                    have hb10 : Below wc7.heap.size wc7 wa10 := by rw [← hw10]; exact (Below.refl _ _).alloc (Nat.le_refl _) _
                    have hS10 := grown_transW hS7 (grown_below hb10 (some R))
                    have r10' := r7'.keep hb10 (Nat.le_refl _)
                    have hq10 : wa10.heap[wc7.heap.size]? = some (.cells #[.int .i64 0, .int .i64 0, .int .i64 0, .int .i64 0, .int .i64 0, .int .i64 0, .int .i64 0, .int .i64 0, .int .i64 0, .int .i64 0, .int .i64 0, .bool false, .slice none 0 0, .slice none 0 0] 29 (0, 0)) := by rw [← hw10]; exact heap_last wc7 _
                    have hgs10 := hS7.size
                    obtain ⟨g, eg10⟩ : ∃ n, wc7.heap.size = n := ⟨_, rfl⟩
                    rw [hw10]
                    try rw [eg10]
                    rw [eg10] at hq10 hgs10
                    clear hw10
                    refine hK.out _ _ hS10 (fun _ => ?_)
                    clear hK K hHeld
                    try simp only [List.getElem_toArray, List.getElem_cons_succ, List.getElem_cons_zero, Act.put, List.setIfInBounds_toArray, List.set_cons_zero, List.set_cons_succ]
                    have hHeld := hS10
                    refine wpAnyH_ready (rs := [15]) (by kernel_rfl) (by simp) ?_
                    refine AllReadyH.cons rfl (fun K hK => ?_) AllReadyH.nil
                    try simp only [List.getElem_toArray, List.getElem_cons_succ, List.getElem_cons_zero]
                    go_simp
                    refine (C8.out _ r10').mono ?_; rintro r wc11 ⟨rfl, r11', hg11⟩
                    have hS11 := grown_transW hS10 hg11
                    have hq11 := rd_stays hg11 hq10 (by have := H1.out.lt; have := hgs10; omega)
                    refine hK.out _ _ hS11 (fun _ => ?_)
                    clear hK K hHeld
                    try simp only [List.getElem_toArray, List.getElem_cons_succ, List.getElem_cons_zero, Act.put, List.setIfInBounds_toArray, List.set_cons_zero, List.set_cons_succ]
                    have hHeld := hS11
                    refine wpAnyH_take (i := 16) (v := ?_) rfl (by kernel_rfl) (by kernel_rfl) (by kernel_rfl) (fun _ _ _ h => h) (Or.inl ⟨by rfl, ?_⟩) hHeld ?_
                    rotate_left
                    · (intro wz hSw; (try dsimp only at hSw); (try simp only [List.getElem_toArray, List.getElem_cons_succ, List.getElem_cons_zero]); go_simp; try with_reducible rfl)
                    try simp only [List.getElem_toArray, List.getElem_cons_succ, List.getElem_cons_zero, Act.put, List.setIfInBounds_toArray, List.set_cons_zero, List.set_cons_succ]
                    exact hcut g wc11 ⟨hS11, r11', hq11, hgs10⟩
                · skip
                  try simp only [List.getElem_toArray, List.getElem_cons_succ, List.getElem_cons_zero]
                  go_simp
                  obtain ⟨wa12, hw12⟩ : ∃ x : World, wc6.alloc (.cells #[.int .i64 0, .int .i64 0, .int .i64 0, .int .i64 0, .int .i64 0, .int .i64 0, .int .i64 0, .int .i64 0, .int .i64 0, .int .i64 0, .int .i64 0, .bool false, .slice none 0 0, .slice none 0 0] 29) = x := ⟨_, rfl⟩
                  have hb12 : Below wc6.heap.size wc6 wa12 := by rw [← hw12]; exact (Below.refl _ _).alloc (Nat.le_refl _) _
                  have hS12 := grown_transW hS6 (grown_below hb12 (some R))
                  have r12' := r6'.keep hb12 (Nat.le_refl _)
                  have hq12 : wa12.heap[wc6.heap.size]? = some (.cells #[.int .i64 0, .int .i64 0, .int .i64 0, .int .i64 0, .int .i64 0, .int .i64 0, .int .i64 0, .int .i64 0, .int .i64 0, .int .i64 0, .int .i64 0, .bool false, .slice none 0 0, .slice none 0 0] 29 (0, 0)) := by rw [← hw12]; exact heap_last wc6 _
                  have hgs12 := hS6.size
                  obtain ⟨g, eg12⟩ : ∃ n, wc6.heap.size = n := ⟨_, rfl⟩
                  rw [hw12]
                  try rw [eg12]
                  rw [eg12] at hq12 hgs12
                  clear hw12
                  refine hK.out _ _ hS12 (fun _ => ?_)
                  clear hK K hHeld
                  try simp only [List.getElem_toArray, List.getElem_cons_succ, List.getElem_cons_zero, Act.put, List.setIfInBounds_toArray, List.set_cons_zero, List.set_cons_succ]
                  have hHeld := hS12
                  refine wpAnyH_ready (rs := [13]) (by kernel_rfl) (by simp) ?_
                  refine AllReadyH.cons rfl (fun K hK => ?_) AllReadyH.nil
                  try simp only [List.getElem_toArray, List.getElem_cons_succ, List.getElem_cons_zero]
                  go_simp
                  refine (C7.out _ r12').mono ?_; rintro r wc13 ⟨rfl, r13', hg13⟩
                  have hS13 := grown_transW hS12 hg13
                  have hq13 := rd_stays hg13 hq12 (by have := H1.out.lt; have := hgs12; omega)
                  refine hK.out _ _ hS13 (fun _ => ?_)
                  clear hK K hHeld
                  try simp only [List.getElem_toArray, List.getElem_cons_succ, List.getElem_cons_zero, Act.put, List.setIfInBounds_toArray, List.set_cons_zero, List.set_cons_succ]
                  have hHeld := hS13
                  refine wpAnyH_ready (rs := [15]) (by kernel_rfl) (by simp) ?_
                  refine AllReadyH.cons rfl (fun K hK => ?_) AllReadyH.nil
                  try simp only [List.getElem_toArray, List.getElem_cons_succ, List.getElem_cons_zero]
                  go_simp
                  refine (C8.out _ r13').mono ?_; rintro r wc14 ⟨rfl, r14', hg14⟩
                  have hS14 := grown_transW hS13 hg14
                  have hq14 := rd_stays hg14 hq13 (by have := H1.out.lt; have := hgs12; omega)
                  refine hK.out _ _ hS14 (fun _ => ?_)
                  clear hK K hHeld
                  try simp only [List.getElem_toArray, List.getElem_cons_succ, List.getElem_cons_zero, Act.put, List.setIfInBounds_toArray, List.set_cons_zero, List.set_cons_succ]
                  have hHeld := hS14
                  refine wpAnyH_take (i := 16) (v := ?_) rfl (by kernel_rfl) (by kernel_rfl) (by kernel_rfl) (fun _ _ _ h => h) (Or.inl ⟨by rfl, ?_⟩) hHeld ?_
                  rotate_left
                  · (intro wz hSw; (try dsimp only at hSw); (try simp only [List.getElem_toArray, List.getElem_cons_succ, List.getElem_cons_zero]); go_simp; try with_reducible rfl)
                  try simp only [List.getElem_toArray, List.getElem_cons_succ, List.getElem_cons_zero, Act.put, List.setIfInBounds_toArray, List.set_cons_zero, List.set_cons_succ]
                  exact hcut g wc14 ⟨hS14, r14', hq14, hgs12⟩
              · skip
                try simp only [List.getElem_toArray, List.getElem_cons_succ, List.getElem_cons_zero]
                go_simp
                obtain ⟨wa15, hw15⟩ : ∃ x : World, wc5.alloc (.cells #[.int .i64 0, .int .i64 0, .int .i64 0, .int .i64 0, .int .i64 0, .int .i64 0, .int .i64 0, .int .i64 0, .int .i64 0, .int .i64 0, .int .i64 0, .bool false, .slice none 0 0, .slice none 0 0] 29) = x := ⟨_, rfl⟩
                have hb15 : Below wc5.heap.size wc5 wa15 := by rw [← hw15]; exact (Below.refl _ _).alloc (Nat.le_refl _) _
                have hS15 := grown_transW hS5 (grown_below hb15 (some R))
                have r15' := r5'.keep hb15 (Nat.le_refl _)
                have hq15 : wa15.heap[wc5.heap.size]? = some (.cells #[.int .i64 0, .int .i64 0, .int .i64 0, .int .i64 0, .int .i64 0, .int .i64 0, .int .i64 0, .int .i64 0, .int .i64 0, .int .i64 0, .int .i64 0, .bool false, .slice none 0 0, .slice none 0 0] 29 (0, 0)) := by rw [← hw15]; exact heap_last wc5 _
                have hgs15 := hS5.size
                obtain ⟨g, eg15⟩ : ∃ n, wc5.heap.size = n := ⟨_, rfl⟩
                rw [hw15]
                try rw [eg15]
                rw [eg15] at hq15 hgs15
                clear hw15
                refine hK.out _ _ hS15 (fun _ => ?_)
                clear hK K hHeld
                try simp only [List.getElem_toArray, List.getElem_cons_succ, List.getElem_cons_zero, Act.put, List.setIfInBounds_toArray, List.set_cons_zero, List.set_cons_succ]
                have hHeld := hS15
                refine wpAnyH_ready (rs := [11]) (by kernel_rfl) (by simp) ?_
                refine AllReadyH.cons rfl (fun K hK => ?_) AllReadyH.nil
                try simp only [List.getElem_toArray, List.getElem_cons_succ, List.getElem_cons_zero]
                go_simp
                refine (C6.out _ r15').mono ?_; rintro r wc16 ⟨rfl, r16', hg16⟩
                have hS16 := grown_transW hS15 hg16
                have hq16 := rd_stays hg16 hq15 (by have := H1.out.lt; have := hgs15; omega)
                refine hK.out _ _ hS16 (fun _ => ?_)
                clear hK K hHeld
                try simp only [List.getElem_toArray, List.getElem_cons_succ, List.getElem_cons_zero, Act.put, List.setIfInBounds_toArray, List.set_cons_zero, List.set_cons_succ]
                have hHeld := hS16
                refine wpAnyH_ready (rs := [13]) (by kernel_rfl) (by simp) ?_
                refine AllReadyH.cons rfl (fun K hK => ?_) AllReadyH.nil
                try simp only [List.getElem_toArray, List.getElem_cons_succ, List.getElem_cons_zero]
                go_simp
                refine (C7.out _ r16').mono ?_; rintro r wc17 ⟨rfl, r17', hg17⟩
                have hS17 := grown_transW hS16 hg17
                have hq17 := rd_stays hg17 hq16 (by have := H1.out.lt; have := hgs15; omega)
                refine hK.out _ _ hS17 (fun _ => ?_)
                clear hK K hHeld
                try simp only [List.getElem_toArray, List.getElem_cons_succ, List.getElem_cons_zero, Act.put, List.setIfInBounds_toArray, List.set_cons_zero, List.set_cons_succ]
                have hHeld := hS17
                refine wpAnyH_ready (rs := [15]) (by kernel_rfl) (by simp) ?_
                refine AllReadyH.cons rfl (fun K hK => ?_) AllReadyH.nil
                try simp only [List.getElem_toArray, List.getElem_cons_succ, List.getElem_cons_zero]
                go_simp
                refine (C8.out _ r17').mono ?_; rintro r wc18 ⟨rfl, r18', hg18⟩
                have hS18 := grown_transW hS17 hg18
                have hq18 := rd_stays hg18 hq17 (by have := H1.out.lt; have := hgs15; omega)
                refine hK.out _ _ hS18 (fun _ => ?_)
                clear hK K hHeld
                try simp only [List.getElem_toArray, List.getElem_cons_succ, List.getElem_cons_zero, Act.put, List.setIfInBounds_toArray, List.set_cons_zero, List.set_cons_succ]
                have hHeld := hS18
                refine wpAnyH_take (i := 16) (v := ?_) rfl (by kernel_rfl) (by kernel_rfl) (by kernel_rfl) (fun _ _ _ h => h) (Or.inl ⟨by rfl, ?_⟩) hHeld ?_
                rotate_left
                · (intro wz hSw; (try dsimp only at hSw); (try simp only [List.getElem_toArray, List.getElem_cons_succ, List.getElem_cons_zero]); go_simp; try with_reducible rfl)
                try simp only [List.getElem_toArray, List.getElem_cons_succ, List.getElem_cons_zero, Act.put, List.setIfInBounds_toArray, List.set_cons_zero, List.set_cons_succ]
                exact hcut g wc18 ⟨hS18, r18', hq18, hgs15⟩
            · skip
              try simp only [List.getElem_toArray, List.getElem_cons_succ, List.getElem_cons_zero]
              go_simp
              obtain ⟨wa19, hw19⟩ : ∃ x : World, wc4.alloc (.cells #[.int .i64 0, .int .i64 0, .int .i64 0, .int .i64 0, .int .i64 0, .int .i64 0, .int .i64 0, .int .i64 0, .int .i64 0, .int .i64 0, .int .i64 0, .bool false, .slice none 0 0, .slice none 0 0] 29) = x := ⟨_, rfl⟩
              have hb19 : Below wc4.heap.size wc4 wa19 := by rw [← hw19]; exact (Below.refl _ _).alloc (Nat.le_refl _) _
              have hS19 := grown_transW hS4 (grown_below hb19 (some R))
              have r19' := r4'.keep hb19 (Nat.le_refl _)
              have hq19 : wa19.heap[wc4.heap.size]? = some (.cells #[.int .i64 0, .int .i64 0, .int .i64 0, .int .i64 0, .int .i64 0, .int .i64 0, .int .i64 0, .int .i64 0, .int .i64 0, .int .i64 0, .int .i64 0, .bool false, .slice none 0 0, .slice none 0 0] 29 (0, 0)) := by rw [← hw19]; exact heap_last wc4 _
              have hgs19 := hS4.size
              obtain ⟨g, eg19⟩ : ∃ n, wc4.heap.size = n := ⟨_, rfl⟩
              rw [hw19]
              try rw [eg19]
              rw [eg19] at hq19 hgs19
              clear hw19
              refine hK.out _ _ hS19 (fun _ => ?_)
              clear hK K hHeld
              try simp only [List.getElem_toArray, List.getElem_cons_succ, List.getElem_cons_zero, Act.put, List.setIfInBounds_toArray, List.set_cons_zero, List.set_cons_succ]
              have hHeld := hS19
              refine wpAnyH_ready (rs := [9]) (by kernel_rfl) (by simp) ?_
              refine AllReadyH.cons rfl (fun K hK => ?_) AllReadyH.nil
              try simp only [List.getElem_toArray, List.getElem_cons_succ, List.getElem_cons_zero]
              go_simp
              refine (C5.out _ r19').mono ?_; rintro r wc20 ⟨rfl, r20', hg20⟩
              have hS20 := grown_transW hS19 hg20
              have hq20 := rd_stays hg20 hq19 (by have := H1.out.lt; have := hgs19; omega)
              refine hK.out _ _ hS20 (fun _ => ?_)
              clear hK K hHeld
              try simp only [List.getElem_toArray, List.getElem_cons_succ, List.getElem_cons_zero, Act.put, List.setIfInBounds_toArray, List.set_cons_zero, List.set_cons_succ]
              have hHeld := hS20
              refine wpAnyH_ready (rs := [11]) (by kernel_rfl) (by simp) ?_
              refine AllReadyH.cons rfl (fun K hK => ?_) AllReadyH.nil
              try simp only [List.getElem_toArray, List.getElem_cons_succ, List.getElem_cons_zero]
              go_simp
              refine (C6.out _ r20').mono ?_; rintro r wc21 ⟨rfl, r21', hg21⟩
              have hS21 := grown_transW hS20 hg21
              have hq21 := rd_stays hg21 hq20 (by have := H1.out.lt; have := hgs19; omega)
              refine hK.out _ _ hS21 (fun _ => ?_)
              clear hK K hHeld
              try simp only [List.getElem_toArray, List.getElem_cons_succ, List.getElem_cons_zero, Act.put, List.setIfInBounds_toArray, List.set_cons_zero, List.set_cons_succ]
              have hHeld := hS21
              refine wpAnyH_ready (rs := [13]) (by kernel_rfl) (by simp) ?_
              refine AllReadyH.cons rfl (fun K hK => ?_) AllReadyH.nil
              try simp only [List.getElem_toArray, List.getElem_cons_succ, List.getElem_cons_zero]
              go_simp
              refine (C7.out _ r21').mono ?_; rintro r wc22 ⟨rfl, r22', hg22⟩
              have hS22 := grown_transW hS21 hg22
              have hq22 := rd_stays hg22 hq21 (by have := H1.out.lt; have := hgs19; omega)
              refine hK.out _ _ hS22 (fun _ => ?_)
              clear hK K hHeld
              try simp only [List.getElem_toArray, List.getElem_cons_succ, List.getElem_cons_zero, Act.put, List.setIfInBounds_toArray, List.set_cons_zero, List.set_cons_succ]
              have hHeld := hS22
              refine wpAnyH_ready (rs := [15]) (by kernel_rfl) (by simp) ?_
              refine AllReadyH.cons rfl (fun K hK => ?_) AllReadyH.nil
              try simp only [List.getElem_toArray, List.getElem_cons_succ, List.getElem_cons_zero]
              go_simp
              refine (C8.out _ r22').mono ?_; rintro r wc23 ⟨rfl, r23', hg23⟩
              have hS23 := grown_transW hS22 hg23
              have hq23 := rd_stays hg23 hq22 (by have := H1.out.lt; have := hgs19; omega)
              refine hK.out _ _ hS23 (fun _ => ?_)
              clear hK K hHeld
              try simp only [List.getElem_toArray, List.getElem_cons_succ, List.getElem_cons_zero, Act.put, List.setIfInBounds_toArray, List.set_cons_zero, List.set_cons_succ]
              have hHeld := hS23
              refine wpAnyH_take (i := 16) (v := ?_) rfl (by kernel_rfl) (by kernel_rfl) (by kernel_rfl) (fun _ _ _ h => h) (Or.inl ⟨by rfl, ?_⟩) hHeld ?_
              rotate_left
              · (intro wz hSw; (try dsimp only at hSw); (try simp only [List.getElem_toArray, List.getElem_cons_succ, List.getElem_cons_zero]); go_simp; try with_reducible rfl)
              try simp only [List.getElem_toArray, List.getElem_cons_succ, List.getElem_cons_zero, Act.put, List.setIfInBounds_toArray, List.set_cons_zero, List.set_cons_succ]
              exact hcut g wc23 ⟨hS23, r23', hq23, hgs19⟩
          · skip
            try simp only [List.getElem_toArray, List.getElem_cons_succ, List.getElem_cons_zero]
            go_simp
            obtain ⟨wa24, hw24⟩ : ∃ x : World, wc3.alloc (.cells #[.int .i64 0, .int .i64 0, .int .i64 0, .int .i64 0, .int .i64 0, .int .i64 0, .int .i64 0, .int .i64 0, .int .i64 0, .int .i64 0, .int .i64 0, .bool false, .slice none 0 0, .slice none 0 0] 29) = x := ⟨_, rfl⟩
            have hb24 : Below wc3.heap.size wc3 wa24 := by rw [← hw24]; exact (Below.refl _ _).alloc (Nat.le_refl _) _
            have hS24 := grown_transW hS3 (grown_below hb24 (some R))
            have r24' := r3'.keep hb24 (Nat.le_refl _)
            have hq24 : wa24.heap[wc3.heap.size]? = some (.cells #[.int .i64 0, .int .i64 0, .int .i64 0, .int .i64 0, .int .i64 0, .int .i64 0, .int .i64 0, .int .i64 0, .int .i64 0, .int .i64 0, .int .i64 0, .bool false, .slice none 0 0, .slice none 0 0] 29 (0, 0)) := by rw [← hw24]; exact heap_last wc3 _
            have hgs24 := hS3.size
            obtain ⟨g, eg24⟩ : ∃ n, wc3.heap.size = n := ⟨_, rfl⟩
            rw [hw24]
            try rw [eg24]
            rw [eg24] at hq24 hgs24
            clear hw24
            refine hK.out _ _ hS24 (fun _ => ?_)
            clear hK K hHeld
            try simp only [List.getElem_toArray, List.getElem_cons_succ, List.getElem_cons_zero, Act.put, List.setIfInBounds_toArray, List.set_cons_zero, List.set_cons_succ]
            have hHeld := hS24
            refine wpAnyH_ready (rs := [7]) (by kernel_rfl) (by simp) ?_
            refine AllReadyH.cons rfl (fun K hK => ?_) AllReadyH.nil
            try simp only [List.getElem_toArray, List.getElem_cons_succ, List.getElem_cons_zero]
            go_simp
            refine (C4.out _ r24').mono ?_; rintro r wc25 ⟨rfl, r25', hg25⟩
            have hS25 := grown_transW hS24 hg25
            have hq25 := rd_stays hg25 hq24 (by have := H1.out.lt; have := hgs24; omega)
            refine hK.out _ _ hS25 (fun _ => ?_)
            clear hK K hHeld
            try simp only [List.getElem_toArray, List.getElem_cons_succ, List.getElem_cons_zero, Act.put, List.setIfInBounds_toArray, List.set_cons_zero, List.set_cons_succ]
            have hHeld := hS25
            refine wpAnyH_ready (rs := [9]) (by kernel_rfl) (by simp) ?_
            refine AllReadyH.cons rfl (fun K hK => ?_) AllReadyH.nil
            try simp only [List.getElem_toArray, List.getElem_cons_succ, List.getElem_cons_zero]
            go_simp
            refine (C5.out _ r25').mono ?_; rintro r wc26 ⟨rfl, r26', hg26⟩
            have hS26 := grown_transW hS25 hg26
            have hq26 := rd_stays hg26 hq25 (by have := H1.out.lt; have := hgs24; omega)
            refine hK.out _ _ hS26 (fun _ => ?_)
            clear hK K hHeld
            try simp only [List.getElem_toArray, List.getElem_cons_succ, List.getElem_cons_zero, Act.put, List.setIfInBounds_toArray, List.set_cons_zero, List.set_cons_succ]
            have hHeld := hS26
            refine wpAnyH_ready (rs := [11]) (by kernel_rfl) (by simp) ?_
            refine AllReadyH.cons rfl (fun K hK => ?_) AllReadyH.nil
            try simp only [List.getElem_toArray, List.getElem_cons_succ, List.getElem_cons_zero]
            go_simp
            refine (C6.out _ r26').mono ?_; rintro r wc27 ⟨rfl, r27', hg27⟩
            have hS27 := grown_transW hS26 hg27
            have hq27 := rd_stays hg27 hq26 (by have := H1.out.lt; have := hgs24; omega)
            refine hK.out _ _ hS27 (fun _ => ?_)
            clear hK K hHeld
            try simp only [List.getElem_toArray, List.getElem_cons_succ, List.getElem_cons_zero, Act.put, List.setIfInBounds_toArray, List.set_cons_zero, List.set_cons_succ]
            have hHeld := hS27
            refine wpAnyH_ready (rs := [13]) (by kernel_rfl) (by simp) ?_
            refine AllReadyH.cons rfl (fun K hK => ?_) AllReadyH.nil
            try simp only [List.getElem_toArray, List.getElem_cons_succ, List.getElem_cons_zero]
            go_simp
            refine (C7.out _ r27').mono ?_; rintro r wc28 ⟨rfl, r28', hg28⟩
            have hS28 := grown_transW hS27 hg28
            have hq28 := rd_stays hg28 hq27 (by have := H1.out.lt; have := hgs24; omega)
            refine hK.out _ _ hS28 (fun _ => ?_)
            clear hK K hHeld
            try simp only [List.getElem_toArray, List.getElem_cons_succ, List.getElem_cons_zero, Act.put, List.setIfInBounds_toArray, List.set_cons_zero, List.set_cons_succ]
            have hHeld := hS28
            refine wpAnyH_ready (rs := [15]) (by kernel_rfl) (by simp) ?_
            refine AllReadyH.cons rfl (fun K hK => ?_) AllReadyH.nil
            try simp only [List.getElem_toArray, List.getElem_cons_succ, List.getElem_cons_zero]
            go_simp
            refine (C8.out _ r28').mono ?_; rintro r wc29 ⟨rfl, r29', hg29⟩
            have hS29 := grown_transW hS28 hg29
            have hq29 := rd_stays hg29 hq28 (by have := H1.out.lt; have := hgs24; omega)
            refine hK.out _ _ hS29 (fun _ => ?_)
            clear hK K hHeld
            try simp only [List.getElem_toArray, List.getElem_cons_succ, List.getElem_cons_zero, Act.put, List.setIfInBounds_toArray, List.set_cons_zero, List.set_cons_succ]
            have hHeld := hS29
            refine wpAnyH_take (i := 16) (v := ?_) rfl (by kernel_rfl) (by kernel_rfl) (by kernel_rfl) (fun _ _ _ h => h) (Or.inl ⟨by rfl, ?_⟩) hHeld ?_
            rotate_left
            · (intro wz hSw; (try dsimp only at hSw); (try simp only [List.getElem_toArray, List.getElem_cons_succ, List.getElem_cons_zero]); go_simp; try with_reducible rfl)
            try simp only [List.getElem_toArray, List.getElem_cons_succ, List.getElem_cons_zero, Act.put, List.setIfInBounds_toArray, List.set_cons_zero, List.set_cons_succ]
            exact hcut g wc29 ⟨hS29, r29', hq29, hgs24⟩
        · skip
          try simp only [List.getElem_toArray, List.getElem_cons_succ, List.getElem_cons_zero]
          go_simp
          obtain ⟨wa30, hw30⟩ : ∃ x : World, wc2.alloc (.cells #[.int .i64 0, .int .i64 0, .int .i64 0, .int .i64 0, .int .i64 0, .int .i64 0, .int .i64 0, .int .i64 0, .int .i64 0, .int .i64 0, .int .i64 0, .bool false, .slice none 0 0, .slice none 0 0] 29) = x := ⟨_, rfl⟩
          have hb30 : Below wc2.heap.size wc2 wa30 := by rw [← hw30]; exact (Below.refl _ _).alloc (Nat.le_refl _) _
          have hS30 := grown_transW hS2 (grown_below hb30 (some R))
          have r30' := r2'.keep hb30 (Nat.le_refl _)
          have hq30 : wa30.heap[wc2.heap.size]? = some (.cells #[.int .i64 0, .int .i64 0, .int .i64 0, .int .i64 0, .int .i64 0, .int .i64 0, .int .i64 0, .int .i64 0, .int .i64 0, .int .i64 0, .int .i64 0, .bool false, .slice none 0 0, .slice none 0 0] 29 (0, 0)) := by rw [← hw30]; exact heap_last wc2 _
          have hgs30 := hS2.size
          obtain ⟨g, eg30⟩ : ∃ n, wc2.heap.size = n := ⟨_, rfl⟩
          rw [hw30]
          try rw [eg30]
          rw [eg30] at hq30 hgs30
          clear hw30
          refine hK.out _ _ hS30 (fun _ => ?_)
          clear hK K hHeld
          try simp only [List.getElem_toArray, List.getElem_cons_succ, List.getElem_cons_zero, Act.put, List.setIfInBounds_toArray, List.set_cons_zero, List.set_cons_succ]
          have hHeld := hS30
          refine wpAnyH_ready (rs := [5]) (by kernel_rfl) (by simp) ?_
          refine AllReadyH.cons rfl (fun K hK => ?_) AllReadyH.nil
          try simp only [List.getElem_toArray, List.getElem_cons_succ, List.getElem_cons_zero]
          go_simp
          refine (C3.out _ r30').mono ?_; rintro r wc31 ⟨rfl, r31', hg31⟩
          have hS31 := grown_transW hS30 hg31
          have hq31 := rd_stays hg31 hq30 (by have := H1.out.lt; have := hgs30; omega)
          refine hK.out _ _ hS31 (fun _ => ?_)
          clear hK K hHeld
          try simp only [List.getElem_toArray, List.getElem_cons_succ, List.getElem_cons_zero, Act.put, List.setIfInBounds_toArray, List.set_cons_zero, List.set_cons_succ]
          have hHeld := hS31
          refine wpAnyH_ready (rs := [7]) (by kernel_rfl) (by simp) ?_
          refine AllReadyH.cons rfl (fun K hK => ?_) AllReadyH.nil
          try simp only [List.getElem_toArray, List.getElem_cons_succ, List.getElem_cons_zero]
          go_simp
          refine (C4.out _ r31').mono ?_; rintro r wc32 ⟨rfl, r32', hg32⟩
          have hS32 := grown_transW hS31 hg32
          have hq32 := rd_stays hg32 hq31 (by have := H1.out.lt; have := hgs30; omega)
          refine hK.out _ _ hS32 (fun _ => ?_)
          clear hK K hHeld
          try simp only [List.getElem_toArray, List.getElem_cons_succ, List.getElem_cons_zero, Act.put, List.setIfInBounds_toArray, List.set_cons_zero, List.set_cons_succ]
          have hHeld := hS32
          refine wpAnyH_ready (rs := [9]) (by kernel_rfl) (by simp) ?_
          refine AllReadyH.cons rfl (fun K hK => ?_) AllReadyH.nil
          try simp only [List.getElem_toArray, List.getElem_cons_succ, List.getElem_cons_zero]
          go_simp
          refine (C5.out _ r32').mono ?_; rintro r wc33 ⟨rfl, r33', hg33⟩
          have hS33 := grown_transW hS32 hg33
          have hq33 := rd_stays hg33 hq32 (by have := H1.out.lt; have := hgs30; omega)
          refine hK.out _ _ hS33 (fun _ => ?_)
          clear hK K hHeld
          try simp only [List.getElem_toArray, List.getElem_cons_succ, List.getElem_cons_zero, Act.put, List.setIfInBounds_toArray, List.set_cons_zero, List.set_cons_succ]
          have hHeld := hS33
          refine wpAnyH_ready (rs := [11]) (by kernel_rfl) (by simp) ?_
          refine AllReadyH.cons rfl (fun K hK => ?_) AllReadyH.nil
          try simp only [List.getElem_toArray, List.getElem_cons_succ, List.getElem_cons_zero]
          go_simp
          refine (C6.out _ r33').mono ?_; rintro r wc34 ⟨rfl, r34', hg34⟩
          have hS34 := grown_transW hS33 hg34
          have hq34 := rd_stays hg34 hq33 (by have := H1.out.lt; have := hgs30; omega)
          refine hK.out _ _ hS34 (fun _ => ?_)
          clear hK K hHeld
          try simp only [List.getElem_toArray, List.getElem_cons_succ, List.getElem_cons_zero, Act.put, List.setIfInBounds_toArray, List.set_cons_zero, List.set_cons_succ]
          have hHeld := hS34
          refine wpAnyH_ready (rs := [13]) (by kernel_rfl) (by simp) ?_
          refine AllReadyH.cons rfl (fun K hK => ?_) AllReadyH.nil
          try simp only [List.getElem_toArray, List.getElem_cons_succ, List.getElem_cons_zero]
          go_simp
          refine (C7.out _ r34').mono ?_; rintro r wc35 ⟨rfl, r35', hg35⟩
          have hS35 := grown_transW hS34 hg35
          have hq35 := rd_stays hg35 hq34 (by have := H1.out.lt; have := hgs30; omega)
          refine hK.out _ _ hS35 (fun _ => ?_)
          clear hK K hHeld
          try simp only [List.getElem_toArray, List.getElem_cons_succ, List.getElem_cons_zero, Act.put, List.setIfInBounds_toArray, List.set_cons_zero, List.set_cons_succ]
          have hHeld := hS35
          refine wpAnyH_ready (rs := [15]) (by kernel_rfl) (by simp) ?_
          refine AllReadyH.cons rfl (fun K hK => ?_) AllReadyH.nil
          try simp only [List.getElem_toArray, List.getElem_cons_succ, List.getElem_cons_zero]
          go_simp
          refine (C8.out _ r35').mono ?_; rintro r wc36 ⟨rfl, r36', hg36⟩
          have hS36 := grown_transW hS35 hg36
          have hq36 := rd_stays hg36 hq35 (by have := H1.out.lt; have := hgs30; omega)
          refine hK.out _ _ hS36 (fun _ => ?_)
          clear hK K hHeld
          try simp only [List.getElem_toArray, List.getElem_cons_succ, List.getElem_cons_zero, Act.put, List.setIfInBounds_toArray, List.set_cons_zero, List.set_cons_succ]
          have hHeld := hS36
          refine wpAnyH_take (i := 16) (v := ?_) rfl (by kernel_rfl) (by kernel_rfl) (by kernel_rfl) (fun _ _ _ h => h) (Or.inl ⟨by rfl, ?_⟩) hHeld ?_
          rotate_left
          · (intro wz hSw; (try dsimp only at hSw); (try simp only [List.getElem_toArray, List.getElem_cons_succ, List.getElem_cons_zero]); go_simp; try with_reducible rfl)
          try simp only [List.getElem_toArray, List.getElem_cons_succ, List.getElem_cons_zero, Act.put, List.setIfInBounds_toArray, List.set_cons_zero, List.set_cons_succ]
          exact hcut g wc36 ⟨hS36, r36', hq36, hgs30⟩
      · skip
        try simp only [List.getElem_toArray, List.getElem_cons_succ, List.getElem_cons_zero]
        go_simp
        obtain ⟨wa37, hw37⟩ : ∃ x : World, wc1.alloc (.cells #[.int .i64 0, .int .i64 0, .int .i64 0, .int .i64 0, .int .i64 0, .int .i64 0, .int .i64 0, .int .i64 0, .int .i64 0, .int .i64 0, .int .i64 0, .bool false, .slice none 0 0, .slice none 0 0] 29) = x := ⟨_, rfl⟩
        have hb37 : Below wc1.heap.size wc1 wa37 := by rw [← hw37]; exact (Below.refl _ _).alloc (Nat.le_refl _) _
        have hS37 := grown_transW hS1 (grown_below hb37 (some R))
        have r37' := r1'.keep hb37 (Nat.le_refl _)
        have hq37 : wa37.heap[wc1.heap.size]? = some (.cells #[.int .i64 0, .int .i64 0, .int .i64 0, .int .i64 0, .int .i64 0, .int .i64 0, .int .i64 0, .int .i64 0, .int .i64 0, .int .i64 0, .int .i64 0, .bool false, .slice none 0 0, .slice none 0 0] 29 (0, 0)) := by rw [← hw37]; exact heap_last wc1 _
        have hgs37 := hS1.size
        obtain ⟨g, eg37⟩ : ∃ n, wc1.heap.size = n := ⟨_, rfl⟩
        rw [hw37]
        try rw [eg37]
        rw [eg37] at hq37 hgs37
        clear hw37
        refine hK.out _ _ hS37 (fun _ => ?_)
        clear hK K hHeld
        try simp only [List.getElem_toArray, List.getElem_cons_succ, List.getElem_cons_zero, Act.put, List.setIfInBounds_toArray, List.set_cons_zero, List.set_cons_succ]
        have hHeld := hS37
        refine wpAnyH_ready (rs := [3]) (by kernel_rfl) (by simp) ?_
        refine AllReadyH.cons rfl (fun K hK => ?_) AllReadyH.nil
        try simp only [List.getElem_toArray, List.getElem_cons_succ, List.getElem_cons_zero]
        go_simp
        refine (C2.out _ r37').mono ?_; rintro r wc38 ⟨rfl, r38', hg38⟩
        have hS38 := grown_transW hS37 hg38
        have hq38 := rd_stays hg38 hq37 (by have := H1.out.lt; have := hgs37; omega)
        refine hK.out _ _ hS38 (fun _ => ?_)
        clear hK K hHeld
        try simp only [List.getElem_toArray, List.getElem_cons_succ, List.getElem_cons_zero, Act.put, List.setIfInBounds_toArray, List.set_cons_zero, List.set_cons_succ]
        have hHeld := hS38
        refine wpAnyH_ready (rs := [5]) (by kernel_rfl) (by simp) ?_
        refine AllReadyH.cons rfl (fun K hK => ?_) AllReadyH.nil
        try simp only [List.getElem_toArray, List.getElem_cons_succ, List.getElem_cons_zero]
        go_simp
        refine (C3.out _ r38').mono ?_; rintro r wc39 ⟨rfl, r39', hg39⟩
        have hS39 := grown_transW hS38 hg39
        have hq39 := rd_stays hg39 hq38 (by have := H1.out.lt; have := hgs37; omega)
        refine hK.out _ _ hS39 (fun _ => ?_)
        clear hK K hHeld
        try simp only [List.getElem_toArray, List.getElem_cons_succ, List.getElem_cons_zero, Act.put, List.setIfInBounds_toArray, List.set_cons_zero, List.set_cons_succ]
        have hHeld := hS39
        refine wpAnyH_ready (rs := [7]) (by kernel_rfl) (by simp) ?_
        refine AllReadyH.cons rfl (fun K hK => ?_) AllReadyH.nil
        try simp only [List.getElem_toArray, List.getElem_cons_succ, List.getElem_cons_zero]
        go_simp
        refine (C4.out _ r39').mono ?_; rintro r wc40 ⟨rfl, r40', hg40⟩
        have hS40 := grown_transW hS39 hg40
        have hq40 := rd_stays hg40 hq39 (by have := H1.out.lt; have := hgs37; omega)
        refine hK.out _ _ hS40 (fun _ => ?_)
        clear hK K hHeld
        try simp only [List.getElem_toArray, List.getElem_cons_succ, List.getElem_cons_zero, Act.put, List.setIfInBounds_toArray, List.set_cons_zero, List.set_cons_succ]
        have hHeld := hS40
        refine wpAnyH_ready (rs := [9]) (by kernel_rfl) (by simp) ?_
        refine AllReadyH.cons rfl (fun K hK => ?_) AllReadyH.nil
        try simp only [List.getElem_toArray, List.getElem_cons_succ, List.getElem_cons_zero]
        go_simp
        refine (C5.out _ r40').mono ?_; rintro r wc41 ⟨rfl, r41', hg41⟩
        have hS41 := grown_transW hS40 hg41
        have hq41 := rd_stays hg41 hq40 (by have := H1.out.lt; have := hgs37; omega)
        refine hK.out _ _ hS41 (fun _ => ?_)
        clear hK K hHeld
        try simp only [List.getElem_toArray, List.getElem_cons_succ, List.getElem_cons_zero, Act.put, List.setIfInBounds_toArray, List.set_cons_zero, List.set_cons_succ]
        have hHeld := hS41
        refine wpAnyH_ready (rs := [11]) (by kernel_rfl) (by simp) ?_
        refine AllReadyH.cons rfl (fun K hK => ?_) AllReadyH.nil
        try simp only [List.getElem_toArray, List.getElem_cons_succ, List.getElem_cons_zero]
        go_simp
        refine (C6.out _ r41').mono ?_; rintro r wc42 ⟨rfl, r42', hg42⟩
        have hS42 := grown_transW hS41 hg42
        have hq42 := rd_stays hg42 hq41 (by have := H1.out.lt; have := hgs37; omega)
        refine hK.out _ _ hS42 (fun _ => ?_)
        clear hK K hHeld
        try simp only [List.getElem_toArray, List.getElem_cons_succ, List.getElem_cons_zero, Act.put, List.setIfInBounds_toArray, List.set_cons_zero, List.set_cons_succ]
        have hHeld := hS42
        refine wpAnyH_ready (rs := [13]) (by kernel_rfl) (by simp) ?_
        refine AllReadyH.cons rfl (fun K hK => ?_) AllReadyH.nil
        try simp only [List.getElem_toArray, List.getElem_cons_succ, List.getElem_cons_zero]
        go_simp
        refine (C7.out _ r42').mono ?_; rintro r wc43 ⟨rfl, r43', hg43⟩
        have hS43 := grown_transW hS42 hg43
        have hq43 := rd_stays hg43 hq42 (by have := H1.out.lt; have := hgs37; omega)
        refine hK.out _ _ hS43 (fun _ => ?_)
        clear hK K hHeld
        try simp only [List.getElem_toArray, List.getElem_cons_succ, List.getElem_cons_zero, Act.put, List.setIfInBounds_toArray, List.set_cons_zero, List.set_cons_succ]
        have hHeld := hS43
        refine wpAnyH_ready (rs := [15]) (by kernel_rfl) (by simp) ?_
        refine AllReadyH.cons rfl (fun K hK => ?_) AllReadyH.nil
        try simp only [List.getElem_toArray, List.getElem_cons_succ, List.getElem_cons_zero]
        go_simp
        refine (C8.out _ r43').mono ?_; rintro r wc44 ⟨rfl, r44', hg44⟩
        have hS44 := grown_transW hS43 hg44
        have hq44 := rd_stays hg44 hq43 (by have := H1.out.lt; have := hgs37; omega)
        refine hK.out _ _ hS44 (fun _ => ?_)
        clear hK K hHeld
        try simp only [List.getElem_toArray, List.getElem_cons_succ, List.getElem_cons_zero, Act.put, List.setIfInBounds_toArray, List.set_cons_zero, List.set_cons_succ]
        have hHeld := hS44
        refine wpAnyH_take (i := 16) (v := ?_) rfl (by kernel_rfl) (by kernel_rfl) (by kernel_rfl) (fun _ _ _ h => h) (Or.inl ⟨by rfl, ?_⟩) hHeld ?_
        rotate_left
        · (intro wz hSw; (try dsimp only at hSw); (try simp only [List.getElem_toArray, List.getElem_cons_succ, List.getElem_cons_zero]); go_simp; try with_reducible rfl)
        try simp only [List.getElem_toArray, List.getElem_cons_succ, List.getElem_cons_zero, Act.put, List.setIfInBounds_toArray, List.set_cons_zero, List.set_cons_succ]
        exact hcut g wc44 ⟨hS44, r44', hq44, hgs37⟩
    · skip
      try simp only [List.getElem_toArray, List.getElem_cons_succ, List.getElem_cons_zero]
      go_simp
      obtain ⟨wa45, hw45⟩ : ∃ x : World, wd.alloc (.cells #[.int .i64 0, .int .i64 0, .int .i64 0, .int .i64 0, .int .i64 0, .int .i64 0, .int .i64 0, .int .i64 0, .int .i64 0, .int .i64 0, .int .i64 0, .bool false, .slice none 0 0, .slice none 0 0] 29) = x := ⟨_, rfl⟩
      have hb45 : Below wd.heap.size wd wa45 := by rw [← hw45]; exact (Below.refl _ _).alloc (Nat.le_refl _) _
      have hS45 := grown_transW g0 (grown_below hb45 (some R))
      have r45' := r0.keep hb45 (Nat.le_refl _)
      have hq45 : wa45.heap[wd.heap.size]? = some (.cells #[.int .i64 0, .int .i64 0, .int .i64 0, .int .i64 0, .int .i64 0, .int .i64 0, .int .i64 0, .int .i64 0, .int .i64 0, .int .i64 0, .int .i64 0, .bool false, .slice none 0 0, .slice none 0 0] 29 (0, 0)) := by rw [← hw45]; exact heap_last wd _
      have hgs45 := g0.size
      obtain ⟨g, eg45⟩ : ∃ n, wd.heap.size = n := ⟨_, rfl⟩
      rw [hw45]
      try rw [eg45]
      rw [eg45] at hq45 hgs45
      clear hw45
      refine hK.out _ _ hS45 (fun _ => ?_)
      clear hK K hHeld
      try simp only [List.getElem_toArray, List.getElem_cons_succ, List.getElem_cons_zero, Act.put, List.setIfInBounds_toArray, List.set_cons_zero, List.set_cons_succ]
      have hHeld := hS45
      refine wpAnyH_ready (rs := [1]) (by kernel_rfl) (by simp) ?_
      refine AllReadyH.cons rfl (fun K hK => ?_) AllReadyH.nil
      try simp only [List.getElem_toArray, List.getElem_cons_succ, List.getElem_cons_zero]
      go_simp
      refine (C1.out _ r45').mono ?_; rintro r wc46 ⟨rfl, r46', hg46⟩
      have hS46 := grown_transW hS45 hg46
      have hq46 := rd_stays hg46 hq45 (by have := H1.out.lt; have := hgs45; omega)
      refine hK.out _ _ hS46 (fun _ => ?_)
      clear hK K hHeld
      try simp only [List.getElem_toArray, List.getElem_cons_succ, List.getElem_cons_zero, Act.put, List.setIfInBounds_toArray, List.set_cons_zero, List.set_cons_succ]
      have hHeld := hS46
      refine wpAnyH_ready (rs := [3]) (by kernel_rfl) (by simp) ?_
      refine AllReadyH.cons rfl (fun K hK => ?_) AllReadyH.nil
      try simp only [List.getElem_toArray, List.getElem_cons_succ, List.getElem_cons_zero]
      go_simp
      refine (C2.out _ r46').mono ?_; rintro r wc47 ⟨rfl, r47', hg47⟩
      have hS47 := grown_transW hS46 hg47
      have hq47 := rd_stays hg47 hq46 (by have := H1.out.lt; have := hgs45; omega)
      refine hK.out _ _ hS47 (fun _ => ?_)
      clear hK K hHeld
      try simp only [List.getElem_toArray, List.getElem_cons_succ, List.getElem_cons_zero, Act.put, List.setIfInBounds_toArray, List.set_cons_zero, List.set_cons_succ]
      have hHeld := hS47
      refine wpAnyH_ready (rs := [5]) (by kernel_rfl) (by simp) ?_
      refine AllReadyH.cons rfl (fun K hK => ?_) AllReadyH.nil
      try simp only [List.getElem_toArray, List.getElem_cons_succ, List.getElem_cons_zero]
      go_simp
      refine (C3.out _ r47').mono ?_; rintro r wc48 ⟨rfl, r48', hg48⟩
      have hS48 := grown_transW hS47 hg48
      have hq48 := rd_stays hg48 hq47 (by have := H1.out.lt; have := hgs45; omega)
      refine hK.out _ _ hS48 (fun _ => ?_)
      clear hK K hHeld
      try simp only [List.getElem_toArray, List.getElem_cons_succ, List.getElem_cons_zero, Act.put, List.setIfInBounds_toArray, List.set_cons_zero, List.set_cons_succ]
      have hHeld := hS48
      refine wpAnyH_ready (rs := [7]) (by kernel_rfl) (by simp) ?_
      refine AllReadyH.cons rfl (fun K hK => ?_) AllReadyH.nil
      try simp only [List.getElem_toArray, List.getElem_cons_succ, List.getElem_cons_zero]
      go_simp
      refine (C4.out _ r48').mono ?_; rintro r wc49 ⟨rfl, r49', hg49⟩
      have hS49 := grown_transW hS48 hg49
      have hq49 := rd_stays hg49 hq48 (by have := H1.out.lt; have := hgs45; omega)
      refine hK.out _ _ hS49 (fun _ => ?_)
      clear hK K hHeld
      try simp only [List.getElem_toArray, List.getElem_cons_succ, List.getElem_cons_zero, Act.put, List.setIfInBounds_toArray, List.set_cons_zero, List.set_cons_succ]
      have hHeld := hS49
      refine wpAnyH_ready (rs := [9]) (by kernel_rfl) (by simp) ?_
      refine AllReadyH.cons rfl (fun K hK => ?_) AllReadyH.nil
      try simp only [List.getElem_toArray, List.getElem_cons_succ, List.getElem_cons_zero]
      go_simp
      refine (C5.out _ r49').mono ?_; rintro r wc50 ⟨rfl, r50', hg50⟩
      have hS50 := grown_transW hS49 hg50
      have hq50 := rd_stays hg50 hq49 (by have := H1.out.lt; have := hgs45; omega)
      refine hK.out _ _ hS50 (fun _ => ?_)
      clear hK K hHeld
      try simp only [List.getElem_toArray, List.getElem_cons_succ, List.getElem_cons_zero, Act.put, List.setIfInBounds_toArray, List.set_cons_zero, List.set_cons_succ]
      have hHeld := hS50
      refine wpAnyH_ready (rs := [11]) (by kernel_rfl) (by simp) ?_
      refine AllReadyH.cons rfl (fun K hK => ?_) AllReadyH.nil
      try simp only [List.getElem_toArray, List.getElem_cons_succ, List.getElem_cons_zero]
      go_simp
      refine (C6.out _ r50').mono ?_; rintro r wc51 ⟨rfl, r51', hg51⟩
      have hS51 := grown_transW hS50 hg51
      have hq51 := rd_stays hg51 hq50 (by have := H1.out.lt; have := hgs45; omega)
      refine hK.out _ _ hS51 (fun _ => ?_)
      clear hK K hHeld
      try simp only [List.getElem_toArray, List.getElem_cons_succ, List.getElem_cons_zero, Act.put, List.setIfInBounds_toArray, List.set_cons_zero, List.set_cons_succ]
      have hHeld := hS51
      refine wpAnyH_ready (rs := [13]) (by kernel_rfl) (by simp) ?_
      refine AllReadyH.cons rfl (fun K hK => ?_) AllReadyH.nil
      try simp only [List.getElem_toArray, List.getElem_cons_succ, List.getElem_cons_zero]
      go_simp
      refine (C7.out _ r51').mono ?_; rintro r wc52 ⟨rfl, r52', hg52⟩
      have hS52 := grown_transW hS51 hg52
      have hq52 := rd_stays hg52 hq51 (by have := H1.out.lt; have := hgs45; omega)
      refine hK.out _ _ hS52 (fun _ => ?_)
      clear hK K hHeld
      try simp only [List.getElem_toArray, List.getElem_cons_succ, List.getElem_cons_zero, Act.put, List.setIfInBounds_toArray, List.set_cons_zero, List.set_cons_succ]
      have hHeld := hS52
      refine wpAnyH_ready (rs := [15]) (by kernel_rfl) (by simp) ?_
      refine AllReadyH.cons rfl (fun K hK => ?_) AllReadyH.nil
      try simp only [List.getElem_toArray, List.getElem_cons_succ, List.getElem_cons_zero]
      go_simp
      refine (C8.out _ r52').mono ?_; rintro r wc53 ⟨rfl, r53', hg53⟩
      have hS53 := grown_transW hS52 hg53
      have hq53 := rd_stays hg53 hq52 (by have := H1.out.lt; have := hgs45; omega)
      refine hK.out _ _ hS53 (fun _ => ?_)
      clear hK K hHeld
      try simp only [List.getElem_toArray, List.getElem_cons_succ, List.getElem_cons_zero, Act.put, List.setIfInBounds_toArray, List.set_cons_zero, List.set_cons_succ]
      have hHeld := hS53
      refine wpAnyH_take (i := 16) (v := ?_) rfl (by kernel_rfl) (by kernel_rfl) (by kernel_rfl) (fun _ _ _ h => h) (Or.inl ⟨by rfl, ?_⟩) hHeld ?_
      rotate_left
      · (intro wz hSw; (try dsimp only at hSw); (try simp only [List.getElem_toArray, List.getElem_cons_succ, List.getElem_cons_zero]); go_simp; try with_reducible rfl)
      try simp only [List.getElem_toArray, List.getElem_cons_succ, List.getElem_cons_zero, Act.put, List.setIfInBounds_toArray, List.set_cons_zero, List.set_cons_succ]
      exact hcut g wc53 ⟨hS53, r53', hq53, hgs45⟩
  intro g w2 hR2
  obtain ⟨hS2, hr2', hq2, hgs⟩ := hR2
  have hHeld := hS2
  have kg := block_cells hq2
  have fg := block_free hq2
  refine wpAnyH_ready (rs := [18]) (by kernel_rfl) (by simp) ?_; refine AllReadyH.cons rfl (fun K hK => ?_) AllReadyH.nil; (try simp only [List.getElem_toArray, List.getElem_cons_succ, List.getElem_cons_zero]); go_simp
  have hRg : R < g := Nat.lt_of_lt_of_le H1.out.lt hgs
  have hS3 := putL_gr (g := g) hgs [.int .i64 n1, .int .i64 n2, .int .i64 n3, .int .i64 n4, .int .i64 y1, .int .i64 y2, .int .i64 y3, .int .i64 y4, .int .i64 s1, .int .i64 s2, .int .i64 n7, .bool n8, .slice none 0 0, .slice none 0 0] 0 hS2
  have hr3 := putL_rd (g := g) hRg [.int .i64 n1, .int .i64 n2, .int .i64 n3, .int .i64 n4, .int .i64 y1, .int .i64 y2, .int .i64 y3, .int .i64 y4, .int .i64 s1, .int .i64 s2, .int .i64 n7, .bool n8, .slice none 0 0, .slice none 0 0] 0 hr2'.r
  have hq3 := putL_at hq2 [.int .i64 n1, .int .i64 n2, .int .i64 n3, .int .i64 n4, .int .i64 y1, .int .i64 y2, .int .i64 y3, .int .i64 y4, .int .i64 s1, .int .i64 s2, .int .i64 n7, .bool n8, .slice none 0 0, .slice none 0 0] rfl
  obtain ⟨w3, ew3⟩ : ∃ x : World, putL g 0 [.int .i64 n1, .int .i64 n2, .int .i64 n3, .int .i64 n4, .int .i64 y1, .int .i64 y2, .int .i64 y3, .int .i64 y4, .int .i64 s1, .int .i64 s2, .int .i64 n7, .bool n8, .slice none 0 0, .slice none 0 0] w2 = x := ⟨_, rfl⟩
  rw [ew3] at hS3 hr3
  have hq3' : w3.heap[g]? = some (.cells #[.int .i64 n1, .int .i64 n2, .int .i64 n3, .int .i64 n4, .int .i64 y1, .int .i64 y2, .int .i64 y3, .int .i64 y4, .int .i64 s1, .int .i64 s2, .int .i64 n7, .bool n8, .slice none 0 0, .slice none 0 0] 29 (0, 0)) := by rw [← ew3]; exact hq3
  simp only [putL, Nat.reduceAdd, Nat.zero_add] at ew3
  rw [ew3]
  refine hK.out _ _ hS3 (fun _ => ?_)
  clear hK K hHeld kg fg
  try simp only [List.getElem_toArray, List.getElem_cons_succ, List.getElem_cons_zero, Act.put, List.setIfInBounds_toArray, List.set_cons_zero, List.set_cons_succ]
  refine wpAnyH_done (by kernel_rfl) ?_ _
  have HT3 := Lib.hid (rd_stays hS3 HT1.out (by omega))
  have HG3 := Lib.hid (grown_transW G1.out hS3)
  have HW3 : Hid (RdW B w3 R X9 b9) := ⟨hr3, hr2'.o, hr2'.l⟩
  have HQ3 := Lib.hid hq3'
  have hWg : W.heap.size ≤ g := Nat.le_trans G1.out.size hgs
  have hgz : g + 1 ≤ w3.heap.size := block_lt hq3'
  clear hS2 hr2' hq2 hgs hS3 hr3 hq3 hq3' ew3 kT HT1 G1 H1 C1 C2 C3 C4 C5 C6 C7 C8
  have P3 : LsP W.heap.size R (R + 1) g w3.heap.size := ⟨hWg, by omega, by omega, by omega, by omega, by omega⟩
  have J3 : LsJ B R (R + 1) g w3.heap.size W w3 (fun v => #[.int .i64 n1, .int .i64 n2, .int .i64 n3, .int .i64 n4, .int .i64 y1, .int .i64 y2, .int .i64 y3, .int .i64 y4, .int .i64 s1, .int .i64 s2, .int .i64 n7, .bool n8, v, .slice none 0 0]) 29 65 2 spR [] w3 := ⟨⟨.slice none 0 0, HQ3.out, ⟨rfl, .inl ⟨rfl, rfl⟩⟩⟩, HT3.out, HG3.out, Nat.le_refl _, fun _ _ _ _ => rfl⟩
  have hL := rlist_gen B R 62 #[.pointer (some ⟨g, 0, none⟩), .pointer (some ⟨R + 1, 0, none⟩)] (fun _ => rfl) rdSp rdSp_len (LsJ B R (R + 1) g w3.heap.size W w3 (fun v => #[.int .i64 n1, .int .i64 n2, .int .i64 n3, .int .i64 n4, .int .i64 y1, .int .i64 y2, .int .i64 y3, .int .i64 y4, .int .i64 s1, .int .i64 s2, .int .i64 n7, .bool n8, v, .slice none 0 0]) 29 65 2 spR) X9 b9 w3 HW3.out (fun w' hg => J3.row P3 hg) (fun acc ys b' w' hl hr hj => cmdSp_any B R (R + 1) g w3.heap.size W w3 _ _ _ _ _ _ _ _ _ _ _ _ _ acc ys b' w' P3 hl hr hj)
  rw [HR9.out] at hL
  dsimp only at hL
  have HL := Lib.hid hL
  have kT := block_cells HT3.out
  clear hL J3 P3
  go_wp2_with fail
  refine HL.out.mono ?_; rintro e w4 ⟨rfl, r4', ⟨⟨v, hg4, ho4⟩, ht4, hb4, hz4, hk4⟩⟩
  obtain ⟨q1, c1, rfl⟩ := own_form ho4
  have HT4 := Lib.hid ht4; have HG4 := Lib.hid hb4; have HW4 := Lib.hid r4'; have HQ4 := Lib.hid hg4; have HO4 := Lib.hid ho4; have HK4 := Lib.hid hk4
  clear r4' hg4 ho4 ht4 hb4 hk4 kT HL HT3 HW3 HG3
  have P4 : LsP W.heap.size R (R + 1) g w4.heap.size := ⟨hWg, by omega, by omega, by omega, by omega, by omega⟩
  have J4 : LsJ B R (R + 1) g w4.heap.size W w4 (fun v => #[.int .i64 n1, .int .i64 n2, .int .i64 n3, .int .i64 n4, .int .i64 y1, .int .i64 y2, .int .i64 y3, .int .i64 y4, .int .i64 s1, .int .i64 s2, .int .i64 n7, .bool n8, .slice q1 l1.length c1, v]) 29 67 3 wrR [] w4 := ⟨⟨.slice none 0 0, HQ4.out, ⟨rfl, .inl ⟨rfl, rfl⟩⟩⟩, HT4.out, HG4.out, Nat.le_refl _, fun _ _ _ _ => rfl⟩
  have hL := rlist_gen B R 64 #[.pointer (some ⟨g, 0, none⟩), .pointer (some ⟨R + 1, 0, none⟩)] (fun _ => rfl) rdWr rdWr_len (LsJ B R (R + 1) g w4.heap.size W w4 (fun v => #[.int .i64 n1, .int .i64 n2, .int .i64 n3, .int .i64 n4, .int .i64 y1, .int .i64 y2, .int .i64 y3, .int .i64 y4, .int .i64 s1, .int .i64 s2, .int .i64 n7, .bool n8, .slice q1 l1.length c1, v]) 29 67 3 wrR) X10 b10 w4 HW4.out (fun w' hg => J4.row P4 hg) (fun acc ys b' w' hl hr hj => cmdWr_any B R (R + 1) g w4.heap.size W w4 _ _ _ _ _ _ _ _ _ _ _ _ _ acc ys b' w' P4 hl hr hj)
  rw [HR10.out] at hL
  dsimp only at hL
  have HL := Lib.hid hL
  have kT := block_cells HT4.out
  clear hL J4 P4
  go_wp2_with fail
  refine HL.out.mono ?_; rintro e w5 ⟨rfl, r5', ⟨⟨v, hg5, ho5⟩, ht5, hb5, hz5, hk5⟩⟩
  obtain ⟨q2, c2, rfl⟩ := own_form ho5
  have HT5 := Lib.hid ht5; have HG5 := Lib.hid hb5; have HW5 := Lib.hid r5'; have HQ5 := Lib.hid hg5; have HO5 := Lib.hid ho5; have HK5 := Lib.hid hk5
  clear r5' hg5 ho5 ht5 hb5 hk5 kT HL HT4 HW4 HG4
  obtain ⟨-, pr, cr, hRr, -⟩ := HW5.out.r
  have kR := block_cells hRr
  have kT := block_cells HT5.out
  have kg := block_cells HQ5.out
  have hZw := rd_stays HG5.out HZ.out (by omega)
  have kz := block_cells hZw
  have fz := block_free hZw
  have HZw := Lib.hid hZw
  have hBw : Below B w w5 := HB1.out.grown HG5.out (by have := HB1.out.size; have := HEB.out; omega) (fun k hk => by cases hk; omega)
  have HBw := Lib.hid hBw
  clear hRr hZw hBw HW5 HT5
  have hu : undef = Value.tuple #[] := rfl
  cases b11 with
  | true =>
    have HNO := Lib.hid (fun a' (ha : CmV a') => tk_no rdCm_ok (m := 1) (a' := a') ⟨by omega, by omega⟩ HRD.out (by simp) ha)
    go_wp2_with fail
    have hzF := putL_at HZw.out [.int .i64 0, .int .i64 0, .int .i64 0, .int .i64 0, .int .i64 0, .int .i64 0, .int .i64 0, .int .i64 0, .int .i64 0, .int .i64 0, .int .i64 0, .bool false, .slice none 0 0, .slice none 0 0] rfl
    have hbF := putL_bel (g := B) (Nat.le_refl B) [.int .i64 0, .int .i64 0, .int .i64 0, .int .i64 0, .int .i64 0, .int .i64 0, .int .i64 0, .int .i64 0, .int .i64 0, .int .i64 0, .int .i64 0, .bool false, .slice none 0 0, .slice none 0 0] 0 HBw.out
    simp only [putL, Nat.reduceAdd, Nat.zero_add] at hzF hbF
    have kF := block_cells hzF
    refine bodyPost_ret (v := .tuple #[.agg #[.int .i64 0, .int .i64 0, .int .i64 0, .int .i64 0, .int .i64 0, .int .i64 0, .int .i64 0, .int .i64 0, .int .i64 0, .int .i64 0, .int .i64 0, .bool false, .slice none 0 0, .slice none 0 0], .int .i64 9]) ?_ rfl ⟨by rw [HEB.out]; exact hbF, .inr ⟨fun a' ha => by rw [encCm_body]; exact HNO.out a' ha, rfl⟩⟩
    simp [results, Try.results22, go_sem, kF]
  | false =>
    by_cases hf : n0 = 1
    · subst hf
      by_cases hx : X11 = []
      · subst hx
        have HY := Lib.hid (tk_yes rdCm_ok HOC.out HRD.out)
        go_wp2_with fail
        have hzF := putL_at HZw.out [.int .i64 n1, .int .i64 n2, .int .i64 n3, .int .i64 n4, .int .i64 y1, .int .i64 y2, .int .i64 y3, .int .i64 y4, .int .i64 s1, .int .i64 s2, .int .i64 n7, .bool n8, .slice q1 l1.length c1, .slice q2 l2.length c2] rfl
        have hbF := putL_bel (g := B) (Nat.le_refl B) [.int .i64 n1, .int .i64 n2, .int .i64 n3, .int .i64 n4, .int .i64 y1, .int .i64 y2, .int .i64 y3, .int .i64 y4, .int .i64 s1, .int .i64 s2, .int .i64 n7, .bool n8, .slice q1 l1.length c1, .slice q2 l2.length c2] 0 HBw.out
        have hgF := putL_gr' B [.int .i64 n1, .int .i64 n2, .int .i64 n3, .int .i64 n4, .int .i64 y1, .int .i64 y2, .int .i64 y3, .int .i64 y4, .int .i64 s1, .int .i64 s2, .int .i64 n7, .bool n8, .slice q1 l1.length c1, .slice q2 l2.length c2] 0 w5
        simp only [putL, Nat.reduceAdd, Nat.zero_add] at hzF hbF hgF
        have kF := block_cells hzF
        have ho1 := (own_kp HO4.out HK5.out (Nat.le_refl _) (by omega) (by omega)).kept hgF (by
          cases e : (Value.slice q1 l1.length c1).ownBlock with
          | none => exact .inl rfl
          | some y => exact .inr fun h => by have := (HO4.out.lt y e).1; simp only [Option.some.injEq] at h; omega)
        have ho2 := HO5.out.kept hgF (by
          cases e : (Value.slice q2 l2.length c2).ownBlock with
          | none => exact .inl rfl
          | some y => exact .inr fun h => by have := (HO5.out.lt y e).1; simp only [Option.some.injEq] at h; omega)
        refine bodyPost_ret (v := .tuple #[.agg #[.int .i64 n1, .int .i64 n2, .int .i64 n3, .int .i64 n4, .int .i64 y1, .int .i64 y2, .int .i64 y3, .int .i64 y4, .int .i64 s1, .int .i64 s2, .int .i64 n7, .bool n8, .slice q1 l1.length c1, .slice q2 l2.length c2], .int .i64 0]) ?_ rfl ⟨by rw [HEB.out]; exact hbF, .inl ⟨⟨n1, n2, n3, n4, y1, y2, y3, y4, s1, s2, n7, n8, l1, l2⟩, q1, q2, c1, c2, by rw [encCm_body]; exact HY.out.1, HY.out.2, spsAt_own ho1, wrsAt_own ho2, rfl⟩⟩
        simp [results, Try.results22, go_sem, kF]
      · have hxl : decide (0 < (X11.length : Int)) = true := by
          have : 0 < X11.length := List.length_pos_iff.2 hx
          simp; omega
        have hx0 : 0 < X11.length := List.length_pos_iff.2 hx
        have hx1 : 0 < (X11.length : Int) := by omega
        have HNO := Lib.hid (fun a' (ha : CmV a') => tk_no rdCm_ok (m := 1) (a' := a') ⟨by omega, by omega⟩ HRD.out (by simp; exact hx) ha)
        go_wp2_with fail
        have hzF := putL_at HZw.out [.int .i64 0, .int .i64 0, .int .i64 0, .int .i64 0, .int .i64 0, .int .i64 0, .int .i64 0, .int .i64 0, .int .i64 0, .int .i64 0, .int .i64 0, .bool false, .slice none 0 0, .slice none 0 0] rfl
        have hbF := putL_bel (g := B) (Nat.le_refl B) [.int .i64 0, .int .i64 0, .int .i64 0, .int .i64 0, .int .i64 0, .int .i64 0, .int .i64 0, .int .i64 0, .int .i64 0, .int .i64 0, .int .i64 0, .bool false, .slice none 0 0, .slice none 0 0] 0 HBw.out
        simp only [putL, Nat.reduceAdd, Nat.zero_add] at hzF hbF
        have kF := block_cells hzF
        refine bodyPost_ret (v := .tuple #[.agg #[.int .i64 0, .int .i64 0, .int .i64 0, .int .i64 0, .int .i64 0, .int .i64 0, .int .i64 0, .int .i64 0, .int .i64 0, .int .i64 0, .int .i64 0, .bool false, .slice none 0 0, .slice none 0 0], .int .i64 9]) ?_ rfl ⟨by rw [HEB.out]; exact hbF, .inr ⟨fun a' ha => by rw [encCm_body]; exact HNO.out a' ha, rfl⟩⟩
        simp [results, Try.results22, go_sem, kF]
    · have hfe : (n0 == 1) = false := by simpa using hf
      have hfn : (n0 != 1) = true := by simpa using hf
      have HNO := Lib.hid (fun a' (ha : CmV a') => tk_no rdCm_ok (m := 1) (a' := a') ⟨by omega, by omega⟩ HRD.out (by simp; intro h; exact absurd h hf) ha)
      go_wp2_with fail
      have hzF := putL_at HZw.out [.int .i64 0, .int .i64 0, .int .i64 0, .int .i64 0, .int .i64 0, .int .i64 0, .int .i64 0, .int .i64 0, .int .i64 0, .int .i64 0, .int .i64 0, .bool false, .slice none 0 0, .slice none 0 0] rfl
      have hbF := putL_bel (g := B) (Nat.le_refl B) [.int .i64 0, .int .i64 0, .int .i64 0, .int .i64 0, .int .i64 0, .int .i64 0, .int .i64 0, .int .i64 0, .int .i64 0, .int .i64 0, .int .i64 0, .bool false, .slice none 0 0, .slice none 0 0] 0 HBw.out
      simp only [putL, Nat.reduceAdd, Nat.zero_add] at hzF hbF
      have kF := block_cells hzF
      refine bodyPost_ret (v := .tuple #[.agg #[.int .i64 0, .int .i64 0, .int .i64 0, .int .i64 0, .int .i64 0, .int .i64 0, .int .i64 0, .int .i64 0, .int .i64 0, .int .i64 0, .int .i64 0, .bool false, .slice none 0 0, .slice none 0 0], .int .i64 9]) ?_ rfl ⟨by rw [HEB.out]; exact hbF, .inr ⟨fun a' ha => by rw [encCm_body]; exact HNO.out a' ha, rfl⟩⟩
      simp [results, Try.results22, go_sem, kF]
end Go.Proofs.Ytmhmlpfkdpjlaaa
