/- Wire: the reference's TakeJoint. -/
import Derived.Test.YtjaabakobpabjaaRfJ
import Derived.Test.YtjaabakobpabjaaRdH
import Derived.Test.YtjaabakobpabjaaNums
namespace Go.Proofs.Ytjaabakobpabjaa
open Go.ChangeShapes Go.WideShapes Go.ChangeAt Go.RowKit

/-- Two bytes that were read, as a number. -/
theorem get2_any {xs ys L : List Int} {b b2 : Bool} (ho : Oct xs) (h : rfBy 2 xs b = (L, ys, b2)) : (0 ≤ beVal L ∧ beVal L ≤ 65535) ∧ ∀ (pq : Option Addr) (cq : Nat) (w' : World), Sl w'.heap.size w' (.slice pq 2 cq) 1 2 (byt L) → Calls Try.prog 97 #[.slice pq 2 cq, .int .i64 0, .int .i64 2] w' fun e w'' => e = .returned (.tuple #[.int .u64 (beVal L), .int .i64 0]) ∧ w' = w'' := by
  have hk := rfBy_oct 2 xs b ho
  rw [h] at hk
  obtain ⟨-, h2, h3⟩ := hk
  dsimp only at h2 h3
  refine ⟨?_, fun pq cq w' hs => ?_⟩
  · have := beVal_bound 2 L h3 h2
    have e2 : (256 : Int) ^ 2 = 65536 := by decide
    omega
  · have hs' : Sl w'.heap.size w' (.slice pq 2 cq) 1 L.length (byt L) := by rw [h3]; exact hs
    have := refGet_ok w'.heap.size _ L h2 0 2 w' hs' (by omega) (by omega) (by omega)
    rw [List.drop_zero, List.take_of_length_le (by omega)] at this
    exact this
theorem wrap16_in {z : Int} (h : 0 ≤ z ∧ z ≤ 65535) : IntKind.u16.wrap z = z := by rw [show IntKind.u16.wrap z = z % 65536 from rfl]; omega
theorem rf16_is {xs ys L : List Int} {b b2 : Bool} (h : rfBy 2 xs b = (L, ys, b2)) : rf16 xs b = (beVal L, ys, b2) := by unfold rf16; rw [h]
theorem cutJ {R : Nat → World → Prop} {P : Nat → World → Prop} {Q : Prop} (h : (∀ g w, R g w → P g w) → Q) (p : ∀ g w, R g w → P g w) : Q := h p
set_option maxRecDepth 100000 in
set_option maxHeartbeats 16000000 in
theorem rtakeJoint_any (X0 : List Int) (v : Value) (w : World) (hv : Sl w.heap.size w v 1 X0.length (byt X0)) (hoct : Oct X0) (hlen : (X0.length : Int) ≤ 140737488300000) :
    Calls Try.prog 85 #[v] w (TkJoint w X0) := by
  obtain ⟨p, cap, rfl, hc1, hc2, -, -⟩ := hv.form
  have HV := Lib.hid hv; have HOC := Lib.hid hoct; have HLN := Lib.hid hlen
  obtain ⟨B, eB⟩ : ∃ n, w.heap.size = n := ⟨_, rfl⟩
  have HEB := Lib.hid eB
  obtain ⟨⟨L1, X1, b1⟩, hr0⟩ : ∃ r, rfBy 2 X0 false = r := ⟨_, rfl⟩
  have hb0 := rf16_is hr0
  have CB0 := Lib.hid (fun w' R => rfby2_any B R X0 false w')
  rw [hr0] at CB0
  obtain ⟨⟨L2, X2, b2⟩, hr1⟩ : ∃ r, rfBy 2 X1 b1 = r := ⟨_, rfl⟩
  have hb1 := rf16_is hr1
  have CB1 := Lib.hid (fun w' R => rfby2_any B R X1 b1 w')
  rw [hr1] at CB1
  obtain ⟨⟨L3, X3, b3⟩, hr2⟩ : ∃ r, rfBy 2 X2 b2 = r := ⟨_, rfl⟩
  have hb2 := rf16_is hr2
  have CB2 := Lib.hid (fun w' R => rfby2_any B R X2 b2 w')
  rw [hr2] at CB2
  obtain ⟨⟨e1, X4, b4⟩, hb3⟩ : ∃ r, rfN X3 b3 = r := ⟨_, rfl⟩
  have CB3 := Lib.hid (fun w' R => rfn_any B R X3 b3 w')
  rw [hb3] at CB3
  obtain ⟨⟨k1, X5, b5⟩, hb4⟩ : ∃ r, rfN X4 b4 = r := ⟨_, rfl⟩
  have CB4 := Lib.hid (fun w' R => rfn_any B R X4 b4 w')
  rw [hb4] at CB4
  obtain ⟨⟨L4, X6, b6⟩, hr5⟩ : ∃ r, rfBy 2 X5 b5 = r := ⟨_, rfl⟩
  have hb5 := rf16_is hr5
  have CB5 := Lib.hid (fun w' R => rfby2_any B R X5 b5 w')
  rw [hr5] at CB5
  obtain ⟨⟨L5, X7, b7⟩, hr6⟩ : ∃ r, rfBy 2 X6 b6 = r := ⟨_, rfl⟩
  have hb6 := rf16_is hr6
  have CB6 := Lib.hid (fun w' R => rfby2_any B R X6 b6 w')
  rw [hr6] at CB6
  obtain ⟨⟨L6, X8, b8⟩, hr7⟩ : ∃ r, rfBy 2 X7 b7 = r := ⟨_, rfl⟩
  have hb7 := rf16_is hr7
  have CB7 := Lib.hid (fun w' R => rfby2_any B R X7 b7 w')
  rw [hr7] at CB7
  obtain ⟨⟨e2, X9, b9⟩, hb8⟩ : ∃ r, rfN X8 b8 = r := ⟨_, rfl⟩
  have CB8 := Lib.hid (fun w' R => rfn_any B R X8 b8 w')
  rw [hb8] at CB8
  obtain ⟨⟨k2, X10, b10⟩, hb9⟩ : ∃ r, rfN X9 b9 = r := ⟨_, rfl⟩
  have CB9 := Lib.hid (fun w' R => rfn_any B R X9 b9 w')
  rw [hb9] at CB9
  obtain ⟨⟨fl, X11, b11⟩, hb10⟩ : ∃ r, rfF X10 b10 = r := ⟨_, rfl⟩
  have CB10 := Lib.hid (fun w' R => rff_any B R X10 b10 w')
  rw [hb10] at CB10
  have o0 := HOC.out
  have o1 := (rfBy_oct 2 X0 false o0).1
  rw [hr0] at o1; dsimp only at o1
  have o2 := (rfBy_oct 2 X1 b1 o1).1
  rw [hr1] at o2; dsimp only at o2
  have o3 := (rfBy_oct 2 X2 b2 o2).1
  rw [hr2] at o3; dsimp only at o3
  have o4 := rfN_ok.oct X3 b3 o3
  rw [hb3] at o4; dsimp only at o4
  have o5 := rfN_ok.oct X4 b4 o4
  rw [hb4] at o5; dsimp only at o5
  have o6 := (rfBy_oct 2 X5 b5 o5).1
  rw [hr5] at o6; dsimp only at o6
  have o7 := (rfBy_oct 2 X6 b6 o6).1
  rw [hr6] at o7; dsimp only at o7
  have o8 := (rfBy_oct 2 X7 b7 o7).1
  rw [hr7] at o8; dsimp only at o8
  have o9 := rfN_ok.oct X8 b8 o8
  rw [hb8] at o9; dsimp only at o9
  have o10 := rfN_ok.oct X9 b9 o9
  rw [hb9] at o10; dsimp only at o10
  obtain ⟨hz1, hg1⟩ := get2_any o0 hr0
  obtain ⟨z1, ez1⟩ : ∃ z, beVal L1 = z := ⟨_, rfl⟩
  rw [ez1] at hz1 hg1 hb0
  have CG0 := Lib.hid hg1; have hw1 := wrap16_in hz1
  obtain ⟨hz2, hg2⟩ := get2_any o1 hr1
  obtain ⟨z2, ez2⟩ : ∃ z, beVal L2 = z := ⟨_, rfl⟩
  rw [ez2] at hz2 hg2 hb1
  have CG1 := Lib.hid hg2; have hw2 := wrap16_in hz2
  obtain ⟨hz3, hg3⟩ := get2_any o2 hr2
  obtain ⟨z3, ez3⟩ : ∃ z, beVal L3 = z := ⟨_, rfl⟩
  rw [ez3] at hz3 hg3 hb2
  have CG2 := Lib.hid hg3; have hw3 := wrap16_in hz3
  obtain ⟨hz4, hg4⟩ := get2_any o5 hr5
  obtain ⟨z4, ez4⟩ : ∃ z, beVal L4 = z := ⟨_, rfl⟩
  rw [ez4] at hz4 hg4 hb5
  have CG5 := Lib.hid hg4; have hw4 := wrap16_in hz4
  obtain ⟨hz5, hg5⟩ := get2_any o6 hr6
  obtain ⟨z5, ez5⟩ : ∃ z, beVal L5 = z := ⟨_, rfl⟩
  rw [ez5] at hz5 hg5 hb6
  have CG6 := Lib.hid hg5; have hw5 := wrap16_in hz5
  obtain ⟨hz6, hg6⟩ := get2_any o7 hr7
  obtain ⟨z6, ez6⟩ : ∃ z, beVal L6 = z := ⟨_, rfl⟩
  rw [ez6] at hz6 hg6 hb7
  have CG7 := Lib.hid hg6; have hw6 := wrap16_in hz6
  have HRD : Hid (rfJo X0 false = (⟨⟨z1, z2, z3, e1, k1⟩, ⟨z4, z5, z6, e2, k2⟩, fl⟩, X11, b11)) := rdMap_is (rd2_is (rdMap_is (rd2_is hb0 (rd2_is hb1 (rd2_is hb2 (rd2_is hb3 hb4))))) (rd2_is (rdMap_is (rd2_is hb5 (rd2_is hb6 (rd2_is hb7 (rd2_is hb8 hb9))))) hb10))
  have hl11 : X11.length ≤ X0.length := by
    have l1 := rfCf_len X0 false
    have l := (rd2_len rfCf_len (rd2_len rfCf_len rfF_len)) X0 false
    have e := rd2_is (rdMap_is (φ := fun p : Int × Int × Int × Int × Int => (⟨p.1, p.2.1, p.2.2.1, p.2.2.2.1, p.2.2.2.2⟩ : CfX)) (rd2_is hb0 (rd2_is hb1 (rd2_is hb2 (rd2_is hb3 hb4))))) (rd2_is (rdMap_is (φ := fun p : Int × Int × Int × Int × Int => (⟨p.1, p.2.1, p.2.2.1, p.2.2.2.1, p.2.2.2.2⟩ : CfX)) (rd2_is hb5 (rd2_is hb6 (rd2_is hb7 (rd2_is hb8 hb9))))) hb10)
    rw [show rd2 rfCf (rd2 rfCf rfF) X0 false = _ from e] at l
    exact l
  clear hv hoct hlen hc1 hc2 hr0 hg1 hr1 hg2 hr2 hg3 hr5 hg4 hr6 hg5 hr7 hg6 hb0 hb1 hb2 hb3 hb4 hb5 hb6 hb7 hb8 hb9 hb10 o0 o1 o2 o3 o4 o5 o6 o7 o8 o9 o10 hz1 ez1 hz2 ez2 hz3 ez3 hz4 ez4 hz5 ez5 hz6 ez6
  go_enter Try.func85, Try.ntmps85
  go_upto_region 3 with fail
  obtain ⟨Wa, hWa⟩ : ∃ x : World, w.alloc (.cells #[.int .u16 0, .int .u16 0, .int .u16 0, .int .i64 0, .int .i64 0, .int .u16 0, .int .u16 0, .int .u16 0, .int .i64 0, .int .i64 0, .bool false] 42) = x := ⟨_, rfl⟩
  obtain ⟨W, hW⟩ : ∃ x : World, Wa.alloc (.cells #[.slice p X0.length cap, .bool false] 77) = x := ⟨_, rfl⟩
  obtain ⟨Wc, hWc⟩ : ∃ x : World, W.alloc (.cells #[.int .u16 0, .int .u16 0, .int .u16 0, .int .i64 0, .int .i64 0, .int .u16 0, .int .u16 0, .int .u16 0, .int .i64 0, .int .i64 0] 140) = x := ⟨_, rfl⟩
  have sa : Wa.heap.size = B + 1 := by rw [← hWa]; simp; omega
  have sw : W.heap.size = B + 1 + 1 := by rw [← hW]; simp; omega
  have sc : Wc.heap.size = B + 1 + 1 + 1 := by rw [← hWc]; simp; omega
  have ba : Below B w Wa := by rw [← hWa]; exact (Below.refl _ _).alloc (by omega) _
  have bb : Below Wa.heap.size Wa W := by rw [← hW]; exact (Below.refl _ _).alloc (Nat.le_refl _) _
  have bc : Below W.heap.size W Wc := by rw [← hWc]; exact (Below.refl _ _).alloc (Nat.le_refl _) _
  have hR : W.heap[B + 1]? = some (.cells #[.slice p X0.length cap, .bool false] 77 (0, 0)) := by rw [← hW, ← sa]; exact heap_last _ _
  have hZa : Wa.heap[B]? = some (.cells #[.int .u16 0, .int .u16 0, .int .u16 0, .int .i64 0, .int .i64 0, .int .u16 0, .int .u16 0, .int .u16 0, .int .i64 0, .int .i64 0, .bool false] 42 (0, 0)) := by rw [← hWa, ← eB]; exact heap_last _ _
  have hZ := below_block bb (block_lt hZa) hZa
  have hA : Wc.heap[B + 1 + 1]? = some (.cells #[.int .u16 0, .int .u16 0, .int .u16 0, .int .i64 0, .int .i64 0, .int .u16 0, .int .u16 0, .int .u16 0, .int .i64 0, .int .i64 0] 140 (0, 0)) := by rw [← hWc, ← sw]; exact heap_last _ _
  have hB1 : Below B w W := ba.trans (bb.mono (by omega))
  have hr : RfW B W (B + 1) X0 false := ⟨⟨by omega, p, cap, hR, by have := HV.out; rw [eB] at this; exact this.keep hB1⟩, HOC.out, HLN.out⟩
  have hrc := hr.keep bc (Nat.le_refl _)
  rw [hWa, hW, hWc]
  obtain ⟨R, eR⟩ : ∃ n, B + 1 = n := ⟨_, rfl⟩
  try rw [eB]
  rw [eR] at hrc hA sw sc ⊢
  obtain ⟨A, eA⟩ : ∃ n, R + 1 = n := ⟨_, rfl⟩
  rw [eA] at hA sc sw ⊢
  have hBR : B < R := by omega
  have hRA : R < A := by omega
  have hAW : W.heap.size ≤ A := by omega
  have hAc : A + 1 ≤ Wc.heap.size := by omega
  have H0 := Lib.hid hrc; have HB1 := Lib.hid hB1; have HZ := Lib.hid hZ; have HA := Lib.hid hA; have QC := Lib.hid (grown_belowW bc (grown_refl _ (some R)))
  clear hWa hW hWc sa sw sc ba bb bc hR hZa hZ hB1 hr hrc hA eR eB eA
  go_wp2_with fail
  refine wp_loop_rounds 3 ?_
  rw [rounds_succ]
  go_upto_block 2 with fail
  obtain ⟨V0, hV⟩ : ∃ x : World, Wc.alloc (.cells #[.int .u64 0, .int .u64 0, .int .u64 0] 141) = x := ⟨_, rfl⟩
  have bV : Below Wc.heap.size Wc V0 := by rw [← hV]; exact (Below.refl _ _).alloc (Nat.le_refl _) _
  have hG : V0.heap[Wc.heap.size]? = some (.cells #[.int .u64 0, .int .u64 0, .int .u64 0] 141 (0, 0)) := by rw [← hV]; exact heap_last Wc _
  have hAG : A < Wc.heap.size := block_lt HA.out
  have HRw0 := Lib.hid (H0.out.keep bV (Nat.le_refl _))
  have HAw0 := Lib.hid (below_block bV (block_lt HA.out) HA.out)
  have Qw0 := Lib.hid (grown_transW QC.out (grown_belowW bV (grown_refl _ (some R))))
  rw [hV]
  obtain ⟨G0, eG⟩ : ∃ n, Wc.heap.size = n := ⟨_, rfl⟩
  rw [eG] at hG hAG ⊢
  have HGw0 := Lib.hid hG
  clear hV bV hG eG H0 HA QC
  have hRG0 : R < G0 := by omega
  have hWG0 : W.heap.size ≤ G0 := by omega
  go_wp2_with fail
  refine wp_loop_rounds 4 ?_
  rw [rounds_succ]
  go_wp2_with fail
  refine (CB0.out _ _ HRw0.out).mono ?_; rintro e wq0 ⟨pq, cq, rfl, hs, -, hq, gq⟩
  dsimp only at hs hq ⊢
  have HG0 := Lib.hid (rd_stays gq HGw0.out (by omega))
  have HA0 := Lib.hid (rd_stays gq HAw0.out (by omega))
  have hQ0 := grown_transW Qw0.out gq
  have CGet := Lib.hid (CG0.out pq cq _ hs)
  have kg := block_cells HG0.out
  have fg := block_free HG0.out
  obtain ⟨wn0, ewn⟩ : ∃ x : World, wq0.setCell ⟨G0, 0, none⟩ (.int .u64 z1) = x := ⟨_, rfl⟩
  have HGn0 : Hid (wn0.heap[G0]? = some (.cells #[.int .u64 z1, .int .u64 0, .int .u64 0] 141 (0, 0))) := by show _ = _; rw [← ewn]; exact (cells_setW HG0.out 0 (.int .u64 z1)).trans rfl
  have HAn0 : Hid (wn0.heap[A]? = some (.cells #[.int .u16 0, .int .u16 0, .int .u16 0, .int .i64 0, .int .i64 0, .int .u16 0, .int .u16 0, .int .u16 0, .int .i64 0, .int .i64 0] 140 (0, 0))) := by show _ = _; rw [← ewn]; exact (Below.heap_setCell wq0 ⟨G0, 0, none⟩ (.int .u64 z1) A (by show A ≠ G0; omega)).trans HA0.out
  have HRn0 : Hid (RfW B wn0 R X1 b1) := by show RfW _ _ _ _ _; rw [← ewn]; exact ⟨hq.r.setFar (by omega) _, hq.o, hq.l⟩
  have Qn0 : Hid (W.grownBy wn0 (some R)) := by show World.grownBy _ _ _; rw [← ewn]; exact grown_setFar hQ0 hWG0
  have HEW := Lib.hid ewn
  clear hs hq gq hQ0 ewn
  go_wp2_with fail
  refine CGet.out.mono ?_; rintro e w' ⟨rfl, rfl⟩
  go_wp2_with fail
  rw [HEW.out, rounds_succ]
  clear CGet HG0 HA0 kg fg HEW HRw0 HAw0 Qw0 HGw0 CB0 CG0
  go_wp2_with fail
  refine (CB1.out _ _ HRn0.out).mono ?_; rintro e wq1 ⟨pq, cq, rfl, hs, -, hq, gq⟩
  dsimp only at hs hq ⊢
  have HG1 := Lib.hid (rd_stays gq HGn0.out (by omega))
  have HA1 := Lib.hid (rd_stays gq HAn0.out (by omega))
  have hQ1 := grown_transW Qn0.out gq
  have CGet := Lib.hid (CG1.out pq cq _ hs)
  have kg := block_cells HG1.out
  have fg := block_free HG1.out
  obtain ⟨wn1, ewn⟩ : ∃ x : World, wq1.setCell ⟨G0, 1, none⟩ (.int .u64 z2) = x := ⟨_, rfl⟩
  have HGn1 : Hid (wn1.heap[G0]? = some (.cells #[.int .u64 z1, .int .u64 z2, .int .u64 0] 141 (0, 0))) := by show _ = _; rw [← ewn]; exact (cells_setW HG1.out 1 (.int .u64 z2)).trans rfl
  have HAn1 : Hid (wn1.heap[A]? = some (.cells #[.int .u16 0, .int .u16 0, .int .u16 0, .int .i64 0, .int .i64 0, .int .u16 0, .int .u16 0, .int .u16 0, .int .i64 0, .int .i64 0] 140 (0, 0))) := by show _ = _; rw [← ewn]; exact (Below.heap_setCell wq1 ⟨G0, 1, none⟩ (.int .u64 z2) A (by show A ≠ G0; omega)).trans HA1.out
  have HRn1 : Hid (RfW B wn1 R X2 b2) := by show RfW _ _ _ _ _; rw [← ewn]; exact ⟨hq.r.setFar (by omega) _, hq.o, hq.l⟩
  have Qn1 : Hid (W.grownBy wn1 (some R)) := by show World.grownBy _ _ _; rw [← ewn]; exact grown_setFar hQ1 hWG0
  have HEW := Lib.hid ewn
  clear hs hq gq hQ1 ewn
  go_wp2_with fail
  refine CGet.out.mono ?_; rintro e w' ⟨rfl, rfl⟩
  go_wp2_with fail
  rw [HEW.out, rounds_succ]
  clear CGet HG1 HA1 kg fg HEW HRn0 HAn0 Qn0 HGn0 CB1 CG1
  go_wp2_with fail
  refine (CB2.out _ _ HRn1.out).mono ?_; rintro e wq2 ⟨pq, cq, rfl, hs, -, hq, gq⟩
  dsimp only at hs hq ⊢
  have HG2 := Lib.hid (rd_stays gq HGn1.out (by omega))
  have HA2 := Lib.hid (rd_stays gq HAn1.out (by omega))
  have hQ2 := grown_transW Qn1.out gq
  have CGet := Lib.hid (CG2.out pq cq _ hs)
  have kg := block_cells HG2.out
  have fg := block_free HG2.out
  obtain ⟨wn2, ewn⟩ : ∃ x : World, wq2.setCell ⟨G0, 2, none⟩ (.int .u64 z3) = x := ⟨_, rfl⟩
  have HGn2 : Hid (wn2.heap[G0]? = some (.cells #[.int .u64 z1, .int .u64 z2, .int .u64 z3] 141 (0, 0))) := by show _ = _; rw [← ewn]; exact (cells_setW HG2.out 2 (.int .u64 z3)).trans rfl
  have HAn2 : Hid (wn2.heap[A]? = some (.cells #[.int .u16 0, .int .u16 0, .int .u16 0, .int .i64 0, .int .i64 0, .int .u16 0, .int .u16 0, .int .u16 0, .int .i64 0, .int .i64 0] 140 (0, 0))) := by show _ = _; rw [← ewn]; exact (Below.heap_setCell wq2 ⟨G0, 2, none⟩ (.int .u64 z3) A (by show A ≠ G0; omega)).trans HA2.out
  have HRn2 : Hid (RfW B wn2 R X3 b3) := by show RfW _ _ _ _ _; rw [← ewn]; exact ⟨hq.r.setFar (by omega) _, hq.o, hq.l⟩
  have Qn2 : Hid (W.grownBy wn2 (some R)) := by show World.grownBy _ _ _; rw [← ewn]; exact grown_setFar hQ2 hWG0
  have HEW := Lib.hid ewn
  clear hs hq gq hQ2 ewn
  go_wp2_with fail
  refine CGet.out.mono ?_; rintro e w' ⟨rfl, rfl⟩
  go_wp2_with fail
  rw [HEW.out, rounds_succ]
  clear CGet HG2 HA2 kg fg HEW HRn1 HAn1 Qn1 HGn1 CB2 CG2
  go_upto_region 11 with fail
  have t0 : wn2.drew.heap[G0]? = some (.cells #[.int .u64 z1, .int .u64 z2, .int .u64 z3] 141 (0, 0)) := HGn2.out
  have g0 : wn2.grownBy wn2.drew (some R) := grown_drewW (grown_refl _ _)
  have r0 := HRn2.out.drew
  refine wp_region_held_drew (S := fun w' => w'.heap[G0]? = some (.cells #[.int .u64 z1, .int .u64 z2, .int .u64 z3] 141 (0, 0))) (by kernel_rfl) t0 (fun hHeld => ?_)
  obtain ⟨wd, ewd⟩ : ∃ x, wn2.drew = x := ⟨_, rfl⟩
  rw [ewd] at t0 g0 r0 hHeld ⊢
  clear ewd
  have kG : ∀ w' : World, w'.heap[G0]? = some (.cells #[.int .u64 z1, .int .u64 z2, .int .u64 z3] 141 (0, 0)) → ∀ j, w'.cell? ⟨G0, j, none⟩ = #[.int .u64 z1, .int .u64 z2, .int .u64 z3][j]? := fun w' h => block_cells h
  refine wpAnyH_take (i := 0) (v := ?_) rfl (by kernel_rfl) (by kernel_rfl) (by kernel_rfl) (fun _ _ _ h => h) (Or.inl ⟨by rfl, ?_⟩) hHeld ?_
  rotate_left
  · (intro wz hSw; (try dsimp only at hSw); (try simp only [List.getElem_toArray, List.getElem_cons_zero]); go_simp; try with_reducible rfl)
  try simp only [List.getElem_toArray, List.getElem_cons_zero, Act.put, List.setIfInBounds_toArray, List.set_cons_zero, List.set_cons_succ]
  refine wpAnyH_take (i := 1) (v := ?_) rfl (by kernel_rfl) (by kernel_rfl) (by kernel_rfl) (fun _ _ _ h => h) (Or.inl ⟨by rfl, ?_⟩) hHeld ?_
  rotate_left
  · (intro wz hSw; (try dsimp only at hSw); (try simp only [List.getElem_toArray, List.getElem_cons_succ, List.getElem_cons_zero]); go_simp; try with_reducible rfl)
  try simp only [List.getElem_toArray, List.getElem_cons_succ, List.getElem_cons_zero, Act.put, List.setIfInBounds_toArray, List.set_cons_zero, List.set_cons_succ]
  refine wpAnyH_take (i := 2) (v := ?_) rfl (by kernel_rfl) (by kernel_rfl) (by kernel_rfl) (fun _ _ _ h => h) (Or.inl ⟨by rfl, ?_⟩) hHeld ?_
  rotate_left
  · (intro wz hSw; (try dsimp only at hSw); (try simp only [List.getElem_toArray, List.getElem_cons_succ, List.getElem_cons_zero]); go_simp; try with_reducible rfl)
  try simp only [List.getElem_toArray, List.getElem_cons_succ, List.getElem_cons_zero, Act.put, List.setIfInBounds_toArray, List.set_cons_zero, List.set_cons_succ]
  refine wpAnyH_take (i := 3) (v := ?_) rfl (by kernel_rfl) (by kernel_rfl) (by kernel_rfl) (fun _ _ _ h => h) (Or.inl ⟨by rfl, ?_⟩) hHeld ?_
  rotate_left
  · (intro wz hSw; (try dsimp only at hSw); (try simp only [List.getElem_toArray, List.getElem_cons_succ, List.getElem_cons_zero]); go_simp; try with_reducible rfl)
  try simp only [List.getElem_toArray, List.getElem_cons_succ, List.getElem_cons_zero, Act.put, List.setIfInBounds_toArray, List.set_cons_zero, List.set_cons_succ]
  refine wpAnyH_take (i := 4) (v := ?_) rfl (by kernel_rfl) (by kernel_rfl) (by kernel_rfl) (fun _ _ _ h => h) (Or.inl ⟨by rfl, ?_⟩) hHeld ?_
  rotate_left
  · (intro wz hSw; (try dsimp only at hSw); (try simp only [List.getElem_toArray, List.getElem_cons_succ, List.getElem_cons_zero]); go_simp; try with_reducible rfl)
  try simp only [List.getElem_toArray, List.getElem_cons_succ, List.getElem_cons_zero, Act.put, List.setIfInBounds_toArray, List.set_cons_zero, List.set_cons_succ]
  refine wpAnyH_take (i := 5) (v := ?_) rfl (by kernel_rfl) (by kernel_rfl) (by kernel_rfl) (fun _ _ _ h => h) (Or.inl ⟨by rfl, ?_⟩) hHeld ?_
  rotate_left
  · (intro wz hSw; (try dsimp only at hSw); (try simp only [List.getElem_toArray, List.getElem_cons_succ, List.getElem_cons_zero]); go_simp; try with_reducible rfl)
  try simp only [List.getElem_toArray, List.getElem_cons_succ, List.getElem_cons_zero, Act.put, List.setIfInBounds_toArray, List.set_cons_zero, List.set_cons_succ]
  refine wpAnyH_take (i := 6) (v := ?_) rfl (by kernel_rfl) (by kernel_rfl) (by kernel_rfl) (fun _ _ _ h => h) (Or.inl ⟨by rfl, ?_⟩) hHeld ?_
  rotate_left
  · (intro wz hSw; (try dsimp only at hSw); (try simp only [List.getElem_toArray, List.getElem_cons_succ, List.getElem_cons_zero]); go_simp; try with_reducible rfl)
  try simp only [List.getElem_toArray, List.getElem_cons_succ, List.getElem_cons_zero, Act.put, List.setIfInBounds_toArray, List.set_cons_zero, List.set_cons_succ]
  refine wpAnyH_take (i := 7) (v := ?_) rfl (by kernel_rfl) (by kernel_rfl) (by kernel_rfl) (fun _ _ _ h => h) (Or.inl ⟨by rfl, ?_⟩) hHeld ?_
  rotate_left
  · (intro wz hSw; (try dsimp only at hSw); (try simp only [List.getElem_toArray, List.getElem_cons_succ, List.getElem_cons_zero]); go_simp; try with_reducible rfl)
  try simp only [List.getElem_toArray, List.getElem_cons_succ, List.getElem_cons_zero, Act.put, List.setIfInBounds_toArray, List.set_cons_zero, List.set_cons_succ]
  refine wpAnyH_take (i := 8) (v := ?_) rfl (by kernel_rfl) (by kernel_rfl) (by kernel_rfl) (fun _ _ _ h => h) (Or.inl ⟨by rfl, ?_⟩) hHeld ?_
  rotate_left
  · (intro wz hSw; (try dsimp only at hSw); (try simp only [List.getElem_toArray, List.getElem_cons_succ, List.getElem_cons_zero]); go_simp; try with_reducible rfl)
  try simp only [List.getElem_toArray, List.getElem_cons_succ, List.getElem_cons_zero, Act.put, List.setIfInBounds_toArray, List.set_cons_zero, List.set_cons_succ]
  refine wpAnyH_take (i := 9) (v := ?_) rfl (by kernel_rfl) (by kernel_rfl) (by kernel_rfl) (fun _ _ _ h => h) (Or.inl ⟨by rfl, ?_⟩) hHeld ?_
  rotate_left
  · (intro wz hSw; (try dsimp only at hSw); (try simp only [List.getElem_toArray, List.getElem_cons_succ, List.getElem_cons_zero]); go_simp; try with_reducible rfl)
  try simp only [List.getElem_toArray, List.getElem_cons_succ, List.getElem_cons_zero, Act.put, List.setIfInBounds_toArray, List.set_cons_zero, List.set_cons_succ]
  refine wpAnyH_take (i := 10) (v := ?_) rfl (by kernel_rfl) (by kernel_rfl) (by kernel_rfl) (fun _ _ _ h => h) (Or.inl ⟨by rfl, ?_⟩) hHeld ?_
  rotate_left
  · (intro wz hSw; (try dsimp only at hSw); (try simp only [List.getElem_toArray, List.getElem_cons_succ, List.getElem_cons_zero]); go_simp; try with_reducible rfl)
  try simp only [List.getElem_toArray, List.getElem_cons_succ, List.getElem_cons_zero, Act.put, List.setIfInBounds_toArray, List.set_cons_zero, List.set_cons_succ]
  refine wpAnyH_take (i := 12) (v := ?_) rfl (by kernel_rfl) (by kernel_rfl) (by kernel_rfl) (fun _ _ _ h => h) (Or.inl ⟨by rfl, ?_⟩) hHeld ?_
  rotate_left
  · (intro wz hSw; (try dsimp only at hSw); (try simp only [List.getElem_toArray, List.getElem_cons_succ, List.getElem_cons_zero]); go_simp; try with_reducible rfl)
  try simp only [List.getElem_toArray, List.getElem_cons_succ, List.getElem_cons_zero, Act.put, List.setIfInBounds_toArray, List.set_cons_zero, List.set_cons_succ]
  refine wpAnyH_ready (rs := [11]) (by kernel_rfl) (by simp) ?_; refine AllReadyH.cons rfl (fun K hK => ?_) AllReadyH.nil; (try simp only [List.getElem_toArray, List.getElem_cons_succ, List.getElem_cons_zero]); go_simp
  refine (CB3.out _ _ r0).mono ?_; rintro r wc3 ⟨rfl, rc3, kc3⟩
  dsimp only at rc3 ⊢
  have gc3 := grown_transW g0 kc3
  have tc3 := rd_stays kc3 t0 (by omega)
  refine hK.out _ _ tc3 (fun _ => ?_)
  clear hK K hHeld
  try simp only [List.getElem_toArray, List.getElem_cons_succ, List.getElem_cons_zero, Act.put, List.setIfInBounds_toArray, List.set_cons_zero, List.set_cons_succ]
  have hHeld := tc3
  refine wpAnyH_ready (rs := [13]) (by kernel_rfl) (by simp) ?_; refine AllReadyH.cons rfl (fun K hK => ?_) AllReadyH.nil; (try simp only [List.getElem_toArray, List.getElem_cons_succ, List.getElem_cons_zero]); go_simp
  refine (CB4.out _ _ rc3).mono ?_; rintro r wc4 ⟨rfl, rc4, kc4⟩
  dsimp only at rc4 ⊢
  have gc4 := grown_transW gc3 kc4
  have tc4 := rd_stays kc4 tc3 (by omega)
  refine hK.out _ _ tc4 (fun _ => ?_)
  clear hK K hHeld
  try simp only [List.getElem_toArray, List.getElem_cons_succ, List.getElem_cons_zero, Act.put, List.setIfInBounds_toArray, List.set_cons_zero, List.set_cons_succ]
  have hHeld := tc4
  have hA9 := rd_stays gc4 HAn2.out (by omega)
  have kA := block_cells hA9
  have fA := block_free hA9
  refine wpAnyH_take (i := 14) (v := ?_) rfl (by kernel_rfl) (by kernel_rfl) (by kernel_rfl) (fun _ _ _ h => h) (Or.inl ⟨by rfl, ?_⟩) hHeld ?_
  rotate_left
  · (intro wz hSw; (try dsimp only at hSw); (try simp only [List.getElem_toArray, List.getElem_cons_succ, List.getElem_cons_zero]); go_simp; try with_reducible rfl)
  try simp only [List.getElem_toArray, List.getElem_cons_succ, List.getElem_cons_zero, Act.put, List.setIfInBounds_toArray, List.set_cons_zero, List.set_cons_succ]
  refine wpAnyH_take (i := 15) (v := ?_) rfl (by kernel_rfl) (by kernel_rfl) (by kernel_rfl) (fun _ _ _ h => h) (Or.inl ⟨by rfl, ?_⟩) hHeld ?_
  rotate_left
  · (intro wz hSw; (try dsimp only at hSw); (try simp only [List.getElem_toArray, List.getElem_cons_succ, List.getElem_cons_zero]); go_simp; try with_reducible rfl)
  try simp only [List.getElem_toArray, List.getElem_cons_succ, List.getElem_cons_zero, Act.put, List.setIfInBounds_toArray, List.set_cons_zero, List.set_cons_succ]
  refine wpAnyH_ready (rs := [16]) (by kernel_rfl) (by simp) ?_; refine AllReadyH.cons rfl (fun K hK => ?_) AllReadyH.nil; (try simp only [List.getElem_toArray, List.getElem_cons_succ, List.getElem_cons_zero]); go_simp
  have hzF := putL_mid [.int .u16 z1, .int .u16 z2, .int .u16 z3, .int .i64 e1, .int .i64 k1] [.int .u16 0, .int .u16 0, .int .u16 0, .int .i64 0, .int .i64 0] [] [.int .u16 0, .int .u16 0, .int .u16 0, .int .i64 0, .int .i64 0] hA9 rfl
  have hTF := (putL_far (g := A) (k := G0) (by omega) [.int .u16 z1, .int .u16 z2, .int .u16 z3, .int .i64 e1, .int .i64 k1] 0 wc4).trans tc4
  have hbF := putL_gr (g := A) (w0 := W) hAW [.int .u16 z1, .int .u16 z2, .int .u16 z3, .int .i64 e1, .int .i64 k1] 0 (grown_transW Qn2.out gc4)
  have hrF := putL_rf (g := A) (R := R) hRA [.int .u16 z1, .int .u16 z2, .int .u16 z3, .int .i64 e1, .int .i64 k1] 0 rc4.r
  obtain ⟨Wr0, ewr⟩ : ∃ x : World, putL A 0 [.int .u16 z1, .int .u16 z2, .int .u16 z3, .int .i64 e1, .int .i64 k1] wc4 = x := ⟨_, rfl⟩
  have HAr0 : Hid (Wr0.heap[A]? = some (.cells #[.int .u16 z1, .int .u16 z2, .int .u16 z3, .int .i64 e1, .int .i64 k1, .int .u16 0, .int .u16 0, .int .u16 0, .int .i64 0, .int .i64 0] 140 (0, 0))) := by show _ = _; rw [← ewr]; exact hzF
  rw [ewr] at hTF hbF hrF
  simp only [putL, Nat.reduceAdd, Nat.zero_add] at ewr
  rw [ewr]
  refine hK.out _ _ hTF (fun _ => ?_)
  clear hK K hHeld kA fA kG
  try simp only [List.getElem_toArray, List.getElem_cons_succ, List.getElem_cons_zero, Act.put, List.setIfInBounds_toArray, List.set_cons_zero, List.set_cons_succ]
  refine wpAnyH_done (by kernel_rfl) ?_ _
  have HRr0 : Hid (RfW B Wr0 R X5 b5) := ⟨hrF, rc4.o, rc4.l⟩
  have Qr0 := Lib.hid hbF
  clear hzF hTF hbF hrF ewr hA9 t0 g0 r0 rc3 kc3 gc3 tc3 CB3 rc4 kc4 gc4 tc4 CB4 HRn2 HAn2 Qn2 HGn2
  go_wp2_with fail
  rw [rounds_succ]
  go_upto_block 2 with fail
  obtain ⟨V1, hV⟩ : ∃ x : World, Wr0.alloc (.cells #[.int .u64 0, .int .u64 0, .int .u64 0] 141) = x := ⟨_, rfl⟩
  have bV : Below Wr0.heap.size Wr0 V1 := by rw [← hV]; exact (Below.refl _ _).alloc (Nat.le_refl _) _
  have hG : V1.heap[Wr0.heap.size]? = some (.cells #[.int .u64 0, .int .u64 0, .int .u64 0] 141 (0, 0)) := by rw [← hV]; exact heap_last Wr0 _
  have hAG : A < Wr0.heap.size := block_lt HAr0.out
  have HRw1 := Lib.hid (HRr0.out.keep bV (Nat.le_refl _))
  have HAw1 := Lib.hid (below_block bV (block_lt HAr0.out) HAr0.out)
  have Qw1 := Lib.hid (grown_transW Qr0.out (grown_belowW bV (grown_refl _ (some R))))
  rw [hV]
  obtain ⟨G1, eG⟩ : ∃ n, Wr0.heap.size = n := ⟨_, rfl⟩
  rw [eG] at hG hAG ⊢
  have HGw1 := Lib.hid hG
  clear hV bV hG eG HRr0 HAr0 Qr0
  have hRG1 : R < G1 := by omega
  have hWG1 : W.heap.size ≤ G1 := by omega
  go_wp2_with fail
  refine wp_loop_rounds 4 ?_
  rw [rounds_succ]
  go_wp2_with fail
  refine (CB5.out _ _ HRw1.out).mono ?_; rintro e wq5 ⟨pq, cq, rfl, hs, -, hq, gq⟩
  dsimp only at hs hq ⊢
  have HG5 := Lib.hid (rd_stays gq HGw1.out (by omega))
  have HA5 := Lib.hid (rd_stays gq HAw1.out (by omega))
  have hQ5 := grown_transW Qw1.out gq
  have CGet := Lib.hid (CG5.out pq cq _ hs)
  have kg := block_cells HG5.out
  have fg := block_free HG5.out
  obtain ⟨wn5, ewn⟩ : ∃ x : World, wq5.setCell ⟨G1, 0, none⟩ (.int .u64 z4) = x := ⟨_, rfl⟩
  have HGn5 : Hid (wn5.heap[G1]? = some (.cells #[.int .u64 z4, .int .u64 0, .int .u64 0] 141 (0, 0))) := by show _ = _; rw [← ewn]; exact (cells_setW HG5.out 0 (.int .u64 z4)).trans rfl
  have HAn5 : Hid (wn5.heap[A]? = some (.cells #[.int .u16 z1, .int .u16 z2, .int .u16 z3, .int .i64 e1, .int .i64 k1, .int .u16 0, .int .u16 0, .int .u16 0, .int .i64 0, .int .i64 0] 140 (0, 0))) := by show _ = _; rw [← ewn]; exact (Below.heap_setCell wq5 ⟨G1, 0, none⟩ (.int .u64 z4) A (by show A ≠ G1; omega)).trans HA5.out
  have HRn5 : Hid (RfW B wn5 R X6 b6) := by show RfW _ _ _ _ _; rw [← ewn]; exact ⟨hq.r.setFar (by omega) _, hq.o, hq.l⟩
  have Qn5 : Hid (W.grownBy wn5 (some R)) := by show World.grownBy _ _ _; rw [← ewn]; exact grown_setFar hQ5 hWG1
  have HEW := Lib.hid ewn
  clear hs hq gq hQ5 ewn
  go_wp2_with fail
  refine CGet.out.mono ?_; rintro e w' ⟨rfl, rfl⟩
  go_wp2_with fail
  rw [HEW.out, rounds_succ]
  clear CGet HG5 HA5 kg fg HEW HRw1 HAw1 Qw1 HGw1 CB5 CG5
  go_wp2_with fail
  refine (CB6.out _ _ HRn5.out).mono ?_; rintro e wq6 ⟨pq, cq, rfl, hs, -, hq, gq⟩
  dsimp only at hs hq ⊢
  have HG6 := Lib.hid (rd_stays gq HGn5.out (by omega))
  have HA6 := Lib.hid (rd_stays gq HAn5.out (by omega))
  have hQ6 := grown_transW Qn5.out gq
  have CGet := Lib.hid (CG6.out pq cq _ hs)
  have kg := block_cells HG6.out
  have fg := block_free HG6.out
  obtain ⟨wn6, ewn⟩ : ∃ x : World, wq6.setCell ⟨G1, 1, none⟩ (.int .u64 z5) = x := ⟨_, rfl⟩
  have HGn6 : Hid (wn6.heap[G1]? = some (.cells #[.int .u64 z4, .int .u64 z5, .int .u64 0] 141 (0, 0))) := by show _ = _; rw [← ewn]; exact (cells_setW HG6.out 1 (.int .u64 z5)).trans rfl
  have HAn6 : Hid (wn6.heap[A]? = some (.cells #[.int .u16 z1, .int .u16 z2, .int .u16 z3, .int .i64 e1, .int .i64 k1, .int .u16 0, .int .u16 0, .int .u16 0, .int .i64 0, .int .i64 0] 140 (0, 0))) := by show _ = _; rw [← ewn]; exact (Below.heap_setCell wq6 ⟨G1, 1, none⟩ (.int .u64 z5) A (by show A ≠ G1; omega)).trans HA6.out
  have HRn6 : Hid (RfW B wn6 R X7 b7) := by show RfW _ _ _ _ _; rw [← ewn]; exact ⟨hq.r.setFar (by omega) _, hq.o, hq.l⟩
  have Qn6 : Hid (W.grownBy wn6 (some R)) := by show World.grownBy _ _ _; rw [← ewn]; exact grown_setFar hQ6 hWG1
  have HEW := Lib.hid ewn
  clear hs hq gq hQ6 ewn
  go_wp2_with fail
  refine CGet.out.mono ?_; rintro e w' ⟨rfl, rfl⟩
  go_wp2_with fail
  rw [HEW.out, rounds_succ]
  clear CGet HG6 HA6 kg fg HEW HRn5 HAn5 Qn5 HGn5 CB6 CG6
  go_wp2_with fail
  refine (CB7.out _ _ HRn6.out).mono ?_; rintro e wq7 ⟨pq, cq, rfl, hs, -, hq, gq⟩
  dsimp only at hs hq ⊢
  have HG7 := Lib.hid (rd_stays gq HGn6.out (by omega))
  have HA7 := Lib.hid (rd_stays gq HAn6.out (by omega))
  have hQ7 := grown_transW Qn6.out gq
  have CGet := Lib.hid (CG7.out pq cq _ hs)
  have kg := block_cells HG7.out
  have fg := block_free HG7.out
  obtain ⟨wn7, ewn⟩ : ∃ x : World, wq7.setCell ⟨G1, 2, none⟩ (.int .u64 z6) = x := ⟨_, rfl⟩
  have HGn7 : Hid (wn7.heap[G1]? = some (.cells #[.int .u64 z4, .int .u64 z5, .int .u64 z6] 141 (0, 0))) := by show _ = _; rw [← ewn]; exact (cells_setW HG7.out 2 (.int .u64 z6)).trans rfl
  have HAn7 : Hid (wn7.heap[A]? = some (.cells #[.int .u16 z1, .int .u16 z2, .int .u16 z3, .int .i64 e1, .int .i64 k1, .int .u16 0, .int .u16 0, .int .u16 0, .int .i64 0, .int .i64 0] 140 (0, 0))) := by show _ = _; rw [← ewn]; exact (Below.heap_setCell wq7 ⟨G1, 2, none⟩ (.int .u64 z6) A (by show A ≠ G1; omega)).trans HA7.out
  have HRn7 : Hid (RfW B wn7 R X8 b8) := by show RfW _ _ _ _ _; rw [← ewn]; exact ⟨hq.r.setFar (by omega) _, hq.o, hq.l⟩
  have Qn7 : Hid (W.grownBy wn7 (some R)) := by show World.grownBy _ _ _; rw [← ewn]; exact grown_setFar hQ7 hWG1
  have HEW := Lib.hid ewn
  clear hs hq gq hQ7 ewn
  go_wp2_with fail
  refine CGet.out.mono ?_; rintro e w' ⟨rfl, rfl⟩
  go_wp2_with fail
  rw [HEW.out, rounds_succ]
  clear CGet HG7 HA7 kg fg HEW HRn6 HAn6 Qn6 HGn6 CB7 CG7
  go_upto_region 11 with fail
  have t0 : wn7.drew.heap[G1]? = some (.cells #[.int .u64 z4, .int .u64 z5, .int .u64 z6] 141 (0, 0)) := HGn7.out
  have g0 : wn7.grownBy wn7.drew (some R) := grown_drewW (grown_refl _ _)
  have r0 := HRn7.out.drew
  refine wp_region_held_drew (S := fun w' => w'.heap[G1]? = some (.cells #[.int .u64 z4, .int .u64 z5, .int .u64 z6] 141 (0, 0))) (by kernel_rfl) t0 (fun hHeld => ?_)
  obtain ⟨wd, ewd⟩ : ∃ x, wn7.drew = x := ⟨_, rfl⟩
  rw [ewd] at t0 g0 r0 hHeld ⊢
  clear ewd
  have kG : ∀ w' : World, w'.heap[G1]? = some (.cells #[.int .u64 z4, .int .u64 z5, .int .u64 z6] 141 (0, 0)) → ∀ j, w'.cell? ⟨G1, j, none⟩ = #[.int .u64 z4, .int .u64 z5, .int .u64 z6][j]? := fun w' h => block_cells h
  refine wpAnyH_take (i := 0) (v := ?_) rfl (by kernel_rfl) (by kernel_rfl) (by kernel_rfl) (fun _ _ _ h => h) (Or.inl ⟨by rfl, ?_⟩) hHeld ?_
  rotate_left
  · (intro wz hSw; (try dsimp only at hSw); (try simp only [List.getElem_toArray, List.getElem_cons_zero]); go_simp; try with_reducible rfl)
  try simp only [List.getElem_toArray, List.getElem_cons_zero, Act.put, List.setIfInBounds_toArray, List.set_cons_zero, List.set_cons_succ]
  refine wpAnyH_take (i := 1) (v := ?_) rfl (by kernel_rfl) (by kernel_rfl) (by kernel_rfl) (fun _ _ _ h => h) (Or.inl ⟨by rfl, ?_⟩) hHeld ?_
  rotate_left
  · (intro wz hSw; (try dsimp only at hSw); (try simp only [List.getElem_toArray, List.getElem_cons_succ, List.getElem_cons_zero]); go_simp; try with_reducible rfl)
  try simp only [List.getElem_toArray, List.getElem_cons_succ, List.getElem_cons_zero, Act.put, List.setIfInBounds_toArray, List.set_cons_zero, List.set_cons_succ]
  refine wpAnyH_take (i := 2) (v := ?_) rfl (by kernel_rfl) (by kernel_rfl) (by kernel_rfl) (fun _ _ _ h => h) (Or.inl ⟨by rfl, ?_⟩) hHeld ?_
  rotate_left
  · (intro wz hSw; (try dsimp only at hSw); (try simp only [List.getElem_toArray, List.getElem_cons_succ, List.getElem_cons_zero]); go_simp; try with_reducible rfl)
  try simp only [List.getElem_toArray, List.getElem_cons_succ, List.getElem_cons_zero, Act.put, List.setIfInBounds_toArray, List.set_cons_zero, List.set_cons_succ]
  refine wpAnyH_take (i := 3) (v := ?_) rfl (by kernel_rfl) (by kernel_rfl) (by kernel_rfl) (fun _ _ _ h => h) (Or.inl ⟨by rfl, ?_⟩) hHeld ?_
  rotate_left
  · (intro wz hSw; (try dsimp only at hSw); (try simp only [List.getElem_toArray, List.getElem_cons_succ, List.getElem_cons_zero]); go_simp; try with_reducible rfl)
  try simp only [List.getElem_toArray, List.getElem_cons_succ, List.getElem_cons_zero, Act.put, List.setIfInBounds_toArray, List.set_cons_zero, List.set_cons_succ]
  refine wpAnyH_take (i := 4) (v := ?_) rfl (by kernel_rfl) (by kernel_rfl) (by kernel_rfl) (fun _ _ _ h => h) (Or.inl ⟨by rfl, ?_⟩) hHeld ?_
  rotate_left
  · (intro wz hSw; (try dsimp only at hSw); (try simp only [List.getElem_toArray, List.getElem_cons_succ, List.getElem_cons_zero]); go_simp; try with_reducible rfl)
  try simp only [List.getElem_toArray, List.getElem_cons_succ, List.getElem_cons_zero, Act.put, List.setIfInBounds_toArray, List.set_cons_zero, List.set_cons_succ]
  refine wpAnyH_take (i := 5) (v := ?_) rfl (by kernel_rfl) (by kernel_rfl) (by kernel_rfl) (fun _ _ _ h => h) (Or.inl ⟨by rfl, ?_⟩) hHeld ?_
  rotate_left
  · (intro wz hSw; (try dsimp only at hSw); (try simp only [List.getElem_toArray, List.getElem_cons_succ, List.getElem_cons_zero]); go_simp; try with_reducible rfl)
  try simp only [List.getElem_toArray, List.getElem_cons_succ, List.getElem_cons_zero, Act.put, List.setIfInBounds_toArray, List.set_cons_zero, List.set_cons_succ]
  refine wpAnyH_take (i := 6) (v := ?_) rfl (by kernel_rfl) (by kernel_rfl) (by kernel_rfl) (fun _ _ _ h => h) (Or.inl ⟨by rfl, ?_⟩) hHeld ?_
  rotate_left
  · (intro wz hSw; (try dsimp only at hSw); (try simp only [List.getElem_toArray, List.getElem_cons_succ, List.getElem_cons_zero]); go_simp; try with_reducible rfl)
  try simp only [List.getElem_toArray, List.getElem_cons_succ, List.getElem_cons_zero, Act.put, List.setIfInBounds_toArray, List.set_cons_zero, List.set_cons_succ]
  refine wpAnyH_take (i := 7) (v := ?_) rfl (by kernel_rfl) (by kernel_rfl) (by kernel_rfl) (fun _ _ _ h => h) (Or.inl ⟨by rfl, ?_⟩) hHeld ?_
  rotate_left
  · (intro wz hSw; (try dsimp only at hSw); (try simp only [List.getElem_toArray, List.getElem_cons_succ, List.getElem_cons_zero]); go_simp; try with_reducible rfl)
  try simp only [List.getElem_toArray, List.getElem_cons_succ, List.getElem_cons_zero, Act.put, List.setIfInBounds_toArray, List.set_cons_zero, List.set_cons_succ]
  refine wpAnyH_take (i := 8) (v := ?_) rfl (by kernel_rfl) (by kernel_rfl) (by kernel_rfl) (fun _ _ _ h => h) (Or.inl ⟨by rfl, ?_⟩) hHeld ?_
  rotate_left
  · (intro wz hSw; (try dsimp only at hSw); (try simp only [List.getElem_toArray, List.getElem_cons_succ, List.getElem_cons_zero]); go_simp; try with_reducible rfl)
  try simp only [List.getElem_toArray, List.getElem_cons_succ, List.getElem_cons_zero, Act.put, List.setIfInBounds_toArray, List.set_cons_zero, List.set_cons_succ]
  refine wpAnyH_take (i := 9) (v := ?_) rfl (by kernel_rfl) (by kernel_rfl) (by kernel_rfl) (fun _ _ _ h => h) (Or.inl ⟨by rfl, ?_⟩) hHeld ?_
  rotate_left
  · (intro wz hSw; (try dsimp only at hSw); (try simp only [List.getElem_toArray, List.getElem_cons_succ, List.getElem_cons_zero]); go_simp; try with_reducible rfl)
  try simp only [List.getElem_toArray, List.getElem_cons_succ, List.getElem_cons_zero, Act.put, List.setIfInBounds_toArray, List.set_cons_zero, List.set_cons_succ]
  refine wpAnyH_take (i := 10) (v := ?_) rfl (by kernel_rfl) (by kernel_rfl) (by kernel_rfl) (fun _ _ _ h => h) (Or.inl ⟨by rfl, ?_⟩) hHeld ?_
  rotate_left
  · (intro wz hSw; (try dsimp only at hSw); (try simp only [List.getElem_toArray, List.getElem_cons_succ, List.getElem_cons_zero]); go_simp; try with_reducible rfl)
  try simp only [List.getElem_toArray, List.getElem_cons_succ, List.getElem_cons_zero, Act.put, List.setIfInBounds_toArray, List.set_cons_zero, List.set_cons_succ]
  refine wpAnyH_take (i := 12) (v := ?_) rfl (by kernel_rfl) (by kernel_rfl) (by kernel_rfl) (fun _ _ _ h => h) (Or.inl ⟨by rfl, ?_⟩) hHeld ?_
  rotate_left
  · (intro wz hSw; (try dsimp only at hSw); (try simp only [List.getElem_toArray, List.getElem_cons_succ, List.getElem_cons_zero]); go_simp; try with_reducible rfl)
  try simp only [List.getElem_toArray, List.getElem_cons_succ, List.getElem_cons_zero, Act.put, List.setIfInBounds_toArray, List.set_cons_zero, List.set_cons_succ]
  refine wpAnyH_ready (rs := [11]) (by kernel_rfl) (by simp) ?_; refine AllReadyH.cons rfl (fun K hK => ?_) AllReadyH.nil; (try simp only [List.getElem_toArray, List.getElem_cons_succ, List.getElem_cons_zero]); go_simp
  refine (CB8.out _ _ r0).mono ?_; rintro r wc8 ⟨rfl, rc8, kc8⟩
  dsimp only at rc8 ⊢
  have gc8 := grown_transW g0 kc8
  have tc8 := rd_stays kc8 t0 (by omega)
  refine hK.out _ _ tc8 (fun _ => ?_)
  clear hK K hHeld
  try simp only [List.getElem_toArray, List.getElem_cons_succ, List.getElem_cons_zero, Act.put, List.setIfInBounds_toArray, List.set_cons_zero, List.set_cons_succ]
  have hHeld := tc8
  refine wpAnyH_ready (rs := [13]) (by kernel_rfl) (by simp) ?_; refine AllReadyH.cons rfl (fun K hK => ?_) AllReadyH.nil; (try simp only [List.getElem_toArray, List.getElem_cons_succ, List.getElem_cons_zero]); go_simp
  refine (CB9.out _ _ rc8).mono ?_; rintro r wc9 ⟨rfl, rc9, kc9⟩
  dsimp only at rc9 ⊢
  have gc9 := grown_transW gc8 kc9
  have tc9 := rd_stays kc9 tc8 (by omega)
  refine hK.out _ _ tc9 (fun _ => ?_)
  clear hK K hHeld
  try simp only [List.getElem_toArray, List.getElem_cons_succ, List.getElem_cons_zero, Act.put, List.setIfInBounds_toArray, List.set_cons_zero, List.set_cons_succ]
  have hHeld := tc9
  have hA9 := rd_stays gc9 HAn7.out (by omega)
  have kA := block_cells hA9
  have fA := block_free hA9
  refine wpAnyH_take (i := 14) (v := ?_) rfl (by kernel_rfl) (by kernel_rfl) (by kernel_rfl) (fun _ _ _ h => h) (Or.inl ⟨by rfl, ?_⟩) hHeld ?_
  rotate_left
  · (intro wz hSw; (try dsimp only at hSw); (try simp only [List.getElem_toArray, List.getElem_cons_succ, List.getElem_cons_zero]); go_simp; try with_reducible rfl)
  try simp only [List.getElem_toArray, List.getElem_cons_succ, List.getElem_cons_zero, Act.put, List.setIfInBounds_toArray, List.set_cons_zero, List.set_cons_succ]
  refine wpAnyH_take (i := 15) (v := ?_) rfl (by kernel_rfl) (by kernel_rfl) (by kernel_rfl) (fun _ _ _ h => h) (Or.inl ⟨by rfl, ?_⟩) hHeld ?_
  rotate_left
  · (intro wz hSw; (try dsimp only at hSw); (try simp only [List.getElem_toArray, List.getElem_cons_succ, List.getElem_cons_zero]); go_simp; try with_reducible rfl)
  try simp only [List.getElem_toArray, List.getElem_cons_succ, List.getElem_cons_zero, Act.put, List.setIfInBounds_toArray, List.set_cons_zero, List.set_cons_succ]
  refine wpAnyH_ready (rs := [16]) (by kernel_rfl) (by simp) ?_; refine AllReadyH.cons rfl (fun K hK => ?_) AllReadyH.nil; (try simp only [List.getElem_toArray, List.getElem_cons_succ, List.getElem_cons_zero]); go_simp
  have hzF := putL_mid [.int .u16 z4, .int .u16 z5, .int .u16 z6, .int .i64 e2, .int .i64 k2] [.int .u16 0, .int .u16 0, .int .u16 0, .int .i64 0, .int .i64 0] [.int .u16 z1, .int .u16 z2, .int .u16 z3, .int .i64 e1, .int .i64 k1] [] hA9 rfl
  have hTF := (putL_far (g := A) (k := G1) (by omega) [.int .u16 z4, .int .u16 z5, .int .u16 z6, .int .i64 e2, .int .i64 k2] 5 wc9).trans tc9
  have hbF := putL_gr (g := A) (w0 := W) hAW [.int .u16 z4, .int .u16 z5, .int .u16 z6, .int .i64 e2, .int .i64 k2] 5 (grown_transW Qn7.out gc9)
  have hrF := putL_rf (g := A) (R := R) hRA [.int .u16 z4, .int .u16 z5, .int .u16 z6, .int .i64 e2, .int .i64 k2] 5 rc9.r
  obtain ⟨Wr1, ewr⟩ : ∃ x : World, putL A 5 [.int .u16 z4, .int .u16 z5, .int .u16 z6, .int .i64 e2, .int .i64 k2] wc9 = x := ⟨_, rfl⟩
  have HAr1 : Hid (Wr1.heap[A]? = some (.cells #[.int .u16 z1, .int .u16 z2, .int .u16 z3, .int .i64 e1, .int .i64 k1, .int .u16 z4, .int .u16 z5, .int .u16 z6, .int .i64 e2, .int .i64 k2] 140 (0, 0))) := by show _ = _; rw [← ewr]; exact hzF
  rw [ewr] at hTF hbF hrF
  simp only [putL, Nat.reduceAdd] at ewr
  rw [ewr]
  refine hK.out _ _ hTF (fun _ => ?_)
  clear hK K hHeld kA fA kG
  try simp only [List.getElem_toArray, List.getElem_cons_succ, List.getElem_cons_zero, Act.put, List.setIfInBounds_toArray, List.set_cons_zero, List.set_cons_succ]
  refine wpAnyH_done (by kernel_rfl) ?_ _
  have HRr1 : Hid (RfW B Wr1 R X10 b10) := ⟨hrF, rc9.o, rc9.l⟩
  have Qr1 := Lib.hid hbF
  clear hzF hTF hbF hrF ewr hA9 t0 g0 r0 rc8 kc8 gc8 tc8 CB8 rc9 kc9 gc9 tc9 CB9 HRn7 HAn7 Qn7 HGn7
  go_wp2_with fail
  rw [rounds_succ]
  go_upto_region 12 with fail
  have t0 : Wr1.drew.heap[A]? = some (.cells #[.int .u16 z1, .int .u16 z2, .int .u16 z3, .int .i64 e1, .int .i64 k1, .int .u16 z4, .int .u16 z5, .int .u16 z6, .int .i64 e2, .int .i64 k2] 140 (0, 0)) := HAr1.out
  have g0 : Wr1.grownBy Wr1.drew (some R) := grown_drewW (grown_refl _ _)
  have r0 := HRr1.out.drew
  refine wp_region_held_drew (S := fun w' => w'.heap[A]? = some (.cells #[.int .u16 z1, .int .u16 z2, .int .u16 z3, .int .i64 e1, .int .i64 k1, .int .u16 z4, .int .u16 z5, .int .u16 z6, .int .i64 e2, .int .i64 k2] 140 (0, 0))) (by kernel_rfl) t0 (fun hHeld => ?_)
  obtain ⟨wd, ewd⟩ : ∃ x, Wr1.drew = x := ⟨_, rfl⟩
  rw [ewd] at t0 g0 r0 hHeld ⊢
  clear ewd
  have kA : ∀ w' : World, w'.heap[A]? = some (.cells #[.int .u16 z1, .int .u16 z2, .int .u16 z3, .int .i64 e1, .int .i64 k1, .int .u16 z4, .int .u16 z5, .int .u16 z6, .int .i64 e2, .int .i64 k2] 140 (0, 0)) → ∀ j, w'.cell? ⟨A, j, none⟩ = #[.int .u16 z1, .int .u16 z2, .int .u16 z3, .int .i64 e1, .int .i64 k1, .int .u16 z4, .int .u16 z5, .int .u16 z6, .int .i64 e2, .int .i64 k2][j]? := fun w' h => block_cells h
  refine wpAnyH_take (i := 0) (v := ?_) rfl (by kernel_rfl) (by kernel_rfl) (by kernel_rfl) (fun _ _ _ h => h) (Or.inl ⟨by rfl, ?_⟩) hHeld ?_
  rotate_left
  · (intro wz hSw; (try dsimp only at hSw); (try simp only [List.getElem_toArray, List.getElem_cons_zero]); go_simp; try with_reducible rfl)
  try simp only [List.getElem_toArray, List.getElem_cons_zero, Act.put, List.setIfInBounds_toArray, List.set_cons_zero, List.set_cons_succ]
  refine wpAnyH_take (i := 1) (v := ?_) rfl (by kernel_rfl) (by kernel_rfl) (by kernel_rfl) (fun _ _ _ h => h) (Or.inl ⟨by rfl, ?_⟩) hHeld ?_
  rotate_left
  · (intro wz hSw; (try dsimp only at hSw); (try simp only [List.getElem_toArray, List.getElem_cons_succ, List.getElem_cons_zero]); go_simp; try with_reducible rfl)
  try simp only [List.getElem_toArray, List.getElem_cons_succ, List.getElem_cons_zero, Act.put, List.setIfInBounds_toArray, List.set_cons_zero, List.set_cons_succ]
  refine wpAnyH_take (i := 2) (v := ?_) rfl (by kernel_rfl) (by kernel_rfl) (by kernel_rfl) (fun _ _ _ h => h) (Or.inl ⟨by rfl, ?_⟩) hHeld ?_
  rotate_left
  · (intro wz hSw; (try dsimp only at hSw); (try simp only [List.getElem_toArray, List.getElem_cons_succ, List.getElem_cons_zero]); go_simp; try with_reducible rfl)
  try simp only [List.getElem_toArray, List.getElem_cons_succ, List.getElem_cons_zero, Act.put, List.setIfInBounds_toArray, List.set_cons_zero, List.set_cons_succ]
  refine wpAnyH_take (i := 3) (v := ?_) rfl (by kernel_rfl) (by kernel_rfl) (by kernel_rfl) (fun _ _ _ h => h) (Or.inl ⟨by rfl, ?_⟩) hHeld ?_
  rotate_left
  · (intro wz hSw; (try dsimp only at hSw); (try simp only [List.getElem_toArray, List.getElem_cons_succ, List.getElem_cons_zero]); go_simp; try with_reducible rfl)
  try simp only [List.getElem_toArray, List.getElem_cons_succ, List.getElem_cons_zero, Act.put, List.setIfInBounds_toArray, List.set_cons_zero, List.set_cons_succ]
  refine wpAnyH_take (i := 4) (v := ?_) rfl (by kernel_rfl) (by kernel_rfl) (by kernel_rfl) (fun _ _ _ h => h) (Or.inl ⟨by rfl, ?_⟩) hHeld ?_
  rotate_left
  · (intro wz hSw; (try dsimp only at hSw); (try simp only [List.getElem_toArray, List.getElem_cons_succ, List.getElem_cons_zero]); go_simp; try with_reducible rfl)
  try simp only [List.getElem_toArray, List.getElem_cons_succ, List.getElem_cons_zero, Act.put, List.setIfInBounds_toArray, List.set_cons_zero, List.set_cons_succ]
  clear hHeld
  apply cutJ (R := fun J w' => wd.grownBy w' (some R) ∧ RfW B w' R X11 b11 ∧ w'.heap[J]? = some (.cells #[.int .u16 0, .int .u16 0, .int .u16 0, .int .i64 0, .int .i64 0, .int .u16 0, .int .u16 0, .int .u16 0, .int .i64 0, .int .i64 0, .bool false] 42 (0, 0)) ∧ wd.heap.size ≤ J)
  · intro hcut
    have hHeld := t0
    refine wpAnyH_ready (rs := [5, 7]) (by kernel_rfl) (by simp) ?_
    refine AllReadyH.cons rfl (fun K hK => ?_) (AllReadyH.cons rfl (fun K hK => ?_) AllReadyH.nil)
    · skip
      try simp only [List.getElem_toArray, List.getElem_cons_succ, List.getElem_cons_zero]
      go_simp
      refine (CB10.out _ _ r0).mono ?_; rintro r w1 ⟨rfl, r1, k1'⟩
      dsimp only at r1 ⊢
      have t1 := rd_stays k1' t0 (by omega)
      refine hK.out _ _ t1 (fun _ => ?_)
      clear hK K hHeld
      try simp only [List.getElem_toArray, List.getElem_cons_succ, List.getElem_cons_zero, Act.put, List.setIfInBounds_toArray, List.set_cons_zero, List.set_cons_succ]
      have hHeld := t1
      refine wpAnyH_take (i := 6) (v := ?_) rfl (by kernel_rfl) (by kernel_rfl) (by kernel_rfl) (fun _ _ _ h => h) (Or.inl ⟨by rfl, ?_⟩) hHeld ?_
      rotate_left
      · (intro wz hSw; (try dsimp only at hSw); (try simp only [List.getElem_toArray, List.getElem_cons_succ, List.getElem_cons_zero]); go_simp; try with_reducible rfl)
      try simp only [List.getElem_toArray, List.getElem_cons_succ, List.getElem_cons_zero, Act.put, List.setIfInBounds_toArray, List.set_cons_zero, List.set_cons_succ]
      refine wpAnyH_ready (rs := [7]) (by kernel_rfl) (by simp) ?_; refine AllReadyH.cons rfl (fun K hK => ?_) AllReadyH.nil; (try simp only [List.getElem_toArray, List.getElem_cons_succ, List.getElem_cons_zero]); go_simp
      obtain ⟨w2, ew⟩ : ∃ x : World, w1.alloc (.cells #[.int .u16 0, .int .u16 0, .int .u16 0, .int .i64 0, .int .i64 0, .int .u16 0, .int .u16 0, .int .u16 0, .int .i64 0, .int .i64 0, .bool false] 42) = x := ⟨_, rfl⟩
      have bl : Below w1.heap.size w1 w2 := by rw [← ew]; exact (Below.refl _ _).alloc (Nat.le_refl _) _
      have hj : w2.heap[w1.heap.size]? = some (.cells #[.int .u16 0, .int .u16 0, .int .u16 0, .int .i64 0, .int .i64 0, .int .u16 0, .int .u16 0, .int .u16 0, .int .i64 0, .int .i64 0, .bool false] 42 (0, 0)) := by rw [← ew]; exact heap_last w1 _
      rw [ew]
      have t2 := below_block bl (block_lt t1) t1
      have hsz := k1'.size
      obtain ⟨J, eJ⟩ : ∃ n, w1.heap.size = n := ⟨_, rfl⟩
      have r2 := r1.keep bl (Nat.le_refl _)
      have g2 := grown_transW k1' (grown_belowW bl (grown_refl _ (some R)))
      try rw [eJ]
      rw [eJ] at hj hsz
      refine hK.out _ _ t2 (fun _ => ?_)
      clear hK K hHeld ew
      try simp only [List.getElem_toArray, List.getElem_cons_succ, List.getElem_cons_zero, Act.put, List.setIfInBounds_toArray, List.set_cons_zero, List.set_cons_succ]
      exact hcut J w2 ⟨g2, r2, hj, hsz⟩
    · skip
      try simp only [List.getElem_toArray, List.getElem_cons_succ, List.getElem_cons_zero]
      go_simp
      obtain ⟨w1, ew⟩ : ∃ x : World, wd.alloc (.cells #[.int .u16 0, .int .u16 0, .int .u16 0, .int .i64 0, .int .i64 0, .int .u16 0, .int .u16 0, .int .u16 0, .int .i64 0, .int .i64 0, .bool false] 42) = x := ⟨_, rfl⟩
      have bl : Below wd.heap.size wd w1 := by rw [← ew]; exact (Below.refl _ _).alloc (Nat.le_refl _) _
      have hj : w1.heap[wd.heap.size]? = some (.cells #[.int .u16 0, .int .u16 0, .int .u16 0, .int .i64 0, .int .i64 0, .int .u16 0, .int .u16 0, .int .u16 0, .int .i64 0, .int .i64 0, .bool false] 42 (0, 0)) := by rw [← ew]; exact heap_last wd _
      rw [ew]
      have t1 := below_block bl (block_lt t0) t0
      have hRd := r0.lt
      obtain ⟨J, eJ⟩ : ∃ n, wd.heap.size = n := ⟨_, rfl⟩
      have r1 := r0.keep bl (Nat.le_refl _)
      have g1 : wd.grownBy w1 (some R) := grown_belowW bl (grown_refl _ (some R))
      try rw [eJ]
      rw [eJ] at hj hRd
      refine hK.out _ _ t1 (fun _ => ?_)
      clear hK K hHeld ew
      try simp only [List.getElem_toArray, List.getElem_cons_succ, List.getElem_cons_zero, Act.put, List.setIfInBounds_toArray, List.set_cons_zero, List.set_cons_succ]
      have hHeld := t1
      refine wpAnyH_ready (rs := [5]) (by kernel_rfl) (by simp) ?_; refine AllReadyH.cons rfl (fun K hK => ?_) AllReadyH.nil; (try simp only [List.getElem_toArray, List.getElem_cons_succ, List.getElem_cons_zero]); go_simp
      refine (CB10.out _ _ r1).mono ?_; rintro r w2 ⟨rfl, r2, k2'⟩
      dsimp only at r2 ⊢
      have t2 := rd_stays k2' t1 (by omega)
      refine hK.out _ _ t2 (fun _ => ?_)
      clear hK K hHeld
      try simp only [List.getElem_toArray, List.getElem_cons_succ, List.getElem_cons_zero, Act.put, List.setIfInBounds_toArray, List.set_cons_zero, List.set_cons_succ]
      have hHeld := t2
      refine wpAnyH_take (i := 6) (v := ?_) rfl (by kernel_rfl) (by kernel_rfl) (by kernel_rfl) (fun _ _ _ h => h) (Or.inl ⟨by rfl, ?_⟩) hHeld ?_
      rotate_left
      · (intro wz hSw; (try dsimp only at hSw); (try simp only [List.getElem_toArray, List.getElem_cons_succ, List.getElem_cons_zero]); go_simp; try with_reducible rfl)
      try simp only [List.getElem_toArray, List.getElem_cons_succ, List.getElem_cons_zero, Act.put, List.setIfInBounds_toArray, List.set_cons_zero, List.set_cons_succ]
      exact hcut J w2 ⟨grown_transW g1 k2', r2, rd_stays k2' hj (by omega), by omega⟩
  intro J w3 hR3
  obtain ⟨g3, r3, hj3, hJs⟩ := hR3
  have hAd := block_lt t0
  have hHeld := rd_stays g3 t0 (by omega)
  have kg := block_cells hj3
  have fg := block_free hj3
  refine wpAnyH_ready (rs := [8]) (by kernel_rfl) (by simp) ?_; refine AllReadyH.cons rfl (fun K hK => ?_) AllReadyH.nil; (try simp only [List.getElem_toArray, List.getElem_cons_succ, List.getElem_cons_zero]); go_simp
  have hzF := putL_at hj3 [.int .u16 z1, .int .u16 z2, .int .u16 z3, .int .i64 e1, .int .i64 k1, .int .u16 z4, .int .u16 z5, .int .u16 z6, .int .i64 e2, .int .i64 k2, .bool fl] rfl
  have hTF := (putL_far (g := J) (k := A) (by omega) [.int .u16 z1, .int .u16 z2, .int .u16 z3, .int .i64 e1, .int .i64 k1, .int .u16 z4, .int .u16 z5, .int .u16 z6, .int .i64 e2, .int .i64 k2, .bool fl] 0 w3).trans (rd_stays g3 t0 (by omega))
  have hbF := putL_gr (g := J) (w0 := W) (by omega) [.int .u16 z1, .int .u16 z2, .int .u16 z3, .int .i64 e1, .int .i64 k1, .int .u16 z4, .int .u16 z5, .int .u16 z6, .int .i64 e2, .int .i64 k2, .bool fl] 0 (grown_transW Qr1.out (grown_transW g0 g3))
  have hrF := putL_rf (g := J) (R := R) (by omega) [.int .u16 z1, .int .u16 z2, .int .u16 z3, .int .i64 e1, .int .i64 k1, .int .u16 z4, .int .u16 z5, .int .u16 z6, .int .i64 e2, .int .i64 k2, .bool fl] 0 r3.r
  obtain ⟨w4, ew4⟩ : ∃ x : World, putL J 0 [.int .u16 z1, .int .u16 z2, .int .u16 z3, .int .i64 e1, .int .i64 k1, .int .u16 z4, .int .u16 z5, .int .u16 z6, .int .i64 e2, .int .i64 k2, .bool fl] w3 = x := ⟨_, rfl⟩
  rw [ew4] at hTF hbF hrF
  have HJ4 : Hid (w4.heap[J]? = some (.cells #[.int .u16 z1, .int .u16 z2, .int .u16 z3, .int .i64 e1, .int .i64 k1, .int .u16 z4, .int .u16 z5, .int .u16 z6, .int .i64 e2, .int .i64 k2, .bool fl] 42 (0, 0))) := by show _ = _; rw [← ew4]; exact hzF
  simp only [putL, Nat.reduceAdd, Nat.zero_add] at ew4
  rw [ew4]
  refine hK.out _ _ hTF (fun _ => ?_)
  clear hK K hHeld kg fg kA
  try simp only [List.getElem_toArray, List.getElem_cons_succ, List.getElem_cons_zero, Act.put, List.setIfInBounds_toArray, List.set_cons_zero, List.set_cons_succ]
  refine wpAnyH_done (by kernel_rfl) ?_ _
  have hJB : J ≠ B := by omega
  have hJR : R < J := by omega
  have HZ4 := Lib.hid (rd_stays hbF HZ.out (by omega))
  have HB4 := Lib.hid (HB1.out.grown hbF (by have := HB1.out.size; have := HEB.out; omega) (fun k hk => by cases hk; omega))
  obtain ⟨-, pr, cr, hRr, -⟩ := hrF
  have HRR := Lib.hid hRr
  clear hzF hTF hbF ew4 g3 r3 hj3 t0 g0 r0 HRr1 HAr1 Qr1 CB10 HZ HB1 hRr
  have kR := block_cells HRR.out
  have kz := block_cells HZ4.out
  have fz := block_free HZ4.out
  cases b11 with
  | true =>
    have HNO : Hid (∀ j ys, JoF j → encJo j ++ ys ≠ X0) := fun j ys hj e => by
      have hc := rfJo_ok.compl j ys hj
      rw [e, HRD.out] at hc
      simp at hc
    go_wp2_with fail
    have hzF := putL_at HZ4.out [.int .u16 0, .int .u16 0, .int .u16 0, .int .i64 0, .int .i64 0, .int .u16 0, .int .u16 0, .int .u16 0, .int .i64 0, .int .i64 0, .bool false] rfl
    have hbF := putL_bel (g := B) (Nat.le_refl B) [.int .u16 0, .int .u16 0, .int .u16 0, .int .i64 0, .int .i64 0, .int .u16 0, .int .u16 0, .int .u16 0, .int .i64 0, .int .i64 0, .bool false] 0 HB4.out
    simp only [putL, Nat.reduceAdd, Nat.zero_add] at hzF hbF
    have kF := block_cells hzF
    refine bodyPost_ret (v := .tuple #[.agg #[.int .u16 0, .int .u16 0, .int .u16 0, .int .i64 0, .int .i64 0, .int .u16 0, .int .u16 0, .int .u16 0, .int .i64 0, .int .i64 0, .bool false], .int .i64 0, .int .i64 9]) ?_ rfl ⟨by rw [HEB.out]; exact hbF, .inr ⟨HNO.out, rfl⟩⟩
    simp [results, Try.results85, go_sem, kF]
  | false =>
    obtain ⟨hjf, hxe⟩ := rfJo_ok.sound X0 _ _ HOC.out HRD.out
    have HX := Lib.hid (And.intro hjf hxe)
    have hd : (X0.length : Int) - (X11.length : Int) = ((encJo ⟨⟨z1, z2, z3, e1, k1⟩, ⟨z4, z5, z6, e2, k2⟩, fl⟩).length : Int) := by rw [hxe, List.length_append]; omega
    have HD := Lib.hid hd
    have hw : IntKind.i64.wrap ((X0.length : Int) - (X11.length : Int)) = (X0.length : Int) - (X11.length : Int) := by have := HLN.out; rw [IntKind.wrap_i64]; omega
    clear hd hjf hxe
    go_upto_region 15 with fail
    clear kR kz fz
    have kR : ∀ w' : World, (w'.heap[J]? = some (.cells #[.int .u16 z1, .int .u16 z2, .int .u16 z3, .int .i64 e1, .int .i64 k1, .int .u16 z4, .int .u16 z5, .int .u16 z6, .int .i64 e2, .int .i64 k2, .bool fl] 42 (0, 0)) ∧ w'.heap[R]? = some (.cells #[.slice pr X11.length cr, .bool false] 77 (0, 0))) → ∀ j, w'.cell? ⟨R, j, none⟩ = #[.slice pr X11.length cr, .bool false][j]? := fun w' h => block_cells h.2
    have kz : ∀ w' : World, (w'.heap[J]? = some (.cells #[.int .u16 z1, .int .u16 z2, .int .u16 z3, .int .i64 e1, .int .i64 k1, .int .u16 z4, .int .u16 z5, .int .u16 z6, .int .i64 e2, .int .i64 k2, .bool fl] 42 (0, 0)) ∧ w'.heap[R]? = some (.cells #[.slice pr X11.length cr, .bool false] 77 (0, 0))) → ∀ j, w'.cell? ⟨J, j, none⟩ = #[.int .u16 z1, .int .u16 z2, .int .u16 z3, .int .i64 e1, .int .i64 k1, .int .u16 z4, .int .u16 z5, .int .u16 z6, .int .i64 e2, .int .i64 k2, .bool fl][j]? := fun w' h => block_cells h.1
    have t0 : w4.drew.heap[J]? = some (.cells #[.int .u16 z1, .int .u16 z2, .int .u16 z3, .int .i64 e1, .int .i64 k1, .int .u16 z4, .int .u16 z5, .int .u16 z6, .int .i64 e2, .int .i64 k2, .bool fl] 42 (0, 0)) ∧ w4.drew.heap[R]? = some (.cells #[.slice pr X11.length cr, .bool false] 77 (0, 0)) := ⟨HJ4.out, HRR.out⟩
    have hZd : w4.drew.heap[B]? = some (.cells #[.int .u16 0, .int .u16 0, .int .u16 0, .int .i64 0, .int .i64 0, .int .u16 0, .int .u16 0, .int .u16 0, .int .i64 0, .int .i64 0, .bool false] 42 (0, 0)) := HZ4.out
    have hbd : Below B w w4.drew := HB4.out.drew
    refine wp_region_held_drew (S := fun w' => w'.heap[J]? = some (.cells #[.int .u16 z1, .int .u16 z2, .int .u16 z3, .int .i64 e1, .int .i64 k1, .int .u16 z4, .int .u16 z5, .int .u16 z6, .int .i64 e2, .int .i64 k2, .bool fl] 42 (0, 0)) ∧ w'.heap[R]? = some (.cells #[.slice pr X11.length cr, .bool false] 77 (0, 0))) (by kernel_rfl) t0 (fun hHeld => ?_)
    obtain ⟨wd2, ewd⟩ : ∃ x, w4.drew = x := ⟨_, rfl⟩
    rw [ewd] at t0 hHeld hbd hZd ⊢
    clear ewd
    refine wpAnyH_take (i := 0) (v := ?_) rfl (by kernel_rfl) (by kernel_rfl) (by kernel_rfl) (fun _ _ _ h => h) (Or.inl ⟨by rfl, ?_⟩) hHeld ?_
    rotate_left
    · (intro wz hSw; (try dsimp only at hSw); (try simp only [List.getElem_toArray, List.getElem_cons_zero]); go_simp; try with_reducible rfl)
    try simp only [List.getElem_toArray, List.getElem_cons_zero, Act.put, List.setIfInBounds_toArray, List.set_cons_zero, List.set_cons_succ]
    refine wpAnyH_take (i := 1) (v := ?_) rfl (by kernel_rfl) (by kernel_rfl) (by kernel_rfl) (fun _ _ _ h => h) (Or.inl ⟨by rfl, ?_⟩) hHeld ?_
    rotate_left
    · (intro wz hSw; (try dsimp only at hSw); (try simp only [List.getElem_toArray, List.getElem_cons_succ, List.getElem_cons_zero]); go_simp; try with_reducible rfl)
    try simp only [List.getElem_toArray, List.getElem_cons_succ, List.getElem_cons_zero, Act.put, List.setIfInBounds_toArray, List.set_cons_zero, List.set_cons_succ]
    refine wpAnyH_take (i := 2) (v := ?_) rfl (by kernel_rfl) (by kernel_rfl) (by kernel_rfl) (fun _ _ _ h => h) (Or.inl ⟨by rfl, ?_⟩) hHeld ?_
    rotate_left
    · (intro wz hSw; (try dsimp only at hSw); (try simp only [List.getElem_toArray, List.getElem_cons_succ, List.getElem_cons_zero]); go_simp; try with_reducible rfl)
    try simp only [List.getElem_toArray, List.getElem_cons_succ, List.getElem_cons_zero, Act.put, List.setIfInBounds_toArray, List.set_cons_zero, List.set_cons_succ]
    refine wpAnyH_take (i := 3) (v := ?_) rfl (by kernel_rfl) (by kernel_rfl) (by kernel_rfl) (fun _ _ _ h => h) (Or.inl ⟨by rfl, ?_⟩) hHeld ?_
    rotate_left
    · (intro wz hSw; (try dsimp only at hSw); (try simp only [List.getElem_toArray, List.getElem_cons_succ, List.getElem_cons_zero]); go_simp; try with_reducible rfl)
    try simp only [List.getElem_toArray, List.getElem_cons_succ, List.getElem_cons_zero, Act.put, List.setIfInBounds_toArray, List.set_cons_zero, List.set_cons_succ]
    refine wpAnyH_take (i := 4) (v := ?_) rfl (by kernel_rfl) (by kernel_rfl) (by kernel_rfl) (fun _ _ _ h => h) (Or.inl ⟨by rfl, ?_⟩) hHeld ?_
    rotate_left
    · (intro wz hSw; (try dsimp only at hSw); (try simp only [List.getElem_toArray, List.getElem_cons_succ, List.getElem_cons_zero]); go_simp; try with_reducible rfl)
    try simp only [List.getElem_toArray, List.getElem_cons_succ, List.getElem_cons_zero, Act.put, List.setIfInBounds_toArray, List.set_cons_zero, List.set_cons_succ]
    refine wpAnyH_take (i := 5) (v := ?_) rfl (by kernel_rfl) (by kernel_rfl) (by kernel_rfl) (fun _ _ _ h => h) (Or.inl ⟨by rfl, ?_⟩) hHeld ?_
    rotate_left
    · (intro wz hSw; (try dsimp only at hSw); (try simp only [List.getElem_toArray, List.getElem_cons_succ, List.getElem_cons_zero]); go_simp; try with_reducible rfl)
    try simp only [List.getElem_toArray, List.getElem_cons_succ, List.getElem_cons_zero, Act.put, List.setIfInBounds_toArray, List.set_cons_zero, List.set_cons_succ]
    refine wpAnyH_take (i := 6) (v := ?_) rfl (by kernel_rfl) (by kernel_rfl) (by kernel_rfl) (fun _ _ _ h => h) (Or.inl ⟨by rfl, ?_⟩) hHeld ?_
    rotate_left
    · (intro wz hSw; (try dsimp only at hSw); (try simp only [List.getElem_toArray, List.getElem_cons_succ, List.getElem_cons_zero]); go_simp; try with_reducible rfl)
    try simp only [List.getElem_toArray, List.getElem_cons_succ, List.getElem_cons_zero, Act.put, List.setIfInBounds_toArray, List.set_cons_zero, List.set_cons_succ]
    refine wpAnyH_take (i := 7) (v := ?_) rfl (by kernel_rfl) (by kernel_rfl) (by kernel_rfl) (fun _ _ _ h => h) (Or.inl ⟨by rfl, ?_⟩) hHeld ?_
    rotate_left
    · (intro wz hSw; (try dsimp only at hSw); (try simp only [List.getElem_toArray, List.getElem_cons_succ, List.getElem_cons_zero]); go_simp; try with_reducible rfl)
    try simp only [List.getElem_toArray, List.getElem_cons_succ, List.getElem_cons_zero, Act.put, List.setIfInBounds_toArray, List.set_cons_zero, List.set_cons_succ]
    refine wpAnyH_take (i := 8) (v := ?_) rfl (by kernel_rfl) (by kernel_rfl) (by kernel_rfl) (fun _ _ _ h => h) (Or.inl ⟨by rfl, ?_⟩) hHeld ?_
    rotate_left
    · (intro wz hSw; (try dsimp only at hSw); (try simp only [List.getElem_toArray, List.getElem_cons_succ, List.getElem_cons_zero]); go_simp; try with_reducible rfl)
    try simp only [List.getElem_toArray, List.getElem_cons_succ, List.getElem_cons_zero, Act.put, List.setIfInBounds_toArray, List.set_cons_zero, List.set_cons_succ]
    have kg := block_cells hZd
    have fg := block_free hZd
    refine wpAnyH_ready (rs := [9]) (by kernel_rfl) (by simp) ?_; refine AllReadyH.cons rfl (fun K hK => ?_) AllReadyH.nil; (try simp only [List.getElem_toArray, List.getElem_cons_succ, List.getElem_cons_zero]); go_simp
    have hzF := putL_at hZd [.int .u16 z1, .int .u16 z2, .int .u16 z3, .int .i64 e1, .int .i64 k1, .int .u16 z4, .int .u16 z5, .int .u16 z6, .int .i64 e2, .int .i64 k2, .bool fl] rfl
    have hbF := putL_bel (g := B) (Nat.le_refl B) [.int .u16 z1, .int .u16 z2, .int .u16 z3, .int .i64 e1, .int .i64 k1, .int .u16 z4, .int .u16 z5, .int .u16 z6, .int .i64 e2, .int .i64 k2, .bool fl] 0 hbd
    have hRF := (putL_far (g := B) (k := R) (by omega) [.int .u16 z1, .int .u16 z2, .int .u16 z3, .int .i64 e1, .int .i64 k1, .int .u16 z4, .int .u16 z5, .int .u16 z6, .int .i64 e2, .int .i64 k2, .bool fl] 0 wd2).trans t0.2
    have hJF := (putL_far (g := B) (k := J) (by omega) [.int .u16 z1, .int .u16 z2, .int .u16 z3, .int .i64 e1, .int .i64 k1, .int .u16 z4, .int .u16 z5, .int .u16 z6, .int .i64 e2, .int .i64 k2, .bool fl] 0 wd2).trans t0.1
    simp only [putL, Nat.reduceAdd, Nat.zero_add] at hzF hbF hRF hJF
    refine hK.out _ _ ⟨hJF, hRF⟩ (fun _ => ?_)
    clear hK K hHeld kg fg
    try simp only [List.getElem_toArray, List.getElem_cons_succ, List.getElem_cons_zero, Act.put, List.setIfInBounds_toArray, List.set_cons_zero, List.set_cons_succ]
    have hHeld := And.intro hJF hRF
    refine wpAnyH_take (i := 10) (v := ?_) rfl (by kernel_rfl) (by kernel_rfl) (by kernel_rfl) (fun _ _ _ h => h) (Or.inl ⟨by rfl, ?_⟩) hHeld ?_
    rotate_left
    · (intro wz hSw; (try dsimp only at hSw); (try simp only [List.getElem_toArray, List.getElem_cons_succ, List.getElem_cons_zero]); go_simp; try with_reducible rfl)
    try simp only [List.getElem_toArray, List.getElem_cons_succ, List.getElem_cons_zero, Act.put, List.setIfInBounds_toArray, List.set_cons_zero, List.set_cons_succ]
    refine wpAnyH_take (i := 11) (v := ?_) rfl (by kernel_rfl) (by kernel_rfl) (by kernel_rfl) (fun _ _ _ h => h) (Or.inl ⟨by rfl, ?_⟩) hHeld ?_
    rotate_left
    · (intro wz hSw; (try dsimp only at hSw); (try simp only [List.getElem_toArray, List.getElem_cons_succ, List.getElem_cons_zero]); go_simp; try with_reducible rfl)
    try simp only [List.getElem_toArray, List.getElem_cons_succ, List.getElem_cons_zero, Act.put, List.setIfInBounds_toArray, List.set_cons_zero, List.set_cons_succ]
    refine wpAnyH_done (by kernel_rfl) ?_ _
    have kF := block_cells hzF
    go_wp2_with fail
    refine bodyPost_ret (v := .tuple #[.agg #[.int .u16 z1, .int .u16 z2, .int .u16 z3, .int .i64 e1, .int .i64 k1, .int .u16 z4, .int .u16 z5, .int .u16 z6, .int .i64 e2, .int .i64 k2, .bool fl], .int .i64 ((X0.length : Int) - (X11.length : Int)), .int .i64 0]) ?_ rfl ⟨by rw [HEB.out]; exact hbF, .inl ⟨⟨⟨z1, z2, z3, e1, k1⟩, ⟨z4, z5, z6, e2, k2⟩, fl⟩, X11, HX.out.2.symm, HX.out.1, by rw [HD.out]⟩⟩
    simp [results, Try.results85, go_sem, kF]
end Go.Proofs.Ytjaabakobpabjaa
