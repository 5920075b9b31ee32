/- Wire: package wire's readers of lists of outcomes, of cells. -/
import Derived.Test.YtmhmlpfkdpjlaaaPlainRd2
namespace Go.Proofs.Ytmhmlpfkdpjlaaa
open Go.ChangeShapes Go.WideShapes Go.ChangeAt Go.RowKit

theorem own_form {w : World} {base : Nat} {e : TypeId} {size n : Nat} {v : Value} {xs : List Value} (h : w.ownsRow base e size v n xs) : ∃ p c, v = .slice p n c := by
  rcases h.2 with ⟨rfl, rfl⟩ | ⟨g, cap, cur, rfl, -⟩
  · exact ⟨_, _, rfl⟩
  · exact ⟨_, _, rfl⟩
set_option maxRecDepth 100000 in
set_option maxHeartbeats 4000000 in
theorem routsW_any (B R : Nat) (xs : List Int) (b : Bool) (w : World) (h : RdW B w R xs b) :
    Calls Try.prog 74 #[.pointer (some ⟨R, 0, none⟩)] w fun e w' => ∃ v, e = .returned v ∧ w'.ownsRow w.heap.size 83 7 v (rdL rdOu xs b).1.length (ouR (rdL rdOu xs b).1) ∧ RdW B w' R (rdL rdOu xs b).2.1 (rdL rdOu xs b).2.2 ∧ w.grownBy w' (some R) := by
  have H := Lib.hid h
  have hR := h.lt
  have hmf : ∀ (fn : Fn) (first cap : Array Value) (w : World), (Instr.makeFunc fn first cap).run Try.prog w = .ok (.func fn first cap) w := fun _ _ _ _ => rfl
  clear h
  go_enter Try.func74, Try.ntmps74
  go_upto_region 1 with fail
  obtain ⟨Wa, hWa⟩ : ∃ x : World, w.alloc (.cells #[.pointer (some ⟨R, 0, none⟩)] 99) = x := ⟨_, rfl⟩
  obtain ⟨W, hW⟩ : ∃ x : World, Wa.alloc (.cells #[.slice none 0 0] 31) = x := ⟨_, rfl⟩
  have sa : Wa.heap.size = w.heap.size + 1 := by rw [← hWa]; simp
  have sw : W.heap.size = w.heap.size + 1 + 1 := by rw [← hW]; simp; omega
  have ba : Below w.heap.size w Wa := by rw [← hWa]; exact (Below.refl _ _).alloc (Nat.le_refl _) _
  have bb : Below Wa.heap.size Wa W := by rw [← hW]; exact (Below.refl _ _).alloc (Nat.le_refl _) _
  have hT : W.heap[w.heap.size]? = some (.cells #[.pointer (some ⟨R, 0, none⟩)] 99 (0, 0)) := below_block bb (by omega) (by rw [← hWa]; exact heap_last w _)
  have hG : W.heap[w.heap.size + 1]? = some (.cells #[.slice none 0 0] 31 (0, 0)) := by rw [← hW, ← sa]; exact heap_last Wa _
  have bw := ba.trans (bb.mono (by omega))
  have HW := Lib.hid (H.out.keep bw (Nat.le_refl _))
  have P : LsP w.heap.size R w.heap.size (w.heap.size + 1) (w.heap.size + 1 + 1) := ⟨by omega, hR, by omega, by omega, by omega, by omega⟩
  have J0 : LsJ B R w.heap.size (w.heap.size + 1) (w.heap.size + 1 + 1) w W (fun v => #[v]) 31 83 7 ouR [] W := ⟨⟨.slice none 0 0, hG, ⟨rfl, .inl ⟨rfl, rfl⟩⟩⟩, hT, grown_below bw _, by omega, fun _ _ _ _ => rfl⟩
  have HL := Lib.hid (rlist_gen B R 101 #[.pointer (some ⟨w.heap.size + 1, 0, none⟩), .pointer (some ⟨w.heap.size, 0, none⟩)] (fun _ => rfl) rdOu rdOu_len (LsJ B R w.heap.size (w.heap.size + 1) (w.heap.size + 1 + 1) w W (fun v => #[v]) 31 83 7 ouR) xs b W HW.out (fun w' hg => J0.row P hg) (fun acc ys b' w' hl hr hj => outsOu_any B R w.heap.size (w.heap.size + 1) (w.heap.size + 1 + 1) w W acc ys b' w' P hl hr hj))
  rw [hWa, hW]
  have kT := block_cells hT
  obtain ⟨N, eN⟩ : ∃ n, w.heap.size = n := ⟨_, rfl⟩
  have HN := Lib.hid eN
  rw [eN] at HL kT ⊢
  clear hWa hW sa sw ba bb hT hG bw HW P J0 hR eN
  go_wp2_with fail
  refine HL.out.mono ?_; rintro e w1 ⟨rfl, r1, ⟨⟨v, hg, ho⟩, ht, hb, hz, -⟩⟩
  obtain ⟨p, c, rfl⟩ := own_form ho
  have HR1 := Lib.hid r1; have HO := Lib.hid ho; have HB := Lib.hid hb; have HG := Lib.hid hg
  have kg := block_cells hg
  have fg := block_free hg
  clear r1 ho hb hg ht kT HL
  go_wp2_with fail
  have hGB := (cells_setW HG.out 0 (.slice p (rdL rdOu xs b).1.length c)).trans rfl
  have kF := block_cells hGB
  have hoB := HO.out.kept (grown_set w1 (N + 1) 0 (.slice p (rdL rdOu xs b).1.length c)) (by
    cases e : (Value.slice p (rdL rdOu xs b).1.length c).ownBlock with
    | none => exact .inl rfl
    | some x => exact .inr fun h => by have := (HO.out.lt x e).1; simp only [Option.some.injEq] at h; omega)
  have hRN := H.out.lt
  refine bodyPost_ret (v := .slice p (rdL rdOu xs b).1.length c) ?_ rfl ⟨_, rfl, hoB.mono (by rw [HN.out]; omega), ⟨HR1.out.r.setFar (by rw [HN.out] at hRN; omega) _, HR1.out.o, HR1.out.l⟩, grown_setFar HB.out (by rw [HN.out]; omega)⟩
  simp [results, Try.results74, go_sem, kF]
theorem rdOpt_no {α : Type} {f : List Int → Bool → α × List Int × Bool} {xs ys : List Int} {b b1 : Bool} (h : rdFw xs b = (false, ys, b1)) : rdOpt f xs b = (none, ys, b1) := by unfold rdOpt; rw [h]; rfl
theorem rdOpt_yes {α : Type} {f : List Int → Bool → α × List Int × Bool} {xs ys zs : List Int} {b b1 b2 : Bool} {a : α} (h : rdFw xs b = (true, ys, b1)) (h2 : f ys b1 = (a, zs, b2)) : rdOpt f xs b = (some a, zs, b2) := by unfold rdOpt; rw [h]; simp only [if_true, h2]
set_option maxRecDepth 100000 in
set_option maxHeartbeats 16000000 in
theorem rcellW_any (B R : Nat) (xs : List Int) (b : Bool) (w : World) (h : RdW B w R xs b) :
    Calls Try.prog 73 #[.pointer (some ⟨R, 0, none⟩)] w fun e w' => ∃ p c, e = .returned (.agg #[.string (rdCe xs b).1.k, .slice p (rdCe xs b).1.vs.length c, .bool (rdCe xs b).1.lk, .int .i64 (rdCe xs b).1.yn, .int .i64 (rdCe xs b).1.yl, .int .i64 (rdCe xs b).1.ys, .int .i64 (rdCe xs b).1.ya, .int .i64 (rdCe xs b).1.hm, .int .i64 (rdCe xs b).1.sw, .int .i64 (rdCe xs b).1.st, .bool (rdCe xs b).1.lr, .string (rdCe xs b).1.ld]) ∧ w'.ownsRow w.heap.size 78 4 (.slice p (rdCe xs b).1.vs.length c) (rdCe xs b).1.vs.length (veR (rdCe xs b).1.vs) ∧ RdW B w' R (rdCe xs b).2.1 (rdCe xs b).2.2 ∧ w.grownBy w' (some R) := by
  have H := Lib.hid h
  have hR := h.lt
  have hmf : ∀ (fn : Fn) (first cap : Array Value) (w : World), (Instr.makeFunc fn first cap).run Try.prog w = .ok (.func fn first cap) w := fun _ _ _ _ => rfl
  clear h
  obtain ⟨⟨k, X1, b1⟩, hr1⟩ : ∃ r, rdTw xs b = r := ⟨_, rfl⟩
  obtain ⟨⟨vs, X2, b2⟩, hr2⟩ : ∃ r, rdL rdVe X1 b1 = r := ⟨_, rfl⟩
  obtain ⟨⟨f, X3, b3⟩, hr3⟩ : ∃ r, rdFw X2 b2 = r := ⟨_, rfl⟩
  have C1 : Hid (∀ w', RdW B w' R xs b → Calls Try.prog 63 #[.pointer (some ⟨R, 0, none⟩)] w' fun e w'' => e = .returned (.string k) ∧ RdW B w'' R X1 b1 ∧ w'.grownBy w'' (some R)) := fun w' h => by
    have := rtext_any B R xs b w' h; rw [hr1] at this; exact this
  have C3 : Hid (∀ w', RdW B w' R X2 b2 → Calls Try.prog 60 #[.pointer (some ⟨R, 0, none⟩)] w' fun e w'' => e = .returned (.bool f) ∧ RdW B w'' R X3 b3 ∧ w'.grownBy w'' (some R)) := fun w' h => by
    have := rflagE B R X2 b2 w' h; rw [hr3] at this; exact this
  have HR1 := Lib.hid hr1; have HR2 := Lib.hid hr2; have HR3 := Lib.hid hr3
  clear hr1 hr2 hr3
  go_enter Try.func73, Try.ntmps73
  go_upto_region 1 with fail
  obtain ⟨Wa, hWa⟩ : ∃ x : World, w.alloc (.cells #[.pointer (some ⟨R, 0, none⟩)] 99) = x := ⟨_, rfl⟩
  obtain ⟨W, hW⟩ : ∃ x : World, Wa.alloc (.cells #[.string ⟨#[]⟩, .slice none 0 0, .bool false, .int .i64 0, .int .i64 0, .int .i64 0, .int .i64 0, .int .i64 0, .int .i64 0, .int .i64 0, .bool false, .string ⟨#[]⟩] 75) = x := ⟨_, rfl⟩
  have sa : Wa.heap.size = w.heap.size + 1 := by rw [← hWa]; simp
  have sw : W.heap.size = w.heap.size + 1 + 1 := by rw [← hW]; simp; omega
  have ba : Below w.heap.size w Wa := by rw [← hWa]; exact (Below.refl _ _).alloc (Nat.le_refl _) _
  have bb : Below Wa.heap.size Wa W := by rw [← hW]; exact (Below.refl _ _).alloc (Nat.le_refl _) _
  have hT : W.heap[w.heap.size]? = some (.cells #[.pointer (some ⟨R, 0, none⟩)] 99 (0, 0)) := below_block bb (by omega) (by rw [← hWa]; exact heap_last w _)
  have hZ : W.heap[w.heap.size + 1]? = some (.cells #[.string ⟨#[]⟩, .slice none 0 0, .bool false, .int .i64 0, .int .i64 0, .int .i64 0, .int .i64 0, .int .i64 0, .int .i64 0, .int .i64 0, .bool false, .string ⟨#[]⟩] 75 (0, 0)) := by rw [← hW, ← sa]; exact heap_last Wa _
  have bw := ba.trans (bb.mono (by omega))
  have HW := Lib.hid (H.out.keep bw (Nat.le_refl _))
  have HB0 := Lib.hid (show w.grownBy W (some R) from grown_below bw _)
  have HT := Lib.hid hT; have HZ := Lib.hid hZ
  rw [hWa, hW]
  have kT := block_cells hT
  obtain ⟨N, eN⟩ : ∃ n, w.heap.size = n := ⟨_, rfl⟩
  have HN := Lib.hid eN
  rw [eN] at kT HT HZ hR sw ⊢
  clear hWa hW sa ba bb hT hZ bw eN
  go_wp2_with fail
  refine (C1.out _ HW.out).mono ?_; rintro e w1 ⟨rfl, r1, k1⟩
  have HT1 := Lib.hid (rd_stays k1 HT.out (by omega))
  have hNW : N + 2 ≤ W.heap.size := by omega
  have HB1 := Lib.hid k1; have HW1 := Lib.hid r1
  have s1 := k1.size
  clear r1 k1 kT HT HW C1 sw
  go_upto_region 2 with fail
  obtain ⟨V, hV⟩ : ∃ x : World, w1.alloc (.cells #[.string k, .slice none 0 0, .bool false, .int .i64 0, .int .i64 0, .int .i64 0, .int .i64 0, .int .i64 0, .int .i64 0, .int .i64 0, .bool false, .string ⟨#[]⟩] 75) = x := ⟨_, rfl⟩
  have bv : Below w1.heap.size w1 V := by rw [← hV]; exact (Below.refl _ _).alloc (Nat.le_refl _) _
  have hG : V.heap[w1.heap.size]? = some (.cells #[.string k, .slice none 0 0, .bool false, .int .i64 0, .int .i64 0, .int .i64 0, .int .i64 0, .int .i64 0, .int .i64 0, .int .i64 0, .bool false, .string ⟨#[]⟩] 75 (0, 0)) := by rw [← hV]; exact heap_last w1 _
  have sv : V.heap.size = w1.heap.size + 1 := by rw [← hV]; simp
  rw [hV]
  obtain ⟨g, eg⟩ : ∃ n, w1.heap.size = n := ⟨_, rfl⟩
  have hTV := below_block bv (block_lt HT1.out) HT1.out
  have HBV := Lib.hid (grown_transW HB1.out (grown_below bv (some R)))
  have HWV := Lib.hid (HW1.out.keep bv (Nat.le_refl _))
  rw [eg] at hG sv s1 ⊢
  have P : LsP W.heap.size R N g (g + 1) := ⟨s1, by omega, by omega, by omega, by omega, by omega⟩
  have J0 : LsJ B R N g (g + 1) W V (fun v => #[.string k, v, .bool false, .int .i64 0, .int .i64 0, .int .i64 0, .int .i64 0, .int .i64 0, .int .i64 0, .int .i64 0, .bool false, .string ⟨#[]⟩]) 75 78 4 veR [] V := ⟨⟨.slice none 0 0, hG, ⟨rfl, .inl ⟨rfl, rfl⟩⟩⟩, hTV, HBV.out, by omega, fun _ _ _ _ => rfl⟩
  have hL := rlist_gen B R 100 #[.pointer (some ⟨g, 0, none⟩), .pointer (some ⟨N, 0, none⟩)] (fun _ => rfl) rdVe rdVe_len (LsJ B R N g (g + 1) W V (fun v => #[.string k, v, .bool false, .int .i64 0, .int .i64 0, .int .i64 0, .int .i64 0, .int .i64 0, .int .i64 0, .int .i64 0, .bool false, .string ⟨#[]⟩]) 75 78 4 veR) X1 b1 V HWV.out (fun w' hg => J0.row P hg) (fun acc ys b' w' hl hr hj => cellVe_any B R N g (g + 1) W V _ _ _ _ _ _ _ _ _ _ _ acc ys b' w' P hl hr hj)
  rw [HR2.out] at hL
  dsimp only at hL
  have HL := Lib.hid hL
  have kT := block_cells hTV
  have hgW : W.heap.size ≤ g := s1
  clear hL J0 P hG bv hV hTV HBV HWV HB1 HW1 HT1 s1 sv
  go_wp2_with fail
  refine HL.out.mono ?_; rintro e w2 ⟨rfl, r2, ⟨⟨v, hg2, ho2⟩, ht2, hb2, hz2, -⟩⟩
  obtain ⟨p, c, rfl⟩ := own_form ho2
  have HO2 := Lib.hid ho2; have HB2 := Lib.hid hb2; have HG2 := Lib.hid hg2; have HT2 := Lib.hid ht2; have HW2 := Lib.hid r2
  clear r2 ho2 hb2 hg2 kT HL
  have kT := block_cells HT2.out
  go_wp2_with fail
  refine (C3.out _ HW2.out).mono ?_; rintro e w3 ⟨rfl, r3, k3⟩
  have hgN : g ≠ R := by omega
  have HG3 := Lib.hid (rd_stays k3 HG2.out hgN)
  have HT3 := Lib.hid (rd_stays k3 HT2.out (by omega))
  have HO3 := Lib.hid (HO2.out.kept k3 (by
    cases e : (Value.slice p vs.length c).ownBlock with
    | none => exact .inl rfl
    | some x => exact .inr fun h => by have := (HO2.out.lt x e).1; simp only [Option.some.injEq] at h; omega))
  have HB3 := Lib.hid (grown_transW HB2.out k3); have HW3 := Lib.hid r3
  have kg := block_cells HG3.out
  have fg := block_free HG3.out
  clear r3 k3 kT HG2 HT2 HO2 HB2 HW2 C3
  cases f with
  | false =>
    have HRD : Hid (rdCe xs b = (⟨k, vs, false, 0, 0, 0, 0, 0, 0, 0, false, ⟨#[]⟩⟩, X3, b3)) := rdMap_is (rd2_is HR1.out (rd2_is HR2.out (rdOpt_no HR3.out)))
    go_upto_region 6 with fail
    obtain ⟨w4, ew4⟩ : ∃ x : World, w3.setCell ⟨g, 2, none⟩ (.bool false) = x := ⟨_, rfl⟩
    have hG4 : w4.heap[g]? = some (.cells #[.string k, .slice p vs.length c, .bool false, .int .i64 0, .int .i64 0, .int .i64 0, .int .i64 0, .int .i64 0, .int .i64 0, .int .i64 0, .bool false, .string ⟨#[]⟩] 75 (0, 0)) := by rw [← ew4]; exact (cells_setW HG3.out 2 (.bool false)).trans rfl
    have HZ4 := Lib.hid (show w4.heap[N + 1]? = some (.cells #[.string ⟨#[]⟩, .slice none 0 0, .bool false, .int .i64 0, .int .i64 0, .int .i64 0, .int .i64 0, .int .i64 0, .int .i64 0, .int .i64 0, .bool false, .string ⟨#[]⟩] 75 (0, 0)) from by rw [← ew4]; exact (Below.heap_setCell w3 ⟨g, 2, none⟩ (.bool false) (N + 1) (by show N + 1 ≠ g; omega)).trans (rd_stays HB3.out HZ.out (by omega)))
    have HB4 : Hid (w.grownBy w4 (some R)) := by
      show World.grownBy _ _ _; rw [← ew4]; exact grown_setFar (grown_transW HB0.out HB3.out) (by rw [HN.out]; omega)
    have HW4 : Hid (RdW B w4 R X3 b3) := by
      show RdW _ _ _ _ _; rw [← ew4]; exact ⟨HW3.out.r.setFar (by omega) _, HW3.out.o, HW3.out.l⟩
    have HO4 : Hid (w4.ownsRow (g + 1) 78 4 (.slice p vs.length c) vs.length (veR vs)) := by
      show World.ownsRow _ _ _ _ _ _ _; rw [← ew4]; exact HO3.out.kept (grown_set w3 g 2 (.bool false)) (by
        cases e : (Value.slice p vs.length c).ownBlock with
        | none => exact .inl rfl
        | some x => exact .inr fun h => by have := (HO3.out.lt x e).1; simp only [Option.some.injEq] at h; omega)
    rw [ew4]
    have HG4 := Lib.hid hG4
    clear ew4 hG4 kg fg HB3 HW3 HO3 HG3 HT3 HZ HB0
    have kg := block_cells HG4.out
    have kz := block_cells HZ4.out
    have fz := block_free HZ4.out
    go_wp2_with fail
    have hRN := H.out.lt
    have hzF := putL_at HZ4.out [.string k, .slice p vs.length c, .bool false, .int .i64 0, .int .i64 0, .int .i64 0, .int .i64 0, .int .i64 0, .int .i64 0, .int .i64 0, .bool false, .string ⟨#[]⟩] rfl
    have hbF := putL_gr (g := N + 1) (w0 := w) (by rw [HN.out]; omega) [.string k, .slice p vs.length c, .bool false, .int .i64 0, .int .i64 0, .int .i64 0, .int .i64 0, .int .i64 0, .int .i64 0, .int .i64 0, .bool false, .string ⟨#[]⟩] 0 HB4.out
    have hrF := putL_rd (g := N + 1) (by rw [HN.out] at hRN; omega) [.string k, .slice p vs.length c, .bool false, .int .i64 0, .int .i64 0, .int .i64 0, .int .i64 0, .int .i64 0, .int .i64 0, .int .i64 0, .bool false, .string ⟨#[]⟩] 0 HW4.out.r
    have hoF := HO4.out.kept (row := some (N + 1)) (putL_gr' (N + 1) [.string k, .slice p vs.length c, .bool false, .int .i64 0, .int .i64 0, .int .i64 0, .int .i64 0, .int .i64 0, .int .i64 0, .int .i64 0, .bool false, .string ⟨#[]⟩] 0 w4) (by
      cases e : (Value.slice p vs.length c).ownBlock with
      | none => exact .inl rfl
      | some x => exact .inr fun h => by have := (HO4.out.lt x e).1; simp only [Option.some.injEq] at h; omega)
    simp only [putL, Nat.reduceAdd, Nat.zero_add] at hzF hbF hrF hoF
    have kF := block_cells hzF
    refine bodyPost_ret (v := .agg #[.string k, .slice p vs.length c, .bool false, .int .i64 0, .int .i64 0, .int .i64 0, .int .i64 0, .int .i64 0, .int .i64 0, .int .i64 0, .bool false, .string ⟨#[]⟩]) ?_ rfl ⟨p, c, by rw [HRD.out], ?_, ?_, hbF⟩
    · simp [results, Try.results73, go_sem, kF]
    · rw [HRD.out]; exact hoF.mono (by rw [HN.out]; omega)
    · rw [HRD.out]; exact ⟨hrF, HW4.out.o, HW4.out.l⟩
  | true =>
    obtain ⟨⟨⟨l1, l2, l3, l4⟩, X4, b4⟩, hr4⟩ : ∃ r, rdYw X3 b3 = r := ⟨_, rfl⟩
    obtain ⟨⟨l5, X5, b5⟩, hr5⟩ : ∃ r, rdNw X4 b4 = r := ⟨_, rfl⟩
    obtain ⟨⟨⟨l6, l7⟩, X6, b6⟩, hr6⟩ : ∃ r, rdSw X5 b5 = r := ⟨_, rfl⟩
    obtain ⟨⟨l8, X7, b7⟩, hr7⟩ : ∃ r, rdFw X6 b6 = r := ⟨_, rfl⟩
    obtain ⟨⟨l9, X8, b8⟩, hr8⟩ : ∃ r, rdTw X7 b7 = r := ⟨_, rfl⟩
    have C4 : Hid (∀ w', RdW B w' R X3 b3 → Calls Try.prog 57 #[.pointer (some ⟨R, 0, none⟩)] w' fun e w'' => e = .returned (.agg #[.int .i64 l1, .int .i64 l2, .int .i64 l3, .int .i64 l4]) ∧ RdW B w'' R X4 b4 ∧ w'.grownBy w'' (some R)) := fun w' h => by
      have := rtryE B R X3 b3 w' h; rw [hr4] at this; exact this
    have C5 : Hid (∀ w', RdW B w' R X4 b4 → Calls Try.prog 56 #[.pointer (some ⟨R, 0, none⟩)] w' fun e w'' => e = .returned (.int .i64 l5) ∧ RdW B w'' R X5 b5 ∧ w'.grownBy w'' (some R)) := fun w' h => by
      have := rintE B R X4 b4 w' h; rw [hr5] at this; exact this
    have C6 : Hid (∀ w', RdW B w' R X5 b5 → Calls Try.prog 58 #[.pointer (some ⟨R, 0, none⟩)] w' fun e w'' => e = .returned (.agg #[.int .i64 l6, .int .i64 l7]) ∧ RdW B w'' R X6 b6 ∧ w'.grownBy w'' (some R)) := fun w' h => by
      have := rmomentE B R X5 b5 w' h; rw [hr6] at this; exact this
    have C7 : Hid (∀ w', RdW B w' R X6 b6 → Calls Try.prog 60 #[.pointer (some ⟨R, 0, none⟩)] w' fun e w'' => e = .returned (.bool l8) ∧ RdW B w'' R X7 b7 ∧ w'.grownBy w'' (some R)) := fun w' h => by
      have := rflagE B R X6 b6 w' h; rw [hr7] at this; exact this
    have C8 : Hid (∀ w', RdW B w' R X7 b7 → Calls Try.prog 63 #[.pointer (some ⟨R, 0, none⟩)] w' fun e w'' => e = .returned (.string l9) ∧ RdW B w'' R X8 b8 ∧ w'.grownBy w'' (some R)) := fun w' h => by
      have := rtext_any B R X7 b7 w' h; rw [hr8] at this; exact this
    have HRD : Hid (rdCe xs b = (⟨k, vs, true, l1, l2, l3, l4, l5, l6, l7, l8, l9⟩, X8, b8)) := rdMap_is (rd2_is HR1.out (rd2_is HR2.out (rdOpt_yes HR3.out (rd2_is hr4 (rd2_is hr5 (rd2_is hr6 (rd2_is hr7 hr8)))))))
    clear hr4 hr5 hr6 hr7 hr8
    go_upto_region 5 with fail
    obtain ⟨wt, ewt⟩ : ∃ x : World, w3.setCell ⟨g, 2, none⟩ (.bool true) = x := ⟨_, rfl⟩
    have hGt : wt.heap[g]? = some (.cells #[.string k, .slice p vs.length c, .bool true, .int .i64 0, .int .i64 0, .int .i64 0, .int .i64 0, .int .i64 0, .int .i64 0, .int .i64 0, .bool false, .string ⟨#[]⟩] 75 (0, 0)) := by rw [← ewt]; exact (cells_setW HG3.out 2 (.bool true)).trans rfl
    have hgt : w3.grownBy wt (some g) := by rw [← ewt]; exact grown_set w3 g 2 (.bool true)
    have hTt : wt.heap[N]? = some (.cells #[.pointer (some ⟨R, 0, none⟩)] 99 (0, 0)) := rd_stays hgt HT3.out (by omega)
    have hZt : wt.heap[N + 1]? = some (.cells #[.string ⟨#[]⟩, .slice none 0 0, .bool false, .int .i64 0, .int .i64 0, .int .i64 0, .int .i64 0, .int .i64 0, .int .i64 0, .int .i64 0, .bool false, .string ⟨#[]⟩] 75 (0, 0)) := rd_stays hgt (rd_stays HB3.out HZ.out (by omega)) (by omega)
    have hBt : w.grownBy wt (some R) := by rw [← ewt]; exact grown_setFar (grown_transW HB0.out HB3.out) (by rw [HN.out]; omega)
    have hWt : RdW B wt R X3 b3 := by rw [← ewt]; exact ⟨HW3.out.r.setFar (by omega) _, HW3.out.o, HW3.out.l⟩
    have hOt : wt.ownsRow (g + 1) 78 4 (.slice p vs.length c) vs.length (veR vs) := HO3.out.kept hgt (by
      cases e : (Value.slice p vs.length c).ownBlock with
      | none => exact .inl rfl
      | some x => exact .inr fun h => by have := (HO3.out.lt x e).1; simp only [Option.some.injEq] at h; omega)
    rw [ewt]
    have HGt := Lib.hid hGt; have HZt := Lib.hid hZt; have HBt := Lib.hid hBt; have HOt := Lib.hid hOt
    clear ewt hGt kg fg HB3 HW3 HO3 HG3 HT3 HZ HB0 hZt hBt hOt hgt
    have kT : ∀ w' : World, w'.heap[N]? = some (.cells #[.pointer (some ⟨R, 0, none⟩)] 99 (0, 0)) → ∀ j, w'.cell? ⟨N, j, none⟩ = #[.pointer (some ⟨R, 0, none⟩)][j]? := fun w' h => block_cells h
    have t0 : wt.drew.heap[N]? = some (.cells #[.pointer (some ⟨R, 0, none⟩)] 99 (0, 0)) := hTt
    have q0 : wt.grownBy wt.drew (some R) := grown_drewW (grown_refl wt _)
    have r3' := hWt.drew
    refine wp_region_held_drew (S := fun w' => w'.heap[N]? = some (.cells #[.pointer (some ⟨R, 0, none⟩)] 99 (0, 0))) (by kernel_rfl) t0 (fun hHeld => ?_)
    obtain ⟨wd, ewd⟩ : ∃ x, wt.drew = x := ⟨_, rfl⟩
    rw [ewd] at t0 q0 r3' hHeld ⊢
    clear ewd hTt hWt
    refine wpAnyH_take (i := 0) (v := ?_) rfl (by kernel_rfl) (by kernel_rfl) (by kernel_rfl) (fun _ _ _ h => h) (Or.inl ⟨by rfl, ?_⟩) hHeld ?_
    rotate_left
    · (intro wz hSw; (try dsimp only at hSw); (try simp only [List.getElem_toArray, List.getElem_cons_zero]); go_simp; try with_reducible rfl)
    try simp only [List.getElem_toArray, List.getElem_cons_zero, Act.put, List.setIfInBounds_toArray, List.set_cons_zero, List.set_cons_succ]
    refine wpAnyH_take (i := 2) (v := ?_) rfl (by kernel_rfl) (by kernel_rfl) (by kernel_rfl) (fun _ _ _ h => h) (Or.inl ⟨by rfl, ?_⟩) hHeld ?_
    rotate_left
    · (intro wz hSw; (try dsimp only at hSw); (try simp only [List.getElem_toArray, List.getElem_cons_succ, List.getElem_cons_zero]); go_simp; try with_reducible rfl)
    try simp only [List.getElem_toArray, List.getElem_cons_succ, List.getElem_cons_zero, Act.put, List.setIfInBounds_toArray, List.set_cons_zero, List.set_cons_succ]
    refine wpAnyH_take (i := 4) (v := ?_) rfl (by kernel_rfl) (by kernel_rfl) (by kernel_rfl) (fun _ _ _ h => h) (Or.inl ⟨by rfl, ?_⟩) hHeld ?_
    rotate_left
    · (intro wz hSw; (try dsimp only at hSw); (try simp only [List.getElem_toArray, List.getElem_cons_succ, List.getElem_cons_zero]); go_simp; try with_reducible rfl)
    try simp only [List.getElem_toArray, List.getElem_cons_succ, List.getElem_cons_zero, Act.put, List.setIfInBounds_toArray, List.set_cons_zero, List.set_cons_succ]
    refine wpAnyH_take (i := 6) (v := ?_) rfl (by kernel_rfl) (by kernel_rfl) (by kernel_rfl) (fun _ _ _ h => h) (Or.inl ⟨by rfl, ?_⟩) hHeld ?_
    rotate_left
    · (intro wz hSw; (try dsimp only at hSw); (try simp only [List.getElem_toArray, List.getElem_cons_succ, List.getElem_cons_zero]); go_simp; try with_reducible rfl)
    try simp only [List.getElem_toArray, List.getElem_cons_succ, List.getElem_cons_zero, Act.put, List.setIfInBounds_toArray, List.set_cons_zero, List.set_cons_succ]
    refine wpAnyH_take (i := 8) (v := ?_) rfl (by kernel_rfl) (by kernel_rfl) (by kernel_rfl) (fun _ _ _ h => h) (Or.inl ⟨by rfl, ?_⟩) hHeld ?_
    rotate_left
    · (intro wz hSw; (try dsimp only at hSw); (try simp only [List.getElem_toArray, List.getElem_cons_succ, List.getElem_cons_zero]); go_simp; try with_reducible rfl)
    try simp only [List.getElem_toArray, List.getElem_cons_succ, List.getElem_cons_zero, Act.put, List.setIfInBounds_toArray, List.set_cons_zero, List.set_cons_succ]
    refine wpAnyH_ready (rs := [1]) (by kernel_rfl) (by simp) ?_; refine AllReadyH.cons rfl (fun K hK => ?_) AllReadyH.nil; (try simp only [List.getElem_toArray, List.getElem_cons_succ, List.getElem_cons_zero]); go_simp
    refine (C4.out _ r3').mono ?_; rintro r wc4 ⟨rfl, rc4, kc4⟩
    have qc4 := grown_transW q0 kc4
    have tc4 := rd_stays kc4 t0 (by omega)
    refine hK.out _ _ tc4 (fun _ => ?_)
    clear hK K hHeld
    try simp only [List.getElem_toArray, List.getElem_cons_succ, List.getElem_cons_zero, Act.put, List.setIfInBounds_toArray, List.set_cons_zero, List.set_cons_succ]
    have hHeld := tc4
    refine wpAnyH_ready (rs := [3]) (by kernel_rfl) (by simp) ?_; refine AllReadyH.cons rfl (fun K hK => ?_) AllReadyH.nil; (try simp only [List.getElem_toArray, List.getElem_cons_succ, List.getElem_cons_zero]); go_simp
    refine (C5.out _ rc4).mono ?_; rintro r wc5 ⟨rfl, rc5, kc5⟩
    have qc5 := grown_transW qc4 kc5
    have tc5 := rd_stays kc5 tc4 (by omega)
    refine hK.out _ _ tc5 (fun _ => ?_)
    clear hK K hHeld
    try simp only [List.getElem_toArray, List.getElem_cons_succ, List.getElem_cons_zero, Act.put, List.setIfInBounds_toArray, List.set_cons_zero, List.set_cons_succ]
    have hHeld := tc5
    refine wpAnyH_ready (rs := [5]) (by kernel_rfl) (by simp) ?_; refine AllReadyH.cons rfl (fun K hK => ?_) AllReadyH.nil; (try simp only [List.getElem_toArray, List.getElem_cons_succ, List.getElem_cons_zero]); go_simp
    refine (C6.out _ rc5).mono ?_; rintro r wc6 ⟨rfl, rc6, kc6⟩
    have qc6 := grown_transW qc5 kc6
    have tc6 := rd_stays kc6 tc5 (by omega)
    refine hK.out _ _ tc6 (fun _ => ?_)
    clear hK K hHeld
    try simp only [List.getElem_toArray, List.getElem_cons_succ, List.getElem_cons_zero, Act.put, List.setIfInBounds_toArray, List.set_cons_zero, List.set_cons_succ]
    have hHeld := tc6
    refine wpAnyH_ready (rs := [7]) (by kernel_rfl) (by simp) ?_; refine AllReadyH.cons rfl (fun K hK => ?_) AllReadyH.nil; (try simp only [List.getElem_toArray, List.getElem_cons_succ, List.getElem_cons_zero]); go_simp
    refine (C7.out _ rc6).mono ?_; rintro r wc7 ⟨rfl, rc7, kc7⟩
    have qc7 := grown_transW qc6 kc7
    have tc7 := rd_stays kc7 tc6 (by omega)
    refine hK.out _ _ tc7 (fun _ => ?_)
    clear hK K hHeld
    try simp only [List.getElem_toArray, List.getElem_cons_succ, List.getElem_cons_zero, Act.put, List.setIfInBounds_toArray, List.set_cons_zero, List.set_cons_succ]
    have hHeld := tc7
    refine wpAnyH_ready (rs := [9]) (by kernel_rfl) (by simp) ?_; refine AllReadyH.cons rfl (fun K hK => ?_) AllReadyH.nil; (try simp only [List.getElem_toArray, List.getElem_cons_succ, List.getElem_cons_zero]); go_simp
    refine (C8.out _ rc7).mono ?_; rintro r wc8 ⟨rfl, rc8, kc8⟩
    have qc8 := grown_transW qc7 kc8
    have tc8 := rd_stays kc8 tc7 (by omega)
    refine hK.out _ _ tc8 (fun _ => ?_)
    clear hK K hHeld
    try simp only [List.getElem_toArray, List.getElem_cons_succ, List.getElem_cons_zero, Act.put, List.setIfInBounds_toArray, List.set_cons_zero, List.set_cons_succ]
    have hHeld := tc8
    refine wpAnyH_take (i := 10) (v := ?_) rfl (by kernel_rfl) (by kernel_rfl) (by kernel_rfl) (fun _ _ _ h => h) (Or.inl ⟨by rfl, ?_⟩) hHeld ?_
    rotate_left
    · (intro wz hSw; (try dsimp only at hSw); (try simp only [List.getElem_toArray, List.getElem_cons_succ, List.getElem_cons_zero]); go_simp; try with_reducible rfl)
    try simp only [List.getElem_toArray, List.getElem_cons_succ, List.getElem_cons_zero, Act.put, List.setIfInBounds_toArray, List.set_cons_zero, List.set_cons_succ]
    refine wpAnyH_take (i := 11) (v := ?_) rfl (by kernel_rfl) (by kernel_rfl) (by kernel_rfl) (fun _ _ _ h => h) (Or.inl ⟨by rfl, ?_⟩) hHeld ?_
    rotate_left
    · (intro wz hSw; (try dsimp only at hSw); (try simp only [List.getElem_toArray, List.getElem_cons_succ, List.getElem_cons_zero]); go_simp; try with_reducible rfl)
    try simp only [List.getElem_toArray, List.getElem_cons_succ, List.getElem_cons_zero, Act.put, List.setIfInBounds_toArray, List.set_cons_zero, List.set_cons_succ]
    have hG8 := rd_stays qc8 HGt.out hgN
    have kg := block_cells hG8
    have fg := block_free hG8
    refine wpAnyH_ready (rs := [12]) (by kernel_rfl) (by simp) ?_; refine AllReadyH.cons rfl (fun K hK => ?_) AllReadyH.nil; (try simp only [List.getElem_toArray, List.getElem_cons_succ, List.getElem_cons_zero]); go_simp
    have hG9 := putL_aux [.int .i64 l1, .int .i64 l2, .int .i64 l3, .int .i64 l4, .int .i64 l5, .int .i64 l6, .int .i64 l7, .bool l8, .string l9] [.int .i64 0, .int .i64 0, .int .i64 0, .int .i64 0, .int .i64 0, .int .i64 0, .int .i64 0, .bool false, .string ⟨#[]⟩] [.string k, .slice p vs.length c, .bool true] hG8 rfl
    have hT9 := (putL_far (g := g) (k := N) (by omega) [.int .i64 l1, .int .i64 l2, .int .i64 l3, .int .i64 l4, .int .i64 l5, .int .i64 l6, .int .i64 l7, .bool l8, .string l9] 3 wc8).trans tc8
    have hZ9 := (putL_far (g := g) (k := N + 1) (by omega) [.int .i64 l1, .int .i64 l2, .int .i64 l3, .int .i64 l4, .int .i64 l5, .int .i64 l6, .int .i64 l7, .bool l8, .string l9] 3 wc8).trans (rd_stays qc8 HZt.out (by omega))
    have hB9 := putL_gr (g := g) (w0 := w) (by rw [HN.out]; omega) [.int .i64 l1, .int .i64 l2, .int .i64 l3, .int .i64 l4, .int .i64 l5, .int .i64 l6, .int .i64 l7, .bool l8, .string l9] 3 (grown_transW HBt.out qc8)
    have hr9 := putL_rd (g := g) (R := R) (by omega) [.int .i64 l1, .int .i64 l2, .int .i64 l3, .int .i64 l4, .int .i64 l5, .int .i64 l6, .int .i64 l7, .bool l8, .string l9] 3 rc8.r
    have hO8 := HOt.out.kept qc8 (by
      cases e : (Value.slice p vs.length c).ownBlock with
      | none => exact .inl rfl
      | some x => exact .inr fun h => by have := (HOt.out.lt x e).1; simp only [Option.some.injEq] at h; omega)
    have hO9 := hO8.kept (putL_gr' g [.int .i64 l1, .int .i64 l2, .int .i64 l3, .int .i64 l4, .int .i64 l5, .int .i64 l6, .int .i64 l7, .bool l8, .string l9] 3 wc8) (by
      cases e : (Value.slice p vs.length c).ownBlock with
      | none => exact .inl rfl
      | some x => exact .inr fun h => by have := (HOt.out.lt x e).1; simp only [Option.some.injEq] at h; omega)
    obtain ⟨w4, ew4⟩ : ∃ w4 : World, putL g 3 [.int .i64 l1, .int .i64 l2, .int .i64 l3, .int .i64 l4, .int .i64 l5, .int .i64 l6, .int .i64 l7, .bool l8, .string l9] wc8 = w4 := ⟨_, rfl⟩
    have hG9' : w4.heap[g]? = some (.cells #[.string k, .slice p vs.length c, .bool true, .int .i64 l1, .int .i64 l2, .int .i64 l3, .int .i64 l4, .int .i64 l5, .int .i64 l6, .int .i64 l7, .bool l8, .string l9] 75 (0, 0)) := by rw [← ew4]; exact hG9
    rw [ew4] at hT9 hZ9 hB9 hr9 hO9
    simp only [putL, Nat.reduceAdd] at ew4
    rw [ew4]
    refine hK.out _ _ hT9 (fun _ => ?_)
    clear hK K hHeld kg fg hG9 hG8 kT
    try simp only [List.getElem_toArray, List.getElem_cons_succ, List.getElem_cons_zero, Act.put, List.setIfInBounds_toArray, List.set_cons_zero, List.set_cons_succ]
    refine wpAnyH_done (by kernel_rfl) ?_ _
    have HG4 := Lib.hid hG9'; have HZ4 := Lib.hid hZ9; have HB4 := Lib.hid hB9; have HO4 := Lib.hid hO9
    have HW4 : Hid (RdW B w4 R X8 b8) := ⟨hr9, rc8.o, rc8.l⟩
    clear hG9' hZ9 hB9 hO9 hr9 hT9 ew4 hO8 rc8 qc8 tc8 kc8
    have kg := block_cells HG4.out
    have kz := block_cells HZ4.out
    have fz := block_free HZ4.out
    go_wp2_with fail
    have hRN := H.out.lt
    have hzF := putL_at HZ4.out [.string k, .slice p vs.length c, .bool true, .int .i64 l1, .int .i64 l2, .int .i64 l3, .int .i64 l4, .int .i64 l5, .int .i64 l6, .int .i64 l7, .bool l8, .string l9] rfl
    have hbF := putL_gr (g := N + 1) (w0 := w) (by rw [HN.out]; omega) [.string k, .slice p vs.length c, .bool true, .int .i64 l1, .int .i64 l2, .int .i64 l3, .int .i64 l4, .int .i64 l5, .int .i64 l6, .int .i64 l7, .bool l8, .string l9] 0 HB4.out
    have hrF := putL_rd (g := N + 1) (by rw [HN.out] at hRN; omega) [.string k, .slice p vs.length c, .bool true, .int .i64 l1, .int .i64 l2, .int .i64 l3, .int .i64 l4, .int .i64 l5, .int .i64 l6, .int .i64 l7, .bool l8, .string l9] 0 HW4.out.r
    have hoF := HO4.out.kept (row := some (N + 1)) (putL_gr' (N + 1) [.string k, .slice p vs.length c, .bool true, .int .i64 l1, .int .i64 l2, .int .i64 l3, .int .i64 l4, .int .i64 l5, .int .i64 l6, .int .i64 l7, .bool l8, .string l9] 0 w4) (by
      cases e : (Value.slice p vs.length c).ownBlock with
      | none => exact .inl rfl
      | some x => exact .inr fun h => by have := (HO4.out.lt x e).1; simp only [Option.some.injEq] at h; omega)
    simp only [putL, Nat.reduceAdd, Nat.zero_add] at hzF hbF hrF hoF
    have kF := block_cells hzF
    refine bodyPost_ret (v := .agg #[.string k, .slice p vs.length c, .bool true, .int .i64 l1, .int .i64 l2, .int .i64 l3, .int .i64 l4, .int .i64 l5, .int .i64 l6, .int .i64 l7, .bool l8, .string l9]) ?_ rfl ⟨p, c, by rw [HRD.out], ?_, ?_, hbF⟩
    · simp [results, Try.results73, go_sem, kF]
    · rw [HRD.out]; exact hoF.mono (by rw [HN.out]; omega)
    · rw [HRD.out]; exact ⟨hrF, HW4.out.o, HW4.out.l⟩

end Go.Proofs.Ytmhmlpfkdpjlaaa
