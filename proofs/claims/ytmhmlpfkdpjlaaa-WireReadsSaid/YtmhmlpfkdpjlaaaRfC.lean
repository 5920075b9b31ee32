/- Wire: the reference's reader: bytes. -/
import Derived.Test.YtmhmlpfkdpjlaaaRfB
namespace Go.Proofs.Ytmhmlpfkdpjlaaa
open Go.ChangeShapes Go.WideShapes Go.ChangeAt Go.RowKit

/-- So many bytes of the reader's, or as many zeros. -/
def RfV (B R n : Nat) (w : World) (r : List Int × List Int × Bool) (e : Ending) (w' : World) : Prop := ∃ p cap, e = .returned (.slice p n cap) ∧ Sl w'.heap.size w' (.slice p n cap) 1 n (byt r.1) ∧ n ≤ cap ∧ RfW B w' R r.2.1 r.2.2 ∧ w.grownBy w' (some R)
theorem mk_zeros1 (w : World) : (Instr.makeSlice 46 (.int .i64 1) (.int .i64 1)).run Try.prog w = .ok (.slice (some ⟨w.heap.size, 0, none⟩) 1 1) (w.alloc (.cells #[.int .u8 0] 5)) := by kernel_rfl
theorem own_zeros1 (w : World) {g : Nat} (hg : w.heap.size = g) : (w.alloc (.cells #[.int .u8 0] 5)).ownsRow g 5 1 (.slice (some ⟨g, 0, none⟩) 1 1) (List.replicate 1 (0 : Int)).length (byt (List.replicate 1 0)) := by
  subst hg
  exact ⟨rfl, .inr ⟨w.heap.size, 1, #[.int .u8 0], rfl, Nat.le_refl _, heap_last w _, by decide, by decide, rfl, rfl⟩⟩
set_option maxRecDepth 100000 in
set_option maxHeartbeats 4000000 in
theorem rfby1_any (B R : Nat) (xs : List Int) (bad : Bool) (w : World) (h : RfW B w R xs bad) :
    Calls Try.prog 65 #[.pointer (some ⟨R, 0, none⟩), .int .i64 1] w (RfV B R 1 w (rfBy 1 xs bad)) := by
  have H := Lib.hid h
  obtain ⟨hB, p, cap, hR, hS⟩ := h.r
  have HB := Lib.hid hB; have HRl := Lib.hid (block_lt hR)
  obtain ⟨pa, ca, hv, h1, h2, -, -⟩ := hS.form
  obtain ⟨rfl, -, rfl⟩ : pa = p ∧ _ ∧ ca = cap := by simp only [Value.slice.injEq] at hv; exact ⟨hv.1.symm, hv.2.1, hv.2.2.symm⟩
  unfold maxLen at h2
  have HS := Lib.hid hS
  have kR := block_cells hR
  have fR := block_free hR
  clear hR hS hv h hB
  have hbd : bad = true ∨ (bad = false ∧ decide ((xs.length : Int) < 1) = true) ∨ (bad = false ∧ decide ((xs.length : Int) < 1) = false) := by
    cases bad with
    | true => exact .inl rfl
    | false =>
      cases decide ((xs.length : Int) < 1) with
      | true => exact .inr (.inl ⟨rfl, rfl⟩)
      | false => exact .inr (.inr ⟨rfl, rfl⟩)
  rcases hbd with rfl | ⟨rfl, hd⟩ | ⟨rfl, hd⟩
  · rw [show rfBy 1 xs true = (List.replicate 1 0, xs, true) from if_pos (.inl rfl)]
    have hmk := mk_zeros1
    go_enter Try.func65, Try.ntmps65
    go_wp2_with fail
    go_ret
    exact ⟨_, _, rfl, Sl.of_own (own_zeros1 (w.setCell ⟨R, 1, none⟩ (.bool true)) (by simp [World.setCell])), Nat.le_refl _, (H.out.setBad true).keep ((Below.refl _ _).alloc (Nat.le_refl _) _) (Nat.le_refl _), grown_transW (grown_setW _ _ _ _) (grown_belowW ((Below.refl _ _).alloc (Nat.le_refl _) _) (grown_refl _ _))⟩
  · rw [show rfBy 1 xs false = (List.replicate 1 0, xs, true) from if_pos (.inr (by simp only [decide_eq_true_eq] at hd; omega))]
    have hmk := mk_zeros1
    go_enter Try.func65, Try.ntmps65
    go_wp2_with fail
    go_ret
    exact ⟨_, _, rfl, Sl.of_own (own_zeros1 (w.setCell ⟨R, 1, none⟩ (.bool true)) (by simp [World.setCell])), Nat.le_refl _, (H.out.setBad true).keep ((Below.refl _ _).alloc (Nat.le_refl _) _) (Nat.le_refl _), grown_transW (grown_setW _ _ _ _) (grown_belowW ((Below.refl _ _).alloc (Nat.le_refl _) _) (grown_refl _ _))⟩
  · have hx : 1 ≤ xs.length := by simp only [decide_eq_false_iff_not] at hd; omega
    rw [show rfBy 1 xs false = (xs.take 1, xs.drop 1, false) from if_neg (fun h => by rcases h with h | h <;> first | (cases h; done) | omega)]
    have hc1 : (1 : Int) ≤ (ca : Int) := by omega
    have hc2 : 1 ≤ ca := by omega
    have hc3 : (1 : Int) ≤ (xs.length : Int) := by omega
    have ST := Lib.hid (Sl.takeW (m := 1) HS.out hx)
    by_cases hc : ca = 1
    · have HC := Lib.hid hc
      have hc' : ¬ 1 < ca := by omega
      clear hc
      go_enter Try.func65, Try.ntmps65
      go_wp2_with fail
      go_ret
      have hl : (xs.take 1).length = 1 := by rw [List.length_take]; omega
      have s := (sl_setW ST.out HB.out (R := R) (j := 0) (.slice pa (xs.length - 1) (ca - 1))).mono (Nat.le_trans HB.out (Nat.le_of_lt (by have := HRl.out; simpa [World.setCell] using this)))
      rw [hl] at s
      exact ⟨_, _, rfl, s.mono (by simp [World.setCell]), hc2, RfS.on0 H.out HS.out hx HC.out, grown_setW _ _ _ _⟩
    · have HC := Lib.hid hc
      have hc' : 1 < ca := by omega
      clear hc
      go_enter Try.func65, Try.ntmps65
      go_wp2_with fail
      go_ret
      have hl : (xs.take 1).length = 1 := by rw [List.length_take]; omega
      have s := (sl_setW ST.out HB.out (R := R) (j := 0) (.slice (Option.map (fun x => x.add 1) pa) (xs.length - 1) (ca - 1))).mono (Nat.le_trans HB.out (Nat.le_of_lt (by have := HRl.out; simpa [World.setCell] using this)))
      rw [hl] at s
      exact ⟨_, _, rfl, s.mono (by simp [World.setCell]), hc2, RfS.on H.out HS.out hx HC.out, grown_setW _ _ _ _⟩
theorem mk_zeros2 (w : World) : (Instr.makeSlice 46 (.int .i64 2) (.int .i64 2)).run Try.prog w = .ok (.slice (some ⟨w.heap.size, 0, none⟩) 2 2) (w.alloc (.cells #[.int .u8 0, .int .u8 0] 5)) := by kernel_rfl
theorem own_zeros2 (w : World) {g : Nat} (hg : w.heap.size = g) : (w.alloc (.cells #[.int .u8 0, .int .u8 0] 5)).ownsRow g 5 1 (.slice (some ⟨g, 0, none⟩) 2 2) (List.replicate 2 (0 : Int)).length (byt (List.replicate 2 0)) := by
  subst hg
  exact ⟨rfl, .inr ⟨w.heap.size, 2, #[.int .u8 0, .int .u8 0], rfl, Nat.le_refl _, heap_last w _, by decide, by decide, rfl, rfl⟩⟩
set_option maxRecDepth 100000 in
set_option maxHeartbeats 4000000 in
theorem rfby2_any (B R : Nat) (xs : List Int) (bad : Bool) (w : World) (h : RfW B w R xs bad) :
    Calls Try.prog 65 #[.pointer (some ⟨R, 0, none⟩), .int .i64 2] w (RfV B R 2 w (rfBy 2 xs bad)) := by
  have H := Lib.hid h
  obtain ⟨hB, p, cap, hR, hS⟩ := h.r
  have HB := Lib.hid hB; have HRl := Lib.hid (block_lt hR)
  obtain ⟨pa, ca, hv, h1, h2, -, -⟩ := hS.form
  obtain ⟨rfl, -, rfl⟩ : pa = p ∧ _ ∧ ca = cap := by simp only [Value.slice.injEq] at hv; exact ⟨hv.1.symm, hv.2.1, hv.2.2.symm⟩
  unfold maxLen at h2
  have HS := Lib.hid hS
  have kR := block_cells hR
  have fR := block_free hR
  clear hR hS hv h hB
  have hbd : bad = true ∨ (bad = false ∧ decide ((xs.length : Int) < 2) = true) ∨ (bad = false ∧ decide ((xs.length : Int) < 2) = false) := by
    cases bad with
    | true => exact .inl rfl
    | false =>
      cases decide ((xs.length : Int) < 2) with
      | true => exact .inr (.inl ⟨rfl, rfl⟩)
      | false => exact .inr (.inr ⟨rfl, rfl⟩)
  rcases hbd with rfl | ⟨rfl, hd⟩ | ⟨rfl, hd⟩
  · rw [show rfBy 2 xs true = (List.replicate 2 0, xs, true) from if_pos (.inl rfl)]
    have hmk := mk_zeros2
    go_enter Try.func65, Try.ntmps65
    go_wp2_with fail
    go_ret
    exact ⟨_, _, rfl, Sl.of_own (own_zeros2 (w.setCell ⟨R, 1, none⟩ (.bool true)) (by simp [World.setCell])), Nat.le_refl _, (H.out.setBad true).keep ((Below.refl _ _).alloc (Nat.le_refl _) _) (Nat.le_refl _), grown_transW (grown_setW _ _ _ _) (grown_belowW ((Below.refl _ _).alloc (Nat.le_refl _) _) (grown_refl _ _))⟩
  · rw [show rfBy 2 xs false = (List.replicate 2 0, xs, true) from if_pos (.inr (by simp only [decide_eq_true_eq] at hd; omega))]
    have hmk := mk_zeros2
    go_enter Try.func65, Try.ntmps65
    go_wp2_with fail
    go_ret
    exact ⟨_, _, rfl, Sl.of_own (own_zeros2 (w.setCell ⟨R, 1, none⟩ (.bool true)) (by simp [World.setCell])), Nat.le_refl _, (H.out.setBad true).keep ((Below.refl _ _).alloc (Nat.le_refl _) _) (Nat.le_refl _), grown_transW (grown_setW _ _ _ _) (grown_belowW ((Below.refl _ _).alloc (Nat.le_refl _) _) (grown_refl _ _))⟩
  · have hx : 2 ≤ xs.length := by simp only [decide_eq_false_iff_not] at hd; omega
    rw [show rfBy 2 xs false = (xs.take 2, xs.drop 2, false) from if_neg (fun h => by rcases h with h | h <;> first | (cases h; done) | omega)]
    have hc1 : (2 : Int) ≤ (ca : Int) := by omega
    have hc2 : 2 ≤ ca := by omega
    have hc3 : (2 : Int) ≤ (xs.length : Int) := by omega
    have ST := Lib.hid (Sl.takeW (m := 2) HS.out hx)
    by_cases hc : ca = 2
    · have HC := Lib.hid hc
      have hc' : ¬ 2 < ca := by omega
      clear hc
      go_enter Try.func65, Try.ntmps65
      go_wp2_with fail
      go_ret
      have hl : (xs.take 2).length = 2 := by rw [List.length_take]; omega
      have s := (sl_setW ST.out HB.out (R := R) (j := 0) (.slice pa (xs.length - 2) (ca - 2))).mono (Nat.le_trans HB.out (Nat.le_of_lt (by have := HRl.out; simpa [World.setCell] using this)))
      rw [hl] at s
      exact ⟨_, _, rfl, s.mono (by simp [World.setCell]), hc2, RfS.on0 H.out HS.out hx HC.out, grown_setW _ _ _ _⟩
    · have HC := Lib.hid hc
      have hc' : 2 < ca := by omega
      clear hc
      go_enter Try.func65, Try.ntmps65
      go_wp2_with fail
      go_ret
      have hl : (xs.take 2).length = 2 := by rw [List.length_take]; omega
      have s := (sl_setW ST.out HB.out (R := R) (j := 0) (.slice (Option.map (fun x => x.add 2) pa) (xs.length - 2) (ca - 2))).mono (Nat.le_trans HB.out (Nat.le_of_lt (by have := HRl.out; simpa [World.setCell] using this)))
      rw [hl] at s
      exact ⟨_, _, rfl, s.mono (by simp [World.setCell]), hc2, RfS.on H.out HS.out hx HC.out, grown_setW _ _ _ _⟩
theorem mk_zeros16 (w : World) : (Instr.makeSlice 46 (.int .i64 16) (.int .i64 16)).run Try.prog w = .ok (.slice (some ⟨w.heap.size, 0, none⟩) 16 16) (w.alloc (.cells #[.int .u8 0, .int .u8 0, .int .u8 0, .int .u8 0, .int .u8 0, .int .u8 0, .int .u8 0, .int .u8 0, .int .u8 0, .int .u8 0, .int .u8 0, .int .u8 0, .int .u8 0, .int .u8 0, .int .u8 0, .int .u8 0] 5)) := by kernel_rfl
theorem own_zeros16 (w : World) {g : Nat} (hg : w.heap.size = g) : (w.alloc (.cells #[.int .u8 0, .int .u8 0, .int .u8 0, .int .u8 0, .int .u8 0, .int .u8 0, .int .u8 0, .int .u8 0, .int .u8 0, .int .u8 0, .int .u8 0, .int .u8 0, .int .u8 0, .int .u8 0, .int .u8 0, .int .u8 0] 5)).ownsRow g 5 1 (.slice (some ⟨g, 0, none⟩) 16 16) (List.replicate 16 (0 : Int)).length (byt (List.replicate 16 0)) := by
  subst hg
  exact ⟨rfl, .inr ⟨w.heap.size, 16, #[.int .u8 0, .int .u8 0, .int .u8 0, .int .u8 0, .int .u8 0, .int .u8 0, .int .u8 0, .int .u8 0, .int .u8 0, .int .u8 0, .int .u8 0, .int .u8 0, .int .u8 0, .int .u8 0, .int .u8 0, .int .u8 0], rfl, Nat.le_refl _, heap_last w _, by decide, by decide, rfl, rfl⟩⟩
set_option maxRecDepth 100000 in
set_option maxHeartbeats 4000000 in
theorem rfby16_any (B R : Nat) (xs : List Int) (bad : Bool) (w : World) (h : RfW B w R xs bad) :
    Calls Try.prog 65 #[.pointer (some ⟨R, 0, none⟩), .int .i64 16] w (RfV B R 16 w (rfBy 16 xs bad)) := by
  have H := Lib.hid h
  obtain ⟨hB, p, cap, hR, hS⟩ := h.r
  have HB := Lib.hid hB; have HRl := Lib.hid (block_lt hR)
  obtain ⟨pa, ca, hv, h1, h2, -, -⟩ := hS.form
  obtain ⟨rfl, -, rfl⟩ : pa = p ∧ _ ∧ ca = cap := by simp only [Value.slice.injEq] at hv; exact ⟨hv.1.symm, hv.2.1, hv.2.2.symm⟩
  unfold maxLen at h2
  have HS := Lib.hid hS
  have kR := block_cells hR
  have fR := block_free hR
  clear hR hS hv h hB
  have hbd : bad = true ∨ (bad = false ∧ decide ((xs.length : Int) < 16) = true) ∨ (bad = false ∧ decide ((xs.length : Int) < 16) = false) := by
    cases bad with
    | true => exact .inl rfl
    | false =>
      cases decide ((xs.length : Int) < 16) with
      | true => exact .inr (.inl ⟨rfl, rfl⟩)
      | false => exact .inr (.inr ⟨rfl, rfl⟩)
  rcases hbd with rfl | ⟨rfl, hd⟩ | ⟨rfl, hd⟩
  · rw [show rfBy 16 xs true = (List.replicate 16 0, xs, true) from if_pos (.inl rfl)]
    have hmk := mk_zeros16
    go_enter Try.func65, Try.ntmps65
    go_wp2_with fail
    go_ret
    exact ⟨_, _, rfl, Sl.of_own (own_zeros16 (w.setCell ⟨R, 1, none⟩ (.bool true)) (by simp [World.setCell])), Nat.le_refl _, (H.out.setBad true).keep ((Below.refl _ _).alloc (Nat.le_refl _) _) (Nat.le_refl _), grown_transW (grown_setW _ _ _ _) (grown_belowW ((Below.refl _ _).alloc (Nat.le_refl _) _) (grown_refl _ _))⟩
  · rw [show rfBy 16 xs false = (List.replicate 16 0, xs, true) from if_pos (.inr (by simp only [decide_eq_true_eq] at hd; omega))]
    have hmk := mk_zeros16
    go_enter Try.func65, Try.ntmps65
    go_wp2_with fail
    go_ret
    exact ⟨_, _, rfl, Sl.of_own (own_zeros16 (w.setCell ⟨R, 1, none⟩ (.bool true)) (by simp [World.setCell])), Nat.le_refl _, (H.out.setBad true).keep ((Below.refl _ _).alloc (Nat.le_refl _) _) (Nat.le_refl _), grown_transW (grown_setW _ _ _ _) (grown_belowW ((Below.refl _ _).alloc (Nat.le_refl _) _) (grown_refl _ _))⟩
  · have hx : 16 ≤ xs.length := by simp only [decide_eq_false_iff_not] at hd; omega
    rw [show rfBy 16 xs false = (xs.take 16, xs.drop 16, false) from if_neg (fun h => by rcases h with h | h <;> first | (cases h; done) | omega)]
    have hc1 : (16 : Int) ≤ (ca : Int) := by omega
    have hc2 : 16 ≤ ca := by omega
    have hc3 : (16 : Int) ≤ (xs.length : Int) := by omega
    have ST := Lib.hid (Sl.takeW (m := 16) HS.out hx)
    by_cases hc : ca = 16
    · have HC := Lib.hid hc
      have hc' : ¬ 16 < ca := by omega
      clear hc
      go_enter Try.func65, Try.ntmps65
      go_wp2_with fail
      go_ret
      have hl : (xs.take 16).length = 16 := by rw [List.length_take]; omega
      have s := (sl_setW ST.out HB.out (R := R) (j := 0) (.slice pa (xs.length - 16) (ca - 16))).mono (Nat.le_trans HB.out (Nat.le_of_lt (by have := HRl.out; simpa [World.setCell] using this)))
      rw [hl] at s
      exact ⟨_, _, rfl, s.mono (by simp [World.setCell]), hc2, RfS.on0 H.out HS.out hx HC.out, grown_setW _ _ _ _⟩
    · have HC := Lib.hid hc
      have hc' : 16 < ca := by omega
      clear hc
      go_enter Try.func65, Try.ntmps65
      go_wp2_with fail
      go_ret
      have hl : (xs.take 16).length = 16 := by rw [List.length_take]; omega
      have s := (sl_setW ST.out HB.out (R := R) (j := 0) (.slice (Option.map (fun x => x.add 16) pa) (xs.length - 16) (ca - 16))).mono (Nat.le_trans HB.out (Nat.le_of_lt (by have := HRl.out; simpa [World.setCell] using this)))
      rw [hl] at s
      exact ⟨_, _, rfl, s.mono (by simp [World.setCell]), hc2, RfS.on H.out HS.out hx HC.out, grown_setW _ _ _ _⟩
end Go.Proofs.Ytmhmlpfkdpjlaaa
