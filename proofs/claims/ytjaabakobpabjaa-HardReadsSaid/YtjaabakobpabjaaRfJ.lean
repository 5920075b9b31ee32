import Derived.Test.YtjaabakobpabjaaRf0
import Derived.Test.YtjaabakobpabjaaRfB
import Derived.Test.YtjaabakobpabjaaPlainRf
import Derived.Test.YtjaabakobpabjaaRdE
import Derived.Deep.CutBlock
/- Wire: the reference's reader: bytes. -/
namespace Go.Proofs.Ytjaabakobpabjaa
open Go.ChangeShapes Go.WideShapes Go.ChangeAt Go.RowKit

/-- So many bytes of the reader's, or as many zeros. -/
def RfV (B R n : Nat) (w : World) (r : List Int × List Int × Bool) (e : Ending) (w' : World) : Prop := ∃ p cap, e = .returned (.slice p n cap) ∧ Sl w'.heap.size w' (.slice p n cap) 1 n (byt r.1) ∧ n ≤ cap ∧ RfW B w' R r.2.1 r.2.2 ∧ w.grownBy w' (some R)
theorem mk_zeros1 (w : World) : (Instr.makeSlice 32 (.int .i64 1) (.int .i64 1)).run Try.prog w = .ok (.slice (some ⟨w.heap.size, 0, none⟩) 1 1) (w.alloc (.cells #[.int .u8 0] 5)) := by kernel_rfl
theorem own_zeros1 (w : World) {g : Nat} (hg : w.heap.size = g) : (w.alloc (.cells #[.int .u8 0] 5)).ownsRow g 5 1 (.slice (some ⟨g, 0, none⟩) 1 1) (List.replicate 1 (0 : Int)).length (byt (List.replicate 1 0)) := by
  subst hg
  exact ⟨rfl, .inr ⟨w.heap.size, 1, #[.int .u8 0], rfl, Nat.le_refl _, heap_last w _, by decide, by decide, rfl, rfl⟩⟩
set_option maxRecDepth 100000 in
set_option maxHeartbeats 4000000 in
theorem rfby1_any (B R : Nat) (xs : List Int) (bad : Bool) (w : World) (h : RfW B w R xs bad) :
    Calls Try.prog 98 #[.pointer (some ⟨R, 0, none⟩), .int .i64 1] w (RfV B R 1 w (rfBy 1 xs bad)) := by
  have H := Lib.hid h
  obtain ⟨hB, p, cap, hR, hS⟩ := h.r
  have HB := Lib.hid hB; have HRl := Lib.hid (block_lt hR)
  obtain ⟨pa, ca, hv, h1, h2, -, -⟩ := hS.form
  obtain ⟨rfl, -, rfl⟩ : pa = p ∧ _ ∧ ca = cap := by simp only [Value.slice.injEq] at hv; exact ⟨hv.1.symm, hv.2.1, hv.2.2.symm⟩
  unfold maxLen at h2
  have HS := Lib.hid hS
  have kR := block_cells hR
  have fR := block_free hR
  clear hR hS hv h hB
  have hbd : bad = true ∨ (bad = false ∧ decide ((xs.length : Int) < 1) = true) ∨ (bad = false ∧ decide ((xs.length : Int) < 1) = false) := by
    cases bad with
    | true => exact .inl rfl
    | false =>
      cases decide ((xs.length : Int) < 1) with
      | true => exact .inr (.inl ⟨rfl, rfl⟩)
      | false => exact .inr (.inr ⟨rfl, rfl⟩)
  rcases hbd with rfl | ⟨rfl, hd⟩ | ⟨rfl, hd⟩
  · rw [show rfBy 1 xs true = (List.replicate 1 0, xs, true) from if_pos (.inl rfl)]
    have hmk := mk_zeros1
    go_enter Try.func98, Try.ntmps98
    go_wp2_with fail
    go_ret
    exact ⟨_, _, rfl, Sl.of_own (own_zeros1 (w.setCell ⟨R, 1, none⟩ (.bool true)) (by simp [World.setCell])), Nat.le_refl _, (H.out.setBad true).keep ((Below.refl _ _).alloc (Nat.le_refl _) _) (Nat.le_refl _), grown_transW (grown_setW _ _ _ _) (grown_belowW ((Below.refl _ _).alloc (Nat.le_refl _) _) (grown_refl _ _))⟩
  · rw [show rfBy 1 xs false = (List.replicate 1 0, xs, true) from if_pos (.inr (by simp only [decide_eq_true_eq] at hd; omega))]
    have hmk := mk_zeros1
    go_enter Try.func98, Try.ntmps98
    go_wp2_with fail
    go_ret
    exact ⟨_, _, rfl, Sl.of_own (own_zeros1 (w.setCell ⟨R, 1, none⟩ (.bool true)) (by simp [World.setCell])), Nat.le_refl _, (H.out.setBad true).keep ((Below.refl _ _).alloc (Nat.le_refl _) _) (Nat.le_refl _), grown_transW (grown_setW _ _ _ _) (grown_belowW ((Below.refl _ _).alloc (Nat.le_refl _) _) (grown_refl _ _))⟩
  · have hx : 1 ≤ xs.length := by simp only [decide_eq_false_iff_not] at hd; omega
    rw [show rfBy 1 xs false = (xs.take 1, xs.drop 1, false) from if_neg (fun h => by rcases h with h | h <;> first | (cases h; done) | omega)]
    have hc1 : (1 : Int) ≤ (ca : Int) := by omega
    have hc2 : 1 ≤ ca := by omega
    have hc3 : (1 : Int) ≤ (xs.length : Int) := by omega
    have ST := Lib.hid (Sl.takeW (m := 1) HS.out hx)
    by_cases hc : ca = 1
    · have HC := Lib.hid hc
      have hc' : ¬ 1 < ca := by omega
      clear hc
      go_enter Try.func98, Try.ntmps98
      go_wp2_with fail
      go_ret
      have hl : (xs.take 1).length = 1 := by rw [List.length_take]; omega
      have s := (sl_setW ST.out HB.out (R := R) (j := 0) (.slice pa (xs.length - 1) (ca - 1))).mono (Nat.le_trans HB.out (Nat.le_of_lt (by have := HRl.out; simpa [World.setCell] using this)))
      rw [hl] at s
      exact ⟨_, _, rfl, s.mono (by simp [World.setCell]), hc2, RfS.on0 H.out HS.out hx HC.out, grown_setW _ _ _ _⟩
    · have HC := Lib.hid hc
      have hc' : 1 < ca := by omega
      clear hc
      go_enter Try.func98, Try.ntmps98
      go_wp2_with fail
      go_ret
      have hl : (xs.take 1).length = 1 := by rw [List.length_take]; omega
      have s := (sl_setW ST.out HB.out (R := R) (j := 0) (.slice (Option.map (fun x => x.add 1) pa) (xs.length - 1) (ca - 1))).mono (Nat.le_trans HB.out (Nat.le_of_lt (by have := HRl.out; simpa [World.setCell] using this)))
      rw [hl] at s
      exact ⟨_, _, rfl, s.mono (by simp [World.setCell]), hc2, RfS.on H.out HS.out hx HC.out, grown_setW _ _ _ _⟩
theorem mk_zeros2 (w : World) : (Instr.makeSlice 32 (.int .i64 2) (.int .i64 2)).run Try.prog w = .ok (.slice (some ⟨w.heap.size, 0, none⟩) 2 2) (w.alloc (.cells #[.int .u8 0, .int .u8 0] 5)) := by kernel_rfl
theorem own_zeros2 (w : World) {g : Nat} (hg : w.heap.size = g) : (w.alloc (.cells #[.int .u8 0, .int .u8 0] 5)).ownsRow g 5 1 (.slice (some ⟨g, 0, none⟩) 2 2) (List.replicate 2 (0 : Int)).length (byt (List.replicate 2 0)) := by
  subst hg
  exact ⟨rfl, .inr ⟨w.heap.size, 2, #[.int .u8 0, .int .u8 0], rfl, Nat.le_refl _, heap_last w _, by decide, by decide, rfl, rfl⟩⟩
set_option maxRecDepth 100000 in
set_option maxHeartbeats 4000000 in
theorem rfby2_any (B R : Nat) (xs : List Int) (bad : Bool) (w : World) (h : RfW B w R xs bad) :
    Calls Try.prog 98 #[.pointer (some ⟨R, 0, none⟩), .int .i64 2] w (RfV B R 2 w (rfBy 2 xs bad)) := by
  have H := Lib.hid h
  obtain ⟨hB, p, cap, hR, hS⟩ := h.r
  have HB := Lib.hid hB; have HRl := Lib.hid (block_lt hR)
  obtain ⟨pa, ca, hv, h1, h2, -, -⟩ := hS.form
  obtain ⟨rfl, -, rfl⟩ : pa = p ∧ _ ∧ ca = cap := by simp only [Value.slice.injEq] at hv; exact ⟨hv.1.symm, hv.2.1, hv.2.2.symm⟩
  unfold maxLen at h2
  have HS := Lib.hid hS
  have kR := block_cells hR
  have fR := block_free hR
  clear hR hS hv h hB
  have hbd : bad = true ∨ (bad = false ∧ decide ((xs.length : Int) < 2) = true) ∨ (bad = false ∧ decide ((xs.length : Int) < 2) = false) := by
    cases bad with
    | true => exact .inl rfl
    | false =>
      cases decide ((xs.length : Int) < 2) with
      | true => exact .inr (.inl ⟨rfl, rfl⟩)
      | false => exact .inr (.inr ⟨rfl, rfl⟩)
  rcases hbd with rfl | ⟨rfl, hd⟩ | ⟨rfl, hd⟩
  · rw [show rfBy 2 xs true = (List.replicate 2 0, xs, true) from if_pos (.inl rfl)]
    have hmk := mk_zeros2
    go_enter Try.func98, Try.ntmps98
    go_wp2_with fail
    go_ret
    exact ⟨_, _, rfl, Sl.of_own (own_zeros2 (w.setCell ⟨R, 1, none⟩ (.bool true)) (by simp [World.setCell])), Nat.le_refl _, (H.out.setBad true).keep ((Below.refl _ _).alloc (Nat.le_refl _) _) (Nat.le_refl _), grown_transW (grown_setW _ _ _ _) (grown_belowW ((Below.refl _ _).alloc (Nat.le_refl _) _) (grown_refl _ _))⟩
  · rw [show rfBy 2 xs false = (List.replicate 2 0, xs, true) from if_pos (.inr (by simp only [decide_eq_true_eq] at hd; omega))]
    have hmk := mk_zeros2
    go_enter Try.func98, Try.ntmps98
    go_wp2_with fail
    go_ret
    exact ⟨_, _, rfl, Sl.of_own (own_zeros2 (w.setCell ⟨R, 1, none⟩ (.bool true)) (by simp [World.setCell])), Nat.le_refl _, (H.out.setBad true).keep ((Below.refl _ _).alloc (Nat.le_refl _) _) (Nat.le_refl _), grown_transW (grown_setW _ _ _ _) (grown_belowW ((Below.refl _ _).alloc (Nat.le_refl _) _) (grown_refl _ _))⟩
  · have hx : 2 ≤ xs.length := by simp only [decide_eq_false_iff_not] at hd; omega
    rw [show rfBy 2 xs false = (xs.take 2, xs.drop 2, false) from if_neg (fun h => by rcases h with h | h <;> first | (cases h; done) | omega)]
    have hc1 : (2 : Int) ≤ (ca : Int) := by omega
    have hc2 : 2 ≤ ca := by omega
    have hc3 : (2 : Int) ≤ (xs.length : Int) := by omega
    have ST := Lib.hid (Sl.takeW (m := 2) HS.out hx)
    by_cases hc : ca = 2
    · have HC := Lib.hid hc
      have hc' : ¬ 2 < ca := by omega
      clear hc
      go_enter Try.func98, Try.ntmps98
      go_wp2_with fail
      go_ret
      have hl : (xs.take 2).length = 2 := by rw [List.length_take]; omega
      have s := (sl_setW ST.out HB.out (R := R) (j := 0) (.slice pa (xs.length - 2) (ca - 2))).mono (Nat.le_trans HB.out (Nat.le_of_lt (by have := HRl.out; simpa [World.setCell] using this)))
      rw [hl] at s
      exact ⟨_, _, rfl, s.mono (by simp [World.setCell]), hc2, RfS.on0 H.out HS.out hx HC.out, grown_setW _ _ _ _⟩
    · have HC := Lib.hid hc
      have hc' : 2 < ca := by omega
      clear hc
      go_enter Try.func98, Try.ntmps98
      go_wp2_with fail
      go_ret
      have hl : (xs.take 2).length = 2 := by rw [List.length_take]; omega
      have s := (sl_setW ST.out HB.out (R := R) (j := 0) (.slice (Option.map (fun x => x.add 2) pa) (xs.length - 2) (ca - 2))).mono (Nat.le_trans HB.out (Nat.le_of_lt (by have := HRl.out; simpa [World.setCell] using this)))
      rw [hl] at s
      exact ⟨_, _, rfl, s.mono (by simp [World.setCell]), hc2, RfS.on H.out HS.out hx HC.out, grown_setW _ _ _ _⟩
end Go.Proofs.Ytjaabakobpabjaa
/- Wire: the reference's reader: truths. -/
namespace Go.Proofs.Ytjaabakobpabjaa
open Go.ChangeShapes Go.WideShapes Go.ChangeAt Go.RowKit

set_option maxRecDepth 100000 in
set_option maxHeartbeats 4000000 in
theorem rff_any (B R : Nat) (xs : List Int) (bad : Bool) (w : World) (h : RfW B w R xs bad) :
    Calls Try.prog 99 #[.pointer (some ⟨R, 0, none⟩)] w (RfE B R w Value.bool (rfF xs bad)) := by
  have HB := Lib.hid (rfby1_any B R xs bad w h)
  have ho := rfBy_oct 1 xs bad h.o
  have hN : rfF xs bad = (decide ((rfBy 1 xs bad).1.headD 0 = 1), (rfBy 1 xs bad).2.1, (rfBy 1 xs bad).2.2 || decide (1 < (rfBy 1 xs bad).1.headD 0)) := rfl
  obtain ⟨⟨l, ys, b1⟩, hr⟩ : ∃ r, rfBy 1 xs bad = r := ⟨_, rfl⟩
  rw [hr] at HB hN ho
  dsimp only at HB hN ho
  obtain ⟨-, hoc, hl⟩ := ho
  obtain ⟨v, rfl⟩ : ∃ v, l = [v] := by
    match l, hl with
    | [v], _ => exact ⟨v, rfl⟩
  have hv := hoc v (by simp)
  rw [show ([v] : List Int).headD 0 = v from rfl] at hN
  obtain ⟨v0, v1⟩ := hv
  obtain ⟨d1, hd1⟩ : ∃ d, decide (v = 1) = d := ⟨_, rfl⟩
  obtain ⟨d2, hd2⟩ : ∃ d, decide (1 < v) = d := ⟨_, rfl⟩
  rw [hd1, hd2] at hN
  rw [hN]
  have he1 : (v == 1) = d1 := by rw [← hd1]; by_cases hv : v = 1 <;> simp [hv]
  clear hr h hN hoc hl
  go_enter Try.func99, Try.ntmps99
  go_wp2_with fail
  refine HB.out.mono ?_; rintro e w1 ⟨p, cap, rfl, hs, hcap, h1, g1⟩
  dsimp only at hs h1 ⊢
  have H1 := Lib.hid h1; have G1 := Lib.hid g1
  obtain ⟨hB, p', cap', hR, hS⟩ := h1.r
  have kR := block_cells hR
  have fR := block_free hR
  obtain ⟨pa, ca, hv, -, -, -, hc⟩ := hs.form
  obtain ⟨rfl, -, rfl⟩ : pa = p ∧ _ ∧ ca = cap := by simp only [Value.slice.injEq] at hv; exact ⟨hv.1.symm, hv.2.1, hv.2.2.symm⟩
  obtain ⟨g, o, rfl, -, hcell⟩ := hc 0 (by omega)
  have hcell' : w1.cell? ⟨g, o, none⟩ = some (.int .u8 v) := by rw [Nat.add_zero] at hcell; rw [hcell]; rfl
  clear g1 hR hS h1 hs hv hc hcell HB
  cases b1
  all_goals
    cases d2
    all_goals
      go_wp2_with fail
      go_ret
      first
        | exact ⟨rfl, H1.out, G1.out⟩
        | exact ⟨rfl, H1.out.setBad _, grown_transW G1.out (grown_setW _ _ _ _)⟩
end Go.Proofs.Ytjaabakobpabjaa
/- Wire: the reference's reader: stamps. -/
namespace Go.Proofs.Ytjaabakobpabjaa
open Go.ChangeShapes Go.WideShapes Go.ChangeAt Go.RowKit

end Go.Proofs.Ytjaabakobpabjaa
/- Wire: the reference's reader: attempts. -/
namespace Go.Proofs.Ytjaabakobpabjaa
open Go.ChangeShapes Go.WideShapes Go.ChangeAt Go.RowKit

end Go.Proofs.Ytjaabakobpabjaa
/- Wire: the reference's reader: outcomes. -/
namespace Go.Proofs.Ytjaabakobpabjaa
open Go.ChangeShapes Go.WideShapes Go.ChangeAt Go.RowKit

end Go.Proofs.Ytjaabakobpabjaa
/- Wire: the reference's reader: cells. -/
namespace Go.Proofs.Ytjaabakobpabjaa
open Go.ChangeShapes Go.WideShapes Go.ChangeAt Go.RowKit

theorem putL_rf {B R g : Nat} {xs : List Int} {bad : Bool} (hg : R < g) : ∀ (vs : List Value) (i : Nat) {w : World}, RfS B w R xs bad → RfS B (putL g i vs w) R xs bad
  | [], _, _, h => h
  | v :: vs, i, _, h => putL_rf hg vs (i + 1) (h.setFar hg v)
/-- A list as it is read: in the cell of a block, in a row of the call's own. -/
structure LsF {α : Type} (R g base : Nat) (w0 wS : World) (cs : Value → Array Value) (tc te : TypeId) (size : Nat) (row : List α → List Value) (acc : List α) (w : World) : Prop where
  ex : ∃ v, w.heap[g]? = some (.cells (cs v) tc (0, 0)) ∧ w.ownsRow base te size v acc.length (row acc)
  b : w0.grownBy w (some R)
  z : base ≤ w.heap.size
  k : KpB base R g wS w
end Go.Proofs.Ytjaabakobpabjaa
/- Wire: what the reference's reading of a command, a state tells; what was read can be written. -/
namespace Go.Proofs.Ytjaabakobpabjaa

end Go.Proofs.Ytjaabakobpabjaa
/- Wire: the reference's TakeCmd. -/
namespace Go.Proofs.Ytjaabakobpabjaa
open Go.ChangeShapes Go.WideShapes Go.ChangeAt Go.RowKit

theorem putL_mid {g : Nat} {t : TypeId} : ∀ (vs cur pre rest : List Value) {w : World}, w.heap[g]? = some (.cells (pre ++ (cur ++ rest)).toArray t (0, 0)) → vs.length = cur.length → (putL g pre.length vs w).heap[g]? = some (.cells (pre ++ (vs ++ rest)).toArray t (0, 0))
  | [], cur, pre, rest, w, h, e => by
    cases cur with
    | nil => exact h
    | cons a b => simp at e
  | v :: vs, cur, pre, rest, w, h, e => by
    cases cur with
    | nil => simp at e
    | cons a b =>
      have h2 : (w.setCell ⟨g, pre.length, none⟩ v).heap[g]? = some (.cells ((pre ++ [v]) ++ (b ++ rest)).toArray t (0, 0)) := by
        rw [cells_setW h]; simp
      have := putL_mid vs b (pre ++ [v]) rest h2 (by simpa using e)
      simpa [putL] using this
end Go.Proofs.Ytjaabakobpabjaa
