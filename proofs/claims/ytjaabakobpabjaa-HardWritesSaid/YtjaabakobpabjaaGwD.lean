import Derived.Test.YtjaabakobpabjaaWireR
import Derived.Deep.RegionHeld3
import Derived.Test.YtjaabakobpabjaaStampTk
/- Wire: package wire's reader: stamps, attempts. -/
namespace Go.Proofs.Ytjaabakobpabjaa
open Go.ChangeShapes Go.WideShapes Go.ChangeAt Go.RowKit

theorem RdS.keep {B R : Nat} {w w' : World} {xs : List Int} {bad : Bool} (h : RdS B w R xs bad) {A : Nat} (hb : Below A w w') (hA : w.heap.size ≤ A) : RdS B w' R xs bad := by
  obtain ⟨hBR, p, cap, hR, hS⟩ := h
  have hRA : R < A := Nat.lt_of_lt_of_le (block_lt hR) hA
  exact ⟨hBR, p, cap, below_block hb hRA hR, hS.keep (hb.mono (by omega))⟩
theorem RdS.setFar {B R : Nat} {w : World} {xs : List Int} {bad : Bool} (h : RdS B w R xs bad) {Z j : Nat} (hZ : R < Z) (v : Value) : RdS B (w.setCell ⟨Z, j, none⟩ v) R xs bad := by
  obtain ⟨hBR, p, cap, hR, hS⟩ := h
  exact ⟨hBR, p, cap, (Below.heap_setCell _ _ _ _ (by show R ≠ Z; omega)).trans hR, sl_setW hS (by omega) v⟩
theorem grown_setFar {w w5 : World} {row : Option Nat} (h : w.grownBy w5 row) {Z j : Nat} {v : Value} (hZ : w.heap.size ≤ Z) : w.grownBy (w5.setCell ⟨Z, j, none⟩ v) row :=
  ⟨h.os, h.tape, h.output, by simpa [World.setCell] using h.size, fun k hk hn => (Below.heap_setCell _ _ _ _ (by show k ≠ Z; omega)).trans (h.block k hk hn)⟩
theorem grown_belowW {w w3 w5 : World} {row : Option Nat} (hb : Below w.heap.size w w3) (h : w3.grownBy w5 row) : w.grownBy w5 row :=
  ⟨h.os.trans hb.os, h.tape.trans hb.tape, h.output.trans hb.output, Nat.le_trans hb.size h.size, fun k hk hn => (h.block k (Nat.lt_of_lt_of_le hk hb.size) hn).trans (hb.block k hk)⟩
end Go.Proofs.Ytjaabakobpabjaa
/- A struct that is stored cell by cell: what the block holds then, whatever its size. -/
namespace Go.Proofs.Ytjaabakobpabjaa
open Go.ChangeShapes Go.WideShapes Go.ChangeAt Go.RowKit

def putL (g : Nat) : Nat → List Value → World → World
  | _, [], w => w
  | i, v :: vs, w => putL g (i + 1) vs (w.setCell ⟨g, i, none⟩ v)
theorem putL_bel {B g : Nat} {w0 : World} (hg : B ≤ g) : ∀ (vs : List Value) (i : Nat) {w : World}, Below B w0 w → Below B w0 (putL g i vs w)
  | [], _, _, h => h
  | v :: vs, i, _, h => putL_bel hg vs (i + 1) (h.setCell (p := ⟨g, i, none⟩) hg v)
theorem putL_gr {g : Nat} {w0 : World} {row : Option Nat} (hg : w0.heap.size ≤ g) : ∀ (vs : List Value) (i : Nat) {w : World}, w0.grownBy w row → w0.grownBy (putL g i vs w) row
  | [], _, _, h => h
  | v :: vs, i, _, h => putL_gr hg vs (i + 1) (grown_setFar (j := i) (v := v) h hg)
theorem putL_gr' (g : Nat) : ∀ (vs : List Value) (i : Nat) (w : World), w.grownBy (putL g i vs w) (some g)
  | [], _, w => grown_refl w _
  | v :: vs, i, w => grown_trans (grown_set w g i v) (putL_gr' g vs (i + 1) _)
theorem putL_rd {B R g : Nat} {xs : List Int} {bad : Bool} (hg : R < g) : ∀ (vs : List Value) (i : Nat) {w : World}, RdS B w R xs bad → RdS B (putL g i vs w) R xs bad
  | [], _, _, h => h
  | v :: vs, i, _, h => putL_rd hg vs (i + 1) (h.setFar hg v)
theorem putL_far {g k : Nat} (hg : k ≠ g) : ∀ (vs : List Value) (i : Nat) (w : World), (putL g i vs w).heap[k]? = w.heap[k]?
  | [], _, _ => rfl
  | _v :: vs, i, _w => (putL_far hg vs (i + 1) _).trans (Below.heap_setCell _ _ _ _ hg)
theorem putL_aux {g : Nat} {t : TypeId} : ∀ (vs cur pre : List Value) {w : World}, w.heap[g]? = some (.cells (pre ++ cur).toArray t (0, 0)) → vs.length = cur.length → (putL g pre.length vs w).heap[g]? = some (.cells (pre ++ vs).toArray t (0, 0))
  | [], cur, pre, w, h, e => by
    cases cur with
    | nil => exact h
    | cons a b => simp at e
  | v :: vs, [], pre, w, h, e => by simp at e
  | v :: vs, c :: cur, pre, w, h, e => by
    have h1 := cells_setW h pre.length v
    have e2 : (pre ++ c :: cur).toArray.setIfInBounds pre.length v = ((pre ++ [v]) ++ cur).toArray := by
      rw [List.setIfInBounds_toArray]; congr 1
      rw [List.set_append_right _ _ (Nat.le_refl _), Nat.sub_self, List.set_cons_zero, List.append_assoc]; rfl
    rw [e2] at h1
    have h2 := putL_aux vs cur (pre ++ [v]) h1 (by simpa using e)
    rw [List.length_append, List.append_assoc] at h2
    exact h2
theorem putL_at {g : Nat} {w : World} {t : TypeId} {cur : List Value} (h : w.heap[g]? = some (.cells cur.toArray t (0, 0))) (vs : List Value) (hl : vs.length = cur.length) : (putL g 0 vs w).heap[g]? = some (.cells vs.toArray t (0, 0)) :=
  putL_aux vs cur [] h hl
end Go.Proofs.Ytjaabakobpabjaa
/- Wire: a state's bytes: package wire's. -/
namespace Go.Proofs.Ytjaabakobpabjaa
open Go.ChangeShapes Go.WideShapes Go.ChangeAt Go.RowKit

theorem cutW_VVW {R P : Value → Value → World → Prop} {Q : Prop} (h : (∀ a0 a1 a2, R a0 a1 a2 → P a0 a1 a2) → Q) (p : ∀ a0 a1 a2, R a0 a1 a2 → P a0 a1 a2) : Q := h p
end Go.Proofs.Ytjaabakobpabjaa
/- Wire: a state's bytes: the document's. -/
namespace Go.Proofs.Ytjaabakobpabjaa
open Go.ChangeShapes Go.WideShapes Go.ChangeAt Go.RowKit

end Go.Proofs.Ytjaabakobpabjaa
