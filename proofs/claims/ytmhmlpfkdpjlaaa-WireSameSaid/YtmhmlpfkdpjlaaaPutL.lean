/- A struct that is stored cell by cell: what the block holds then, whatever its size. -/
import Derived.Test.YtmhmlpfkdpjlaaaWireM
namespace Go.Proofs.Ytmhmlpfkdpjlaaa
open Go.ChangeShapes Go.WideShapes Go.ChangeAt Go.RowKit

def putL (g : Nat) : Nat → List Value → World → World
  | _, [], w => w
  | i, v :: vs, w => putL g (i + 1) vs (w.setCell ⟨g, i, none⟩ v)
theorem putL_bel {B g : Nat} {w0 : World} (hg : B ≤ g) : ∀ (vs : List Value) (i : Nat) {w : World}, Below B w0 w → Below B w0 (putL g i vs w)
  | [], _, _, h => h
  | v :: vs, i, _, h => putL_bel hg vs (i + 1) (h.setCell (p := ⟨g, i, none⟩) hg v)
theorem putL_gr {g : Nat} {w0 : World} {row : Option Nat} (hg : w0.heap.size ≤ g) : ∀ (vs : List Value) (i : Nat) {w : World}, w0.grownBy w row → w0.grownBy (putL g i vs w) row
  | [], _, _, h => h
  | v :: vs, i, _, h => putL_gr hg vs (i + 1) (grown_setFar (j := i) (v := v) h hg)
theorem putL_rd {B R g : Nat} {xs : List Int} {bad : Bool} (hg : R < g) : ∀ (vs : List Value) (i : Nat) {w : World}, RdS B w R xs bad → RdS B (putL g i vs w) R xs bad
  | [], _, _, h => h
  | v :: vs, i, _, h => putL_rd hg vs (i + 1) (h.setFar hg v)
theorem putL_far {g k : Nat} (hg : k ≠ g) : ∀ (vs : List Value) (i : Nat) (w : World), (putL g i vs w).heap[k]? = w.heap[k]?
  | [], _, _ => rfl
  | _v :: vs, i, _w => (putL_far hg vs (i + 1) _).trans (Below.heap_setCell _ _ _ _ hg)
theorem putL_size {g : Nat} : ∀ (vs : List Value) (i : Nat) (w : World), (putL g i vs w).heap.size = w.heap.size
  | [], _, _ => rfl
  | v :: vs, i, w => (putL_size vs (i + 1) _).trans (by simp [World.setCell])
theorem putL_aux {g : Nat} {t : TypeId} : ∀ (vs cur pre : List Value) {w : World}, w.heap[g]? = some (.cells (pre ++ cur).toArray t (0, 0)) → vs.length = cur.length → (putL g pre.length vs w).heap[g]? = some (.cells (pre ++ vs).toArray t (0, 0))
  | [], cur, pre, w, h, e => by
    cases cur with
    | nil => exact h
    | cons a b => simp at e
  | v :: vs, [], pre, w, h, e => by simp at e
  | v :: vs, c :: cur, pre, w, h, e => by
    have h1 := cells_setW h pre.length v
    have e2 : (pre ++ c :: cur).toArray.setIfInBounds pre.length v = ((pre ++ [v]) ++ cur).toArray := by
      rw [List.setIfInBounds_toArray]; congr 1
      rw [List.set_append_right _ _ (Nat.le_refl _), Nat.sub_self, List.set_cons_zero, List.append_assoc]; rfl
    rw [e2] at h1
    have h2 := putL_aux vs cur (pre ++ [v]) h1 (by simpa using e)
    rw [List.length_append, List.append_assoc] at h2
    exact h2
theorem putL_at {g : Nat} {w : World} {t : TypeId} {cur : List Value} (h : w.heap[g]? = some (.cells cur.toArray t (0, 0))) (vs : List Value) (hl : vs.length = cur.length) : (putL g 0 vs w).heap[g]? = some (.cells vs.toArray t (0, 0)) :=
  putL_aux vs cur [] h hl
end Go.Proofs.Ytmhmlpfkdpjlaaa
