/- A slice of ints, whoever owns it: where its numbers lie. -/
import Derived.Test.YtihkkoldjllifaaSlices
import Derived.Test.YtihkkoldjllifaaCalm
namespace Go.Proofs.Ytihkkoldjllifaa
open Go.ChangeShapes Go.WideShapes Go.ChangeAt Go.RowKit

def NumsAt (w : World) (p : Option Addr) (rs : List Int) : Prop := ∀ j, (hj : j < rs.length) → ∃ g o, p = some ⟨g, o, none⟩ ∧ g < w.heap.size ∧ w.cell? ⟨g, o + j, none⟩ = some (.int .i64 rs[j])
theorem NumsAt.keep {w w' : World} {p : Option Addr} {rs : List Int} (h : NumsAt w p rs) {B : Nat} (hb : Below B w w') (hB : w.heap.size ≤ B) : NumsAt w' p rs := fun j hj => by
  obtain ⟨g, o, e, hg, h1⟩ := h j hj
  exact ⟨g, o, e, Nat.lt_of_lt_of_le hg hb.size, (hb.cell (p := ⟨g, o + j, none⟩) (by show g < B; omega)).trans h1⟩
theorem NumsAt.of_sl {B : Nat} {w : World} {v : Value} {rs : List Int} (h : Sl B w v 1 rs.length (rs.map (.int .i64))) (hB : B ≤ w.heap.size) : ∃ p cap, v = .slice p rs.length cap ∧ rs.length ≤ maxLen ∧ NumsAt w p rs := by
  obtain ⟨a, cap, rfl, h1, h2, -, h3⟩ := h.form
  refine ⟨a, cap, rfl, by omega, fun j hj => ?_⟩
  obtain ⟨g, o, rfl, hg, hc⟩ := h3 j hj
  exact ⟨g, o, rfl, by omega, by rw [hc]; simp [hj]⟩
theorem NumsAt.of_cells {w : World} {g : Nat} {cs : Array Value} {t : TypeId} {rs : List Int} (h : w.heap[g]? = some (.cells cs t (0, 0))) (e : ∀ j, (hj : j < rs.length) → cs[j]? = some (.int .i64 rs[j])) : NumsAt w (some ⟨g, 0, none⟩) rs := fun j hj =>
  ⟨g, 0, rfl, block_lt h, by rw [Nat.zero_add, block_cells h]; exact e j hj⟩
theorem NumsAt.nil (w : World) (p : Option Addr) : NumsAt w p [] := fun j hj => absurd hj (by simp)
end Go.Proofs.Ytihkkoldjllifaa
