/- Contracts of package conf and of its reference, two. -/
import Derived.Test.YtihkkoldjllifaaConf
import Derived.Test.YtihkkoldjllifaaCalm
namespace Go.Proofs.Ytihkkoldjllifaa
open Go.RowKit

theorem box_keeps (w : World) (cs : Array Value) (t : TypeId) : ∀ w' j, Below (w.heap.size + 1) (w.alloc (.cells cs t)) w' → w'.cell? ⟨w.heap.size, j, none⟩ = (w.alloc (.cells cs t)).cell? ⟨w.heap.size, j, none⟩ := fun _ _ h => h.cell (by simp)
theorem box_step {w w1 w2 : World} {cs : Array Value} {t : TypeId} (h : Below (w.heap.size + 1) (w.alloc (.cells cs t)) w1) (k : Below w1.heap.size w1 w2) : Below (w.heap.size + 1) (w.alloc (.cells cs t)) w2 :=
  h.trans (k.mono (by have := h.size; simpa using this))
theorem box_first {w w1 : World} {cs : Array Value} {t : TypeId} (k : Below (w.alloc (.cells cs t)).heap.size (w.alloc (.cells cs t)) w1) : Below (w.heap.size + 1) (w.alloc (.cells cs t)) w1 := by simpa using k
theorem box_out {w w1 : World} {cs : Array Value} {t : TypeId} (k : Below (w.heap.size + 1) (w.alloc (.cells cs t)) w1) : Below w.heap.size w w1 := (below_box _ _).trans (k.mono (by omega))



end Go.Proofs.Ytihkkoldjllifaa