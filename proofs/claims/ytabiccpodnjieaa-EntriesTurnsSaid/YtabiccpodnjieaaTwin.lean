/- What the statements lean on: a twin of bytes with spare room behind it, and whether it was kept. -/
import Derived.Test.YtabiccpodnjieaaRoom
import Derived.Laws.CopyOwn
import Derived.Laws.BytesArg
namespace Go.Proofs.Ytabiccpodnjieaa
open Go.ChangeShapes Go.WideShapes Go.ChangeAt Go.RowKit

theorem heap_new (w : World) (o : Obj) : (w.alloc o).heap[w.heap.size]? = some o := heap_alloc_new w o
theorem row_cell {w : World} {g : Nat} {L : List Value} {t : TypeId} (h : w.heap[g]? = some (.cells L.toArray t (0, 0))) (j : Nat) : w.cell? ⟨g, j, none⟩ = L[j]? := by
  rw [cell_of_row w g j L.toArray t (0, 0) h]; simp
theorem row_free {w : World} {g : Nat} {L : List Value} {t : TypeId} (h : w.heap[g]? = some (.cells L.toArray t (0, 0))) (j : Nat) : w.frozen? ⟨g, j, none⟩ = false := frozen_of_row w g j _ t h
theorem row_set {w : World} {g : Nat} {L : List Value} {t : TypeId} (h : w.heap[g]? = some (.cells L.toArray t (0, 0))) (j : Nat) (v : Value) : (w.setCell ⟨g, j, none⟩ v).heap[g]? = some (.cells (L.set j v).toArray t (0, 0)) := by
  simp [World.setCell, Array.getElem?_modify, h]
theorem set_take {α : Type} (L : List α) (i : Nat) (v : α) (h : i < L.length) : (L.set i v).take (i + 1) = L.take i ++ [v] := by
  rw [List.take_set, List.take_succ_eq_append_getElem h, List.set_append_right _ _ (by rw [List.length_take]; omega), List.length_take, Nat.min_eq_left (Nat.le_of_lt h), Nat.sub_self]
  rfl
/-- A row of the call's own that is as long as its room: its block, whole. -/
theorem full_row {w : World} {base : Nat} {e : TypeId} {g n : Nat} {xs : List Value} (h : w.ownsRow base e 1 (.slice (some ⟨g, 0, none⟩) n n) n xs) : base ≤ g ∧ w.heap[g]? = some (.cells xs.toArray e (0, 0)) ∧ xs.length = n := by
  obtain ⟨h1, h2⟩ := h
  rcases h2 with ⟨h2, _⟩ | ⟨g', cap, cur, h2, hb, hg, hn, hm, hs, ht⟩
  · simp at h2
  · simp only [Value.slice.injEq, Option.some.injEq, Addr.mk.injEq, and_true, true_and] at h2
    obtain ⟨rfl, rfl⟩ := h2
    refine ⟨hb, ?_, by simpa using h1⟩
    rw [hg, ← ht, List.take_of_length_le (by simp; omega)]

/-- A twin: a new row, the bytes and three more. -/
def TwinOf (w : World) (xs : List Int) (e : Ending) (w' : World) : Prop :=
  ∃ g, e = .returned (.slice (some ⟨g, 0, none⟩) xs.length (xs.length + 3)) ∧ w.heap.size ≤ g ∧ w'.heap[g]? = some (.cells (byt (xs ++ [229, 229, 229])).toArray 5 (0, 0)) ∧ Below w.heap.size w w'

theorem Sl.adds {B : Nat} {w : World} {a : Option Addr} {n cap : Nat} {xs : List Value} (h : Sl B w (.slice a n cap) 1 n xs) (hn : 0 < n) : ∃ ad, a = some ad ∧ ∀ j v, xs[j]? = some v → w.cell? (ad.add j) = some v := by
  obtain ⟨h1, h2⟩ := h
  rcases h2 with ⟨h2, rfl⟩ | ⟨ad, cap', h2, h3, h4, h5⟩
  · omega
  · simp only [Value.slice.injEq] at h2
    obtain ⟨rfl, -, rfl⟩ := h2
    obtain ⟨g, o, rfl, h6, h7⟩ := h5 hn
    refine ⟨_, rfl, fun j v hv => ?_⟩
    rw [add_plain, h7 j (by rw [← h1]; exact (List.getElem?_eq_some_iff.1 hv).1)]; exact hv

end Go.Proofs.Ytabiccpodnjieaa