/- script: an event's bytes. -/
import Derived.Test.YtihkkoldjllifaaScriptH
import Derived.Test.YtihkkoldjllifaaPlainEnc
import Derived.Deep.RegionHeld3
import Derived.Lib.AppendStr
namespace Go.Proofs.Ytihkkoldjllifaa
open Go.ChangeShapes Go.WideShapes Go.ChangeAt Go.RowKit

/-- An event's bytes, in a slice of their own. -/
def BytEnd (w : World) (xs : List Int) (r : Ending) (w' : World) : Prop := ∃ v, r = .returned v ∧ Sl w'.heap.size w' v 1 xs.length (byt xs) ∧ Below w.heap.size w w'
theorem bytEnd_nil {w w' : World} (h : Below w.heap.size w w') : BytEnd w [] (.returned (.slice none 0 0)) w' := ⟨_, rfl, ⟨rfl, .inl ⟨rfl, rfl⟩⟩, h⟩
theorem own_new (w : World) (xs : List Int) (base : Nat) (hb : base ≤ w.heap.size) (hl : xs.length ≤ maxLen) : (w.alloc (.cells (byt xs).toArray 5)).ownsRow base 5 1 (.slice (some ⟨w.heap.size, 0, none⟩) xs.length xs.length) xs.length (byt xs) :=
  ⟨by rw [byt_len, Nat.mul_one], .inr ⟨w.heap.size, xs.length, _, rfl, hb, heap_last _ _, Nat.le_refl _, hl, by simp [byt], by rw [List.take_of_length_le (by simp [byt])]⟩⟩
theorem strCells_txt (t : ByteArray) : Lib.strCells t = byt (txt t) := by
  unfold Lib.strCells byt txt; rw [List.map_map]; rfl
theorem own_below' {B : Nat} {w w' : World} {base : Nat} {e : TypeId} {size : Nat} {v : Value} {n : Nat} {xs : List Value} (h : w.ownsRow base e size v n xs) (hb : Below B w w') (hB : w.heap.size ≤ B) : w'.ownsRow base e size v n xs :=
  h.kept (row := none) ⟨hb.os, hb.tape, hb.output, hb.size, fun k hk _ => hb.block k (by omega)⟩ (by cases v.ownBlock <;> simp)
end Go.Proofs.Ytihkkoldjllifaa
