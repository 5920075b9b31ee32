/- Bytes as a text; whether a twin was kept. -/
import Derived.Test.YtabiccpodnjieaaTwin
namespace Go.Proofs.Ytabiccpodnjieaa
open Go.ChangeShapes Go.WideShapes Go.ChangeAt Go.RowKit

section
variable {P : Program} {w : World}
/-- Bytes of whatever slice, as a text. -/
theorem run_convert_sl {B : Nat} {v : Value} {xs : List Int} (hsl : Sl B w v 1 xs.length (byt xs)) (src e : TypeId) (hs : P.underlying src = some (.slice e)) (he : P.underlying e = some (.int .u8)) (dst : TypeId) (hd : P.underlying dst = some .string) :
    (convert src dst v).run P w = .ok (.string (strOfNums xs)) w := by
  rcases hsl.2 with ⟨rfl, h0⟩ | ⟨ad, cap, rfl, h1, h2, h3⟩
  · have : xs = [] := List.eq_nil_of_length_eq_zero h0
    subst this
    exact run_convert_bytes_nil w src e hs he 0 0 dst hd
  · by_cases h0 : 0 < xs.length
    · obtain ⟨g, o, rfl, h4, h5⟩ := h3 h0
      refine run_convert_bytes_arg w src e hs he g o xs.length cap xs rfl (fun i hi => ?_) dst hd
      rw [h5 i (by omega)]; simp [byt, hi, List.getD]
    · have : xs = [] := List.eq_nil_of_length_eq_zero (by omega)
      subst this
      rw [run_convert_bytes_string w src dst e _ _ cap hs he hd]
      have hl : (loadCells ad 0).run P w = .ok #[] w := by unfold loadCells loadCellsFrom; rfl
      rw [show ([] : List Int).length = 0 from rfl, run_bytesToString w _ 0 cap [] (by simpa using hl)]
      rfl
end

/-- A slice over a row that starts it. -/
theorem sl_row {w : World} {g n cap : Nat} {L : List Value} {t : TypeId} {xs : List Value} (h : w.heap[g]? = some (.cells L.toArray t (0, 0))) (hp : L.take n = xs) (hn : n ≤ L.length) (hc : n ≤ cap) (hm : cap ≤ maxLen) : Sl w.heap.size w (.slice (some ⟨g, 0, none⟩) n cap) 1 n xs := by
  refine ⟨by rw [← hp, List.length_take]; omega, .inr ⟨_, cap, rfl, hc, hm, fun _ => ⟨g, 0, rfl, (Array.getElem?_eq_some_iff.1 h).1, fun j hj => ?_⟩⟩⟩
  rw [Nat.zero_add, row_cell h j, ← hp, List.getElem?_take, if_pos (by omega)]

end Go.Proofs.Ytabiccpodnjieaa