/- Bytes as a text; whether a twin was kept. -/
import Derived.Test.YtmhmlpfkdpjlaaaTwin
namespace Go.Proofs.Ytmhmlpfkdpjlaaa
open Go.ChangeShapes Go.WideShapes Go.ChangeAt Go.RowKit

section
variable {P : Program} {w : World}
/-- Bytes of whatever slice, as a text. -/
theorem run_convert_sl {B : Nat} {v : Value} {xs : List Int} (hsl : Sl B w v 1 xs.length (byt xs)) (src e : TypeId) (hs : P.underlying src = some (.slice e)) (he : P.underlying e = some (.int .u8)) (dst : TypeId) (hd : P.underlying dst = some .string) :
    (convert src dst v).run P w = .ok (.string (strOfNums xs)) w := by
  rcases hsl.2 with ⟨rfl, h0⟩ | ⟨ad, cap, rfl, h1, h2, h3⟩
  · have : xs = [] := List.eq_nil_of_length_eq_zero h0
    subst this
    exact run_convert_bytes_nil w src e hs he 0 0 dst hd
  · by_cases h0 : 0 < xs.length
    · obtain ⟨g, o, rfl, h4, h5⟩ := h3 h0
      refine run_convert_bytes_arg w src e hs he g o xs.length cap xs rfl (fun i hi => ?_) dst hd
      rw [h5 i (by omega)]; simp [byt, hi, List.getD]
    · have : xs = [] := List.eq_nil_of_length_eq_zero (by omega)
      subst this
      rw [run_convert_bytes_string w src dst e _ _ cap hs he hd]
      have hl : (loadCells ad 0).run P w = .ok #[] w := by unfold loadCells loadCellsFrom; rfl
      rw [show ([] : List Int).length = 0 from rfl, run_bytesToString w _ 0 cap [] (by simpa using hl)]
      rfl
end

/-- A slice over a row that starts it. -/
theorem sl_row {w : World} {g n cap : Nat} {L : List Value} {t : TypeId} {xs : List Value} (h : w.heap[g]? = some (.cells L.toArray t (0, 0))) (hp : L.take n = xs) (hn : n ≤ L.length) (hc : n ≤ cap) (hm : cap ≤ maxLen) : Sl w.heap.size w (.slice (some ⟨g, 0, none⟩) n cap) 1 n xs := by
  refine ⟨by rw [← hp, List.length_take]; omega, .inr ⟨_, cap, rfl, hc, hm, fun _ => ⟨g, 0, rfl, (Array.getElem?_eq_some_iff.1 h).1, fun j hj => ?_⟩⟩⟩
  rw [Nat.zero_add, row_cell h j, ← hp, List.getElem?_take, if_pos (by omega)]

set_option maxRecDepth 100000 in
set_option maxHeartbeats 2000000 in
theorem kept_any (B : Nat) (v : Value) (xs : List Int) (g : Nat) (w : World) (hs : Sl B w v 1 xs.length (byt xs)) (hb : (xs.length : Int) ≤ 140737488355320)
    (hrow : w.heap[g]? = some (.cells (byt (xs ++ [229, 229, 229])).toArray 5 (0, 0))) :
    Calls Try.prog 28 #[.slice (some ⟨g, 0, none⟩) xs.length (xs.length + 3), v] w fun e w' => e = .returned (.bool true) ∧ w = w' := by
  have hx : Sl w.heap.size w (.slice (some ⟨g, 0, none⟩) xs.length (xs.length + 3)) 1 xs.length (byt xs) := sl_row hrow (by simp [byt]) (by simp [byt]) (by omega) (by unfold maxLen; omega)
  have k1 := run_convert_sl (P := Try.prog) hx 46 5 Try.underlying46 Try.underlying5 9 Try.underlying9
  have k2 := run_convert_sl (P := Try.prog) hs 46 5 Try.underlying46 Try.underlying5 9 Try.underlying9
  obtain ⟨s, hstr⟩ : ∃ s, strOfNums xs = s := ⟨_, rfl⟩
  rw [hstr] at k1 k2
  have HC : Hid (∀ k, k < 3 → w.cell? ⟨g, xs.length + k, none⟩ = some (.int .u8 229)) := fun k hk => by
    rw [row_cell hrow, byt, List.getElem?_map, List.getElem?_append_right (by omega)]
    have : k = 0 ∨ k = 1 ∨ k = 2 := by omega
    rcases this with rfl | rfl | rfl <;> simp
  obtain ⟨a, cap, rfl, h1, h2, -, -⟩ := hs.form
  clear hx hrow hs hstr
  obtain ⟨n, hn⟩ : ∃ n, n = xs.length := ⟨_, rfl⟩
  rw [← hn] at hb h1 k1 k2 ⊢
  rw [← hn] at HC
  clear hn
  unfold maxLen at h2
  go_enter Try.func28, Try.ntmps28
  go_wp2_with fail
  go_loop [6] (fun i => ∃ k : Nat, k ≤ 3 ∧ i = .int .i64 (n + k)) (fun i => n + 3 - (intOf i).toNat)
  case atStart => exact ⟨0, by omega, by go_num⟩
  case round =>
    obtain ⟨k, hk, rfl⟩ := hrel
    by_cases hlt : k < 3
    · have hcell := HC.out k hlt
      go_wp2_with fail
      go_round
      case rel => exact ⟨k + 1, by omega, by go_num⟩
      case measure => simp [intOf]; omega
    · obtain rfl : k = 3 := by omega
      go_wp2_with fail
      go_ret
      exact ⟨rfl, rfl⟩
end Go.Proofs.Ytmhmlpfkdpjlaaa
