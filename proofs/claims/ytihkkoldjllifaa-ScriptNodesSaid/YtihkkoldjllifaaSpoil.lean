/- What one may write into of an answer is written over: nothing else is turned. -/
import Derived.Test.YtihkkoldjllifaaKept
namespace Go.Proofs.Ytihkkoldjllifaa
open Go.ChangeShapes Go.WideShapes Go.ChangeAt Go.RowKit

theorem cells_cell {w : World} {g : Nat} {cur : Array Value} {t : TypeId} (h : w.heap[g]? = some (.cells cur t (0, 0))) (j : Nat) : w.cell? ⟨g, j, none⟩ = cur[j]? := cell_of_row w g j cur t (0, 0) h
theorem cells_set {w : World} {g : Nat} {cur : Array Value} {t : TypeId} (h : w.heap[g]? = some (.cells cur t (0, 0))) (j : Nat) (v : Value) : (w.setCell ⟨g, j, none⟩ v).heap[g]? = some (.cells (cur.setIfInBounds j v) t (0, 0)) := by
  simp [World.setCell, Array.getElem?_modify, h]

theorem grown_trans {w w1 w2 : World} {row : Option Nat} (h : w.grownBy w1 row) (g : w1.grownBy w2 row) : w.grownBy w2 row :=
  ⟨g.os.trans h.os, g.tape.trans h.tape, g.output.trans h.output, Nat.le_trans h.size g.size, fun k hk hne => (g.block k (Nat.lt_of_lt_of_le hk h.size) hne).trans (h.block k hk hne)⟩
theorem grown_refl (w : World) (row : Option Nat) : w.grownBy w row := ⟨rfl, rfl, rfl, Nat.le_refl _, fun _ _ _ => rfl⟩
theorem grown_set (w : World) (g j : Nat) (v : Value) : w.grownBy (w.setCell ⟨g, j, none⟩ v) (some g) :=
  ⟨rfl, rfl, rfl, by simp [World.setCell], fun k _ hne => by simp [World.setCell, Array.getElem?_modify]; intro h; exact absurd (by rw [h]) hne⟩

set_option maxRecDepth 100000 in
set_option maxHeartbeats 2000000 in
theorem spoil_any (base : Nat) (v : Value) (n : Nat) (xs : List Value) (w : World) (hown : w.ownsRow base 5 1 v n xs) :
    Calls Try.prog 15 #[v] w fun e w' => e = .returned (.tuple #[]) ∧ w.grownBy w' v.ownBlock := by
  rcases hown.2 with ⟨rfl, -⟩ | ⟨g, cap, cur, rfl, hg, hrow, hn, hm, hs, -⟩
  · clear hown
    go_enter Try.func15, Try.ntmps15
    go_wp2_with fail
    refine wp_loop_rounds 1 ?_
    rw [rounds_succ]
    go_wp2_with fail
    go_end0
    exact ⟨rfl, grown_refl _ _⟩
  · have HR := Lib.hid (And.intro hrow (show cur.size = cap by omega))
    unfold maxLen at hm
    clear hown hrow hs
    go_enter Try.func15, Try.ntmps15
    go_wp2_with fail
    go_loopw [3] (fun i wr => ∃ (k : Nat) (c : Array Value), k ≤ cap ∧ i = .int .i64 k ∧ Hid (wr.heap[g]? = some (.cells c 5 (0, 0)) ∧ c.size = cap) ∧ w.grownBy wr (some g)) (fun i _ => cap - (intOf i).toNat)
    case atStart => exact ⟨0, cur, by omega, rfl, HR, grown_refl _ _⟩
    case round =>
      obtain ⟨k, c, hk, rfl, HC, hb⟩ := hrel
      by_cases hlt : k < cap
      · have hcell := cells_cell HC.out.1 k
        have hfree := frozen_of_row wr g k c 5 HC.out.1
        obtain ⟨x, hx⟩ : ∃ x, c[k]? = some x := ⟨c[k]'(by rw [HC.out.2]; exact hlt), Array.getElem?_eq_getElem _⟩
        rw [hx] at hcell
        have HB := Lib.hid (grown_trans hb (grown_set wr g k (.int .u8 90)))
        have HC' : Hid ((wr.setCell ⟨g, k, none⟩ (.int .u8 90)).heap[g]? = some (.cells (c.setIfInBounds k (.int .u8 90)) 5 (0, 0)) ∧ (c.setIfInBounds k (.int .u8 90)).size = cap) := ⟨cells_set HC.out.1 _ _, by rw [Array.size_setIfInBounds]; exact HC.out.2⟩
        clear hx HC hb
        go_wp2_with fail
        go_roundw
        case rel => exact ⟨k + 1, _, by omega, by go_num, HC', HB.out⟩
        case measure => simp [intOf]; omega
      · obtain rfl : k = cap := by omega
        go_wp2_with fail
        go_end0
        exact ⟨rfl, hb⟩
end Go.Proofs.Ytihkkoldjllifaa
