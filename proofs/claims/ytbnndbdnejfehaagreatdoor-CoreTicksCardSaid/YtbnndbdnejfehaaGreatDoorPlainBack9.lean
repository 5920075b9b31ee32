import Derived.Test.YtbnndbdnejfehaaGreatDoorSets
/- sets.Of: the set of a list. -/
namespace Go.Proofs.YtbnndbdnejfehaaGreatDoor
open Go.RowKit

end Go.Proofs.YtbnndbdnejfehaaGreatDoor
/- SetsBack's plain law. -/
namespace Go.Proofs.YtbnndbdnejfehaaGreatDoor

theorem has_less (s n m : Int) (h0 : 0 ≤ s) : hasB (bits .andNot .u16 s (oneB n)) m = (hasB s m && !decide (n = m)) := by
  by_cases h : 1 ≤ m ∧ m ≤ 9
  · obtain ⟨h1, h2⟩ := h
    unfold hasB
    rw [tb_less s n h0 m.toNat (by omega)]
    have e : (decide (1 ≤ n) && decide (n ≤ 9) && decide (n.toNat = m.toNat)) = decide (n = m) := by
      rw [Bool.eq_iff_iff]; simp only [Bool.and_eq_true, decide_eq_true_eq]; omega
    rw [e]; simp [h1, h2]
  · unfold hasB
    rcases Int.lt_or_le m 1 with h' | h'
    · simp [show ¬ 1 ≤ m by omega]
    · simp [show ¬ m ≤ 9 by omega]
end Go.Proofs.YtbnndbdnejfehaaGreatDoor
