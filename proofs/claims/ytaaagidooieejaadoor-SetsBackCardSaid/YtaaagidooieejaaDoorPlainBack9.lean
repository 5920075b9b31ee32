/- SetsBack's plain law. -/
import Derived.Test.YtaaagidooieejaaDoorOf
namespace Go.Proofs.YtaaagidooieejaaDoor

theorem of_all : ∀ i : Fin 512, ofGo (lst (2 * i.val) 9) 0 = (2 * (i.val : Int), 0) := by decide +kernel
theorem of_lst (S : Int) (h0 : 0 ≤ S) (h1 : S ≤ 1023) (he : S % 2 = 0) : ofGo (lst S 9) 0 = (S, 0) := by
  have := of_all ⟨(S / 2).toNat, by omega⟩
  rw [show (2 * (((S / 2).toNat : Nat) : Int)) = S by omega] at this
  exact this
theorem has_with (s n m : Int) (h0 : 0 ≤ s) : hasB (bits .or .u16 s (oneB n)) m = (hasB s m || (decide (1 ≤ m) && decide (m ≤ 9) && decide (n = m))) := by
  by_cases h : 1 ≤ m ∧ m ≤ 9
  · obtain ⟨h1, h2⟩ := h
    unfold hasB
    rw [tb_with s n h0 m.toNat (by omega)]
    have e : (decide (1 ≤ n) && decide (n ≤ 9) && decide (n.toNat = m.toNat)) = decide (n = m) := by
      rw [Bool.eq_iff_iff]; simp only [Bool.and_eq_true, decide_eq_true_eq]; omega
    rw [e]; simp [h1, h2]
  · have e : (decide (1 ≤ m) && decide (m ≤ 9)) = false := by rw [Bool.eq_false_iff]; simp only [ne_eq, Bool.and_eq_true, decide_eq_true_eq]; exact h
    rw [e]; unfold hasB
    rcases Int.lt_or_le m 1 with h' | h'
    · simp [show ¬ 1 ≤ m by omega]
    · simp [show ¬ m ≤ 9 by omega]
theorem has_less (s n m : Int) (h0 : 0 ≤ s) : hasB (bits .andNot .u16 s (oneB n)) m = (hasB s m && !decide (n = m)) := by
  by_cases h : 1 ≤ m ∧ m ≤ 9
  · obtain ⟨h1, h2⟩ := h
    unfold hasB
    rw [tb_less s n h0 m.toNat (by omega)]
    have e : (decide (1 ≤ n) && decide (n ≤ 9) && decide (n.toNat = m.toNat)) = decide (n = m) := by
      rw [Bool.eq_iff_iff]; simp only [Bool.and_eq_true, decide_eq_true_eq]; omega
    rw [e]; simp [h1, h2]
  · unfold hasB
    rcases Int.lt_or_le m 1 with h' | h'
    · simp [show ¬ 1 ≤ m by omega]
    · simp [show ¬ m ≤ 9 by omega]
theorem may_with (s n : Int) (h0 : 0 ≤ s) (h : mayB s = true) : mayB (bits .or .u16 s (oneB n)) = true := by
  rw [mayB_iff _ (bits_fit _ _ _).1]
  rw [mayB_iff _ h0] at h
  intro i hi ht
  rw [tb_with s n h0 i hi] at ht
  simp only [Bool.or_eq_true, Bool.and_eq_true, decide_eq_true_eq] at ht
  rcases ht with ht | ht
  · exact h i hi ht
  · omega
theorem may_less (s n : Int) (h0 : 0 ≤ s) (h : mayB s = true) : mayB (bits .andNot .u16 s (oneB n)) = true := by
  rw [mayB_iff _ (bits_fit _ _ _).1]
  rw [mayB_iff _ h0] at h
  intro i hi ht
  rw [tb_less s n h0 i hi] at ht
  simp only [Bool.and_eq_true] at ht
  exact h i hi ht.1
theorem may_and (s : Int) (h0 : 0 ≤ s) : mayB (bits .and .u16 s 1022) = true := by
  rw [mayB_iff _ (bits_fit _ _ _).1]
  intro i hi ht
  rw [tb_and _ _ h0 (by omega) i hi, tb_every] at ht
  simp only [Bool.and_eq_true, decide_eq_true_eq] at ht
  omega
end Go.Proofs.YtaaagidooieejaaDoor
