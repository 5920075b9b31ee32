/- Subsets, told one by one: the plain law. -/
import Derived.Test.YtaaagidooieejaaDoorPlainSets
namespace Go.Proofs.YtaaagidooieejaaDoor

/-- What one call of the counter's 'next' leaves: n, last, good. -/
abbrev nextG (all last : Int) (good : Bool) (x : Int) : Bool := good && decide (last < x) && (bits .and .u16 x all == x)
/-- Rounds of Subsets from x on. -/
def tells (all stop s : Int) : Nat → Int → Int → Int → Bool → Int × Int × Bool
  | 0, _, n, last, good => (n, last, good)
  | k + 1, x, n, last, good =>
    if n + 1 = stop ∨ x = s then (n + 1, x, nextG all last good x)
    else tells all stop s k (bits .and .u16 (IntKind.u16.wrap (x - s)) s) (n + 1) x (nextG all last good x)
/-- How many rounds there are, if all of them rise and are subsets. -/
def rise (s : Int) : Nat → Int → Int → Option Nat
  | 0, _, _ => none
  | k + 1, x, last =>
    if last < x ∧ bits .and .u16 x s = x then
      if x = s then some 1 else (rise s k (bits .and .u16 (IntKind.u16.wrap (x - s)) s) x).map (· + 1)
    else none
theorem rise_all : ∀ i : Fin 512, rise (2 * i.val) 512 0 (-1) = some (2 ^ (cnt (2 * i.val)).toNat) := by decide +kernel

theorem tells_rise (stop s : Int) : ∀ (k : Nat) (x n last : Int) (L : Nat), rise s k x last = some L →
    (tells s stop s k x n last true).2.2 = true ∧ (tells s stop s k x n last true).1 = if n < stop ∧ stop ≤ n + L then stop else n + L := by
  intro k
  induction k with
  | zero => intro x n last L h; cases h
  | succ k ih =>
    intro x n last L h
    unfold rise at h
    split at h
    next h1 =>
      obtain ⟨h1, h2⟩ := h1
      have hg : nextG s last true x = true := by simp [nextG, h1, h2]
      unfold tells
      rw [hg]
      split at h
      next hx =>
        cases h
        rw [if_pos (.inr hx)]
        refine ⟨rfl, ?_⟩
        show n + 1 = _
        split <;> omega
      next hx =>
        cases hr : rise s k (bits .and .u16 (IntKind.u16.wrap (x - s)) s) x with
        | none => rw [hr] at h; cases h
        | some L' =>
          rw [hr] at h
          obtain rfl : L' + 1 = L := by simpa using h
          by_cases hs : n + 1 = stop
          · rw [if_pos (.inl hs)]
            refine ⟨rfl, ?_⟩
            show n + 1 = _
            split <;> omega
          · rw [if_neg (by simp [hs, hx])]
            obtain ⟨a, b⟩ := ih _ (n + 1) x L' hr
            refine ⟨a, ?_⟩
            rw [b]; split <;> split <;> omega
    next h1 => cases h
end Go.Proofs.YtaaagidooieejaaDoor
