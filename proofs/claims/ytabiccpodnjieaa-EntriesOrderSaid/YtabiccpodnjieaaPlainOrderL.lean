/- Logs: the plain law: which of two logs is at least as new. -/
import Derived.Test.YtabiccpodnjieaaPlainNewer
namespace Go.Proofs.Ytabiccpodnjieaa

/-- Logs that end in order. -/
inductive Ends (l m : Lg) : Prop
  | same (h1 : lastTerm l = lastTerm m) (h2 : l.last = m.last)
  | up (h1 : lastTerm l = lastTerm m) (h2 : l.last < m.last)
  | down (h1 : lastTerm l = lastTerm m) (h2 : m.last < l.last)
  | less (h1 : lastTerm l < lastTerm m)
  | more (h1 : lastTerm m < lastTerm l)
theorem ends_any (l m : Lg) : Ends l m := by
  rcases Int.lt_trichotomy (lastTerm l) (lastTerm m) with h | h | h
  · exact .less h
  · rcases Int.lt_trichotomy l.last m.last with g | g | g
    · exact .up h g
    · exact .same h g
    · exact .down h g
  · exact .more h
def newB (l m : Lg) : Bool := newerL m l.last (lastTerm l)
theorem newB_iff (l m : Lg) : newB l m = true ↔ lastTerm m < lastTerm l ∨ (lastTerm l = lastTerm m ∧ m.last ≤ l.last) := by
  unfold newB newerL
  simp only [Bool.or_eq_true, Bool.and_eq_true, decide_eq_true_eq]
theorem newB_trans {l m n : Lg} (h1 : newB l m = true) (h2 : newB m n = true) : newB l n = true := by
  rw [newB_iff] at h1 h2 ⊢; omega
theorem newB_yes {l m : Lg} (h : lastTerm m < lastTerm l ∨ (lastTerm l = lastTerm m ∧ m.last ≤ l.last)) : newB l m = true := (newB_iff l m).2 h
theorem newB_no {l m : Lg} (h : ¬ (lastTerm m < lastTerm l ∨ (lastTerm l = lastTerm m ∧ m.last ≤ l.last))) : newB l m = false := by
  cases hb : newB l m
  · rfl
  · exact absurd ((newB_iff l m).1 hb) h
end Go.Proofs.Ytabiccpodnjieaa
