/- Logs: the plain law: which log is newer. -/
import Derived.Test.YtabiccpodnjieaaPlainLog
import Derived.Test.YtabiccpodnjieaaPlainStamp
namespace Go.Proofs.Ytabiccpodnjieaa

def lastTerm (l : Lg) : Int := (termL l l.last).1
def newerL (l : Lg) (last term : Int) : Bool := decide (lastTerm l < term) || (decide (term = lastTerm l) && decide (l.last ≤ last))
theorem newer_or (l : Lg) (last term : Int) : decide (0 ≤ orI [cmpI term (lastTerm l), cmpI last l.last]) = newerL l last term := by
  unfold newerL
  rw [Bool.eq_iff_iff]
  rcases cmpI_cases term (lastTerm l) with h | h | h <;> rcases cmpI_cases last l.last with g | g | g <;> simp only [orI, h.2, g.2] <;> simp <;> omega
end Go.Proofs.Ytabiccpodnjieaa
