/- What a log made of steps is; a byte's bounds. -/
import Derived.Test.YtabiccpodnjieaaLogO
namespace Go.Proofs.Ytabiccpodnjieaa
open Go.ChangeShapes Go.WideShapes Go.ChangeAt Go.RowKit

theorem made_fit (ss : List Int) {b bt : Int} (h : ss.length ≤ 1000) (h0 : 0 ≤ b) (h1 : b ≤ 4398046511104) : LgFit (madeL ss b bt) := ⟨h0, h1, by show (madeE ss _).length ≤ _; rw [madeE_len]; omega⟩
theorem wf_u8 {n : Int} (h : (Lit.int .u8 n).wf = true) : 0 ≤ n ∧ n ≤ 255 := by
  have h1 : IntKind.u8.min = 0 := rfl
  have h2 : IntKind.u8.max = 255 := rfl
  simp only [Lit.wf, Bool.and_eq_true, decide_eq_true_eq] at h; omega

end Go.Proofs.Ytabiccpodnjieaa
