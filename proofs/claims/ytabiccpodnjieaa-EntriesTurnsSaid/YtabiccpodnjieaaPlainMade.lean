/- Logs: the plain law: a log of terms that rise by steps. -/
import Derived.Test.YtabiccpodnjieaaPlainLog
import Derived.Test.YtabiccpodnjieaaParts
namespace Go.Proofs.Ytabiccpodnjieaa

def Oct (xs : List Int) : Prop := ∀ x ∈ xs, 0 ≤ x ∧ x ≤ 255
/-- The entries, from a term on. -/
def madeE : List Int → Int → List Ent
  | [], _ => []
  | s :: r, t => ⟨t + s % 3, 1, strOfNums [s], jn0⟩ :: madeE r (t + s % 3)
/-- The term that is reached. -/
def madeT : List Int → Int → Int
  | [], t => t
  | s :: r, t => madeT r (t + s % 3)
def max1 (t : Int) : Int := if t < 1 then 1 else t
def madeL (ss : List Int) (b bt : Int) : Lg := ⟨b, bt, jn0, madeE ss (max1 bt)⟩
theorem madeE_len (ss : List Int) (t : Int) : (madeE ss t).length = ss.length := by
  induction ss generalizing t with
  | nil => rfl
  | cons s r ih => simp [madeE, ih]
theorem madeE_snoc (ss : List Int) (s t : Int) : madeE (ss ++ [s]) t = madeE ss t ++ [⟨madeT ss t + s % 3, 1, strOfNums [s], jn0⟩] := by
  induction ss generalizing t with
  | nil => rfl
  | cons x r ih => simp [madeE, madeT, ih]
theorem madeT_snoc (ss : List Int) (s t : Int) : madeT (ss ++ [s]) t = madeT ss t + s % 3 := by
  induction ss generalizing t with
  | nil => rfl
  | cons x r ih => simp [madeT, ih]
theorem madeT_fit (ss : List Int) (t : Int) (h : ∀ x ∈ ss, 0 ≤ x ∧ x ≤ 255) : t ≤ madeT ss t ∧ madeT ss t ≤ t + 2 * ss.length := by
  induction ss generalizing t with
  | nil => simp [madeT]
  | cons x r ih =>
    have h1 := h x (by simp)
    have h2 := ih (t + x % 3) (fun y hy => h y (by simp [hy]))
    simp only [madeT, List.length_cons]; omega
end Go.Proofs.Ytabiccpodnjieaa
