/- A piece of a function's code, by its region's number: so that a long walk is cut into theorems of their own. -/
import Derived.Test.YtabiccpodnjieaaLogA
namespace Go.Proofs.Ytabiccpodnjieaa
open Go.ChangeShapes Go.WideShapes Go.ChangeAt Go.RowKit

def regionOf (n : Nat) : Code → Option Code
  | .region i ops b => if i = n then some (.region i ops b) else none
  | .seq a b => (regionOf n a).or (regionOf n b)
  | .cond _ a b => (regionOf n a).or (regionOf n b)
  | .block _ a => regionOf n a
  | .loop a => regionOf n a
  | .scope a => regionOf n a
  | _ => none
def pieceOf (fn : Func) (n : Nat) : Code := (fn.body.bind (regionOf n)).getD .skip
end Go.Proofs.Ytabiccpodnjieaa
