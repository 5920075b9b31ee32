/- Contracts of package bits: bytes laid behind bytes. -/
import Derived.Test.YtabiccpodnjieaaProg
import Derived.Test.YtabiccpodnjieaaSlices
import Derived.BigQuiet
import Derived.Deep.QuietTactic
import Derived.Lib.Hide
import Derived.IntWalk
import Derived.Outline
import Derived.Lib.Tables
import Derived.Lib.BitFns
namespace Go.Proofs.Ytabiccpodnjieaa
open Go.RowKit

theorem Try.infoU8 : (Try.prog.info? 5).map (fun i => (i.zero, i.size, i.bytes)) = some (some (.int .u8 0), 1, 1) := by kernel_rfl
/-- Bytes as cells. -/
def byt (xs : List Int) : List Value := xs.map (.int .u8)
theorem byt_len (xs : List Int) : (byt xs).length = xs.length := by simp [byt]
theorem byt_app (xs ys : List Int) : byt xs ++ byt ys = byt (xs ++ ys) := by simp [byt]
theorem byt_one (xs : List Int) : ∀ u ∈ byt xs, u.oneCell' = true := by intro u hu; simp [byt] at hu; obtain ⟨x, _, rfl⟩ := hu; rfl

end Go.Proofs.Ytabiccpodnjieaa