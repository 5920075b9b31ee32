import Derived.Test.YtjaabakobpabjaaGwD
import Derived.Test.YtjaabakobpabjaaWireC
import Derived.Test.YtjaabakobpabjaaStampTk
import Derived.Test.YtjaabakobpabjaaLogD
import Derived.Test.YtjaabakobpabjaaVar
import Derived.Deep.RegionHeld3
/- Wire: what was written is read: a command without spans and writes. -/
namespace Go.Proofs.Ytjaabakobpabjaa
open Go.ChangeShapes Go.WideShapes Go.ChangeAt Go.RowKit

theorem zag_zig {v : Int} (_h : In64 v) : zagI (zigI v) = v := by
  unfold zagI zigI
  split <;> split <;> omega
theorem rdNw_enc {v : Int} (h : In64 v) (r : List Int) : rdNw (encN v ++ r) false = (v, r, false) := by
  have f := zigI_fit h
  unfold rdNw encN
  rw [takeV_var _ (by omega) r]
  simp only [Int.toNat_natCast, List.drop_left, Int.toNat_of_nonneg f.1, zag_zig h]
  simp
theorem encN_oct (v : Int) : ∀ x ∈ encN v, 0 ≤ x ∧ x ≤ 255 := varN_bd _
theorem rdFw_enc (b : Bool) (r : List Int) : rdFw (encF b ++ r) false = (b, r, false) := by
  cases b <;> rfl
end Go.Proofs.Ytjaabakobpabjaa
/- Wire: are two commands the same? The reference's. -/
namespace Go.Proofs.Ytjaabakobpabjaa
open Go.ChangeShapes Go.WideShapes Go.ChangeAt Go.RowKit

/-- Not too great. -/
structure CmL (c : CmX) : Prop where
  f : CmF c
  l : ((encCm c).length : Int) ≤ 140737488300000
  s : c.sp.length ≤ 1000000
  r : c.wr.length ≤ 1000000
end Go.Proofs.Ytjaabakobpabjaa
