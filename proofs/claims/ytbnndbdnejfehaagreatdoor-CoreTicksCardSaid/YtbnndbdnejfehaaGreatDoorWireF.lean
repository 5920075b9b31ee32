/- Wire: are two commands the same? The reference's. -/
import Derived.Test.YtbnndbdnejfehaaGreatDoorTakeT
import Derived.Deep.RegionHeld3
namespace Go.Proofs.YtbnndbdnejfehaaGreatDoor
open Go.ChangeShapes Go.WideShapes Go.ChangeAt Go.RowKit

/-- Not too great. -/
structure CmL (c : CmX) : Prop where
  f : CmF c
  l : ((encCm c).length : Int) ≤ 140737488300000
  s : c.sp.length ≤ 1000000
  r : c.wr.length ≤ 1000000
end Go.Proofs.YtbnndbdnejfehaaGreatDoor
