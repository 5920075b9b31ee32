import Derived.Test.YtbnndbdnejfehaaGreatDoorLogZa
import Derived.Test.YtbnndbdnejfehaaGreatDoorLogY
import Derived.Test.YtbnndbdnejfehaaGreatDoorPlainRefM
/- The reference of entries: Merge: what is kept. -/
namespace Go.Proofs.YtbnndbdnejfehaaGreatDoor
open Go.ChangeShapes Go.WideShapes Go.ChangeAt Go.RowKit

end Go.Proofs.YtbnndbdnejfehaaGreatDoor
/- The reference of entries: Merge, where it does not refuse (A). -/
namespace Go.Proofs.YtbnndbdnejfehaaGreatDoor
open Go.ChangeShapes Go.WideShapes Go.ChangeAt Go.RowKit

end Go.Proofs.YtbnndbdnejfehaaGreatDoor
/- The reference of entries: Merge, where it does not refuse (B). -/
namespace Go.Proofs.YtbnndbdnejfehaaGreatDoor
open Go.ChangeShapes Go.WideShapes Go.ChangeAt Go.RowKit

end Go.Proofs.YtbnndbdnejfehaaGreatDoor
