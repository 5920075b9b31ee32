/- The reference of entries: Merge, where it refuses. -/
import Derived.Test.YtbnndbdnejfehaaGreatDoorHardH
import Derived.Test.YtbnndbdnejfehaaGreatDoorLogP
import Derived.Test.YtbnndbdnejfehaaGreatDoorLogJ
namespace Go.Proofs.YtbnndbdnejfehaaGreatDoor
open Go.ChangeShapes Go.WideShapes Go.ChangeAt Go.RowKit

end Go.Proofs.YtbnndbdnejfehaaGreatDoor
