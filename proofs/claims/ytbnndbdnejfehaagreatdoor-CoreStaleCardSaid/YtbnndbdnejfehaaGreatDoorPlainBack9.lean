import Derived.Test.YtbnndbdnejfehaaGreatDoorSets
/- sets.Of: the set of a list. -/
namespace Go.Proofs.YtbnndbdnejfehaaGreatDoor
open Go.RowKit

end Go.Proofs.YtbnndbdnejfehaaGreatDoor
/- SetsBack's plain law. -/
namespace Go.Proofs.YtbnndbdnejfehaaGreatDoor

end Go.Proofs.YtbnndbdnejfehaaGreatDoor
