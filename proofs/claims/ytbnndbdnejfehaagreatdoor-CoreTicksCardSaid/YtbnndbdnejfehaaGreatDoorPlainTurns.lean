/- Logs: where Merge refuses, as the document has it; how long what is told may be. -/
import Derived.Test.YtbnndbdnejfehaaGreatDoorPlainRefM
import Derived.Test.YtbnndbdnejfehaaGreatDoorPlainCompactW
import Derived.Test.YtbnndbdnejfehaaGreatDoorLogG
namespace Go.Proofs.YtbnndbdnejfehaaGreatDoor

end Go.Proofs.YtbnndbdnejfehaaGreatDoor
