/- Contracts of package conf, three: who is in a joint. -/
import Derived.Test.YtihkkoldjllifaaConf2
namespace Go.Proofs.Ytihkkoldjllifaa
open Go.RowKit












end Go.Proofs.Ytihkkoldjllifaa
