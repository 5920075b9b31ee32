/- Contracts of package conf, four: who elects, who commits. -/
import Derived.Test.YtihkkoldjllifaaConf3
namespace Go.Proofs.Ytihkkoldjllifaa
open Go.RowKit




end Go.Proofs.Ytihkkoldjllifaa
