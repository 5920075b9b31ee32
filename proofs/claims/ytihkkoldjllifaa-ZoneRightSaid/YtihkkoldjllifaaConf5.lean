/- Contracts of package conf, five: changes. -/
import Derived.Test.YtihkkoldjllifaaConf4
namespace Go.Proofs.Ytihkkoldjllifaa
open Go.RowKit





end Go.Proofs.Ytihkkoldjllifaa
