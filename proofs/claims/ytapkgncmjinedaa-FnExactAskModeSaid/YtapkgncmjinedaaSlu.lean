/- The functions of slots and frames of the program, second part. -/
import Derived.Test.YtapkgncmjinedaaSlt
import Derived.Deep.QuietTactic
namespace Go.Proofs.Ytapkgncmjinedaa
open Go.RowKit Go.Sort






end Go.Proofs.Ytapkgncmjinedaa
