/- The functions of slots and frames of the program, second part. -/
import Derived.Test.YtiodpnhokjkjaaaSlt
import Derived.Deep.QuietTactic
namespace Go.Proofs.Ytiodpnhokjkjaaa
open Go.RowKit Go.Sort






end Go.Proofs.Ytiodpnhokjkjaaa
