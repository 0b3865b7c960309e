/- slices.Repeat of numbers, one element long, and what it needs of math/bits. -/
import Derived.Test.YtiodpnhokjkjaaaLib
import Derived.Laws.CopyOwn
import Derived.Deep.RegionLaw
import Derived.Shelf.Bits.Mul64
namespace Go.Proofs.Ytiodpnhokjkjaaa
open Go.RowKit Go.Sort Go.Shelf

end Go.Proofs.Ytiodpnhokjkjaaa
