/- The library's contracts for sorting and compacting, laid at this program. -/
import Derived.Test.YtgcelmnmalfpcaaDoorPvB
import Derived.Ground.NamesProg
import Derived.Ground.Names2Prog
import Derived.Shelf.Lay
import Derived.Shelf.Sort.Plain
import Derived.Shelf.Slices.In.SortNone
import Derived.Shelf.Slices.CompactI
namespace Go.Proofs
open Go.Shelf
end Go.Proofs
namespace Go.Proofs.YtgcelmnmalfpcaaDoor
open Go.RowKit
end Go.Proofs.YtgcelmnmalfpcaaDoor
