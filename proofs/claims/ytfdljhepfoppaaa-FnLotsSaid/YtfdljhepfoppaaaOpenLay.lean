/- The shelf's contracts of slices.Sorted, slices.Sort and slices.Compact, laid at []int64. -/
import Derived.Shelf.SlIterI.Nil
import Derived.Shelf.SortM.Plain
import Derived.Shelf.SortM.SortNone
import Derived.Shelf.SlicesG.CompactI
import Derived.Ground.GgzProg
import Derived.Ground.SlgmProg
import Derived.Ground.SlgnProg
import Derived.Test.YtfdljhepfoppaaaProg
namespace Go.Proofs.Ytfdljhepfoppaaa
open Go.RowKit Go.Maps Go.Sort Go.Shelf

shelf_lay_g SlLaysZI.n6 Ggz 6 at Try 62 as Try.sortedA
shelf_lay_g SlLaysM.n5 Slgm 5 at Try 72 as Try.sortA
shelf_lay_g SlLaysN.n43 Slgn 43 at Try 61 as Try.compactA
end Go.Proofs.Ytfdljhepfoppaaa
