/- What the walks are told of the world: the library's tables, as the program's text lays them. -/
import Derived.Test.YtoflajekfpggbaaDoorProg
import Derived.Shelf.Unicode.DecodeSlow
namespace Go.Proofs.YtoflajekfpggbaaDoor
open Go.RowKit
def Tabs (w : World) : Prop := Lib.Utf8Tabs 4 5 w
theorem Tabs_below {w w1 : World} (h : Tabs w) (hb : Below w.heap.size w w1) : Tabs w1 := Utf8Tabs_below h hb
theorem Tabs.utf8 {w : World} (h : Tabs w) : Lib.Utf8Tabs 4 5 w := h
end Go.Proofs.YtoflajekfpggbaaDoor
