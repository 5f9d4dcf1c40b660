/- The fact on package-level variables that the calls into unicode/utf8 want of the world they begin in: the two tables of that package. -/
import Derived.Test.YtlhllcbglfffdaaDoorShelf
import Derived.Shelf.Unicode.DecodeSlow
import Derived.Below
namespace Go.Proofs.YtlhllcbglfffdaaDoor
open Go.RowKit
def Laid (w : World) : Prop := Lib.Utf8Tabs 0 1 w
theorem Laid.below {w w' : World} (h : Laid w) (hb : Below w.heap.size w w') : Laid w' := Utf8Tabs_below h hb
end Go.Proofs.YtlhllcbglfffdaaDoor
