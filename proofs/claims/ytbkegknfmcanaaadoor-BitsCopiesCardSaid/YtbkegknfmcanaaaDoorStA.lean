/-
  Package state: what may become what; names. The library's contracts laid over this program. No condition.
-/
import Derived.Test.YtbkegknfmcanaaaDoorRows
import Derived.Test.YtbkegknfmcanaaaDoorChgs
import Derived.Test.YtbkegknfmcanaaaDoorCoreS
import Derived.Shelf.Lay
import Derived.Shelf.Small.Strs
import Derived.Shelf.Strings.Builder1
import Derived.Shelf.Strings.SlTrimAscii
import Derived.Ground.NamesProg
namespace Go.Proofs
open Go.RowKit Go.Shelf
shelf_lay Lays.n160 Nm 160 at Tryd as Tryd.lays160
shelf_lay Lays.n137 Nm 137 at Tryd as Tryd.lays137
shelf_lay Lays.n169 Nm 169 at Tryd as Tryd.lays169
end Go.Proofs
