/-
  The world in which the listed variables lie as the program's text lays them: a witness of the rows' condition. No condition.
-/
import Derived.Test.YtbkegknfmcanaaaDoorRows
import Derived.Test.YtbkegknfmcanaaaDoorTie
import Derived.Test.YtbkegknfmcanaaaDoorCards
import Derived.Test.YtbkegknfmcanaaaDoorFrame
import Derived.SevenTiedAt
import Derived.LaidMore
import Derived.PinnedBridge
import Derived.OpenShut
import Derived.Stop.Joined
namespace Go.Proofs.YtbkegknfmcanaaaDoor
open Go.ChangeShapes Go.WideShapes Go.ChangeAt Go.RowKit
def laidAll : List (String × DataW Unit) := [("unicode/utf8.acceptRanges", Rows.laid_unicode_utf8_acceptRanges), ("unicode/utf8.first", Rows.laid_unicode_utf8_first)]
noncomputable def doorW (os : Os) : World :=
  let w := World.doorLaid Tryd.prog 400 os
  { w with heap := w.heap.modify 0 fun
    | .cells _ t frozen => .cells (Lib.firstTab.map fun z => Value.int .u8 z).toArray t frozen
    | o => o }
set_option maxRecDepth 100000 in
theorem door_met (os : Os) (args : Array Value) : laidMetH Tryd.prog laidAll ((doorW os).forCall (fun _ _ => 0) ⟨#[], args, []⟩).memory :=
  laidMetH_of_parts3 (fuel := 12) (laidMet_of_run' 12 (by kernel_rfl) (by kernel_rfl)) (by kernel_rfl) (by kernel_rfl)
set_option maxRecDepth 100000 in
theorem door_shaped (os : Os) (args : Array Value) : ((doorW os).forCall (fun _ _ => 0) ⟨#[], args, []⟩).Shaped Tryd.prog :=
  World.shaped_of_RefB (by kernel_rfl) (by kernel_rfl)
end Go.Proofs.YtbkegknfmcanaaaDoor
