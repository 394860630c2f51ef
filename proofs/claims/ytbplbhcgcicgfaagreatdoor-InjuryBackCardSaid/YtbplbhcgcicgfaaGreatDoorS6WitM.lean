/- A world that meets what the rows with six variables list. -/
import Derived.Test.YtbplbhcgcicgfaaGreatDoorS6EntryM
import Derived.Test.YtbplbhcgcicgfaaGreatDoorS6Wit
namespace Go.Vm.S6
open Go.Proofs Go.RowKit Go.ChangeShapes Go.WideShapes
open Go.Proofs.YtbplbhcgcicgfaaGreatDoor
set_option maxRecDepth 100000
def accZ : List Int := [128, 191, 160, 191, 128, 159, 144, 191, 128, 143, 0, 0, 0, 0, 0, 0, 0, 0, 0, 0, 0, 0, 0, 0, 0, 0, 0, 0, 0, 0, 0, 0]
noncomputable def laidWorld6 (os : Os) : World :=
  { laidWorld os with heap := ((laidWorld os).heap.modify 3 (laidWorld.put (Go.Pinned.utf8FirstZ.map fun z => Value.int .u8 (Int.ofNat z)).toArray)).modify 4 (laidWorld.put (accZ.map fun z => Value.int .u8 z).toArray) }
theorem laid_met6 (os : Os) (args : Array Value) : laidMetH Tryz.prog theLaid6 ((laidWorld6 os).forCall (fun _ _ => 0) ⟨#[], args, []⟩).memory :=
  laidMetH_of_parts3 (fuel := 8) (laidMet_of_run' 8 (by kernel_rfl) (by kernel_rfl)) (by kernel_rfl) (by kernel_rfl)
end Go.Vm.S6
