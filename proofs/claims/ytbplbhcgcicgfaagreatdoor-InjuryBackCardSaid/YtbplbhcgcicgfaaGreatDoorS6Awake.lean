/- The document's examples: awake returns true: by the evaluator, in the kernel. -/
import Derived.Test.YtbplbhcgcicgfaaGreatDoorS6Base
import Derived.Test.YtbplbhcgcicgfaaGreatDoorVmH
namespace Go.Vm.S6
open Go.Proofs Go.RowKit
set_option maxRecDepth 1000000
theorem awake_ev : evTree (CS SL) 60 16 [] = some (.v (.bool true)) := by kernel_rfl
end Go.Vm.S6
