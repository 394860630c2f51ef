/- when; what is known so far. -/
import Derived.Test.YtbplbhcgcicgfaaGreatDoorS6First
namespace Go.Vm.S6
open Go.Proofs Go.RowKit
set_option maxRecDepth 100000 in
theorem t101 (S : Specs) (b : Bool) (e : Int) : evTreeD (CS S) 60 101 [boolA b, intA e] [] =
    (bif b then (.done (some (.v (.int .i64 e)))) else (.done (some (.v (.int .i64 0))))) := by kernel_rfl
set_option maxRecDepth 100000 in
theorem t29 (S : Specs) (b : Bool) (e : Int) : evTreeD (CS S) 60 29 [boolA b, intA e] [] =
    (bif b then (.done (some (.v (.int .i64 e)))) else (.done (some (.v (.int .i64 0))))) := by kernel_rfl
def S1 : Specs := (((SL.set 101 whenG).set 29 whenG).set 95 firstG).set 23 firstG
theorem S1_ok : Ok S1 := (((SL_ok.set (when_holds SL_ok (t101 SL))).set (when_holds SL_ok (t29 SL))).set (first95 SL_ok)).set (first23 SL_ok)
end Go.Vm.S6
