/- when; what is known so far. -/
import Derived.Test.YtliikgffjphhjaaGreatDoorS3First
namespace Go.Vm.S3
open Go.Proofs Go.RowKit
set_option maxRecDepth 100000 in
theorem t109 (S : Specs) (b : Bool) (e : Int) : evTreeD (CS S) 60 109 [boolA b, intA e] [] =
    (bif b then (.done (some (.v (.int .i64 e)))) else (.done (some (.v (.int .i64 0))))) := by kernel_rfl
set_option maxRecDepth 100000 in
theorem t46 (S : Specs) (b : Bool) (e : Int) : evTreeD (CS S) 60 46 [boolA b, intA e] [] =
    (bif b then (.done (some (.v (.int .i64 e)))) else (.done (some (.v (.int .i64 0))))) := by kernel_rfl
def S1 : Specs := (((SL.set 109 whenG).set 46 whenG).set 108 firstG).set 105 firstG
theorem S1_ok : Ok S1 := (((SL_ok.set (when_holds SL_ok (t109 SL))).set (when_holds SL_ok (t46 SL))).set (first108 SL_ok)).set (first105 SL_ok)
end Go.Vm.S3
