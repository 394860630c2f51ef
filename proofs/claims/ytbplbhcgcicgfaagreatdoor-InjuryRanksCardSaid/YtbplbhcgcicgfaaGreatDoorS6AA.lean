/- when; what is known so far. -/
import Derived.Test.YtbplbhcgcicgfaaGreatDoorS6First
namespace Go.Vm.S6
open Go.Proofs Go.RowKit
set_option maxRecDepth 100000 in
theorem t101 (S : Specs) (b : Bool) (e : Int) : evTreeD (CS S) 60 101 [boolA b, intA e] [] =
    (bif b then (.done (some (.v (.int .i64 e)))) else (.done (some (.v (.int .i64 0))))) := by kernel_rfl
set_option maxRecDepth 100000 in
theorem t29 (S : Specs) (b : Bool) (e : Int) : evTreeD (CS S) 60 29 [boolA b, intA e] [] =
    (bif b then (.done (some (.v (.int .i64 e)))) else (.done (some (.v (.int .i64 0))))) := by kernel_rfl
def S1 : Specs := ((((SL.set 101 whenG).set 29 whenG).set 95 firstG).set 23 firstG)
theorem S1_ok : Ok S1 := ((((SL_ok.set (when_holds SL_ok (t101 SL))).set (when_holds SL_ok (t29 SL))).set (first95 SL_ok)).set (first23 SL_ok))
end Go.Vm.S6

namespace Go.Vm.S6
open Go.Proofs Go.RowKit
set_option maxRecDepth 100000 in
theorem t115 (n lo hi : Int) : evTreeD (CS S1) 60 115 [intA n, intA lo, intA hi] [] =
    (bif decide (n < lo) then (.done (some (.v (.int .i64 (whenM true 3))))) else (.done (some (.v (.int .i64 (whenM (bif false then true else decide (n > hi)) 3)))))) := by kernel_rfl
set_option maxRecDepth 100000 in
theorem t42 (n lo hi : Int) : evTreeD (CS S1) 60 42 [intA n, intA lo, intA hi] [] =
    (bif decide (n < lo) then (.done (some (.v (.int .i64 (whenM true 3))))) else (.done (some (.v (.int .i64 (whenM (bif false then true else decide (n > hi)) 3)))))) := by kernel_rfl
def withinM (n lo hi : Int) : Int := whenM (decide (n < lo) || decide (n > hi)) 3
def withinG : List AV → Option AV := sp3 intC intC intC fun n lo hi => some (intA (withinM n lo hi))
theorem within_holds {f : FuncId} (h : ∀ (n lo hi : Int), evTreeD (CS S1) 60 f [intA n, intA lo, intA hi] [] = (bif decide (n < lo) then (.done (some (intA (whenM true 3)))) else (.done (some (intA (whenM (bif false then true else decide (n > hi)) 3)))))) : Holds f withinG := holds3 fun n lo hi r hr => by
  simp only [Option.some.injEq] at hr; subst hr
  refine S1_ok.tr (h n lo hi) ?_
  unfold withinM
  cases decide (n < lo)
  · rw [Bool.false_or]; rfl
  · rfl
def S2 : Specs := ((S1.set 115 withinG).set 42 withinG)
theorem S2_ok : Ok S2 := ((S1_ok.set (within_holds t115)).set (within_holds t42))
end Go.Vm.S6
