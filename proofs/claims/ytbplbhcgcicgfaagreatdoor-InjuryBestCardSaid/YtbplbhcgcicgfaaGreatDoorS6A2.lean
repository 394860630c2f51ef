/- within, vectors. -/
import Derived.Test.YtbplbhcgcicgfaaGreatDoorS6A1
namespace Go.Vm.S6
open Go.Proofs Go.RowKit
set_option maxRecDepth 100000 in
theorem t115 (n lo hi : Int) : evTreeD (CS S1) 60 115 [intA n, intA lo, intA hi] [] =
    (bif decide (n < lo) then (.done (some (.v (.int .i64 (whenM true 3))))) else (.done (some (.v (.int .i64 (whenM (bif false then true else decide (n > hi)) 3)))))) := by kernel_rfl
set_option maxRecDepth 100000 in
theorem t42 (n lo hi : Int) : evTreeD (CS S1) 60 42 [intA n, intA lo, intA hi] [] =
    (bif decide (n < lo) then (.done (some (.v (.int .i64 (whenM true 3))))) else (.done (some (.v (.int .i64 (whenM (bif false then true else decide (n > hi)) 3)))))) := by kernel_rfl
def withinM (n lo hi : Int) : Int := whenM (decide (n < lo) || decide (n > hi)) 3
def withinG : List AV → Option AV := sp3 intC intC intC fun n lo hi => some (intA (withinM n lo hi))
theorem within_holds {f : FuncId} (h : ∀ (n lo hi : Int), evTreeD (CS S1) 60 f [intA n, intA lo, intA hi] [] = (bif decide (n < lo) then (.done (some (intA (whenM true 3)))) else (.done (some (intA (whenM (bif false then true else decide (n > hi)) 3)))))) : Holds f withinG := holds3 fun n lo hi r hr => by
  simp only [Option.some.injEq] at hr; subst hr
  refine S1_ok.tr (h n lo hi) ?_
  unfold withinM
  cases decide (n < lo)
  · rw [Bool.false_or]; rfl
  · rfl
def S2 : Specs := (S1.set 115 withinG).set 42 withinG
theorem S2_ok : Ok S2 := (S1_ok.set (within_holds t115)).set (within_holds t42)
end Go.Vm.S6
