/- Combined; awake. -/
import Derived.Test.YtbplbhcgcicgfaaGreatDoorS6TA
import Derived.Test.YtbplbhcgcicgfaaGreatDoorS6Awake
namespace Go.Vm.S6
open Go.Proofs Go.RowKit
theorem awake_ok : Cmp 16 [] (boolA true) := SL_ok.tr0 awake_ev
def awakeG : List AV → Option AV
  | [] => some (boolA true)
  | _ => none
theorem h16 : Holds 16 awakeG := fun l r hr => by
  cases l with
  | nil =>
    unfold awakeG at hr
    simp only [Option.some.injEq] at hr; subst hr
    exact awake_ok
  | cons a b => simp [awakeG] at hr
/-! ### Combined -/
def T8 : Specs := (T6.set 16 awakeG)
theorem T8_ok : Ok T8 := (T6_ok.set h16)
end Go.Vm.S6
