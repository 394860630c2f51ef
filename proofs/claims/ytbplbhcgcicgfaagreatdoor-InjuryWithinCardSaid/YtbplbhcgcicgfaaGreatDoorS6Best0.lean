/- The search over windows: the frame that waits at its range. -/
import Derived.Test.YtbplbhcgcicgfaaGreatDoorS6LA
import Derived.Test.YtbplbhcgcicgfaaGreatDoorVmMapI
namespace Go.Vm.S6
open Go.Proofs Go.RowKit
/-- What 'best' keeps while it ranges over the windows. -/
abbrev LB (C : Cx) : Bool × Blk := (false, .loop 99 0 34 (mkT [5, 6, 8, 9] [.ptr 5 0 0, .ptr 6 1 0, .ptr 8 2 0, .ptr 9 3 0] .leaf) [14] (rangeOf C 99 14).1 (rangeOf C 99 14).2 none)
abbrev bbL (C : Cx) (f : AV) (es : List AV) (lo hi : Int) (st : BW) : List (Bool × Blk) :=
  [(false, .box [f]), (false, .box [intA 0, intA 0, intA 0, intA 0]), (false, .box [intA st.2.1.1, intA st.2.1.2, intA st.2.2.1, intA st.2.2.2]), (false, .box [boolA st.1]), LB C, (false, .box [.rsl 1 es false]), (false, .box [intA lo, intA hi])]
end Go.Vm.S6
