/- Longest, above, worth. -/
import Derived.Test.YtbplbhcgcicgfaaGreatDoorS6T3
namespace Go.Vm.S6
open Go.Proofs Go.RowKit
/-! ### The longest run -/
/-! ### The reference's longest run -/
/-! ### The program's worth of a window -/
def T4 : Specs := T3
theorem T4_ok : Ok T4 := T3_ok
end Go.Vm.S6

namespace Go.Vm.S6
open Go.Proofs Go.RowKit
/-! ### The program's held level -/
/-! ### The reference's -/
def T5 : Specs := T4
theorem T5_ok : Ok T5 := T4_ok
end Go.Vm.S6

namespace Go.Vm.S6
open Go.Proofs Go.RowKit
/-! ### Two series together -/
/-! ### The reference's -/
theorem cmpW_eq {x y : P2} {b c : Int} (hx : (0 ≤ x.1 ∧ x.1 ≤ b) ∧ 0 ≤ x.2 ∧ x.2 ≤ c) (hy : (0 ≤ y.1 ∧ y.1 ≤ b) ∧ 0 ≤ y.2 ∧ y.2 ≤ c) (hbc : b * c ≤ 9000000000000000000) : cmpW x y = cmpM x y := by
  have h1 := mul_bd hx.1 hy.2
  have h2 := mul_bd hy.1 hx.2
  unfold cmpW cmpM cmpI
  rw [wrap_in (n := x.1 * y.2) (by omega) (by omega), wrap_in (n := y.1 * x.2) (by omega) (by omega)]
/-! ### Moments -/
def T6 : Specs := T5
theorem T6_ok : Ok T6 := T5_ok
end Go.Vm.S6
