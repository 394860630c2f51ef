/- The program's tables for the evaluator. -/
import Derived.Test.YtbplbhcgcicgfaaGreatDoorS6Draw
import Derived.Test.YtbplbhcgcicgfaaGreatDoorS6Lib
namespace Go.Vm.S6
open Go.Proofs Go.RowKit

def modeT : Tr Md := ((((((((((((((((((((((((((Tr.leaf.set 158 .inl).set 177 .inl).set 144 .inl).set 145 .inl).set 165 .inl).set 179 .inl).set 180 .inl).set 181 .inl).set 182 .inl).set 183 .inl).set 184 .inl).set 185 .inl).set 186 .inl).set 199 .inl).set 202 .inl).set 203 .inl).set 213 .inl).set 146 .inl).set 167 .inl).set 189 .inl).set 190 .inl).set 204 .inl).set 214 .inl)).set 151 .inl).set 172 .inl).set 154 .inl
def preT : Tr (Tr (List Tmp)) := .leaf
def keepT : Tr (List Tmp) := (Tr.leaf.set 99 [5, 6, 8, 9]).set 85 [2, 3, 4, 5]
def tabs : Tabs := ⟨drawT, preT, keepT, globA⟩

/-- The evaluator with some specifications. -/
noncomputable def CS (S : Specs) : Cx := mkCx Tryz.prog tabs 2000 (modeS S modeT) (specT S)

set_option maxRecDepth 100000 in
theorem fns : fnsOkB Tryz.prog drawT 258 = true := by kernel_rfl
set_option maxRecDepth 100000 in
theorem size258 : Tryz.prog.funcs.size = 258 := by kernel_rfl
set_option maxRecDepth 100000 in
theorem mixed : Tryz.prog.follows .mixedOrders = true := by kernel_rfl

end Go.Vm.S6
