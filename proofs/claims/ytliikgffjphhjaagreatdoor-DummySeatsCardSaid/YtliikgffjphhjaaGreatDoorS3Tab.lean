/- The program's tables for the evaluator. -/
import Derived.Test.YtliikgffjphhjaaGreatDoorS3Draw
import Derived.Test.YtliikgffjphhjaaGreatDoorS3Lib
namespace Go.Vm.S3
open Go.Proofs Go.RowKit

def modeT : Tr Md := ((((((((Tr.leaf.set 98 .inl).set 176 .inl).set 97 .inl).set 175 .inl).set 177 .inl).set 116 .inl).set 117 .inl).set 221 .inl).set 233 .inl
def preT : Tr (Tr (List Tmp)) := Tr.leaf.set 82 (Tr.leaf.set 17 [9])
def keepT : Tr (List Tmp) := .leaf
def tabs : Tabs := ⟨drawT, preT, keepT, globA⟩

/-- The evaluator with some specifications. -/
noncomputable def CS (S : Specs) : Cx := mkCx Tryz.prog tabs 2000 (modeS S modeT) (specT S)

set_option maxRecDepth 100000 in
theorem fns : fnsOkB Tryz.prog drawT 290 = true := by kernel_rfl
set_option maxRecDepth 100000 in
theorem size290 : Tryz.prog.funcs.size = 290 := by kernel_rfl
set_option maxRecDepth 100000 in
theorem mixed : Tryz.prog.follows .mixedOrders = true := by kernel_rfl

end Go.Vm.S3
