/- The program's tables for the evaluator. -/
import Derived.Test.YtliikgffjphhjaaGreatDoorS3Draw
import Derived.Test.YtliikgffjphhjaaGreatDoorS3Lib
namespace Go.Vm.S3
open Go.Proofs Go.RowKit
def modeT : Tr Md := ((((((((((((((((((((((((((((Tr.leaf.set 98 .inl).set 176 .inl).set 97 .inl).set 175 .inl).set 177 .inl).set 116 .inl).set 117 .inl).set 221 .inl).set 233 .inl).set 181 .inl).set 218 .inl).set 182 .inl).set 186 .inl).set 187 .inl).set 191 .inl).set 192 .inl).set 143 .inl).set 196 .inl).set 219 .inl).set 220 .inl).set 203 .inl).set 223 .inl).set 201 .inl).set 222 .inl).set 164 .inl).set 212 .inl).set 167 .inl).set 168 .inl).set 178 .inl
def preT : Tr (Tr (List Tmp)) := Tr.leaf.set 82 (Tr.leaf.set 17 [9])
def keepT : Tr (List Tmp) := ((((Tr.leaf.set 175 [2]).set 178 [2, 4]).set 102 [4, 5]).set 199 [4, 5, 6, 7, 8]).set 83 [2, 3, 4, 5]
def tabs : Tabs := ⟨drawT, preT, keepT, globA⟩
noncomputable def CS (S : Specs) : Cx := mkCx Tryz.prog tabs 2000 (modeS S modeT) (specT S)
set_option maxRecDepth 100000 in
theorem fns : fnsOkB Tryz.prog drawT 290 = true := by kernel_rfl
set_option maxRecDepth 100000 in
theorem size290 : Tryz.prog.funcs.size = 290 := by kernel_rfl
set_option maxRecDepth 100000 in
theorem mixed : Tryz.prog.follows .mixedOrders = true := by kernel_rfl
end Go.Vm.S3
