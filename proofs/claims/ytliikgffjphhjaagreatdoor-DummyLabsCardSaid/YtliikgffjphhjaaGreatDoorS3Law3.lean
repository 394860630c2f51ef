/- DummyTrees: the law. -/
import Derived.Test.YtliikgffjphhjaaGreatDoorS3P17
namespace Go.Vm.S3
open Go.Proofs Go.RowKit
theorem spUnk (n : Int) : unkG [intA n] = some (intA (whenM (decide (n < 0)) 10)) := sp1_at (A := intC) (F := fun n => some (intA (whenM (decide (n < 0)) 10))) n
end Go.Vm.S3
